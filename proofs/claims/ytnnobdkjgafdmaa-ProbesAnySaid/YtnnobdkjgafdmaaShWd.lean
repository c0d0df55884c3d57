import Derived.Test.YtnnobdkjgafdmaaShWc
import Derived.Test.YtnnobdkjgafdmaaRows
set_option linter.unusedVariables false
set_option linter.unusedSimpArgs false
set_option linter.unusedSectionVars false
namespace Go.Proofs.Ytnnobdkjgafdmaa
namespace GV
open _root_.Go.Proofs.Try
open Go.IntWalk
set_option maxRecDepth 100000
set_option maxHeartbeats 20000000
theorem q42:Enters prog 65:=enters_of func65 rfl (by kernel_rfl)
theorem z4p{N:Nat}{R:RH}{E:(Arr 64 Int)}{b:Value}(y:VRep (zyk z3a) R b E){m:Mach}{q:Value}(s:VRep (ji false false) R q m){block:Int}{i:Int}{t:Int}{r:Bool}(k:mg N E m block i t=some r):CallP prog 41 #[b,q,(.int .u16 block),(vi i),(vi t)] R (fun v R'=>v=(.bool r)):=by
 refine qd (args:=[b,q,(.int .u16 block),(vi i),(vi t)]) func41 rfl rfl fun A=>?_;rw [mg] at k;refine zg (kv (T:=(ji false false)) rfl rfl rfl s fun v1 R3 l Q h2=>?_);refine zi (.bool false) (qz (zm (jo z06 rfl rfl Q (s.mono l)) (zh (.int .u16 block) (zh (vi i) ?_))))
 obtain⟨f,S,k⟩:=zn k;refine je rfl q42 rfl (zgw (s.mono l) S) fun v8 U o V=>?_;obtain rfl:=V;refine zh (.tuple #[(z0p f.1),(.bool f.2)]) (zm (jf rfl rfl) (zm (jf rfl rfl) (kw rfl zz5 fun F=>?_)))
 refine ic (j:=0) (cs:=(xx (mr 16 (List.replicate 16 (0:Int))))) (cs':=(xx f.1)) zfr rfl rfl (co_A16tIntu16.len _) (co_A16tIntu16.len _) rfl rfl (z0i (z8e _)) ?_;refine zi (.bool f.2) (z8 ?_);obtain⟨c,a,k⟩:=zn k
 refine j5 (γ:=Bool) (rs [12,13,14,15,22,34]) (fun g=>[(12,(.bool g))]) (fun g=>[]++A) (fun g R=>c=g∧True) ?_ ?_
 refine zg (zm (dw (j:=0) (v:=(z0p f.1)) zma zfr rfl rfl (co_A16tIntu16.len _) rfl) (zh (vi 0) (z8 (zy (jg (γ:=Nat×Bool×Int) (rs [12,13,14,15,23,34]) (fun g=>[(12,(.bool g.2.1)),(23,(vi g.2.2))]) (fun g=>[]++A) (fun g R=>u6 N E t f g.1 g.2.1 g.2.2=some c∧True) (fun g=>g.1) (N,f.2,0) ⟨[box F (xx f.1) 106],(List.Perm.refl _)⟩ ⟨a,trivial⟩ ?_)))))
 clear a;rintro⟨n,d,e⟩ W Y p ⟨a,_⟩;rcases n with _|n;exact qy a;replace a:u6 N E t f (n+1) d e=some c:=a;rw [u6] at a;refine zg (zm (j6 rfl rfl) (z8 (zt (zo rfl a (fun a=>?_) (fun a=>?_)))));refine zz (zt (zy (zg ?_)))
 obtain⟨z,a⟩:=zf a
 refine zm (zmv (i:=e.toNat) (X:=f.1) underlying106 zuw zzs rfl (zk rfl z.1) (Nat.lt_of_lt_of_eq (qh z) f.1.2)) (zi (.int .u16 (ix f.1.1 e)) (z8 (zu (qw (v:=(.bool d)) rfl (za rfl) (qw (v:=(.bool d)) rfl (za rfl) (qb rfl rfl rfl rfl (fun u=>zq (v:=b) (za rfl)) fun Z G=>?_))))))
 refine qb rfl rfl rfl rfl (fun u=>zq (v:=(.int .u16 (ix f.1.1 e))) (za rfl)) fun aa H=>?_;refine qb rfl rfl rfl rfl (fun u=>zq (v:=(vi t)) (za rfl)) fun ab I=>?_;obtain⟨w,K,a⟩:=zn a
 refine z2x rfl rfl rfl rfl (fun u=>xy (vs:=[b,(.int .u16 (ix f.1.1 e)),(vi t)]) zzx (z4w (G.1 (ze rfl u)) (z4w (H.1 (ze rfl u)) (z4w (I.1 (ze rfl u)) rfl))) ((by have L:=(z0z K (ze rfl u));exact z2w (z0v.2 ((z0v.1 y).mono ((l.trans o).trans p))) L)) (fun _ _ h=>h)) fun M O B x=>?_
 replace x:phG (true&&(d==true)) (phX (.bool (w.getD default))) M O:=x;refine qw rfl (yx rfl (fun hb=>(x.1 (ze rfl hb))) rfl) (zi (.bool (d&&(w.getD default))) (z8 (zu ?_)));obtain⟨P,a⟩:=zf a;refine zm (jl rfl rfl P) (zh (vi (e+1)) (z8 ?_))
 exact⟨dkt,B,kg,(n,d&&(w.getD default),e+1),Nat.lt_succ_self _,⟨rfl,rfl,trivial⟩,prm,a,trivial⟩;refine jh ?_;exact⟨dkt,p,kg,d,⟨rfl,trivial⟩,prm,(Option.some.inj a).symm,trivial⟩;rintro c ad ae C ⟨rfl,_⟩;refine zg (zh (.bool c) (zi (.bool c) (z8 (qj ?_))));obtain rfl:=Option.some.inj k
 refine zw (D:=[]) (J:=[]) (rs:=[.tmp 10]) (vs:=[(.bool c)]) ((l.trans o).trans C) rfl rfl ⟨rfl,trivial⟩ ?_;exact⟨rfl,rfl⟩
theorem q2w:Enters prog 41:=enters_of func41 rfl (by kernel_rfl)
theorem zf4{N:Nat}{R:RH}{m:Mach}{C:Value}(I:VRep (ji false false) R C m){r:(Arr 64 Int)}(E:z2s N m=some r):CallP prog 38 #[C] R (fun v R'=>VRep (zyk z3a) R' v r):=by
 refine qd (args:=[C]) func38 rfl rfl fun A=>?_;rw [z2s] at E;refine zg (kv (T:=(ji false false)) rfl rfl rfl I fun v1 R3 K h5 h2=>?_)
 refine zi (.pointer none) (qz (zm (gz (ps:=[]) (v:=(zay (mr 64 (List.replicate 64 (0:Int))))) rfl (fun w=>by kernel_rfl)) (zv4 (cs:=(xg (mr 64 (List.replicate 64 (0:Int))))) rfl rfl rfl fun t=>?_)));refine zi (.pointer (some ⟨t,0,none⟩)) (z8 ?_);obtain⟨M,b,E⟩:=zn E
 refine j5 (γ:=((Arr 64 Int))) (rs [4,9,11,44]) (fun g=>[]) (fun g=>[box t (xg g) 104]++A) (fun g R=>M=g∧True) ?_ ?_
 refine zg (zi (vi 1) (zi (.bool true) (z8 (zy (jg (γ:=Nat×Int×Bool×((Arr 64 Int))) (rs [4,9,11,44]) (fun g=>[(4,(vi g.2.1)),(5,(.bool g.2.2.1))]) (fun g=>[box t (xg g.2.2.2) 104]++A) (fun g R=>nu N m g.1 g.2.1 g.2.2.1 g.2.2.2=some M∧True) (fun g=>g.1) (N,1,true,(mr 64 (List.replicate 64 (0:Int)))) prm ⟨b,trivial⟩ ?_)))))
 clear b;rintro⟨F,c,O,f⟩ av aw k ⟨b,_⟩;rcases F with _|F;exact qy b;replace b:nu N m (F+1) c O f=some M:=b;rw [nu] at b;refine zt (zg (zh (.bool O) (z8 (zo rfl b (fun b=>?_) (fun b=>?_)))));refine zz ?_;obtain⟨u,d,b⟩:=zn b
 refine j5 (γ:=(Bool×(Arr 64 Int))) (rs [5,9,14,44]) (fun g=>[(5,(.bool g.1))]) (fun g=>[box t (xg g.2) 104]++A) (fun g R=>u=g∧True) ?_ ?_
 refine zy (zg (zi (.bool false) (qz (zh (.pointer (some ⟨t,0,none⟩)) (zm (zcr rfl) (zm (dw (j:=0) (v:=(zay f)) q2o zys rfl rfl (co_A64tInti64.len _) rfl) (kw rfl q28 fun y=>?_)))))))
 refine ic (j:=0) (cs:=(xg (mr 64 (List.replicate 64 (0:Int))))) (cs':=(xg f)) zys rfl rfl (co_A64tInti64.len _) (co_A64tInti64.len _) rfl rfl (z0i (zjb _)) ?_;refine qz (ja rfl vg jr rfl (h2.mono k) fun ax Z=>?_);refine qg rfl lq rfl Z fun ay aa=>?_
 refine zm (ql rfl underlying28 rfl (jd aa)) ?_;obtain⟨ab,d⟩:=zf d
 refine zm (z5r rfl rfl ab) (zh (.int .u16 0) (z8 (zy (jg (γ:=Nat×Bool×Int×((Arr 64 Int))) (rs [5,6,7,9,21,44]) (fun g=>[(5,(.bool g.2.1)),(21,(.int .u16 g.2.2.1))]) (fun g=>[box t (xg g.2.2.2) 104,box y (xg f) 104]++A) (fun g R=>yc N m c f g.1 g.2.1 g.2.2.1 g.2.2.2=some u∧True) (fun g=>g.1) (N,false,0,f) ⟨[],(pk 1 rfl (pk 0 rfl (List.Perm.refl _)))⟩ ⟨d,trivial⟩ ?_))))
 clear d;rintro⟨G,p,e,h⟩ az aA l ⟨d,_⟩;rcases G with _|G;exact qy d;replace d:yc N m c f (G+1) p e h=some u:=d;rw [yc] at d;refine zg (zm (j6 rfl rfl) (z8 (zt (zo rfl d (fun d=>?_) (fun d=>?_)))));refine zz ?_;obtain⟨B,a,d⟩:=zn d
 refine j5 (γ:=(Bool×(Arr 64 Int))) (rs [5,6,7,9,23,43]) (fun g=>[(5,(.bool g.1))]) (fun g=>[box t (xg g.2) 104,box y (xg f) 104]++A) (fun g R=>B=g∧True) ?_ ?_;refine zy (zg (zh (.int .u16 e) (zi (.int .u16 e) (z8 (zt (zg (zh (.int .u16 e) (zh (vi c) ?_))))))))
 obtain⟨ac,ad,a⟩:=zn a;refine zb9 (cs:=[]) (vs:=[(.pointer (some ⟨y,0,none⟩)),(.int .u16 e),(vi c)]) (φ:=fun v=>v=(.bool ac)) rfl zzx rfl rfl (fun aB ar P=>z2w (z0v.2 (zhq (zus 1 rfl P) ((co_A64tInti64.iff _ _ _).2 rfl))) ad) fun aC ae=>?_;obtain rfl:=ae
 refine z8 (zo rfl a (fun a=>?_) (fun a=>?_));refine jh ?_;exact⟨dkt,(RH.le.refl _),kg,(p,h),⟨rfl,trivial⟩,prm,(Option.some.inj a).symm,trivial⟩;refine zz (zg (ja rfl z4o z1a rfl (h2.mono (k.trans l)) fun aD af=>?_));refine qg rfl ty3 rfl af fun aE ag=>?_;obtain rfl:=jy.1 ag
 refine zh (vi 0) (z8 (zy (jg (γ:=Nat×Int) (rs [5,6,8,9,29,43]) (fun g=>[(5,(.bool p)),(29,(vi g.2))]) (fun g=>[box t (xg h) 104,box y (xg f) 104]++A) (fun g R=>o9 N m c f p e h g.1 g.2=some B∧True) (fun g=>g.1) (N,0) prm ⟨a,trivial⟩ ?_)));clear a
 rintro⟨H,s⟩ aF aG n ⟨a,_⟩;rcases H with _|H;exact qy a;replace a:o9 N m c f p e h (H+1) s=some B:=a;rw [o9] at a;refine zg (zm (j6 rfl rfl) (z8 (zt (zo rfl a (fun a=>?_) (fun a=>?_)))))
 refine zz (zt (zy (zg (zh (vi s) (zi (vi s) (qz (zm (jo z06 rfl rfl (h5.mono ((k.trans l).trans n)) (I.mono (((K.trans k).trans l).trans n))) (zh (.int .u16 e) (zh (vi s) (zh (vi c) ?_))))))))));obtain⟨ai,aj,a⟩:=zn a
 refine zb9 (cs:=[]) (vs:=[(.pointer (some ⟨y,0,none⟩)),C,(.int .u16 e),(vi s),(vi c)]) (φ:=fun v=>v=(.bool ai)) rfl q2w rfl rfl (fun aH Q S=>z4p (z0v.2 (zhq (zus 1 rfl S) ((co_A64tInti64.iff _ _ _).2 rfl))) ((I.mono (((K.trans k).trans l).trans n)).mono Q) aj) fun aI ak=>?_
 obtain rfl:=ak;refine z8 (zo rfl a (fun a=>?_) (fun a=>?_));refine zg (zh (.pointer (some ⟨t,0,none⟩)) (zh (.int .u16 e) (zh (vi c) (zm (zcr rfl) ?_))));obtain⟨L,a⟩:=zf a
 refine zm (l9 (i:=e.toNat) zqt rfl (zk rfl L.1) (Nat.lt_of_lt_of_eq (qh L) h.2)) (z5f (sz:=1) (cl:=(fun x:Int=>[Value.int .i64 x])) (z:=c) (vs:=[(vi c)]) (q:=e) (i:=e.toNat) (o:=0) (j:=0) (X:=h) cells_int.len sz3 rfl rfl (by omega) rfl (Nat.lt_of_lt_of_eq (qh L) h.2) rfl rfl rfl (qf rfl ko) rfl rfl ?_)
 refine qz (zi (.bool true) (z8 (jh ?_)));exact⟨dkt,n,kg,(true,(ah h e c)),⟨rfl,trivial⟩,prm,(Option.some.inj a).symm,trivial⟩;refine zz (zu ?_);obtain⟨al,a⟩:=zf a;refine zm (jl rfl rfl al) (zh (vi (s+1)) (z8 ?_))
 exact⟨dkt,(RH.le.refl _),kg,(H,s+1),Nat.lt_succ_self _,⟨rfl,rfl,trivial⟩,prm,a,trivial⟩;refine jh ?_;exact⟨dkt,n,kg,(p,h),⟨rfl,trivial⟩,prm,(Option.some.inj a).symm,trivial⟩;rintro B aJ aK U ⟨rfl,_⟩;refine zu (zm (zm9 rfl rfl) (zh (.int .u16 (IntKind.u16.wrap (e+1))) (z8 ?_)))
 exact⟨dkt,U,kg,(G,B.1,IntKind.u16.wrap (e+1),B.2),Nat.lt_succ_self _,⟨rfl,rfl,trivial⟩,prm,d,trivial⟩;refine jh ?_;exact⟨dkt,l,kg,(p,h),⟨rfl,trivial⟩,⟨[box y (xg f) 104],(pk 1 rfl (pk 0 rfl (List.Perm.refl _)))⟩,(Option.some.inj d).symm,trivial⟩;rintro u aL aM V ⟨rfl,_⟩;refine zu (zh (vi c) ?_)
 obtain⟨am,b⟩:=zf b;refine zm (jl rfl rfl am) (zi (vi (c+1)) (z8 ?_));exact⟨dkt,V,kg,(F,c+1,u.1,u.2),Nat.lt_succ_self _,⟨rfl,rfl,trivial⟩,prm,b,trivial⟩;refine jh ?_;exact⟨dkt,k,kg,f,trivial,prm,(Option.some.inj b).symm,trivial⟩;rintro M aN R9 W ⟨rfl,_⟩
 refine zg (zh (.pointer (some ⟨t,0,none⟩)) (zi (.pointer (some ⟨t,0,none⟩)) (z8 (zpx (i:=0) rfl fun an Y ao=>?_))));have ap:PRep z3a an (.pointer (some ⟨t,0,none⟩)) M:=zhq ao ((co_A64tInti64.iff _ _ _).2 rfl);refine qj ?_;obtain rfl:=Option.some.inj E
 refine zw (D:=[]) (J:=[]) (rs:=[.tmp 2]) (vs:=[(.pointer (some ⟨t,0,none⟩))]) ((K.trans W).trans Y) rfl rfl ⟨rfl,trivial⟩ ?_;exact⟨rfl,(z0v.2 ap)⟩
theorem q3t:Enters prog 38:=enters_of func38 rfl (by kernel_rfl)
theorem q4f: ∀ w,∃ z,(zeroValue 77).run prog w= .ok z w∧z.cells=([.pointer none]:List Value).toArray:=fun w=>⟨(.pointer none),by kernel_rfl,rfl⟩
theorem q4b: ∀ w,(sizeOf 77).run prog w= .ok 1 w:=fun w=>by kernel_rfl
theorem q0k: ∀ w,(isAgg 77).run prog w= .ok false w:=fun w=>by kernel_rfl
theorem q4a: ∀ w,∃ z,(zeroValue 80).run prog w= .ok z w∧z.cells=([.nilFunc]:List Value).toArray:=fun w=>⟨.nilFunc,by kernel_rfl,rfl⟩
theorem q4y: ∀ w,(sizeOf 80).run prog w= .ok 1 w:=fun w=>by kernel_rfl
theorem q33: ∀ w,(isAgg 80).run prog w= .ok false w:=fun w=>by kernel_rfl
theorem ai:FieldOk prog 45 0 0:=by
 obtain⟨i,hi,a⟩: ∃ i,prog.info? 43=some i∧i.size=1:=yw (by kernel_rfl);exact fw underlying45 rfl rfl hi (by rw [a];rfl)
theorem zrv: ∀ w,(isAgg 43).run prog w= .ok false w:=fun w=>by kernel_rfl
theorem zz2:ZeroOk prog 55 rSprobes_Node.H ((0:Int),(0:Int),.slice none 0 0) 40:=by
 obtain⟨i,zv,hi,a,c,d,f⟩:=z2k (P:=prog) (e:=55) (zv:=(.agg #[(vi 0),(vi 0),vs0])) (k:=3) (b:=40) (by kernel_rfl);exact⟨i,zv,hi,a,c,d,fun R=>by subst f;exact⟨_,_,rfl,rfl,⟨_,_,rfl,rfl,⟨rfl,rfl⟩⟩⟩⟩
theorem q2f: ∀ w,(sizeOf 43).run prog w= .ok 1 w:=fun w=>by kernel_rfl
theorem q30:TyOk prog 55 rSprobes_Node.H:=by
 obtain⟨i,hi,a⟩: ∃ i,prog.info? 55=some i∧i.size=3:=yw (by kernel_rfl);exact z1w underlying55 hi rfl a
theorem zzc:SlOk prog 43 55 rSprobes_Node.H:=⟨underlying43,q30⟩
theorem zan:FieldOk prog 55 1 1:=by
 obtain⟨i,hi,a⟩: ∃ i,prog.info? 3=some i∧i.size=1:=yw (by kernel_rfl);exact fw underlying55 rfl rfl hi (by rw [a];rfl)
theorem z8f:FieldOk prog 55 0 0:=by
 obtain⟨i,hi,a⟩: ∃ i,prog.info? 3=some i∧i.size=1:=yw (by kernel_rfl);exact fw underlying55 rfl rfl hi (by rw [a];rfl)
theorem q1b:Enters prog 40:=enters_of func40 rfl (by kernel_rfl)
theorem zah{N:Nat}(F:Nat): ∀ {R:RH} {now:(List Int)} {S:Value} (ab:VRep (tSl false (qo .i64)) R S now) {p:(List Int)} {E:Value} (ag:VRep (tSl false (qo .i64)) R E p) {b:Nat} {p0_:List Sa} {ac:Value} {fF:Frag} {aE:List Value} (ad:NS rSprobes_Node aE R fF ac p0_) {p1_:Mach} {k:Value} (ae:PRep (ji false false) R k p1_) {a:Nat} {p2_:(Arr 64 Int)} {f:Value} (ah:PRep z3a R f p2_) {d:Nat} {r:Int×List Sa} (x:gu N F now p p0_ p1_ p2_=some r),CallG prog 40 #[S,E,(.pointer (some ⟨b,0,none⟩)),k,(.pointer (some ⟨a,0,none⟩)),(.pointer (some ⟨d,0,none⟩))] R [box b [ac] 45,fF,box a [f] 77,box d [.func (.func 40) #[] #[(.pointer (some ⟨b,0,none⟩)),k,(.pointer (some ⟨a,0,none⟩)),(.pointer (some ⟨d,0,none⟩))]] 80] (fun v R' O'=> ∃ aR aS,v=(vi r.1)∧O'=[box b [aR] 45,aS,box a [f] 77,box d [.func (.func 40) #[] #[(.pointer (some ⟨b,0,none⟩)),k,(.pointer (some ⟨a,0,none⟩)),(.pointer (some ⟨d,0,none⟩))]] 80]∧NS rSprobes_Node aE R' aS aR r.2):=by
  induction F with
  |zero=>intros;rename_i x;exact qy x
  |succ F ih=>
    intro R now S ab p E ag b p0_ ac fF aE ad p1_ k ae a p2_ f ah d r x
    refine z4a (args:=[S,E,(.pointer (some ⟨b,0,none⟩)),k,(.pointer (some ⟨a,0,none⟩)),(.pointer (some ⟨d,0,none⟩))]) func40 rfl rfl fun A=>?_
    rw [gu] at x
    obtain⟨aT,bb,ad⟩:=ad
    refine zt ?_
    refine zu ?_
    refine zi (vi 0) ?_
    refine z8 ?_
    refine zt ?_
    refine zu ?_
    refine zm (qx ai rfl) ?_
    refine zm (qm (i:=0) zrv rfl rfl rfl) ?_
    refine z3v rfl (qi (zs1 rfl underlying43 rfl ad)) fun v1 R3 G h2=>?_
    obtain rfl:=Eq.symm h2
    refine zi (vi (↑p0_.length:Int)) ?_
    refine z8 ?_
    refine zt ?_
    refine zu ?_
    refine ja rfl zaw z6e rfl (ae.mono G) fun v5 h6=>?_
    refine qg rfl ty3 rfl h6 fun v7 h8=>?_
    obtain rfl:=jy.1 h8
    obtain⟨bc,x⟩:=zf x
    refine z8a (T:=(qo .i64)) (m:=p1_.outputs.toNat) (c:=p1_.outputs.toNat) rfl underlying32 zo3 (zk rfl bc.1) (zk rfl bc.1) (Nat.le_refl _) (zfe bc) (zfj bc) fun v9 dk bF bS=>?_
    refine zi v9 ?_
    refine z8 ?_
    obtain⟨U,e,x⟩:=zn x
    refine j5 (γ:=(List Int)×Frag) (rs [11,12,27,36]) (fun g=>[]) (fun g=>[box b [ac] 45,fF,box a [f] 77,box d [(.func (.func 40) #[] #[(.pointer (some ⟨b,0,none⟩)),k,(.pointer (some ⟨a,0,none⟩)),(.pointer (some ⟨d,0,none⟩))])] 80,g.2]++A) (fun g R=>U=g.1∧ORep (qo .i64) R g.2 v9 g.1∧capOf v9=g.1.length∧True) ?_ ?_
    · refine zt ?_
      refine zu ?_
      refine zh v9 ?_
      refine zm (z2d rfl underlying32 rfl bS) ?_
      refine zh (vi 0) ?_
      refine z8 ?_
      refine zy ?_
      refine jg (γ:=Nat×Int×(List Int)×Frag) (rs [11,12,29,36]) (fun g=>[(29,(vi g.2.1))]) (fun g=>[box b [ac] 45,fF,box a [f] 77,box d [(.func (.func 40) #[] #[(.pointer (some ⟨b,0,none⟩)),k,(.pointer (some ⟨a,0,none⟩)),(.pointer (some ⟨d,0,none⟩))])] 80,g.2.2.2]++A) (fun g R=>xn N p1_ g.1 g.2.1 g.2.2.1=some U∧ORep (qo .i64) R g.2.2.2 v9 g.2.2.1∧capOf v9=g.2.2.1.length∧True) (fun g=>g.1) (N,0,(mk p1_.outputs (0:Int)),dk) ⟨[],(pk 1 rfl (pk 1 rfl (pk 1 rfl (pk 1 rfl (pk 0 rfl (List.Perm.refl _))))))⟩ ⟨e,bS,(bF.trans List.length_replicate.symm),trivial⟩ ?_
      clear e
      rintro⟨be,ay,bG,dl⟩ fd fe bT ⟨e,bH,bk,_⟩
      rcases be with _|be
      · exact qy e
      replace e:xn N p1_ (be+1) ay bG=some U:=e;rw [xn] at e
      refine zt ?_
      refine zu ?_
      refine zm (j6 rfl rfl) ?_
      refine z8 ?_
      refine zt ?_
      refine zo rfl e (fun e=>?_) (fun e=>?_)
      · refine zz ?_
        refine zt ?_
        refine zy ?_
        refine zt ?_
        refine zu ?_
        refine zh (vi ay) ?_
        refine zi (vi ay) ?_
        refine z8 ?_
        refine zu ?_
        refine zh v9 ?_
        refine zh (vi ay) ?_
        obtain⟨bI,e⟩:=zf e
        refine z2j (i:=ay.toNat) rfl z2p rfl bH (zk rfl bI.1) (qh bI) fun ff dm=>?_
        refine z6v (i:=ay.toNat) (j:=4) ty3 bH rfl rfl dm (qh bI) rfl (jy.2 rfl) fun dn dp=>?_
        refine z8 ?_
        refine zu ?_
        obtain⟨dq,e⟩:=zf e
        refine zm (jl rfl rfl dq) ?_
        refine zh (vi (ay+1)) ?_
        refine z8 ?_
        exact⟨dkt,(RH.le.refl _),kg,(be,ay+1,(up bG ay (-1)),dn),Nat.lt_succ_self _,⟨rfl,trivial⟩,prm,e,dp,(bk.trans List.length_set.symm),trivial⟩
      · refine jh ?_
        exact⟨dkt,bT,kg,(bG,dl),trivial,prm,(Option.some.inj e).symm,bH,bk,trivial⟩
    · rintro⟨U,dr⟩ fg fh s ⟨rfl,bJ,dS,_⟩
      refine zt ?_
      refine zu ?_
      refine zm (qx ai rfl) ?_
      refine zm (qm (i:=0) zrv rfl rfl rfl) ?_
      refine zh v9 ?_
      refine zm (z5c [(0,(vi (-1))),(1,(vi (-1))),(2,(.agg #[v9]))] (ps:=[(0,(vi (-1))),(1,(vi (-1))),(2,v9)]) (v:=(.agg #[(vi (-1)),(vi (-1)),v9])) rfl (by simp only [List.map_cons,List.map_nil,z03 bJ];rfl) (fun w=>by kernel_rfl)) ?_
      refine zsb (K:=rSprobes_Node) (nx:=(((-1):Int),((-1):Int),v9)) (cs:=[(vi (-1)),(vi (-1)),v9]) (u:=(.agg #[(vi (-1)),(vi (-1)),v9])) rfl underlying43 zz2 rfl rfl ⟨_,_,rfl,rfl,⟨_,_,rfl,rfl,⟨rfl,z1z bJ⟩⟩⟩ rfl fun fi fj o ds=>?_
      obtain⟨bU,x⟩:=zf x
      refine zkp (Oc:=[fF,dr]) (Or:=[box b [ac] 45,box a [f] 77,box d [(.func (.func 40) #[] #[(.pointer (some ⟨b,0,none⟩)),k,(.pointer (some ⟨a,0,none⟩)),(.pointer (some ⟨d,0,none⟩))])] 80]++A) rfl (pk 1 rfl (pk 3 rfl (pk 0 rfl (pk 0 rfl (pk 0 rfl (List.Perm.refl _)))))) (zlt (K:=rSprobes_Node) (nx:=(⟨(-1),(-1),U⟩:Sa)) underlying43 zz2 rfl rfl (ad.mono ((G.trans s).trans o)) (bJ.mono o) ds bU.1 bU.2) ?_
      rintro aj fk dT dU ⟨rfl,aQ,rfl,aF⟩
      obtain⟨bf,aU⟩: ∃ V,V=aT++[v9]:=⟨_,rfl⟩;rw [←aU] at aF
      have ar:bf[p0_.length]? =some v9:=by rw [aU];exact zyd (zoj (ad.mono ((G.trans s).trans o)))
      have aV:=(List.prefix_rfl.trans bb).trans (List.prefix_append aT [v9]);rw [←aU] at aV
      refine zm (qx ai rfl) ?_
      refine ku (i:=1) (vs:=[aj]) q2f rfl rfl (zx0 aF) rfl rfl rfl (qf (q0t aF) ko) ?_
      refine z8 ?_
      refine zt ?_
      refine zt ?_
      refine zu ?_
      refine zh S ?_
      refine zm (ql rfl underlying32 rfl (jd (ab.mono ((G.trans s).trans o)))) ?_
      refine zm (ui rfl rfl) ?_
      refine z8 ?_
      refine zo rfl x (fun x=>?_) (fun x=>?_)
      · refine zt ?_
        refine z4j 8 mixed (by kernel_rfl) (by kernel_rfl) ?_
        refine pz (v:=(.pointer (some ⟨b,0,none⟩))) (qx ai rfl) ?_
        refine pz (v:=aj) (qm (i:=1) zrv rfl rfl rfl) ?_
        refine pz (v:=(vi (↑p0_.length:Int))) (za rfl) ?_
        refine pz (v:=E) (za rfl) ?_
        obtain⟨bV,x⟩:=zf x
        refine z5z (fu (i:=(0:Int).toNat) z2p rfl (jd (ag.mono ((G.trans s).trans o))) (zk rfl bV.1) (qh bV)) fun fl dt=>?_
        refine pz (df (jq ty3 rfl dt)) ?_
        obtain⟨bK,x⟩:=zf x
        refine z5z (zoy (i:=(↑p0_.length:Int).toNat) zzc rfl aF (zk rfl bK.1) (qh bK)) fun fm du=>?_
        refine z5z (zt5 zan rfl du) fun dv dw=>?_
        intro fn bl
        refine zdf (Oc:=[aQ]) (Or:=[box b [aj] 45,box a [f] 77,box d [(.func (.func 40) #[] #[(.pointer (some ⟨b,0,none⟩)),k,(.pointer (some ⟨a,0,none⟩)),(.pointer (some ⟨d,0,none⟩))])] 80]++A) (List.Perm.refl _) (zdi (K:=rSprobes_Node) (i:=(↑p0_.length:Int).toNat) (u:=dv) (nx:=(⟨(ix (p0_++[(⟨(-1),(-1),U⟩:Sa)]) (↑p0_.length:Int)).fB,(ix p 0),(ix (p0_++[(⟨(-1),(-1),U⟩:Sa)]) (↑p0_.length:Int)).fC⟩:Sa)) (q0w zui) ty3 (aF.mono bl) rfl dw (qh bK) rfl (jy.2 rfl) rfl (fun _=>rfl)) ?_
        rintro fo fp dV dW ⟨rfl,bW,rfl,dx⟩
        refine z8 ?_
        refine zt ?_
        refine zu ?_
        refine zh (vi (↑p0_.length:Int)) ?_
        refine zi (vi (↑p0_.length:Int)) ?_
        refine z8 ?_
        refine qj ?_
        obtain rfl:=Option.some.inj x
        refine z2l (D:=[]) (J:=[]) (O':=[box b [aj] 45,bW,box a [f] 77,box d [(.func (.func 40) #[] #[(.pointer (some ⟨b,0,none⟩)),k,(.pointer (some ⟨a,0,none⟩)),(.pointer (some ⟨d,0,none⟩))])] 80]) (rs:=[.tmp 8]) (vs:=[(vi (↑p0_.length:Int))]) (((G.trans s).trans o).trans bl) ((pk 1 rfl (pk 0 rfl (pk 0 rfl (pk 0 rfl (List.Perm.refl _)))))) rfl ⟨rfl,trivial⟩ ?_
        exact⟨aj,bW,rfl,rfl,(zdp (aV.trans List.prefix_rfl) dx)⟩
      · refine zz ?_
        refine zt ?_
        refine zu ?_
        refine zi (.int .u16 0) ?_
        refine z8 ?_
        obtain⟨O,e,x⟩:=zn x
        refine j5 (γ:=Int) (rs [12,13,14,15,55,66]) (fun g=>[(12,(.int .u16 g))]) (fun g=>[box b [aj] 45,aQ,box a [f] 77,box d [(.func (.func 40) #[] #[(.pointer (some ⟨b,0,none⟩)),k,(.pointer (some ⟨a,0,none⟩)),(.pointer (some ⟨d,0,none⟩))])] 80]++A) (fun g R=>O=g∧True) ?_ ?_
        · refine zt ?_
          refine zu ?_
          refine zh S ?_
          refine zm (ql rfl underlying32 rfl (jd (ab.mono ((G.trans s).trans o)))) ?_
          refine zh (vi 0) ?_
          refine z8 ?_
          refine zy ?_
          refine jg (γ:=Nat×Int×Int) (rs [12,13,14,15,57,66]) (fun g=>[(12,(.int .u16 g.2.1)),(57,(vi g.2.2))]) (fun g=>[box b [aj] 45,aQ,box a [f] 77,box d [(.func (.func 40) #[] #[(.pointer (some ⟨b,0,none⟩)),k,(.pointer (some ⟨a,0,none⟩)),(.pointer (some ⟨d,0,none⟩))])] 80]++A) (fun g R=>xq N now g.1 g.2.1 g.2.2=some O∧True) (fun g=>g.1) (N,0,0) ⟨[],(pk 1 rfl (pk 0 rfl (pk 0 rfl (pk 0 rfl (List.Perm.refl _)))))⟩ ⟨e,trivial⟩ ?_
          clear e
          rintro⟨bg,aW,aA⟩ dX fr bm ⟨e,_⟩
          rcases bg with _|bg
          · exact qy e
          replace e:xq N now (bg+1) aW aA=some O:=e;rw [xq] at e
          refine zt ?_
          refine zu ?_
          refine zm (j6 rfl rfl) ?_
          refine z8 ?_
          refine zt ?_
          refine zo rfl e (fun e=>?_) (fun e=>?_)
          · refine zz ?_
            refine zt ?_
            refine zy ?_
            refine zt ?_
            refine zu ?_
            obtain⟨bX,e⟩:=zf e
            refine jv (i:=aA.toNat) rfl z2p rfl (jd (ab.mono (((G.trans s).trans o).trans bm))) (zk rfl bX.1) (qh bX) fun fs dy=>?_
            refine qg rfl ty3 rfl dy fun ft dz=>?_
            obtain rfl:=jy.1 dz
            refine zi (vi (ix now aA)) ?_
            refine z8 ?_
            refine zu ?_
            refine zh (.int .u16 aW) ?_
            refine zh (vi (ix now aA)) ?_
            obtain⟨bY,e⟩:=zf e
            refine zm (z5r rfl rfl bY) ?_
            obtain⟨bZ,e⟩:=zf e
            refine zm (zdt rfl rfl bZ) ?_
            refine zi (.int .u16 (ior aW (su .u16 (1:Int) (ix now aA)))) ?_
            refine z8 ?_
            refine zu ?_
            obtain⟨b0,e⟩:=zf e
            refine zm (jl rfl rfl b0) ?_
            refine zh (vi (aA+1)) ?_
            refine z8 ?_
            exact⟨dkt,(RH.le.refl _),kg,(bg,ior aW (su .u16 (1:Int) (ix now aA)),aA+1),Nat.lt_succ_self _,⟨rfl,rfl,trivial⟩,prm,e,trivial⟩
          · refine jh ?_
            exact⟨dkt,bm,kg,aW,⟨rfl,trivial⟩,prm,(Option.some.inj e).symm,trivial⟩
        · rintro O dY fv y ⟨rfl,_⟩
          refine zt ?_
          refine zu ?_
          refine zi (vi 0) ?_
          refine z8 ?_
          obtain⟨t,e,x⟩:=zn x
          refine j5 (γ:=Int) (rs [15,16,66,79]) (fun g=>[(15,(vi g))]) (fun g=>[box b [aj] 45,aQ,box d [(.func (.func 40) #[] #[(.pointer (some ⟨b,0,none⟩)),k,(.pointer (some ⟨a,0,none⟩)),(.pointer (some ⟨d,0,none⟩))])] 80,box a [f] 77]++A) (fun g R=>t=g∧True) ?_ ?_
          · refine zy ?_
            refine jg (γ:=Nat×Int) (rs [15,16,66,79]) (fun g=>[(15,(vi g.2))]) (fun g=>[box b [aj] 45,aQ,box a [f] 77,box d [(.func (.func 40) #[] #[(.pointer (some ⟨b,0,none⟩)),k,(.pointer (some ⟨a,0,none⟩)),(.pointer (some ⟨d,0,none⟩))])] 80]++A) (fun g R=>og N p1_ p2_ O g.1 g.2=some t∧True) (fun g=>g.1) (N,0) prm ⟨e,trivial⟩ ?_
            clear e
            rintro⟨aJ,W⟩ dZ d5 ak ⟨e,_⟩
            rcases aJ with _|aJ
            · exact qy e
            replace e:og N p1_ p2_ O (aJ+1) W=some t:=e;rw [og] at e
            refine zt ?_
            refine zt ?_
            obtain⟨b1,e⟩:=zf e
            obtain⟨bn,b2,e⟩:=zn e
            refine fq 11 [] [phX f,phR (ji false false) p1_,phX (.int .u16 O),phX (vi W),phX f,phX (.int .u16 O),phX f,phP (qo .i64) (ix p2_.1 O),phX (vi (ix p2_.1 O)),phX (.bool bn),phX (.bool (!bn))] mixed (by kernel_rfl) (ow ⟨q8,p8,q8,q8,q8,q8,q8,vk,q8,q8,q8,trivial⟩) ⟨?_,?_,?_,?_,?_,?_,?_,?_,?_,?_,?_,trivial⟩ fun d6 aX=>?_
            · intro l fw Z ha hd
              have a4:l 4=(.pointer (some ⟨a,0,none⟩)):=ha 4 rfl
              exact zb rfl rfl rfl (qi (qm (i:=2) q0k a4 rfl rfl))
            · intro l fx Z ha hd
              have a3:l 3=k:=ha 3 rfl
              exact zb rfl rfl rfl (ky z06 a3 ((ae.mono ((((G.trans s).trans o).trans y).trans ak)).mono Z))
            · intro l fz Z ha hd
              have bL:l 12=(.int .u16 O):=ha 12 rfl
              exact zb rfl rfl rfl (qi (za bL))
            · intro l fA Z ha hd
              have dB:l 15=(vi W):=ha 15 rfl
              exact zb rfl rfl rfl (qi (za dB))
            · intro l fE Z ha hd
              have a4:l 4=(.pointer (some ⟨a,0,none⟩)):=ha 4 rfl
              exact zb rfl rfl rfl (qi (qm (i:=2) q0k a4 rfl rfl))
            · intro l fG Z ha hd
              have bL:l 12=(.int .u16 O):=ha 12 rfl
              exact zb rfl rfl rfl (qi (za bL))
            · rintro l fH Z ha ⟨d0,_⟩
              have dC:=d0 rfl
              exact zb rfl rfl rfl (qi (z8m dC ((ah.mono ((((G.trans s).trans o).trans y).trans ak)).mono Z)))
            · rintro l fI Z ha ⟨d0,d1,_⟩
              have dE:=d0 rfl
              have dF:=d1 rfl
              exact zb rfl rfl rfl (zi4 (X:=p2_) (q:=O) zqt rfl dE ((ah.mono ((((G.trans s).trans o).trans y).trans ak)).mono Z) dF b1)
            · rintro l fJ Z ha ⟨d0,_⟩
              have dG:=d0 rfl
              exact zb rfl rfl rfl (ng (ky ty3 rfl dG) (fun _ _ h=>jy.1 h))
            · rintro l fK Z ha ⟨d0,d1,d2,d3,d4,_⟩
              have dH:l 66=f:=d0 rfl
              have dI:=d1 rfl
              have dJ:l 68=(.int .u16 O):=d2 rfl
              have dK:l 69=(vi W):=d3 rfl
              have dL:l 74=(vi (ix p2_.1 O)):=d4 rfl
              exact zb rfl rfl rfl (xy (vs:=[f,(l 67),(.int .u16 O),(vi W),(vi (ix p2_.1 O))]) q2w (by simp only [List.map,ev,dH,dJ,dK,dL]<;>rfl) (z4p (z0v.2 ((ah.mono ((((G.trans s).trans o).trans y).trans ak)).mono Z)) dI b2) (fun _ _ h=>h))
            · rintro l d7 Z ha ⟨d0,_⟩
              have dM:=d0 rfl
              exact zb rfl rfl rfl (qi (mq dM))
            intro d8 b4
            intro d9 ea
            intro eb b5
            intro ec b6
            intro ed b7
            intro ee b8
            intro ef b9
            intro eg eh
            intro ei ca
            intro ej cb
            intro ek cc
            obtain rfl:=Eq.symm b4
            obtain rfl:=Eq.symm b5
            obtain rfl:=Eq.symm b6
            obtain rfl:=Eq.symm b7
            obtain rfl:=Eq.symm b8
            obtain rfl:=Eq.symm b9
            obtain rfl:=Eq.symm ca
            obtain rfl:=Eq.symm cb
            obtain rfl:=Eq.symm cc
            refine z8 ?_
            refine zo rfl e (fun e=>?_) (fun e=>?_)
            · refine zz ?_
              refine zy ?_
              refine zu ?_
              refine zh (vi W) ?_
              obtain⟨cd,e⟩:=zf e
              refine zm (jl rfl rfl cd) ?_
              refine zi (vi (W+1)) ?_
              refine z8 ?_
              exact⟨dkt,aX,kg,(aJ,W+1),Nat.lt_succ_self _,⟨rfl,trivial⟩,prm,e,trivial⟩
            · refine jh ?_
              exact⟨dkt,(ak.trans aX),kg,W,⟨rfl,trivial⟩,⟨[],(pk 0 rfl (pk 0 rfl (pk 1 rfl (pk 0 rfl (List.Perm.refl _)))))⟩,(Option.some.inj e).symm,trivial⟩
          · rintro t el em z ⟨rfl,_⟩
            refine zt ?_
            refine zu ?_
            refine zm (qx ai rfl) ?_
            refine zm (qm (i:=0) zrv rfl rfl rfl) ?_
            refine zh (vi (↑p0_.length:Int)) ?_
            refine zh (vi t) ?_
            obtain⟨aY,x⟩:=zf x
            refine z3v rfl (zpz (i:=(↑p0_.length:Int).toNat) zzc rfl (aF.mono (y.trans z)) (zk rfl aY.1) (qh aY)) fun en eo I ce=>?_
            refine z3v rfl (zkd z8f rfl ce) fun cf ep L cg=>?_
            refine zdf (Oc:=[aQ]) (Or:=[box b [aj] 45,box d [(.func (.func 40) #[] #[(.pointer (some ⟨b,0,none⟩)),k,(.pointer (some ⟨a,0,none⟩)),(.pointer (some ⟨d,0,none⟩))])] 80,box a [f] 77]++A) (pk 1 rfl (pk 0 rfl (pk 0 rfl (pk 0 rfl (List.Perm.refl _))))) (zdi (K:=rSprobes_Node) (i:=(↑p0_.length:Int).toNat) (u:=cf) (nx:=(⟨t,(ix (p0_++[(⟨(-1),(-1),U⟩:Sa)]) (↑p0_.length:Int)).fD,(ix (p0_++[(⟨(-1),(-1),U⟩:Sa)]) (↑p0_.length:Int)).fC⟩:Sa)) zui ty3 (aF.mono (((y.trans z).trans I).trans L)) rfl cg (qh aY) rfl (jy.2 rfl) rfl (fun _=>rfl)) ?_
            rintro eq er dN dO ⟨rfl,ch,rfl,aZ⟩
            refine z8 ?_
            obtain⟨aK,e,x⟩:=zn x
            refine j5 (γ:=(List Sa)×Value×Frag) (rs [16,21,85,139]) (fun g=>[]) (fun g=>[box b [g.2.1] 45,g.2.2,box a [f] 77,box d [(.func (.func 40) #[] #[(.pointer (some ⟨b,0,none⟩)),k,(.pointer (some ⟨a,0,none⟩)),(.pointer (some ⟨d,0,none⟩))])] 80]++A) (fun g R=>aK=g.1∧NS rSprobes_Node bf R g.2.2 g.2.1 g.1∧True) ?_ ?_
            · refine zt ?_
              refine zu ?_
              refine zh v9 ?_
              refine z3v rfl (qi (zoz (K:=rSprobes_Node) (r:=p0_.length) rfl underlying32 aZ (zow List.prefix_rfl ar aZ) (zp4 List.prefix_rfl ar) rfl)) fun es et M ci=>?_
              obtain rfl:=Eq.symm ci
              refine zh (vi 0) ?_
              refine z8 ?_
              refine zy ?_
              refine jg (γ:=Nat×Int×(List Sa)×Value×Frag) (rs [16,21,87,139]) (fun g=>[(87,(vi g.2.1))]) (fun g=>[box d [(.func (.func 40) #[] #[(.pointer (some ⟨b,0,none⟩)),k,(.pointer (some ⟨a,0,none⟩)),(.pointer (some ⟨d,0,none⟩))])] 80,box b [g.2.2.2.1] 45,g.2.2.2.2,box a [f] 77]++A) (fun g R=>xm N (gu N F) now p p0_ p1_ p2_ U t g.1 g.2.1 g.2.2.1=some aK∧NS rSprobes_Node bf R g.2.2.2.2 g.2.2.2.1 g.2.2.1∧True) (fun g=>g.1) (N,0,(up (p0_++[(⟨(-1),(-1),U⟩:Sa)]) (↑p0_.length:Int) (⟨t,(ix (p0_++[(⟨(-1),(-1),U⟩:Sa)]) (↑p0_.length:Int)).fD,(ix (p0_++[(⟨(-1),(-1),U⟩:Sa)]) (↑p0_.length:Int)).fC⟩:Sa)),aj,ch) ⟨[],(pk 2 rfl (pk 1 rfl (pk 0 rfl (pk 0 rfl (List.Perm.refl _)))))⟩ ⟨e,(zdp List.prefix_rfl (aZ.mono M)),trivial⟩ ?_
              clear e
              rintro⟨aL,H,a0,av,aw⟩ eu ew P ⟨e,⟨ex,aG,a1⟩,_⟩
              rcases aL with _|aL
              · exact qy e
              replace e:xm N (gu N F) now p p0_ p1_ p2_ U t (aL+1) H a0=some aK:=e;rw [xm] at e
              refine zt ?_
              refine zu ?_
              refine zm (j6 rfl rfl) ?_
              refine z8 ?_
              refine zt ?_
              refine zo rfl e (fun e=>?_) (fun e=>?_)
              · refine zz ?_
                obtain⟨a2,al,e⟩:=zn e
                refine j5 (γ:=(List Sa)×Value×Frag) (rs [16,21,89,138]) (fun g=>[]) (fun g=>[box d [(.func (.func 40) #[] #[(.pointer (some ⟨b,0,none⟩)),k,(.pointer (some ⟨a,0,none⟩)),(.pointer (some ⟨d,0,none⟩))])] 80,box b [g.2.1] 45,g.2.2,box a [f] 77]++A) (fun g R=>a2=g.1∧NS rSprobes_Node bf R g.2.2 g.2.1 g.1∧True) ?_ ?_
                · refine zy ?_
                  refine zt ?_
                  refine zu ?_
                  refine zh (vi H) ?_
                  refine zi (vi H) ?_
                  refine z8 ?_
                  refine zt ?_
                  refine zu ?_
                  refine zi vs0 ?_
                  refine zi vs0 ?_
                  refine z8 ?_
                  obtain⟨ax,Q,al⟩:=zn al
                  refine j5 (γ:=(List Int×List Int)×Value×Frag×Value×Frag) (rs [17,21,90,128]) (fun g=>[(17,g.2.1),(18,g.2.2.2.1)]) (fun g=>[box d [(.func (.func 40) #[] #[(.pointer (some ⟨b,0,none⟩)),k,(.pointer (some ⟨a,0,none⟩)),(.pointer (some ⟨d,0,none⟩))])] 80,box b [av] 45,aw,box a [f] 77,g.2.2.1,g.2.2.2.2]++A) (fun g R=>ax=g.1∧ORep (qo .i64) R g.2.2.1 g.2.1 g.1.1∧ORep (qo .i64) R g.2.2.2.2 g.2.2.2.1 g.1.2∧True) ?_ ?_
                  · refine zt ?_
                    refine zu ?_
                    refine zh S ?_
                    refine zm (ql rfl underlying32 rfl (jd (ab.mono ((((((((G.trans s).trans o).trans y).trans z).trans I).trans L).trans M).trans P)))) ?_
                    refine zh (vi 0) ?_
                    refine z8 ?_
                    refine zy ?_
                    refine z9f ?_
                    refine z9f ?_
                    refine jg (γ:=Nat×(List Int)×(List Int)×Int×Value×Frag×Value×Frag) (rs [17,21,92,128]) (fun g=>[(17,g.2.2.2.2.1),(18,g.2.2.2.2.2.2.1),(92,(vi g.2.2.2.1))]) (fun g=>[box d [(.func (.func 40) #[] #[(.pointer (some ⟨b,0,none⟩)),k,(.pointer (some ⟨a,0,none⟩)),(.pointer (some ⟨d,0,none⟩))])] 80,box b [av] 45,aw,box a [f] 77,g.2.2.2.2.2.1,g.2.2.2.2.2.2.2]++A) (fun g R=>vz N now p p1_ t H g.1 g.2.1 g.2.2.1 g.2.2.2.1=some ax∧ORep (qo .i64) R g.2.2.2.2.2.1 g.2.2.2.2.1 g.2.1∧ORep (qo .i64) R g.2.2.2.2.2.2.2 g.2.2.2.2.2.2.1 g.2.2.1∧True) (fun g=>g.1) (N,[],[],0,vs0,emp,vs0,emp) ⟨[],(pk 2 rfl (pk 2 rfl (pk 2 rfl (pk 2 rfl (pk 1 rfl (pk 0 rfl (List.Perm.refl _)))))))⟩ ⟨Q,(z7o (T:=(qo .i64))),(z7o (T:=(qo .i64))),trivial⟩ ?_
                    clear Q
                    rintro⟨aM,aB,aC,n,a5,bo,a6,bp⟩ ey ez am ⟨Q,a7,a8,_⟩
                    rcases aM with _|aM
                    · exact qy Q
                    replace Q:vz N now p p1_ t H (aM+1) aB aC n=some ax:=Q;rw [vz] at Q
                    refine zt ?_
                    refine zu ?_
                    refine zm (j6 rfl rfl) ?_
                    refine z8 ?_
                    refine zt ?_
                    refine zo rfl Q (fun Q=>?_) (fun Q=>?_)
                    · refine zz ?_
                      obtain⟨aN,C,Q⟩:=zn Q
                      refine j5 (γ:=(List Int×List Int)×Value×Frag×Value×Frag) (rs [17,21,94,127]) (fun g=>[(17,g.2.1),(18,g.2.2.2.1)]) (fun g=>[box d [(.func (.func 40) #[] #[(.pointer (some ⟨b,0,none⟩)),k,(.pointer (some ⟨a,0,none⟩)),(.pointer (some ⟨d,0,none⟩))])] 80,box b [av] 45,aw,box a [f] 77,g.2.2.1,g.2.2.2.2]++A) (fun g R=>aN=g.1∧ORep (qo .i64) R g.2.2.1 g.2.1 g.1.1∧ORep (qo .i64) R g.2.2.2.2 g.2.2.2.1 g.1.2∧True) ?_ ?_
                      · refine zy ?_
                        refine zt ?_
                        refine zu ?_
                        refine zh (vi n) ?_
                        obtain⟨bq,C⟩:=zf C
                        refine jv (i:=n.toNat) rfl z2p rfl (jd (ab.mono (((((((((G.trans s).trans o).trans y).trans z).trans I).trans L).trans M).trans P).trans am))) (zk rfl bq.1) (qh bq) fun eA cj=>?_
                        refine qg rfl ty3 rfl cj fun eB ck=>?_
                        obtain rfl:=jy.1 ck
                        refine zi (vi n) ?_
                        refine zi (vi (ix now n)) ?_
                        refine z8 ?_
                        refine zt ?_
                        refine zu ?_
                        refine ja rfl vg jr rfl (ae.mono (((((((((G.trans s).trans o).trans y).trans z).trans I).trans L).trans M).trans P).trans am)) fun eC cl=>?_
                        refine qg rfl lq rfl cl fun eD cm=>?_
                        refine zh (vi (ix now n)) ?_
                        obtain⟨br,C⟩:=zf C
                        refine jv (i:=(ix now n).toNat) rfl za2 rfl (jd cm) (zk rfl br.1) (qh br) fun eE cn=>?_
                        refine qg rfl z9r rfl cn fun eF co=>?_
                        refine zh (vi t) ?_
                        obtain⟨bs,C⟩:=zf C
                        refine jv (i:=t.toNat) rfl zbq rfl (jd co) (zk rfl bs.1) (qh bs) fun eG cp=>?_
                        refine ja rfl z3w zhf rfl cp fun eH cq=>?_
                        refine qg rfl ty3 rfl cq fun eI cr=>?_
                        obtain rfl:=jy.1 cr
                        refine zh (vi H) ?_
                        refine zm (ui rfl rfl) ?_
                        refine z8 ?_
                        refine zo rfl C (fun C=>?_) (fun C=>?_)
                        · refine zt ?_
                          refine zu ?_
                          refine zh a5 ?_
                          refine ja rfl vg jr rfl (ae.mono (((((((((G.trans s).trans o).trans y).trans z).trans I).trans L).trans M).trans P).trans am)) fun eJ ct=>?_
                          refine qg rfl lq rfl ct fun eK cu=>?_
                          refine zh (vi (ix now n)) ?_
                          obtain⟨bt,C⟩:=zf C
                          refine jv (i:=(ix now n).toNat) rfl za2 rfl (jd cu) (zk rfl bt.1) (qh bt) fun eL cv=>?_
                          refine qg rfl z9r rfl cv fun eM cw=>?_
                          refine zh (vi t) ?_
                          obtain⟨bu,C⟩:=zf C
                          refine jv (i:=t.toNat) rfl zbq rfl (jd cw) (zk rfl bu.1) (qh bu) fun eN cx=>?_
                          refine ja rfl z0n zac rfl cx fun eO cy=>?_
                          refine qg rfl ty3 rfl cy fun eP cz=>?_
                          obtain rfl:=jy.1 cz
                          let G1:=([(ix (ix p1_.rows (ix now n)) t).to]:List Int)
                          refine z1f (T:=(qo .i64)) (X:=G1) (ps:=[(0,(vi ((ix (ix p1_.rows (ix now n)) t).to)))]) (css:=[[(vi ((ix (ix p1_.rows (ix now n)) t).to))]]) rfl underlying32 zo3 rfl rfl (vo ⟨rfl,trivial⟩) rfl rfl (by decide) fun cA eQ bi cB=>?_
                          refine au (i:=0) rfl cB fun cC az cD=>?_
                          have cE:VRep (tSl true (qo .i64)) cC cA G1:=(z5q cD bi)
                          obtain⟨bv,C⟩:=zf C
                          refine z4b (i:=4) (X:=aB) (Y:=G1) rfl underlying32 zo3 rfl rfl rfl (a7.mono az) (jd (Sub.v (B:=(tSl false (qo .i64))) (uw Sub.refl (fun _=>rfl)) cE)) bv.1 bv.2 fun bw cF cG=>?_
                          refine zi bw ?_
                          refine z8 ?_
                          refine zu ?_
                          refine zh a6 ?_
                          refine zh E ?_
                          refine zh (vi n) ?_
                          obtain⟨bx,C⟩:=zf C
                          refine jv (i:=n.toNat) rfl z2p rfl (jd (ag.mono ((((((((((G.trans s).trans o).trans y).trans z).trans I).trans L).trans M).trans P).trans am).trans az))) (zk rfl bx.1) (qh bx) fun eR cH=>?_
                          refine qg rfl ty3 rfl cH fun eS cI=>?_
                          obtain rfl:=jy.1 cI
                          refine z1f (T:=(qo .i64)) (X:=([(ix p n)]:List Int)) (ps:=[(0,(vi (ix p n)))]) (css:=[[(vi (ix p n))]]) rfl underlying32 zo3 rfl rfl (vo ⟨rfl,trivial⟩) rfl rfl (by decide) fun cJ eT bj cK=>?_
                          refine au (i:=0) rfl cK fun cL aH cM=>?_
                          have cN:VRep (tSl true (qo .i64)) cL cJ ([(ix p n)]:List Int):=(z5q cM bj)
                          obtain⟨bz,C⟩:=zf C
                          refine z4b (i:=5) (X:=aC) (Y:=([(ix p n)]:List Int)) rfl underlying32 zo3 rfl rfl rfl (a8.mono (az.trans aH)) (jd (Sub.v (B:=(tSl false (qo .i64))) (uw Sub.refl (fun _=>rfl)) cN)) bz.1 bz.2 fun bA cO cP=>?_
                          refine zi bA ?_
                          refine z8 ?_
                          exact⟨dkt,(az.trans aH),kg,(((aB++G1),(aC++([(ix p n)]:List Int))),bw,cF,bA,cO),⟨rfl,rfl,trivial⟩,prm,(Option.some.inj C).symm,(cG.mono aH),cP,trivial⟩
                        · refine zz ?_
                          exact⟨dkt,(RH.le.refl _),kg,((aB,aC),a5,bo,a6,bp),⟨rfl,rfl,trivial⟩,prm,(Option.some.inj C).symm,a7,a8,trivial⟩
                      · rintro⟨aN,cQ,cR,cS,cT⟩ eU eV bM ⟨rfl,cU,cV,_⟩
                        refine zu ?_
                        obtain⟨cW,Q⟩:=zf Q
                        refine zm (jl rfl rfl cW) ?_
                        refine zh (vi (n+1)) ?_
                        refine z8 ?_
                        exact⟨dkt,bM,kg,(aM,aN.1,aN.2,n+1,cQ,cR,cS,cT),Nat.lt_succ_self _,⟨rfl,rfl,rfl,trivial⟩,prm,Q,cU,cV,trivial⟩
                    · refine jh ?_
                      exact⟨dkt,am,kg,((aB,aC),a5,bo,a6,bp),⟨rfl,rfl,trivial⟩,prm,(Option.some.inj Q).symm,a7,a8,trivial⟩
                  · rintro⟨ax,aO,cX,a9,cY⟩ eW eX af ⟨rfl,bB,cZ,_⟩
                    refine zt ?_
                    refine zu ?_
                    refine zh aO ?_
                    refine zm (z2d rfl underlying32 rfl bB) ?_
                    refine zm (z00 rfl rfl) ?_
                    refine z8 ?_
                    refine zo rfl al (fun al=>?_) (fun al=>?_)
                    · refine zu ?_
                      refine zh v9 ?_
                      refine zh (vi H) ?_
                      refine zm (qm (i:=0) q33 rfl rfl rfl) ?_
                      refine zh aO ?_
                      refine zh a9 ?_
                      refine au (i:=4) rfl bB fun c0 an c1=>?_
                      have c2:VRep (tSl false (qo .i64)) c0 aO ax.1:=(zca c1)
                      refine au (i:=4) rfl (cZ.mono an) fun c3 ao c4=>?_
                      have c5:VRep (tSl false (qo .i64)) c3 a9 ax.2:=(zca c4)
                      obtain⟨aa,c6,al⟩:=zn al
                      refine zdw (Oc:=[box b [av] 45,aw,box a [f] 77,box d [(.func (.func 40) #[] #[(.pointer (some ⟨b,0,none⟩)),k,(.pointer (some ⟨a,0,none⟩)),(.pointer (some ⟨d,0,none⟩))])] 80]) (Or:=[]++A) (cs:=[(.pointer (some ⟨b,0,none⟩)),k,(.pointer (some ⟨a,0,none⟩)),(.pointer (some ⟨d,0,none⟩))]) (vs:=[aO,a9]) rfl q1b rfl rfl ((pk 1 rfl (pk 1 rfl (pk 1 rfl (pk 0 rfl (List.Perm.refl _)))))) (ih (c2.mono ao) c5 (zdp aG (a1.mono ((af.trans an).trans ao))) (ae.mono (((((((((((G.trans s).trans o).trans y).trans z).trans I).trans L).trans M).trans P).trans af).trans an).trans ao)) (ah.mono (((((((((((G.trans s).trans o).trans y).trans z).trans I).trans L).trans M).trans P).trans af).trans an).trans ao)) c6) fun eY eZ dP bN c7=>?_
                      obtain⟨bC,c8,rfl,rfl,⟨e0,ap,aP⟩⟩:=c7
                      obtain⟨ba,al⟩:=zf al
                      refine z3v rfl (znc (K:=rSprobes_Node) (i:=H.toNat) (r:=p0_.length) z2p aP (zow ap ar aP) (zp4 ap ar) rfl (zk rfl ba.1) (qh ba)) fun c9 e1 aI da=>?_
                      refine zdf (Oc:=[c8]) (Or:=[box b [bC] 45,box a [f] 77,box d [(.func (.func 40) #[] #[(.pointer (some ⟨b,0,none⟩)),k,(.pointer (some ⟨a,0,none⟩)),(.pointer (some ⟨d,0,none⟩))])] 80]++A) (pk 1 rfl (pk 0 rfl (pk 0 rfl (pk 0 rfl (List.Perm.refl _))))) (znb (K:=rSprobes_Node) (i:=H.toNat) (r:=p0_.length) (u:=c9) (u0:=v9) (nx:=(⟨(aa.2.getD p0_.length default).fB,(aa.2.getD p0_.length default).fD,up (aa.2.getD p0_.length default).fC H aa.1⟩:Sa)) ty3 (aP.mono aI) (zow ap ar (aP.mono aI)) (zp4 ap ar) rfl da (qh ba) rfl (jy.2 rfl) rfl (fun _=>rfl)) ?_
                      rintro e2 e3 dQ dR ⟨rfl,db,rfl,dc⟩
                      refine z8 ?_
                      exact⟨dkt,((((af.trans an).trans ao).trans bN).trans aI),kg,((aa.2.set p0_.length (⟨(aa.2.getD p0_.length default).fB,(aa.2.getD p0_.length default).fD,up (aa.2.getD p0_.length default).fC H aa.1⟩:Sa)),bC,db),trivial,⟨[],(pk 3 rfl (pk 1 rfl (pk 0 rfl (pk 0 rfl (List.Perm.refl _)))))⟩,(Option.some.inj al).symm,(zdp ap dc),trivial⟩
                    · refine zz ?_
                      exact⟨dkt,af,kg,(a0,av,aw),trivial,⟨[cX,cY],(pk 4 rfl (pk 4 rfl (pk 0 rfl (pk 0 rfl (pk 0 rfl (pk 0 rfl (List.Perm.refl _)))))))⟩,(Option.some.inj al).symm,(zdp aG (a1.mono af)),trivial⟩
                · rintro⟨a2,dd,de⟩ e4 e5 bO ⟨rfl,⟨e6,bP,dg⟩,_⟩
                  refine zu ?_
                  obtain⟨dh,e⟩:=zf e
                  refine zm (jl rfl rfl dh) ?_
                  refine zh (vi (H+1)) ?_
                  refine z8 ?_
                  exact⟨dkt,bO,kg,(aL,H+1,a2,dd,de),Nat.lt_succ_self _,⟨rfl,trivial⟩,prm,e,(zdp bP dg),trivial⟩
              · refine jh ?_
                exact⟨dkt,(M.trans P),kg,(a0,av,aw),trivial,⟨[],(pk 1 rfl (pk 1 rfl (pk 1 rfl (pk 0 rfl (List.Perm.refl _)))))⟩,(Option.some.inj e).symm,(zdp aG a1),trivial⟩
            · rintro⟨aK,bD,bE⟩ e7 e8 bQ ⟨rfl,⟨e9,bR,di⟩,_⟩
              refine zt ?_
              refine zu ?_
              refine zh (vi (↑p0_.length:Int)) ?_
              refine zi (vi (↑p0_.length:Int)) ?_
              refine z8 ?_
              refine qj ?_
              obtain rfl:=Option.some.inj x
              refine z2l (D:=[]) (J:=[]) (O':=[box b [bD] 45,bE,box a [f] 77,box d [(.func (.func 40) #[] #[(.pointer (some ⟨b,0,none⟩)),k,(.pointer (some ⟨a,0,none⟩)),(.pointer (some ⟨d,0,none⟩))])] 80]) (rs:=[.tmp 8]) (vs:=[(vi (↑p0_.length:Int))]) (((((((G.trans s).trans o).trans y).trans z).trans I).trans L).trans bQ) ((pk 0 rfl (pk 0 rfl (pk 0 rfl (pk 0 rfl (List.Perm.refl _)))))) rfl ⟨rfl,trivial⟩ ?_
              exact⟨bD,bE,rfl,rfl,(zdp (aV.trans bR) di)⟩
theorem zey{N:Nat}{R:RH}{now:(List Int)}{g:Value}(n:VRep (tSl false (qo .i64)) R g now){h:(List Int)}{e:Value}(i:VRep (tSl false (qo .i64)) R e h){a:Nat}{p0_:List Sa}{j:Value}{fF:Frag}{k:List Value}(o:NS rSprobes_Node k R fF j p0_){p1_:Mach}{d:Value}(p:PRep (ji false false) R d p1_){b:Nat}{p2_:(Arr 64 Int)}{f:Value}(q:PRep z3a R f p2_){c:Nat}{r:Int×List Sa}(s:gu N N now h p0_ p1_ p2_=some r):CallG prog 40 #[g,e,(.pointer (some ⟨a,0,none⟩)),d,(.pointer (some ⟨b,0,none⟩)),(.pointer (some ⟨c,0,none⟩))] R [box a [j] 45,fF,box b [f] 77,box c [.func (.func 40) #[] #[(.pointer (some ⟨a,0,none⟩)),d,(.pointer (some ⟨b,0,none⟩)),(.pointer (some ⟨c,0,none⟩))]] 80] (fun v R' O'=> ∃ l m,v=(vi r.1)∧O'=[box a [l] 45,m,box b [f] 77,box c [.func (.func 40) #[] #[(.pointer (some ⟨a,0,none⟩)),d,(.pointer (some ⟨b,0,none⟩)),(.pointer (some ⟨c,0,none⟩))]] 80]∧NS rSprobes_Node k R' m l r.2):=zah N n i o p q s
theorem zya{a:Bool}:TyOk prog 55 (qa a):=by
 obtain⟨i,hi,b⟩: ∃ i,prog.info? 55=some i∧i.size=3:=yw (by kernel_rfl);exact z1w underlying55 hi rfl b
theorem zcn{a:Bool}:SlOk prog 43 55 (qa a):=⟨underlying43,zya⟩
theorem z7x{N:Nat}{R:RH}{s:(List Sa)}{a:Value}(b:VRep (tSl false (qa false)) R a s){r:(List Sa)}(c:il N s=some r):CallP prog 42 #[a] R (fun v R'=>VRep (tSl true (qa false)) R' v r):=by
 refine qd (args:=[a]) func42 rfl rfl fun A=>?_;rw [il] at c;refine zg (zi vs0 (qz (zh a (zh a (zm (ql rfl underlying43 rfl (jd b)) (zh a (zm (ql rfl underlying43 rfl (jd b)) ?_)))))));obtain⟨d,c⟩:=zf c
 refine zf3 (v:=a) (lo:=(0:Int).toNat) (hi:=(↑s.length:Int).toNat) (mx:=(↑s.length:Int).toNat) rfl zcn rfl (jd b) (.inl ⟨rfl,rfl⟩) (.inr ⟨_,congrArg some (zk rfl (zi0 d))⟩) (.inr ⟨_,congrArg some (zk rfl (zi0 d))⟩) (zqz d) (zfn d) (Nat.le_refl _) (Nat.le_trans (zfn d) (q0b (jd b))) (X':=(cut s 0 (↑s.length:Int))) rfl fun f g e=>?_
 have h:VRep (tSl true (qa false)) R f (cut s 0 (↑s.length:Int)):=z5q g (e.trans (zl4 d).symm);refine zi f (z8 (qj ?_));obtain rfl:=Option.some.inj c;refine zw (D:=[]) (J:=[]) (rs:=[.tmp 2]) (vs:=[f]) (RH.le.refl _) rfl rfl ⟨rfl,trivial⟩ ?_;exact⟨rfl,h⟩
theorem q4s:Enters prog 42:=enters_of func42 rfl (by kernel_rfl)
theorem zj6: ∀ w,(isAgg 45).run prog w= .ok true w:=fun w=>by kernel_rfl
theorem zak{N:Nat}{R:RH}{m:Mach}{F:Value}(q:VRep (ji false false) R F m){r:Sc×Int}(a:z1d N m=some r):CallP prog 15 #[F] R (fun v R'=> ∃ u0,v= .tuple #[u0,(vi r.2)]∧VRep (u7 true false) R' u0 r.1):=by
 refine qd (args:=[F]) func15 rfl rfl fun A=>?_;rw [z1d] at a;refine zg (kv (T:=(ji false false)) rfl rfl rfl q fun G R3 n h5 h2=>?_);refine kw rfl zul fun L=>?_;refine zi (vi 0) (z8 (zt (zg (zm (jo z06 rfl rfl h5 (q.mono n)) ?_))));obtain⟨M,c9,a⟩:=zn a
 refine je rfl zy5 rfl (z4n (q.mono n) c9) fun aQ aR c ah=>?_;obtain rfl:=ah;refine zi (vi M) (qz (zh (vi M) (zm (wy rfl rfl) (z8 (zo rfl a (fun a=>?_) (fun a=>?_))))))
 refine zg (zm (gz (ps:=[]) (v:=(.agg #[vs0])) rfl (fun w=>by kernel_rfl)) (zh (vi M) (ku (i:=0) (vs:=[vs0]) zbm rfl rfl rfl rfl rfl rfl (qf rfl ko) ?_)));refine zi (vi M) (z8 (qj ?_));obtain rfl:=Option.some.inj a
 refine zw (D:=[]) (J:=[box L [vs0] 45]) (rs:=[.cell 2 45,.tmp 3]) (vs:=[(.agg #[vs0]),(vi M)]) (n.trans c) rfl rfl ⟨⟨_,rfl,fun w O=>z1m (i:=0) O rfl rfl zj6 zbm rfl rfl⟩,rfl,trivial⟩ ?_
 exact⟨rfl,⟨(.agg #[vs0]),rfl,(⟨_,(uu (T:=(tSl true (qa false))) rfl z3m),rfl⟩:VRep (u7 true false) _ _ (⟨[]⟩:Sc))⟩⟩;refine zz (zg (zm (jo z06 rfl rfl (h5.mono c) (q.mono (n.trans c))) ?_));obtain⟨aS,aj,a⟩:=zn a
 refine je rfl q3t rfl (zf4 (q.mono (n.trans c)) aj) fun p aT k y=>?_;refine kw rfl q4f fun d=>?_;refine ku (i:=0) (vs:=[p]) q4b rfl rfl (zlq (zng (z0v.1 y))) rfl rfl rfl (qf (zng (z0v.1 y)) ko) ?_;refine qz (ja rfl vg jr rfl (h2.mono (c.trans k)) fun aU ak=>?_)
 refine qg rfl lq rfl ak fun aV al=>?_;refine zm (ql rfl underlying28 rfl (jd al)) ?_;obtain⟨am,a⟩:=zf a
 refine zm (z5r rfl rfl am) (zm (zgo rfl rfl) (zi (.int .u16 (IntKind.u16.wrap ((su .u16 (1:Int) (↑m.rows.length:Int))-1))) (z8 (zt (zg (zm (qm (i:=0) q0k rfl rfl rfl) (zh (.int .u16 (IntKind.u16.wrap ((su .u16 (1:Int) (↑m.rows.length:Int))-1))) ?_)))))));obtain⟨aW,an,a⟩:=zn a
 refine je rfl zzx rfl (z2w (z0v.2 (z0v.1 y)) an) fun aX aY l ao=>?_;obtain rfl:=ao;refine zm (mq rfl) (z8 (zo rfl a (fun a=>?_) (fun a=>?_)))
 refine zg (zm (gz (ps:=[]) (v:=(.agg #[vs0])) rfl (fun w=>by kernel_rfl)) (ku (i:=1) (vs:=[vs0]) zbm rfl rfl rfl rfl rfl rfl (qf rfl ko) ?_));refine zi (vi 7) (z8 (qj ?_));obtain rfl:=Option.some.inj a
 refine zw (D:=[]) (J:=[box d [p] 77,box L [vs0] 45]) (rs:=[.cell 2 45,.tmp 3]) (vs:=[(.agg #[vs0]),(vi 7)]) (((n.trans c).trans k).trans l) rfl rfl ⟨⟨_,rfl,fun w O=>z1m (i:=1) O rfl rfl zj6 zbm rfl rfl⟩,rfl,trivial⟩ ?_
 exact⟨rfl,⟨(.agg #[vs0]),rfl,(⟨_,(uu (T:=(tSl true (qa false))) rfl z3m),rfl⟩:VRep (u7 true false) _ _ (⟨[]⟩:Sc))⟩⟩;refine zz (zg (kw rfl zul fun f=>?_));refine qz (kw rfl q4a fun h=>?_)
 refine qz (zm (l7 (fs:=[]) (cs:=[(.pointer (some ⟨f,0,none⟩)),G,(.pointer (some ⟨d,0,none⟩)),(.pointer (some ⟨h,0,none⟩))]) rfl rfl) (ku (i:=0) (vs:=[(.func (.func 40) #[] #[(.pointer (some ⟨f,0,none⟩)),G,(.pointer (some ⟨d,0,none⟩)),(.pointer (some ⟨h,0,none⟩))])]) q4y rfl rfl rfl rfl rfl rfl (qf rfl ko) ?_))
 refine qz (zi vs0 (z8 ?_));obtain⟨s,b,a⟩:=zn a
 refine j5 (γ:=(List Int)×Value×Frag) (rs [9,11,30,41]) (fun g=>[(9,g.2.1)]) (fun g=>[box L [vs0] 45,box f [vs0] 45,box h [(.func (.func 40) #[] #[(.pointer (some ⟨f,0,none⟩)),G,(.pointer (some ⟨d,0,none⟩)),(.pointer (some ⟨h,0,none⟩))])] 80,box d [p] 77,g.2.2]++A) (fun g R=>s=g.1∧ORep (qo .i64) R g.2.2 g.2.1 g.1∧True) ?_ ?_
 refine zg (ja rfl vg jr rfl (h2.mono ((c.trans k).trans l)) fun aZ ap=>?_);refine qg rfl lq rfl ap fun a0 aq=>?_;refine zm (ql rfl underlying28 rfl (jd aq)) (zh (vi 0) (z8 (zy (z9f ?_))))
 refine jg (γ:=Nat×(List Int)×Int×Value×Frag) (rs [9,11,33,41]) (fun g=>[(9,g.2.2.2.1),(33,(vi g.2.2.1))]) (fun g=>[box L [vs0] 45,box f [vs0] 45,box h [(.func (.func 40) #[] #[(.pointer (some ⟨f,0,none⟩)),G,(.pointer (some ⟨d,0,none⟩)),(.pointer (some ⟨h,0,none⟩))])] 80,box d [p] 77,g.2.2.2.2]++A) (fun g R=>bq N m g.1 g.2.1 g.2.2.1=some s∧ORep (qo .i64) R g.2.2.2.2 g.2.2.2.1 g.2.1∧True) (fun g=>g.1) (N,[],0,vs0,emp) ⟨[],(pk 4 rfl (pk 2 rfl (pk 1 rfl (pk 1 rfl (pk 0 rfl (List.Perm.refl _))))))⟩ ⟨b,(z7o (T:=(qo .i64))),trivial⟩ ?_
 clear b;rintro⟨z,C,e,P,ar⟩ a1 a2 Q ⟨b,S,_⟩;rcases z with _|z;exact qy b;replace b:bq N m (z+1) C e=some s:=b;rw [bq] at b;refine zg (zm (j6 rfl rfl) (z8 (zt (zo rfl b (fun b=>?_) (fun b=>?_)))))
 refine zz (zt (zy (zg (zh (vi e) (zi (vi e) (z8 (zu (zh P (zh (vi e) (z1f (T:=(qo .i64)) (X:=([e]:List Int)) (ps:=[(0,(vi e))]) (css:=[[(vi e)]]) rfl underlying32 zo3 rfl rfl (vo ⟨rfl,trivial⟩) rfl rfl (by decide) fun av a3 H aw=>?_))))))))))
 refine au (i:=0) rfl aw fun ax E ay=>?_;have az:VRep (tSl true (qo .i64)) ax av ([e]:List Int):=(z5q ay H);obtain⟨U,b⟩:=zf b
 refine z4b (i:=4) (X:=C) (Y:=([e]:List Int)) rfl underlying32 zo3 rfl rfl rfl (S.mono E) (jd (Sub.v (B:=(tSl false (qo .i64))) (uw Sub.refl (fun _=>rfl)) az)) U.1 U.2 fun V aA aB=>?_;refine zi V (z8 (zu ?_));obtain⟨aC,b⟩:=zf b;refine zm (jl rfl rfl aC) (zh (vi (e+1)) (z8 ?_))
 exact⟨dkt,E,kg,(z,(C++([e]:List Int)),e+1,V,aA),Nat.lt_succ_self _,⟨rfl,rfl,trivial⟩,prm,b,aB,trivial⟩;refine jh ?_;exact⟨dkt,Q,kg,(C,P,ar),⟨rfl,trivial⟩,prm,(Option.some.inj b).symm,S,trivial⟩;rintro⟨s,t,a4⟩ a5 a6 u ⟨rfl,aD,_⟩
 refine zg (zm (qm (i:=2) q33 rfl rfl rfl) (zh t (zh t (au (i:=4) rfl aD fun W x aE=>?_))));have Z:VRep (tSl false (qo .i64)) W t s:=(zca aE);refine zzu ?_;obtain⟨aF,aG,a⟩:=zn a
 refine zdw (Oc:=[box f [vs0] 45,emp,box d [p] 77,box h [(.func (.func 40) #[] #[(.pointer (some ⟨f,0,none⟩)),G,(.pointer (some ⟨d,0,none⟩)),(.pointer (some ⟨h,0,none⟩))])] 80]) (Or:=[box L [vs0] 45]++A) (cs:=[(.pointer (some ⟨f,0,none⟩)),G,(.pointer (some ⟨d,0,none⟩)),(.pointer (some ⟨h,0,none⟩))]) (vs:=[t,t]) rfl q1b rfl rfl ((pk 2 rfl (pk 0 rfl (pk 2 rfl (pk 1 rfl (pk 0 rfl (List.Perm.refl _))))))) (zey Z Z (zdp (List.nil_prefix) (q0g (K:=rSprobes_Node) (R:=W))) (h2.mono ((((c.trans k).trans l).trans u).trans x)) ((z0v.1 y).mono ((l.trans u).trans x)) aG) fun a7 a8 aM aa aH=>?_
 obtain⟨aI,a9,rfl,rfl,⟨ba,aN,aJ⟩⟩:=aH;refine qz (zm (qx ai rfl) (zm (qm (i:=0) zrv rfl rfl rfl) (zp2 zg0 (i:=1) rfl aJ fun aK ab ac=>?_)));have ad:VRep (tSl false (qa false)) aK aI aF.2:=(zca ac);obtain⟨ae,af,a⟩:=zn a
 refine je rfl q4s rfl (z7x ad af) fun j aO I o=>?_;refine zm (qx ai rfl) (ku (i:=0) (vs:=[j]) q2f rfl rfl (z1c o) rfl rfl rfl (qf (z5i o) ko) ?_)
 refine qz (zm (bz (i:=0) zj6 zbm rfl rfl rfl rfl) (ku (i:=3) (vs:=[j]) zbm rfl rfl rfl rfl rfl rfl (qf (z5i o) ko) ?_));refine zi (vi 0) (z8 (qj ?_));obtain rfl:=Option.some.inj a
 refine zw (D:=[]) (J:=[box f [j] 45,box d [p] 77,box h [(.func (.func 40) #[] #[(.pointer (some ⟨f,0,none⟩)),G,(.pointer (some ⟨d,0,none⟩)),(.pointer (some ⟨h,0,none⟩))])] 80,box L [j] 45]) (rs:=[.cell 2 45,.tmp 3]) (vs:=[(.agg #[j]),(vi 0)]) ((((((((n.trans c).trans k).trans l).trans u).trans x).trans aa).trans ab).trans I) rfl rfl ⟨⟨_,rfl,fun w O=>z1m (i:=3) O rfl rfl zj6 zbm rfl rfl⟩,rfl,trivial⟩ ?_
 exact⟨rfl,⟨(.agg #[j]),rfl,(⟨_,(uu (T:=(tSl true (qa false))) rfl o),rfl⟩:VRep (u7 true false) _ _ (⟨ae⟩:Sc))⟩⟩
theorem q2c:Enters prog 15:=enters_of func15 rfl (by kernel_rfl)
theorem ztv: ∀ w,∃ z,(zeroValue 55).run prog w= .ok z w∧z.cells=([.int .i64 0,.int .i64 0,.slice none 0 0]:List Value).toArray:=fun w=>⟨(.agg #[(vi 0),(vi 0),vs0]),by kernel_rfl,rfl⟩
theorem zmf: ∀ w,(sizeOf 55).run prog w= .ok 3 w:=fun w=>by kernel_rfl
theorem q0n: ∀ w,(isAgg 55).run prog w= .ok true w:=fun w=>by kernel_rfl
theorem z4y{N:Nat}{R:RH}{input:Int}{next:(List Int)}{a:Value}(b:VRep (tSl false (qo .i64)) R a next){r:Sa}(c:z1i N input next=some r):CallP prog 36 #[(vi input),a] R (fun v R'=>VRep (qa false) R' v r):=by
 refine qd (args:=[(vi input),a]) func36 rfl rfl fun A=>?_;rw [z1i] at c;refine zg (kw rfl ztv fun d=>?_)
 refine qz (zh (vi input) (zh a (zm (z5c [(0,(vi input)),(1,(vi (-1))),(2,(.agg #[a]))] (ps:=[(0,(vi input)),(1,(vi (-1))),(2,a)]) (v:=(.agg #[(vi input),(vi (-1)),a])) rfl (by simp only [List.map_cons,List.map_nil,z1c b];rfl) (fun w=>by kernel_rfl)) (ku (i:=0) (vs:=[(vi input),(vi (-1)),a]) zmf rfl rfl rfl rfl rfl rfl (qf rfl (qf rfl (qf (z5i b) ko))) ?_))))
 refine z8 (qj ?_);obtain rfl:=Option.some.inj c;refine zw (D:=[]) (J:=[box d [(vi input),(vi (-1)),a] 55]) (rs:=[.cell 4 55]) (vs:=[(.agg #[(vi input),(vi (-1)),a])]) (RH.le.refl _) rfl rfl ⟨⟨_,rfl,fun w e=>z1m (i:=0) e rfl rfl q0n zmf rfl rfl⟩,trivial⟩ ?_
 exact⟨rfl,(⟨_,⟨_,_,rfl,rfl,⟨_,_,rfl,rfl,(uu rfl b)⟩⟩,rfl⟩:VRep (qa false) _ _ (⟨input,(-1),next⟩:Sa))⟩
theorem q2j:Enters prog 36:=enters_of func36 rfl (by kernel_rfl)
theorem z2v{N:Nat}{R:RH}{s:Int}{r:Sa}(b:z0q N s=some r):CallP prog 37 #[(vi s)] R (fun v R'=>VRep (qa true) R' v r):=by
 refine qd (args:=[(vi s)]) func37 rfl rfl fun A=>?_;rw [z0q] at b;refine zg (kw rfl ztv fun h=>?_)
 refine qz (zh (vi s) (z1f (T:=(qo .i64)) (X:=([(-1),(-1)]:List Int)) (ps:=[(0,(vi (-1))),(1,(vi (-1)))]) (css:=[[(vi (-1))],[(vi (-1))]]) rfl underlying32 zo3 rfl rfl (vo ⟨rfl,rfl,trivial⟩) rfl rfl (by decide) fun a l c d=>?_))
 refine zm (z5c [(0,(vi (-1))),(1,(vi s)),(2,(.agg #[a]))] (ps:=[(0,(vi (-1))),(1,(vi s)),(2,a)]) (v:=(.agg #[(vi (-1)),(vi s),a])) rfl (by simp only [List.map_cons,List.map_nil,z03 d];rfl) (fun w=>by kernel_rfl)) (ku (i:=1) (vs:=[(vi (-1)),(vi s),a]) zmf rfl rfl rfl rfl rfl rfl (qf rfl (qf rfl (qf (z1z d) ko))) ?_)
 refine z8 (z5j (i:=0) rfl d fun j e f=>?_);have g:VRep (tSl true (qo .i64)) j a ([(-1),(-1)]:List Int):=(z5q f c);refine qj ?_;obtain rfl:=Option.some.inj b
 refine zw (D:=[]) (J:=[box h [(vi (-1)),(vi s),a] 55]) (rs:=[.cell 2 55]) (vs:=[(.agg #[(vi (-1)),(vi s),a])]) e rfl rfl ⟨⟨_,rfl,fun w k=>z1m (i:=0) k rfl rfl q0n zmf rfl rfl⟩,trivial⟩ ?_
 exact⟨rfl,(⟨_,⟨_,_,rfl,rfl,⟨_,_,rfl,rfl,(uu rfl g)⟩⟩,rfl⟩:VRep (qa true) _ _ (⟨(-1),s,([(-1),(-1)]:List Int)⟩:Sa))⟩
theorem zzq:Enters prog 37:=enters_of func37 rfl (by kernel_rfl)
theorem q4r{a:Bool}:ZeroOk prog 55 (qa a) (⟨(0:Int),(0:Int),([]:List Int)⟩:Sa) 40:=by
 obtain⟨i,zv,hi,c,d,f,g⟩:=z2k (P:=prog) (e:=55) (zv:=(.agg #[(vi 0),(vi 0),vs0])) (k:=3) (b:=40) (by kernel_rfl);exact⟨i,zv,hi,c,d,f,fun R=>by subst g;exact⟨_,_,rfl,rfl,⟨_,_,rfl,rfl,(uu rfl z3m)⟩⟩⟩
theorem z7j{a b:Bool}:TyOk prog 43 (tSl a (qa b)):=by
 obtain⟨i,hi,c⟩: ∃ i,prog.info? 43=some i∧i.size=1:=yw (by kernel_rfl);exact z1w underlying43 hi rfl c
theorem z7e:FieldOk prog 55 2 2:=by
 obtain⟨i,hi,a⟩: ∃ i,prog.info? 32=some i∧i.size=1:=yw (by kernel_rfl);exact fw underlying55 rfl rfl hi (by rw [a];rfl)
theorem z4g{N:Nat}{R:RH}{t:Sc}{I:Value}(ad:VRep (u7 false false) R I t){outputs:(List Int)}{k:Value}(o:VRep (tSl false (qo .i64)) R k outputs){r:Int×Int}(f:z2g N t outputs=some r):CallP prog 21 #[I,k] R (fun v R'=>v= .tuple #[(vi r.1),(vi r.2)]):=by
 refine qd (args:=[I,k]) func21 rfl rfl fun A=>?_;rw [z2g] at f;refine zg (kv (T:=(u7 false false)) rfl rfl rfl ad fun v1 R3 x h5 h2=>?_);refine zi (vi 0) (zi (vi 0) (z8 (zt (zg (ja rfl ai jm rfl h2 fun v6 h7=>?_)))));refine qg rfl z7j rfl h7 fun v8 h9=>?_
 refine zm (ql rfl underlying43 rfl (jd h9)) (zm (ui rfl rfl) (z8 (zo rfl f (fun f=>?_) (fun f=>?_))));refine zg (zi (vi 0) (zi (vi 4) (z8 (qj ?_))));obtain rfl:=Option.some.inj f;refine zw (D:=[]) (J:=[]) (rs:=[.tmp 4,.tmp 5]) (vs:=[(vi 0),(vi 4)]) x rfl rfl ⟨rfl,rfl,trivial⟩ ?_
 exact⟨rfl,rfl⟩;refine zz (zg (zi (vi 0) (z8 ?_)));obtain⟨K,d,f⟩:=zn f;refine j5 (γ:=Int) (rs [4,7,8,10,15,63]) (fun g=>[(6,(vi g))]) (fun g=>[]++A) (fun g R=>K=Ex.go g∧True) ?_ ?_
 refine zg (zh k (zm (ql rfl underlying32 rfl (jd (o.mono x))) (zh (vi 0) (z8 (zy (jg (γ:=Nat×Int×Int) (rs [4,7,8,10,17,63]) (fun g=>[(6,(vi g.2.1)),(17,(vi g.2.2))]) (fun g=>[]++A) (fun g R=>z0r N t outputs g.1 g.2.1 g.2.2=some K∧True) (fun g=>g.1) (N,0,0) prm ⟨d,trivial⟩ ?_))))))
 clear d;rintro⟨E,b,a⟩ av aX u ⟨d,_⟩;rcases E with _|E;exact qy d;replace d:z0r N t outputs (E+1) b a=some K:=d;rw [z0r] at d;refine zg (zm (j6 rfl rfl) (z8 (zt (zo rfl d (fun d=>?_) (fun d=>?_)))));refine zz (zt (zy (zg ?_)));obtain⟨M,d⟩:=zf d
 refine jv (i:=a.toNat) rfl z2p rfl (jd (o.mono (x.trans u))) (zk rfl M.1) (qh M) fun aY ae=>?_;refine qg rfl ty3 rfl ae fun aZ af=>?_;obtain rfl:=jy.1 af;refine zi (vi (ix outputs a)) (qz (ja rfl ai jm rfl (h2.mono u) fun a0 ag=>?_));refine qg rfl z7j rfl ag fun a1 ah=>?_
 refine zh (vi b) ?_;obtain⟨O,d⟩:=zf d;refine jv (i:=b.toNat) rfl zcn rfl (jd ah) (zk rfl O.1) (qh O) fun a2 aj=>?_;refine qg rfl zya rfl aj fun a3 ak=>?_;refine kw rfl ztv fun w=>?_;obtain⟨q,rfl,y⟩:=mf ak
 refine ku (i:=0) (vs:=[(vi ((ix t.fA b).fB)),(vi ((ix t.fA b).fD)),q]) zmf rfl rfl rfl rfl rfl rfl (qf rfl (qf rfl (qf (z5i y) ko))) ?_
 refine z8 (zt (zg (zm (qx z8f rfl) (zm (qm (i:=0) ag3 rfl rfl rfl) (zm (ui rfl rfl) (z8 (zo rfl d (fun d=>?_) (fun d=>?_))))))));refine zg (zi (vi 0) (zi (vi 16) (z8 (qj ?_))));replace f:=ry d f;obtain rfl:=Option.some.inj f
 refine zw (D:=[]) (J:=[box w [(vi ((ix t.fA b).fB)),(vi ((ix t.fA b).fD)),q] 55]) (rs:=[.tmp 4,.tmp 5]) (vs:=[(vi 0),(vi 16)]) (x.trans u) rfl rfl ⟨rfl,rfl,trivial⟩ ?_;exact⟨rfl,rfl⟩;refine zz (zt (zt ?_));obtain⟨P,Q,d⟩:=zv8 d
 refine fq 28 [] [phX (vi (ix outputs a)),phX (.bool (decide ((ix outputs a)<0))),phX (.bool (decide ((ix outputs a)<0))),phG (true&&((decide ((ix outputs a)<0))==false)) (phX (vi (ix outputs a))),phG (true&&((decide ((ix outputs a)<0))==false)) (phX (.pointer (some ⟨w,2,none⟩))),phG (true&&((decide ((ix outputs a)<0))==false)) (phX q),phG (true&&((decide ((ix outputs a)<0))==false)) (phX (vi (↑((ix t.fA b).fC).length:Int))),phG (true&&((decide ((ix outputs a)<0))==false)) (phX (.bool (decide ((↑((ix t.fA b).fC).length:Int)≤(ix outputs a))))),phX (.bool ((decide ((ix outputs a)<0))||(decide ((↑((ix t.fA b).fC).length:Int)≤(ix outputs a))))),phX (.bool ((decide ((ix outputs a)<0))||(decide ((↑((ix t.fA b).fC).length:Int)≤(ix outputs a))))),phG (true&&(((decide ((ix outputs a)<0))||(decide ((↑((ix t.fA b).fC).length:Int)≤(ix outputs a))))==false)) (phX (.pointer (some ⟨w,2,none⟩))),phG (true&&(((decide ((ix outputs a)<0))||(decide ((↑((ix t.fA b).fC).length:Int)≤(ix outputs a))))==false)) (phX q),phG (true&&(((decide ((ix outputs a)<0))||(decide ((↑((ix t.fA b).fC).length:Int)≤(ix outputs a))))==false)) (phX (vi (ix outputs a))),phG (true&&(((decide ((ix outputs a)<0))||(decide ((↑((ix t.fA b).fC).length:Int)≤(ix outputs a))))==false)) (phP (qo .i64) (ix ((ix t.fA b).fC) (ix outputs a))),phG (true&&(((decide ((ix outputs a)<0))||(decide ((↑((ix t.fA b).fC).length:Int)≤(ix outputs a))))==false)) (phX (vi (ix ((ix t.fA b).fC) (ix outputs a)))),phG (true&&(((decide ((ix outputs a)<0))||(decide ((↑((ix t.fA b).fC).length:Int)≤(ix outputs a))))==false)) (phX (.bool (decide ((ix ((ix t.fA b).fC) (ix outputs a))<0)))),phX (.bool (((decide ((ix outputs a)<0))||(decide ((↑((ix t.fA b).fC).length:Int)≤(ix outputs a))))||(decide ((ix ((ix t.fA b).fC) (ix outputs a))<0)))),phX (.bool (((decide ((ix outputs a)<0))||(decide ((↑((ix t.fA b).fC).length:Int)≤(ix outputs a))))||(decide ((ix ((ix t.fA b).fC) (ix outputs a))<0)))),phG (true&&((((decide ((ix outputs a)<0))||(decide ((↑((ix t.fA b).fC).length:Int)≤(ix outputs a))))||(decide ((ix ((ix t.fA b).fC) (ix outputs a))<0)))==false)) (phX (.pointer (some ⟨w,2,none⟩))),phG (true&&((((decide ((ix outputs a)<0))||(decide ((↑((ix t.fA b).fC).length:Int)≤(ix outputs a))))||(decide ((ix ((ix t.fA b).fC) (ix outputs a))<0)))==false)) (phX q),phG (true&&((((decide ((ix outputs a)<0))||(decide ((↑((ix t.fA b).fC).length:Int)≤(ix outputs a))))||(decide ((ix ((ix t.fA b).fC) (ix outputs a))<0)))==false)) (phX (vi (ix outputs a))),phG (true&&((((decide ((ix outputs a)<0))||(decide ((↑((ix t.fA b).fC).length:Int)≤(ix outputs a))))||(decide ((ix ((ix t.fA b).fC) (ix outputs a))<0)))==false)) (phP (qo .i64) (ix ((ix t.fA b).fC) (ix outputs a))),phG (true&&((((decide ((ix outputs a)<0))||(decide ((↑((ix t.fA b).fC).length:Int)≤(ix outputs a))))||(decide ((ix ((ix t.fA b).fC) (ix outputs a))<0)))==false)) (phX (vi (ix ((ix t.fA b).fC) (ix outputs a)))),phG (true&&((((decide ((ix outputs a)<0))||(decide ((↑((ix t.fA b).fC).length:Int)≤(ix outputs a))))||(decide ((ix ((ix t.fA b).fC) (ix outputs a))<0)))==false)) (phP (tSl false (qa false)) t.fA),phG (true&&((((decide ((ix outputs a)<0))||(decide ((↑((ix t.fA b).fC).length:Int)≤(ix outputs a))))||(decide ((ix ((ix t.fA b).fC) (ix outputs a))<0)))==false)) (phR (tSl false (qa false)) t.fA),phG (true&&((((decide ((ix outputs a)<0))||(decide ((↑((ix t.fA b).fC).length:Int)≤(ix outputs a))))||(decide ((ix ((ix t.fA b).fC) (ix outputs a))<0)))==false)) (phX (vi (↑t.fA.length:Int))),phG (true&&((((decide ((ix outputs a)<0))||(decide ((↑((ix t.fA b).fC).length:Int)≤(ix outputs a))))||(decide ((ix ((ix t.fA b).fC) (ix outputs a))<0)))==false)) (phX (.bool (decide ((↑t.fA.length:Int)≤(ix ((ix t.fA b).fC) (ix outputs a)))))),phX (.bool ((((decide ((ix outputs a)<0))||(decide ((↑((ix t.fA b).fC).length:Int)≤(ix outputs a))))||(decide ((ix ((ix t.fA b).fC) (ix outputs a))<0)))||(decide ((↑t.fA.length:Int)≤(ix ((ix t.fA b).fC) (ix outputs a))))))] mixed (by kernel_rfl) (ow ⟨q8,q8,q8,(jc q8),(jc q8),(jc q8),(jc q8),(jc q8),q8,q8,(jc q8),(jc q8),(jc q8),(jc vk),(jc q8),(jc q8),q8,q8,(jc q8),(jc q8),(jc q8),(jc vk),(jc q8),(jc vk),(jc p8),(jc q8),(jc q8),q8,trivial⟩) ⟨?_,?_,?_,?_,?_,?_,?_,?_,?_,?_,?_,?_,?_,?_,?_,?_,?_,?_,?_,?_,?_,?_,?_,?_,?_,?_,?_,?_,trivial⟩ fun a4 z=>?_
 intro l a5 c m hd;exact zb rfl rfl rfl (qi (za (m 8 rfl)));rintro l a6 c m ⟨e,_⟩;exact zb rfl rfl rfl (qi (j6 (e rfl) rfl));rintro l a7 c m ⟨e,_⟩;exact zb rfl rfl rfl (qi (za (e rfl)));rintro l a8 c m ⟨e,_⟩
 exact zx (Gj:=true) (Bj:=decide ((ix outputs a)<0)) rfl rfl rfl (uz (e rfl)) rfl (fun p j=>qi (za (m 8 rfl)));rintro l a9 c m ⟨e,_⟩;exact zx (Gj:=true) (Bj:=decide ((ix outputs a)<0)) rfl rfl rfl (uz (e rfl)) rfl (fun p j=>qi (qx z7e (m 9 rfl)));rintro l ba c m ⟨e,n,_⟩
 exact zx (Gj:=true) (Bj:=decide ((ix outputs a)<0)) rfl rfl rfl (uz (n rfl)) rfl (fun p j=>qi (qm (i:=0) zaz (show l 33=(.pointer (some ⟨w,2,none⟩)) from(e rfl).1 (ze rfl j)) rfl rfl));rintro l bb c m ⟨e,n,_⟩
 exact zx (Gj:=true) (Bj:=decide ((ix outputs a)<0)) rfl rfl rfl (uz (n rfl)) rfl (fun p j=>qi (ql rfl underlying32 (show l 34=q from(e rfl).1 (ze rfl j)) (jd (y.mono c))));rintro l bc c m ⟨e,n,L,_⟩
 exact zx (Gj:=true) (Bj:=decide ((ix outputs a)<0)) rfl rfl rfl (uz (L rfl)) rfl (fun p j=>qi (z02 (show l 32=(vi (ix outputs a)) from(e rfl).1 (ze rfl j)) (show l 35=(vi (↑((ix t.fA b).fC).length:Int)) from(n rfl).1 (ze rfl j))));rintro l be c m ⟨e,n,_⟩
 exact zb rfl rfl rfl (qi (xh (e rfl) rfl (fun S=>(show l 36=(.bool (decide ((↑((ix t.fA b).fC).length:Int)≤(ix outputs a)))) from(n rfl).1 (ze rfl S)))));rintro l bf c m ⟨e,n,_⟩;exact zb rfl rfl rfl (qi (za (e rfl)));rintro l aw c m ⟨e,_⟩
 exact zx (Gj:=true) (Bj:=(decide ((ix outputs a)<0))||(decide ((↑((ix t.fA b).fC).length:Int)≤(ix outputs a)))) rfl rfl rfl (uz (e rfl)) rfl (fun p j=>qi (qx z7e (m 9 rfl)));rintro l ax c m ⟨e,n,_⟩
 exact zx (Gj:=true) (Bj:=(decide ((ix outputs a)<0))||(decide ((↑((ix t.fA b).fC).length:Int)≤(ix outputs a)))) rfl rfl rfl (uz (n rfl)) rfl (fun p j=>qi (qm (i:=0) zaz (show l 39=(.pointer (some ⟨w,2,none⟩)) from(e rfl).1 (ze rfl j)) rfl rfl));rintro l ay c m ⟨e,_⟩
 exact zx (Gj:=true) (Bj:=(decide ((ix outputs a)<0))||(decide ((↑((ix t.fA b).fC).length:Int)≤(ix outputs a)))) rfl rfl rfl (uz (e rfl)) rfl (fun p j=>qi (za (m 8 rfl)));rintro l az c m ⟨e,n,L,_⟩
 exact zx (Gj:=true) (Bj:=(decide ((ix outputs a)<0))||(decide ((↑((ix t.fA b).fC).length:Int)≤(ix outputs a)))) rfl rfl rfl (uz (L rfl)) rfl (fun p j=>pq (i:=(ix outputs a).toNat) z2p (show l 40=q from(e rfl).1 (ze rfl j)) (jd (y.mono c)) (zk (show l 41=(vi (ix outputs a)) from(n rfl).1 (ze rfl j)) (P (ze p j)).1) (qh (P (ze p j))))
 rintro l aA c m ⟨e,n,_⟩;exact zx (Gj:=true) (Bj:=(decide ((ix outputs a)<0))||(decide ((↑((ix t.fA b).fC).length:Int)≤(ix outputs a)))) rfl rfl rfl (uz (n rfl)) rfl (fun p j=>ng (ky ty3 rfl ((e rfl).1 (ze rfl j))) (fun _ _ h=>jy.1 h));rintro l aB c m ⟨e,n,_⟩
 exact zx (Gj:=true) (Bj:=(decide ((ix outputs a)<0))||(decide ((↑((ix t.fA b).fC).length:Int)≤(ix outputs a)))) rfl rfl rfl (uz (n rfl)) rfl (fun p j=>qi (j6 (show l 43=(vi (ix ((ix t.fA b).fC) (ix outputs a))) from(e rfl).1 (ze rfl j)) rfl));rintro l aC c m ⟨e,n,_⟩
 exact zb rfl rfl rfl (qi (xh (e rfl) rfl (fun S=>(show l 44=(.bool (decide ((ix ((ix t.fA b).fC) (ix outputs a))<0))) from(n rfl).1 (ze rfl S)))));rintro l aD c m ⟨e,n,_⟩;exact zb rfl rfl rfl (qi (za (e rfl)));rintro l aE c m ⟨e,_⟩
 exact zx (Gj:=true) (Bj:=((decide ((ix outputs a)<0))||(decide ((↑((ix t.fA b).fC).length:Int)≤(ix outputs a))))||(decide ((ix ((ix t.fA b).fC) (ix outputs a))<0))) rfl rfl rfl (uz (e rfl)) rfl (fun p j=>qi (qx z7e (m 9 rfl)));rintro l aF c m ⟨e,n,_⟩
 exact zx (Gj:=true) (Bj:=((decide ((ix outputs a)<0))||(decide ((↑((ix t.fA b).fC).length:Int)≤(ix outputs a))))||(decide ((ix ((ix t.fA b).fC) (ix outputs a))<0))) rfl rfl rfl (uz (n rfl)) rfl (fun p j=>qi (qm (i:=0) zaz (show l 47=(.pointer (some ⟨w,2,none⟩)) from(e rfl).1 (ze rfl j)) rfl rfl))
 rintro l aG c m ⟨e,_⟩;exact zx (Gj:=true) (Bj:=((decide ((ix outputs a)<0))||(decide ((↑((ix t.fA b).fC).length:Int)≤(ix outputs a))))||(decide ((ix ((ix t.fA b).fC) (ix outputs a))<0))) rfl rfl rfl (uz (e rfl)) rfl (fun p j=>qi (za (m 8 rfl)));rintro l aH c m ⟨e,n,L,_⟩
 exact zx (Gj:=true) (Bj:=((decide ((ix outputs a)<0))||(decide ((↑((ix t.fA b).fC).length:Int)≤(ix outputs a))))||(decide ((ix ((ix t.fA b).fC) (ix outputs a))<0))) rfl rfl rfl (uz (L rfl)) rfl (fun p j=>pq (i:=(ix outputs a).toNat) z2p (show l 48=q from(e rfl).1 (ze rfl j)) (jd (y.mono c)) (zk (show l 49=(vi (ix outputs a)) from(n rfl).1 (ze rfl j)) (Q (ze p j)).1) (qh (Q (ze p j))))
 rintro l aI c m ⟨e,n,_⟩;exact zx (Gj:=true) (Bj:=((decide ((ix outputs a)<0))||(decide ((↑((ix t.fA b).fC).length:Int)≤(ix outputs a))))||(decide ((ix ((ix t.fA b).fC) (ix outputs a))<0))) rfl rfl rfl (uz (n rfl)) rfl (fun p j=>ng (ky ty3 rfl ((e rfl).1 (ze rfl j))) (fun _ _ h=>jy.1 h))
 rintro l aJ c m ⟨e,_⟩;exact zx (Gj:=true) (Bj:=((decide ((ix outputs a)<0))||(decide ((↑((ix t.fA b).fC).length:Int)≤(ix outputs a))))||(decide ((ix ((ix t.fA b).fC) (ix outputs a))<0))) rfl rfl rfl (uz (e rfl)) rfl (fun p j=>yu ai jm (m 2 rfl) ((h2.mono u).mono c));rintro l aK c m ⟨e,n,_⟩
 exact zx (Gj:=true) (Bj:=((decide ((ix outputs a)<0))||(decide ((↑((ix t.fA b).fC).length:Int)≤(ix outputs a))))||(decide ((ix ((ix t.fA b).fC) (ix outputs a))<0))) rfl rfl rfl (uz (n rfl)) rfl (fun p j=>ky z7j rfl ((e rfl).1 (ze rfl j)));rintro l aL c m ⟨e,n,_⟩
 exact zx (Gj:=true) (Bj:=((decide ((ix outputs a)<0))||(decide ((↑((ix t.fA b).fC).length:Int)≤(ix outputs a))))||(decide ((ix ((ix t.fA b).fC) (ix outputs a))<0))) rfl rfl rfl (uz (n rfl)) rfl (fun p j=>qi (ql rfl underlying43 rfl (jd ((e rfl).1 (ze rfl j)))));rintro l aM c m ⟨e,n,L,_⟩
 exact zx (Gj:=true) (Bj:=((decide ((ix outputs a)<0))||(decide ((↑((ix t.fA b).fC).length:Int)≤(ix outputs a))))||(decide ((ix ((ix t.fA b).fC) (ix outputs a))<0))) rfl rfl rfl (uz (L rfl)) rfl (fun p j=>qi (z02 (show l 51=(vi (ix ((ix t.fA b).fC) (ix outputs a))) from(e rfl).1 (ze rfl j)) (show l 54=(vi (↑t.fA.length:Int)) from(n rfl).1 (ze rfl j))))
 rintro l aN c m ⟨e,n,_⟩;exact zb rfl rfl rfl (qi (xh (e rfl) rfl (fun S=>(show l 55=(.bool (decide ((↑t.fA.length:Int)≤(ix ((ix t.fA b).fC) (ix outputs a))))) from(n rfl).1 (ze rfl S)))))
 intro bg al bh am bi an bj bk bl bm bn bo bp bq br bs bt ao bu ap bv bw bx bz bA bB bC bD bE bF bG bH bI aq bJ ar bK bL bM bN bO bP bQ bR bS bT bU bV bW bX bY bZ b0 b1 b2 au;obtain rfl:=Eq.symm al;obtain rfl:=Eq.symm am;obtain rfl:=Eq.symm an;obtain rfl:=Eq.symm ao;obtain rfl:=Eq.symm ap;obtain rfl:=Eq.symm aq
 obtain rfl:=Eq.symm ar;obtain rfl:=Eq.symm au;refine z8 (zo rfl d (fun d=>?_) (fun d=>?_));refine zg (zi (vi 0) (zi (vi 7) (z8 (qj ?_))));replace f:=ry d f;obtain rfl:=Option.some.inj f
 refine zw (D:=[]) (J:=[box w [(vi ((ix t.fA b).fB)),(vi ((ix t.fA b).fD)),q] 55]) (rs:=[.tmp 4,.tmp 5]) (vs:=[(vi 0),(vi 7)]) ((x.trans u).trans z) rfl rfl ⟨rfl,rfl,trivial⟩ ?_;exact⟨rfl,rfl⟩
 refine zz (zu (zm (qx z7e rfl) (zm (qm (i:=0) zaz rfl rfl rfl) (zh (vi (ix outputs a)) ?_))));obtain⟨F,d⟩:=zf d;refine jv (i:=(ix outputs a).toNat) rfl z2p rfl (jd (y.mono z)) (zk rfl F.1) (qh F) fun aO U=>?_;refine qg rfl ty3 rfl U fun aP V=>?_;obtain rfl:=jy.1 V
 refine zi (vi (ix ((ix t.fA b).fC) (ix outputs a))) (z8 (zu ?_));obtain⟨W,d⟩:=zf d;refine zm (jl rfl rfl W) (zh (vi (a+1)) (z8 ?_))
 exact⟨dkt,z,kg,(E,(ix ((ix t.fA b).fC) (ix outputs a)),a+1),Nat.lt_succ_self _,⟨rfl,rfl,trivial⟩,⟨[box w [(vi ((ix t.fA b).fB)),(vi ((ix t.fA b).fD)),q] 55],(List.Perm.refl _)⟩,d,trivial⟩;refine jh ?_;exact⟨dkt,u,kg,b,⟨rfl,trivial⟩,prm,(Option.some.inj d).symm,trivial⟩
 rintro s aQ b3 B ⟨rfl,_⟩;replace f:=z0e f;refine zt (zg (ja rfl ai jm rfl (h2.mono B) fun aR X=>?_));refine qg rfl z7j rfl X fun aS Y=>?_;refine zh (vi s) ?_;obtain⟨G,f⟩:=zf f;refine jv (i:=s.toNat) rfl zcn rfl (jd Y) (zk rfl G.1) (qh G) fun aT Z=>?_
 refine qg rfl zya rfl Z fun aU aa=>?_;refine kw rfl ztv fun H=>?_;obtain⟨C,rfl,ab⟩:=mf aa;refine ku (i:=0) (vs:=[(vi ((ix t.fA s).fB)),(vi ((ix t.fA s).fD)),C]) zmf rfl rfl rfl rfl rfl rfl (qf rfl (qf rfl (qf (z5i ab) ko))) ?_
 refine qz (zm (qx z8f rfl) (zm (qm (i:=0) ag3 rfl rfl rfl) (zm (ui rfl rfl) (z8 (zo rfl f (fun f=>?_) (fun f=>?_))))));refine zg (zm (qx zan rfl) (zm (qm (i:=0) ag3 rfl rfl rfl) (zi (vi ((ix t.fA s).fD)) (zi (vi 0) (z8 (qj ?_))))));obtain rfl:=Option.some.inj f
 refine zw (D:=[]) (J:=[box H [(vi ((ix t.fA s).fB)),(vi ((ix t.fA s).fD)),C] 55]) (rs:=[.tmp 4,.tmp 5]) (vs:=[(vi ((ix t.fA s).fD)),(vi 0)]) (x.trans B) rfl rfl ⟨rfl,rfl,trivial⟩ ?_;exact⟨rfl,rfl⟩;refine zz (zg (zi (vi 0) (zi (vi 16) (z8 (qj ?_)))))
 obtain rfl:=Option.some.inj f;refine zw (D:=[]) (J:=[box H [(vi ((ix t.fA s).fB)),(vi ((ix t.fA s).fD)),C] 55]) (rs:=[.tmp 4,.tmp 5]) (vs:=[(vi 0),(vi 16)]) (x.trans B) rfl rfl ⟨rfl,rfl,trivial⟩ ?_;exact⟨rfl,rfl⟩
theorem q05:Enters prog 21:=enters_of func21 rfl (by kernel_rfl)
theorem zae{N:Nat}{R:RH}{a:Sc}{E:Value}(aa:VRep (u7 false false) R E a){b:Sc}{F:Value}(ab:VRep (u7 false false) R F b){r:Bool}(p:z3t N a b=some r):CallP prog 17 #[E,F] R (fun v R'=>v=(.bool r)):=by
 refine qd (args:=[E,F]) func17 rfl rfl fun A=>?_;rw [z3t] at p;refine zg (kv (T:=(u7 false false)) rfl rfl rfl aa fun v1 R3 w h5 H=>?_);refine kv (T:=(u7 false false)) rfl rfl rfl (ab.mono w) fun v6 R8 s bF Z=>?_
 refine zi (.bool false) (z8 (zt (zg (ja rfl ai jm rfl (H.mono s) fun bG ac=>?_))));refine qg rfl z7j rfl ac fun bH ad=>?_;refine zm (ql rfl underlying43 rfl (jd ad)) (ja rfl ai jm rfl Z fun bI ae=>?_);refine qg rfl z7j rfl ae fun bJ af=>?_
 refine zm (ql rfl underlying43 rfl (jd af)) (zm (wy rfl rfl) (z8 (zo rfl p (fun p=>?_) (fun p=>?_))));refine zg (zi (.bool false) (z8 (qj ?_)));obtain rfl:=Option.some.inj p;refine zw (D:=[]) (J:=[]) (rs:=[.tmp 4]) (vs:=[(.bool false)]) (w.trans s) rfl rfl ⟨rfl,trivial⟩ ?_;exact⟨rfl,rfl⟩;refine zz ?_
 obtain⟨G,m,p⟩:=zn p;refine j5 (γ:=Unit) (rs [4,6,13,66]) (fun g=>[]) (fun g=>[]++A) (fun g R=>G=Ex.go g∧True) ?_ ?_
 refine zg (zi (vi 0) (z8 (zy (jg (γ:=Nat×Int) (rs [4,6,13,66]) (fun g=>[(5,(vi g.2))]) (fun g=>[]++A) (fun g R=>rq N a b g.1 g.2=some G∧True) (fun g=>g.1) (N,0) prm ⟨m,trivial⟩ ?_))));clear m;rintro⟨x,c⟩ aw bK o ⟨m,_⟩;rcases x with _|x;exact qy m
 replace m:rq N a b (x+1) c=some G:=m;rw [rq] at m;refine zt (zg (zh (vi c) (ja rfl ai jm rfl (H.mono (s.trans o)) fun bL ag=>?_)));refine qg rfl z7j rfl ag fun bM ah=>?_
 refine zm (ql rfl underlying43 rfl (jd ah)) (zm (j6 rfl rfl) (z8 (zo rfl m (fun m=>?_) (fun m=>?_))));refine zz (zt (zy (zt ?_)));obtain⟨I,K,L,M,O,P,m⟩:=q2h m
 obtain⟨t,aj,m⟩:=zn m;let q:=(true&&(((decide (((ix a.fA c).fB)≠((ix b.fA c).fB)))||(decide (((ix a.fA c).fD)≠((ix b.fA c).fD))))==false))
 refine fq 46 [] [phP (tSl false (qa false)) a.fA,phR (tSl false (qa false)) a.fA,phX (vi c),phP (qa false) (ix a.fA c),phP (qo .i64) ((ix a.fA c).fB),phX (vi ((ix a.fA c).fB)),phP (tSl false (qa false)) b.fA,phR (tSl false (qa false)) b.fA,phX (vi c),phP (qa false) (ix b.fA c),phP (qo .i64) ((ix b.fA c).fB),phX (vi ((ix b.fA c).fB)),phX (.bool (decide (((ix a.fA c).fB)≠((ix b.fA c).fB)))),phX (.bool (decide (((ix a.fA c).fB)≠((ix b.fA c).fB)))),phG (true&&((decide (((ix a.fA c).fB)≠((ix b.fA c).fB)))==false)) (phP (tSl false (qa false)) a.fA),phG (true&&((decide (((ix a.fA c).fB)≠((ix b.fA c).fB)))==false)) (phR (tSl false (qa false)) a.fA),phG (true&&((decide (((ix a.fA c).fB)≠((ix b.fA c).fB)))==false)) (phX (vi c)),phG (true&&((decide (((ix a.fA c).fB)≠((ix b.fA c).fB)))==false)) (phP (qa false) (ix a.fA c)),phG (true&&((decide (((ix a.fA c).fB)≠((ix b.fA c).fB)))==false)) (phP (qo .i64) ((ix a.fA c).fD)),phG (true&&((decide (((ix a.fA c).fB)≠((ix b.fA c).fB)))==false)) (phX (vi ((ix a.fA c).fD))),phG (true&&((decide (((ix a.fA c).fB)≠((ix b.fA c).fB)))==false)) (phP (tSl false (qa false)) b.fA),phG (true&&((decide (((ix a.fA c).fB)≠((ix b.fA c).fB)))==false)) (phR (tSl false (qa false)) b.fA),phG (true&&((decide (((ix a.fA c).fB)≠((ix b.fA c).fB)))==false)) (phX (vi c)),phG (true&&((decide (((ix a.fA c).fB)≠((ix b.fA c).fB)))==false)) (phP (qa false) (ix b.fA c)),phG (true&&((decide (((ix a.fA c).fB)≠((ix b.fA c).fB)))==false)) (phP (qo .i64) ((ix b.fA c).fD)),phG (true&&((decide (((ix a.fA c).fB)≠((ix b.fA c).fB)))==false)) (phX (vi ((ix b.fA c).fD))),phG (true&&((decide (((ix a.fA c).fB)≠((ix b.fA c).fB)))==false)) (phX (.bool (decide (((ix a.fA c).fD)≠((ix b.fA c).fD))))),phX (.bool ((decide (((ix a.fA c).fB)≠((ix b.fA c).fB)))||(decide (((ix a.fA c).fD)≠((ix b.fA c).fD))))),phX (.bool ((decide (((ix a.fA c).fB)≠((ix b.fA c).fB)))||(decide (((ix a.fA c).fD)≠((ix b.fA c).fD))))),phG q (phP (tSl false (qa false)) a.fA),phG q (phR (tSl false (qa false)) a.fA),phG q (phX (vi c)),phG q (phP (qa false) (ix a.fA c)),phG q (phP (tSl false (qo .i64)) ((ix a.fA c).fC)),phG q (phR (tSl false (qo .i64)) ((ix a.fA c).fC)),phG q (phR (tSl true (tSl false (qo .i64))) ([(ix a.fA c).fC]:List (List Int))),phG q (phP (tSl false (qa false)) b.fA),phG q (phR (tSl false (qa false)) b.fA),phG q (phX (vi c)),phG q (phP (qa false) (ix b.fA c)),phG q (phP (tSl false (qo .i64)) ((ix b.fA c).fC)),phG q (phR (tSl false (qo .i64)) ((ix b.fA c).fC)),phG q (phR (tSl true (tSl false (qo .i64))) ([(ix b.fA c).fC]:List (List Int))),phG q (phX (.bool (t.getD default))),phG q (phX (.bool (!(t.getD default)))),phX (.bool (((decide (((ix a.fA c).fB)≠((ix b.fA c).fB)))||(decide (((ix a.fA c).fD)≠((ix b.fA c).fD))))||(!(t.getD default))))] mixed (by kernel_rfl) (ow ⟨vk,p8,q8,vk,vk,q8,vk,p8,q8,vk,vk,q8,q8,q8,(jc vk),(jc p8),(jc q8),(jc vk),(jc vk),(jc q8),(jc vk),(jc p8),(jc q8),(jc vk),(jc vk),(jc q8),(jc q8),q8,q8,(jc vk),(jc p8),(jc q8),(jc vk),(jc vk),(jc p8),(jc p8),(jc vk),(jc p8),(jc q8),(jc vk),(jc vk),(jc p8),(jc p8),(jc q8),(jc q8),q8,trivial⟩) ⟨?_,?_,?_,?_,?_,?_,?_,?_,?_,?_,?_,?_,?_,?_,?_,?_,?_,?_,?_,?_,?_,?_,?_,?_,?_,?_,?_,?_,?_,?_,?_,?_,?_,?_,?_,?_,?_,?_,?_,?_,?_,?_,?_,?_,?_,?_,trivial⟩ fun bN y=>?_
 intro l bO d j hd;exact zb rfl rfl rfl (yu ai jm (j 2 rfl) ((H.mono (s.trans o)).mono d));rintro l bP d j ⟨e,_⟩;exact zb rfl rfl rfl (ky z7j rfl (e rfl));intro l bQ d j hd;exact zb rfl rfl rfl (qi (za (j 5 rfl)));rintro l bR d j ⟨e,k,_⟩
 exact zb rfl rfl rfl (pq (i:=c.toNat) zcn rfl (jd (e rfl)) (zk (k rfl) I.1) (qh I));rintro l bS d j ⟨e,_⟩;exact zb rfl rfl rfl (yu z8f l5 rfl (e rfl));rintro l bT d j ⟨e,_⟩;exact zb rfl rfl rfl (ng (ky ty3 rfl (e rfl)) (fun _ _ h=>jy.1 h));intro l bU d j hd
 exact zb rfl rfl rfl (yu ai jm (j 3 rfl) ((Z.mono o).mono d));rintro l bV d j ⟨e,_⟩;exact zb rfl rfl rfl (ky z7j rfl (e rfl));intro l bW d j hd;exact zb rfl rfl rfl (qi (za (j 5 rfl)));rintro l bX d j ⟨e,k,_⟩
 exact zb rfl rfl rfl (pq (i:=c.toNat) zcn rfl (jd (e rfl)) (zk (k rfl) K.1) (qh K));rintro l ax d j ⟨e,_⟩;exact zb rfl rfl rfl (yu z8f l5 rfl (e rfl));rintro l ay d j ⟨e,_⟩;exact zb rfl rfl rfl (ng (ky ty3 rfl (e rfl)) (fun _ _ h=>jy.1 h));rintro l az d j ⟨e,k,_⟩
 exact zb rfl rfl rfl (qi (wy (e rfl) (k rfl)));rintro l aA d j ⟨e,_⟩;exact zb rfl rfl rfl (qi (za (e rfl)));rintro l aB d j ⟨e,_⟩
 exact zx (Gj:=true) (Bj:=decide (((ix a.fA c).fB)≠((ix b.fA c).fB))) rfl rfl rfl (uz (e rfl)) rfl (fun n f=>yu ai jm (j 2 rfl) ((H.mono (s.trans o)).mono d));rintro l aC d j ⟨e,k,_⟩
 exact zx (Gj:=true) (Bj:=decide (((ix a.fA c).fB)≠((ix b.fA c).fB))) rfl rfl rfl (uz (k rfl)) rfl (fun n f=>ky z7j rfl ((e rfl).1 (ze rfl f)));rintro l aD d j ⟨e,_⟩
 exact zx (Gj:=true) (Bj:=decide (((ix a.fA c).fB)≠((ix b.fA c).fB))) rfl rfl rfl (uz (e rfl)) rfl (fun n f=>qi (za (j 5 rfl)));rintro l aE d j ⟨e,k,u,_⟩
 exact zx (Gj:=true) (Bj:=decide (((ix a.fA c).fB)≠((ix b.fA c).fB))) rfl rfl rfl (uz (u rfl)) rfl (fun n f=>pq (i:=c.toNat) zcn rfl (jd ((e rfl).1 (ze rfl f))) (zk (show l 36=(vi c) from(k rfl).1 (ze rfl f)) (L (ze n f)).1) (qh (L (ze n f))));rintro l aF d j ⟨e,k,_⟩
 exact zx (Gj:=true) (Bj:=decide (((ix a.fA c).fB)≠((ix b.fA c).fB))) rfl rfl rfl (uz (k rfl)) rfl (fun n f=>yu zan z0k rfl ((e rfl).1 (ze rfl f)));rintro l aG d j ⟨e,k,_⟩
 exact zx (Gj:=true) (Bj:=decide (((ix a.fA c).fB)≠((ix b.fA c).fB))) rfl rfl rfl (uz (k rfl)) rfl (fun n f=>ng (ky ty3 rfl ((e rfl).1 (ze rfl f))) (fun _ _ h=>jy.1 h));rintro l aH d j ⟨e,_⟩
 exact zx (Gj:=true) (Bj:=decide (((ix a.fA c).fB)≠((ix b.fA c).fB))) rfl rfl rfl (uz (e rfl)) rfl (fun n f=>yu ai jm (j 3 rfl) ((Z.mono o).mono d));rintro l aI d j ⟨e,k,_⟩
 exact zx (Gj:=true) (Bj:=decide (((ix a.fA c).fB)≠((ix b.fA c).fB))) rfl rfl rfl (uz (k rfl)) rfl (fun n f=>ky z7j rfl ((e rfl).1 (ze rfl f)));rintro l aJ d j ⟨e,_⟩
 exact zx (Gj:=true) (Bj:=decide (((ix a.fA c).fB)≠((ix b.fA c).fB))) rfl rfl rfl (uz (e rfl)) rfl (fun n f=>qi (za (j 5 rfl)));rintro l aK d j ⟨e,k,u,_⟩
 exact zx (Gj:=true) (Bj:=decide (((ix a.fA c).fB)≠((ix b.fA c).fB))) rfl rfl rfl (uz (u rfl)) rfl (fun n f=>pq (i:=c.toNat) zcn rfl (jd ((e rfl).1 (ze rfl f))) (zk (show l 42=(vi c) from(k rfl).1 (ze rfl f)) (M (ze n f)).1) (qh (M (ze n f))));rintro l aL d j ⟨e,k,_⟩
 exact zx (Gj:=true) (Bj:=decide (((ix a.fA c).fB)≠((ix b.fA c).fB))) rfl rfl rfl (uz (k rfl)) rfl (fun n f=>yu zan z0k rfl ((e rfl).1 (ze rfl f)));rintro l aM d j ⟨e,k,_⟩
 exact zx (Gj:=true) (Bj:=decide (((ix a.fA c).fB)≠((ix b.fA c).fB))) rfl rfl rfl (uz (k rfl)) rfl (fun n f=>ng (ky ty3 rfl ((e rfl).1 (ze rfl f))) (fun _ _ h=>jy.1 h));rintro l aN d j ⟨e,k,u,_⟩
 exact zx (Gj:=true) (Bj:=decide (((ix a.fA c).fB)≠((ix b.fA c).fB))) rfl rfl rfl (uz (u rfl)) rfl (fun n f=>qi (wy (show l 39=(vi ((ix a.fA c).fD)) from(e rfl).1 (ze rfl f)) (show l 45=(vi ((ix b.fA c).fD)) from(k rfl).1 (ze rfl f))));rintro l aO d j ⟨e,k,_⟩
 exact zb rfl rfl rfl (qi (xh (e rfl) rfl (fun hb=>(show l 46=(.bool (decide (((ix a.fA c).fD)≠((ix b.fA c).fD)))) from(k rfl).1 (ze rfl hb)))));rintro l aP d j ⟨e,k,_⟩;exact zb rfl rfl rfl (qi (za (e rfl)));rintro l aQ d j ⟨e,_⟩
 exact zx (Gj:=true) (Bj:=(decide (((ix a.fA c).fB)≠((ix b.fA c).fB)))||(decide (((ix a.fA c).fD)≠((ix b.fA c).fD)))) rfl rfl rfl (uz (e rfl)) rfl (fun n f=>yu ai jm (j 2 rfl) ((H.mono (s.trans o)).mono d));rintro l aR d j ⟨e,k,_⟩
 exact zx (Gj:=true) (Bj:=(decide (((ix a.fA c).fB)≠((ix b.fA c).fB)))||(decide (((ix a.fA c).fD)≠((ix b.fA c).fD)))) rfl rfl rfl (uz (k rfl)) rfl (fun n f=>ky z7j rfl ((e rfl).1 (ze rfl f)));rintro l aS d j ⟨e,_⟩
 exact zx (Gj:=true) (Bj:=(decide (((ix a.fA c).fB)≠((ix b.fA c).fB)))||(decide (((ix a.fA c).fD)≠((ix b.fA c).fD)))) rfl rfl rfl (uz (e rfl)) rfl (fun n f=>qi (za (j 5 rfl)));rintro l aT d j ⟨e,k,u,_⟩
 exact zx (Gj:=true) (Bj:=(decide (((ix a.fA c).fB)≠((ix b.fA c).fB)))||(decide (((ix a.fA c).fD)≠((ix b.fA c).fD)))) rfl rfl rfl (uz (u rfl)) rfl (fun n f=>pq (i:=c.toNat) zcn rfl (jd ((e rfl).1 (ze rfl f))) (zk (show l 51=(vi c) from(k rfl).1 (ze rfl f)) (O (ze n f)).1) (qh (O (ze n f))))
 rintro l aU d j ⟨e,k,_⟩;exact zx (Gj:=true) (Bj:=(decide (((ix a.fA c).fB)≠((ix b.fA c).fB)))||(decide (((ix a.fA c).fD)≠((ix b.fA c).fD)))) rfl rfl rfl (uz (k rfl)) rfl (fun n f=>yu z7e z0l rfl ((e rfl).1 (ze rfl f)));rintro l aV d j ⟨e,k,_⟩
 exact zx (Gj:=true) (Bj:=(decide (((ix a.fA c).fB)≠((ix b.fA c).fB)))||(decide (((ix a.fA c).fD)≠((ix b.fA c).fD)))) rfl rfl rfl (uz (k rfl)) rfl (fun n f=>ky zhu rfl ((e rfl).1 (ze rfl f)));rintro l Q d j ⟨e,k,_⟩
 have z:phG q (phR (tSl false (qo .i64)) ((ix a.fA c).fC)) (l 54) Q:=e rfl
 exact zx (Gj:=true) (Bj:=(decide (((ix a.fA c).fB)≠((ix b.fA c).fB)))||(decide (((ix a.fA c).fD)≠((ix b.fA c).fD)))) rfl rfl rfl (uz (k rfl)) rfl (fun n f=>z3f (T:=(tSl false (qo .i64))) (X:=([(ix a.fA c).fC]:List (List Int))) (ps:=[(0,(l 54))]) (css:=[[(l 54)]]) underlying72 zt7 rfl (by simp only [List.map_cons,List.map_nil,z1c (z.1 (ze rfl f))];rfl) (vo ⟨(uu rfl (z.1 (ze rfl f))),trivial⟩) rfl rfl (by decide))
 rintro l aW d j ⟨e,_⟩;exact zx (Gj:=true) (Bj:=(decide (((ix a.fA c).fB)≠((ix b.fA c).fB)))||(decide (((ix a.fA c).fD)≠((ix b.fA c).fD)))) rfl rfl rfl (uz (e rfl)) rfl (fun n f=>yu ai jm (j 3 rfl) ((Z.mono o).mono d));rintro l aX d j ⟨e,k,_⟩
 exact zx (Gj:=true) (Bj:=(decide (((ix a.fA c).fB)≠((ix b.fA c).fB)))||(decide (((ix a.fA c).fD)≠((ix b.fA c).fD)))) rfl rfl rfl (uz (k rfl)) rfl (fun n f=>ky z7j rfl ((e rfl).1 (ze rfl f)));rintro l aY d j ⟨e,_⟩
 exact zx (Gj:=true) (Bj:=(decide (((ix a.fA c).fB)≠((ix b.fA c).fB)))||(decide (((ix a.fA c).fD)≠((ix b.fA c).fD)))) rfl rfl rfl (uz (e rfl)) rfl (fun n f=>qi (za (j 5 rfl)));rintro l aZ d j ⟨e,k,u,_⟩
 exact zx (Gj:=true) (Bj:=(decide (((ix a.fA c).fB)≠((ix b.fA c).fB)))||(decide (((ix a.fA c).fD)≠((ix b.fA c).fD)))) rfl rfl rfl (uz (u rfl)) rfl (fun n f=>pq (i:=c.toNat) zcn rfl (jd ((e rfl).1 (ze rfl f))) (zk (show l 58=(vi c) from(k rfl).1 (ze rfl f)) (P (ze n f)).1) (qh (P (ze n f))))
 rintro l a0 d j ⟨e,k,_⟩;exact zx (Gj:=true) (Bj:=(decide (((ix a.fA c).fB)≠((ix b.fA c).fB)))||(decide (((ix a.fA c).fD)≠((ix b.fA c).fD)))) rfl rfl rfl (uz (k rfl)) rfl (fun n f=>yu z7e z0l rfl ((e rfl).1 (ze rfl f)));rintro l a1 d j ⟨e,k,_⟩
 exact zx (Gj:=true) (Bj:=(decide (((ix a.fA c).fB)≠((ix b.fA c).fB)))||(decide (((ix a.fA c).fD)≠((ix b.fA c).fD)))) rfl rfl rfl (uz (k rfl)) rfl (fun n f=>ky zhu rfl ((e rfl).1 (ze rfl f)));rintro l S d j ⟨e,k,_⟩
 have C:phG q (phR (tSl false (qo .i64)) ((ix b.fA c).fC)) (l 61) S:=e rfl
 exact zx (Gj:=true) (Bj:=(decide (((ix a.fA c).fB)≠((ix b.fA c).fB)))||(decide (((ix a.fA c).fD)≠((ix b.fA c).fD)))) rfl rfl rfl (uz (k rfl)) rfl (fun n f=>z3f (T:=(tSl false (qo .i64))) (X:=([(ix b.fA c).fC]:List (List Int))) (ps:=[(0,(l 61))]) (css:=[[(l 61)]]) underlying72 zt7 rfl (by simp only [List.map_cons,List.map_nil,z1c (C.1 (ze rfl f))];rfl) (vo ⟨(uu rfl (C.1 (ze rfl f))),trivial⟩) rfl rfl (by decide))
 rintro l a2 d j ⟨e,k,u,d3,_⟩
 exact zx (Gj:=true) (Bj:=(decide (((ix a.fA c).fB)≠((ix b.fA c).fB)))||(decide (((ix a.fA c).fD)≠((ix b.fA c).fD)))) rfl rfl rfl (uz (u rfl)) rfl (fun n f=>xy (vs:=[(l 55),(l 62)]) zzf rfl ((by have am:=(z0z aj (ze n f));exact z2u (Sub.v (B:=(tSl false (tSl false (qo .i64)))) (uw Sub.refl (fun _=>rfl)) ((e rfl).1 (ze rfl f))) (Sub.v (B:=(tSl false (tSl false (qo .i64)))) (uw Sub.refl (fun _=>rfl)) ((k rfl).1 (ze rfl f))) am)) (fun _ _ h=>h))
 rintro l a3 d j ⟨e,k,_⟩;exact zx (Gj:=true) (Bj:=(decide (((ix a.fA c).fB)≠((ix b.fA c).fB)))||(decide (((ix a.fA c).fD)≠((ix b.fA c).fD)))) rfl rfl rfl (uz (k rfl)) rfl (fun n f=>qi (mq (show l 63=(.bool (t.getD default)) from(e rfl).1 (ze rfl f))));rintro l a4 d j ⟨e,k,_⟩
 exact zb rfl rfl rfl (qi (xh (e rfl) rfl (fun hb=>(show l 64=(.bool (!(t.getD default))) from(k rfl).1 (ze rfl hb)))));intro bY bZ b0 b1 b2 an b3 b4 b5 b6 b7 ao b8 b9 ca cb cc ap cd ce cf cg ch aq ci ar
 intro cj au ck cl cm cn co cp cq cr cs ct cu cv cw cx cy cz cA cB cC cD cE cF cG cH cI cJ cK av cL U a5 a6 a7 a8 a9 ba bb bc be bf bg bh bi bj bk bl bm bn bo bp bq br bs bt bu bv bw bx bz bA bB bC bD V;obtain rfl:=Eq.symm an;obtain rfl:=Eq.symm ao;obtain rfl:=Eq.symm ap
 obtain rfl:=Eq.symm aq;obtain rfl:=Eq.symm ar;obtain rfl:=Eq.symm au;obtain rfl:=Eq.symm av;obtain rfl:=Eq.symm U;obtain rfl:=Eq.symm V;refine z8 (zo rfl m (fun m=>?_) (fun m=>?_));refine zg (zi (.bool false) (z8 (qj ?_)));replace p:=ry m p;obtain rfl:=Option.some.inj p
 refine zw (D:=[]) (J:=[]) (rs:=[.tmp 4]) (vs:=[(.bool false)]) (((w.trans s).trans o).trans y) rfl rfl ⟨rfl,trivial⟩ ?_;exact⟨rfl,rfl⟩;refine zz (zu (zh (vi c) ?_));obtain⟨W,m⟩:=zf m;refine zm (jl rfl rfl W) (zi (vi (c+1)) (z8 ?_))
 exact⟨dkt,y,kg,(x,c+1),Nat.lt_succ_self _,⟨rfl,trivial⟩,prm,m,trivial⟩;refine jh ?_;exact⟨dkt,o,kg,(),trivial,prm,(Option.some.inj m).symm,trivial⟩;rintro cM bE cN Y ⟨rfl,_⟩;replace p:=z0e p;refine zg (zi (.bool true) (z8 (qj ?_)));obtain rfl:=Option.some.inj p
 refine zw (D:=[]) (J:=[]) (rs:=[.tmp 4]) (vs:=[(.bool true)]) ((w.trans s).trans Y) rfl rfl ⟨rfl,trivial⟩ ?_;exact⟨rfl,rfl⟩
end GV
end Go.Proofs.Ytnnobdkjgafdmaa
