import Derived.Test.YtnnobdkjgafdmaaShWc
import Derived.Test.YtnnobdkjgafdmaaRows
set_option linter.unusedVariables false
set_option linter.unusedSimpArgs false
set_option linter.unusedSectionVars false
namespace Go.Proofs.Ytnnobdkjgafdmaa
namespace GV
open _root_.Go.Proofs.Try
open Go.IntWalk
set_option maxRecDepth 100000
set_option maxHeartbeats 20000000
theorem qdb:Enters prog 65:=enters_of func65 rfl (by kernel_rfl)
theorem z8r{N:Nat}{R:RH}{E:(Arr 64 Int)}{b:Value}(y:VRep (q7a z5y) R b E){m:Mach}{q:Value}(s:VRep (jy false false) R q m){block:Int}{i:Int}{t:Int}{r:Bool}(k:l5 N E m block i t=some r):CallP prog 41 #[b,q,(.int .u16 block),(vi i),(vi t)] R (fun v R'=>v=(.bool r)):=by
 refine qh (args:=[b,q,(.int .u16 block),(vi i),(vi t)]) func41 rfl rfl fun A=>?_;rw [l5] at k;refine zk (ug (T:=(jy false false)) rfl rfl rfl s fun v1 R3 l Q h2=>?_);refine zi (.bool false) (j4 (zl (u7 z2i rfl rfl Q (s.mono l)) (zh (.int .u16 block) (zh (vi i) ?_))))
 obtain⟨f,S,k⟩:=zo k;refine jh rfl qdb rfl (zml (s.mono l) S) fun v8 U o V=>?_;obtain rfl:=V;refine zh (.tuple #[(z3j f.1),(.bool f.2)]) (zl (jl rfl rfl) (zl (jl rfl rfl) (kv rfl q7w fun F=>?_)))
 refine z0q (j:=0) (cs:=(nu (lq 16 (List.replicate 16 (0:Int))))) (cs':=(nu f.1)) zk6 rfl rfl (co_A16tIntu16.len _) (co_A16tIntu16.len _) rfl rfl (z2v (zc3 _)) ?_;refine zi (.bool f.2) (z8 ?_);obtain⟨c,a,k⟩:=zo k
 refine qp (γ:=Bool) (rs [12,13,14,15,22,34]) (fun g=>[(12,(.bool g))]) (fun g=>[]++A) (fun g R=>c=g∧True) ?_ ?_
 refine zk (zl (iw (j:=0) (v:=(z3j f.1)) ztc zk6 rfl rfl (co_A16tIntu16.len _) rfl) (zh (vi 0) (z8 (zx (jc (γ:=Nat×Bool×Int) (rs [12,13,14,15,23,34]) (fun g=>[(12,(.bool g.2.1)),(23,(vi g.2.2))]) (fun g=>[]++A) (fun g R=>w9 N E t f g.1 g.2.1 g.2.2=some c∧True) (fun g=>g.1) (N,f.2,0) ⟨[box F (nu f.1) 106],(List.Perm.refl _)⟩ ⟨a,trivial⟩ ?_)))))
 clear a;rintro⟨n,d,e⟩ W Y p ⟨a,_⟩;rcases n with _|n;exact qo a;replace a:w9 N E t f (n+1) d e=some c:=a;rw [w9] at a;refine zk (zl (j6 rfl rfl) (z8 (zt (zu rfl a (fun a=>?_) (fun a=>?_)))));refine qa (zt (zx (zk ?_)))
 obtain⟨z,a⟩:=zb a
 refine zl (ztd (i:=e.toNat) (X:=f.1) underlying106 q3f q89 rfl (zg rfl z.1) (Nat.lt_of_lt_of_eq (zy z) f.1.2)) (zi (.int .u16 (ix f.1.1 e)) (z8 (zm (jq (v:=(.bool d)) rfl (zf rfl) (jq (v:=(.bool d)) rfl (zf rfl) (qz rfl rfl rfl rfl (fun u=>ql (v:=b) (zf rfl)) fun Z G=>?_))))))
 refine qz rfl rfl rfl rfl (fun u=>ql (v:=(.int .u16 (ix f.1.1 e))) (zf rfl)) fun aa H=>?_;refine qz rfl rfl rfl rfl (fun u=>ql (v:=(vi t)) (zf rfl)) fun ab I=>?_;obtain⟨w,K,a⟩:=zo a
 refine z6s rfl rfl rfl rfl (fun u=>pg (vs:=[b,(.int .u16 (ix f.1.1 e)),(vi t)]) q88 (za9 (G.1 (zn rfl u)) (za9 (H.1 (zn rfl u)) (za9 (I.1 (zn rfl u)) rfl))) ((by have L:=(z3z K (zn rfl u));exact z5u (z3b.2 ((z3b.1 y).mono ((l.trans o).trans p))) L)) (fun _ _ h=>h)) fun M O B x=>?_
 replace x:phG (true&&(d==true)) (phX (.bool (w.getD default))) M O:=x;refine jq rfl (ny rfl (fun hb=>(x.1 (zn rfl hb))) rfl) (zi (.bool (d&&(w.getD default))) (z8 (zm ?_)));obtain⟨P,a⟩:=zb a;refine zl (jg rfl rfl P) (zh (vi (e+1)) (z8 ?_))
 exact⟨dkt,B,jm,(n,d&&(w.getD default),e+1),Nat.lt_succ_self _,⟨rfl,rfl,trivial⟩,prm,a,trivial⟩;refine jf ?_;exact⟨dkt,p,jm,d,⟨rfl,trivial⟩,prm,(Option.some.inj a).symm,trivial⟩;rintro c ad ae C ⟨rfl,_⟩;refine zk (zh (.bool c) (zi (.bool c) (z8 (qx ?_))));obtain rfl:=Option.some.inj k
 refine qd (D:=[]) (J:=[]) (rs:=[.tmp 10]) (vs:=[(.bool c)]) ((l.trans o).trans C) rfl rfl ⟨rfl,trivial⟩ ?_;exact⟨rfl,rfl⟩
theorem qc8:Enters prog 41:=enters_of func41 rfl (by kernel_rfl)
theorem zjk{N:Nat}{R:RH}{m:Mach}{C:Value}(I:VRep (jy false false) R C m){r:(Arr 64 Int)}(E:z5z N m=some r):CallP prog 38 #[C] R (fun v R'=>VRep (q7a z5y) R' v r):=by
 refine qh (args:=[C]) func38 rfl rfl fun A=>?_;rw [z5z] at E;refine zk (ug (T:=(jy false false)) rfl rfl rfl I fun v1 R3 K h5 h2=>?_)
 refine zi (.pointer none) (j4 (zl (bg (ps:=[]) (v:=(zf3 (lq 64 (List.replicate 64 (0:Int))))) rfl (fun w=>by kernel_rfl)) (zwr (cs:=(bv (lq 64 (List.replicate 64 (0:Int))))) rfl rfl rfl fun t=>?_)));refine zi (.pointer (some ⟨t,0,none⟩)) (z8 ?_);obtain⟨M,b,E⟩:=zo E
 refine qp (γ:=((Arr 64 Int))) (rs [4,9,11,44]) (fun g=>[]) (fun g=>[box t (bv g) 104]++A) (fun g R=>M=g∧True) ?_ ?_
 refine zk (zi (vi 1) (zi (.bool true) (z8 (zx (jc (γ:=Nat×Int×Bool×((Arr 64 Int))) (rs [4,9,11,44]) (fun g=>[(4,(vi g.2.1)),(5,(.bool g.2.2.1))]) (fun g=>[box t (bv g.2.2.2) 104]++A) (fun g R=>fe N m g.1 g.2.1 g.2.2.1 g.2.2.2=some M∧True) (fun g=>g.1) (N,1,true,(lq 64 (List.replicate 64 (0:Int)))) prm ⟨b,trivial⟩ ?_)))))
 clear b;rintro⟨F,c,O,f⟩ au av k ⟨b,_⟩;rcases F with _|F;exact qo b;replace b:fe N m (F+1) c O f=some M:=b;rw [fe] at b;refine zt (zk (zh (.bool O) (z8 (zu rfl b (fun b=>?_) (fun b=>?_)))));refine qa ?_;obtain⟨u,d,b⟩:=zo b
 refine qp (γ:=(Bool×(Arr 64 Int))) (rs [5,9,14,44]) (fun g=>[(5,(.bool g.1))]) (fun g=>[box t (bv g.2) 104]++A) (fun g R=>u=g∧True) ?_ ?_
 refine zx (zk (zi (.bool false) (j4 (zh (.pointer (some ⟨t,0,none⟩)) (zl (zh7 rfl) (zl (iw (j:=0) (v:=(zf3 f)) qag q7j rfl rfl (co_A64tInti64.len _) rfl) (kv rfl qah fun y=>?_)))))))
 refine z0q (j:=0) (cs:=(bv (lq 64 (List.replicate 64 (0:Int))))) (cs':=(bv f)) q7j rfl rfl (co_A64tInti64.len _) (co_A64tInti64.len _) rfl rfl (z2v (zo9 _)) ?_;refine j4 (je rfl xc uy rfl (h2.mono k) fun aw Z=>?_);refine qj rfl z3p rfl Z fun ax aa=>?_
 refine zl (qw rfl underlying28 rfl (ja aa)) ?_;obtain⟨ab,d⟩:=zb d
 refine zl (z7c rfl rfl ab) (zh (.int .u16 0) (z8 (zx (jc (γ:=Nat×Bool×Int×((Arr 64 Int))) (rs [5,6,7,9,21,44]) (fun g=>[(5,(.bool g.2.1)),(21,(.int .u16 g.2.2.1))]) (fun g=>[box t (bv g.2.2.2) 104,box y (bv f) 104]++A) (fun g R=>gp N m c f g.1 g.2.1 g.2.2.1 g.2.2.2=some u∧True) (fun g=>g.1) (N,false,0,f) ⟨[],(pk 1 rfl (pk 0 rfl (List.Perm.refl _)))⟩ ⟨d,trivial⟩ ?_))))
 clear d;rintro⟨G,p,e,h⟩ ay az l ⟨d,_⟩;rcases G with _|G;exact qo d;replace d:gp N m c f (G+1) p e h=some u:=d;rw [gp] at d;refine zk (zl (j6 rfl rfl) (z8 (zt (zu rfl d (fun d=>?_) (fun d=>?_)))));refine qa ?_;obtain⟨B,a,d⟩:=zo d
 refine qp (γ:=(Bool×(Arr 64 Int))) (rs [5,6,7,9,23,43]) (fun g=>[(5,(.bool g.1))]) (fun g=>[box t (bv g.2) 104,box y (bv f) 104]++A) (fun g R=>B=g∧True) ?_ ?_;refine zx (zk (zh (.int .u16 e) (zi (.int .u16 e) (z8 (zt (zk (zh (.int .u16 e) (zh (vi c) ?_))))))))
 obtain⟨ac,ad,a⟩:=zo a;refine zdr (cs:=[]) (vs:=[(.pointer (some ⟨y,0,none⟩)),(.int .u16 e),(vi c)]) (φ:=fun v=>v=(.bool ac)) rfl q88 rfl rfl (fun aA aq P=>z5u (z3b.2 (zmm (q1p 1 rfl P) ((co_A64tInti64.iff _ _ _).2 rfl))) ad) fun aB ae=>?_;obtain rfl:=ae
 refine z8 (zu rfl a (fun a=>?_) (fun a=>?_));refine jf ?_;exact⟨dkt,(RH.le.refl _),jm,(p,h),⟨rfl,trivial⟩,prm,(Option.some.inj a).symm,trivial⟩;refine qa (zk (je rfl z4m z5g rfl (h2.mono (k.trans l)) fun aC af=>?_));refine qj rfl ty3 rfl af fun aD ag=>?_;obtain rfl:=j5.1 ag
 refine zh (vi 0) (z8 (zx (jc (γ:=Nat×Int) (rs [5,6,8,9,29,43]) (fun g=>[(5,(.bool p)),(29,(vi g.2))]) (fun g=>[box t (bv h) 104,box y (bv f) 104]++A) (fun g R=>z01 N m c f p e h g.1 g.2=some B∧True) (fun g=>g.1) (N,0) prm ⟨a,trivial⟩ ?_)));clear a
 rintro⟨H,s⟩ aE aF n ⟨a,_⟩;rcases H with _|H;exact qo a;replace a:z01 N m c f p e h (H+1) s=some B:=a;rw [z01] at a;refine zk (zl (j6 rfl rfl) (z8 (zt (zu rfl a (fun a=>?_) (fun a=>?_)))))
 refine qa (zt (zx (zk (zh (vi s) (zi (vi s) (j4 (zl (u7 z2i rfl rfl (h5.mono ((k.trans l).trans n)) (I.mono (((K.trans k).trans l).trans n))) (zh (.int .u16 e) (zh (vi s) (zh (vi c) ?_))))))))));obtain⟨ah,ai,a⟩:=zo a
 refine zdr (cs:=[]) (vs:=[(.pointer (some ⟨y,0,none⟩)),C,(.int .u16 e),(vi s),(vi c)]) (φ:=fun v=>v=(.bool ah)) rfl qc8 rfl rfl (fun aG Q S=>z8r (z3b.2 (zmm (q1p 1 rfl S) ((co_A64tInti64.iff _ _ _).2 rfl))) ((I.mono (((K.trans k).trans l).trans n)).mono Q) ai) fun aH aj=>?_
 obtain rfl:=aj;refine z8 (zu rfl a (fun a=>?_) (fun a=>?_));refine zk (zh (.pointer (some ⟨t,0,none⟩)) (zh (.int .u16 e) (zh (vi c) (zl (zh7 rfl) ?_))));obtain⟨L,a⟩:=zb a
 refine zl (z1s (i:=e.toNat) zxf rfl (zg rfl L.1) (Nat.lt_of_lt_of_eq (zy L) h.2)) (z98 (sz:=1) (cl:=(fun x:Int=>[Value.int .i64 x])) (z:=c) (vs:=[(vi c)]) (q:=e) (i:=e.toNat) (o:=0) (j:=0) (X:=h) cells_int.len sz3 rfl rfl (by omega) rfl (Nat.lt_of_lt_of_eq (zy L) h.2) rfl rfl rfl (qf rfl jv) rfl rfl ?_)
 refine j4 (zi (.bool true) (z8 (jf ?_)));exact⟨dkt,n,jm,(true,(z0g h e c)),⟨rfl,trivial⟩,prm,(Option.some.inj a).symm,trivial⟩;refine qa (zm ?_);obtain⟨ak,a⟩:=zb a;refine zl (jg rfl rfl ak) (zh (vi (s+1)) (z8 ?_))
 exact⟨dkt,(RH.le.refl _),jm,(H,s+1),Nat.lt_succ_self _,⟨rfl,rfl,trivial⟩,prm,a,trivial⟩;refine jf ?_;exact⟨dkt,n,jm,(p,h),⟨rfl,trivial⟩,prm,(Option.some.inj a).symm,trivial⟩;rintro B aI aJ U ⟨rfl,_⟩;refine zm (zl (zu9 rfl rfl) (zh (.int .u16 (IntKind.u16.wrap (e+1))) (z8 ?_)))
 exact⟨dkt,U,jm,(G,B.1,IntKind.u16.wrap (e+1),B.2),Nat.lt_succ_self _,⟨rfl,rfl,trivial⟩,prm,d,trivial⟩;refine jf ?_;exact⟨dkt,l,jm,(p,h),⟨rfl,trivial⟩,⟨[box y (bv f) 104],(pk 1 rfl (pk 0 rfl (List.Perm.refl _)))⟩,(Option.some.inj d).symm,trivial⟩;rintro u aK aL V ⟨rfl,_⟩;refine zm (zh (vi c) ?_)
 obtain⟨al,b⟩:=zb b;refine zl (jg rfl rfl al) (zi (vi (c+1)) (z8 ?_));exact⟨dkt,V,jm,(F,c+1,u.1,u.2),Nat.lt_succ_self _,⟨rfl,rfl,trivial⟩,prm,b,trivial⟩;refine jf ?_;exact⟨dkt,k,jm,f,trivial,prm,(Option.some.inj b).symm,trivial⟩;rintro M aM R9 W ⟨rfl,_⟩
 refine zk (zh (.pointer (some ⟨t,0,none⟩)) (zi (.pointer (some ⟨t,0,none⟩)) (z8 (zwj (i:=0) rfl fun am Y an=>?_))));have ao:PRep z5y am (.pointer (some ⟨t,0,none⟩)) M:=zmm an ((co_A64tInti64.iff _ _ _).2 rfl);refine qx ?_;obtain rfl:=Option.some.inj E
 refine qd (D:=[]) (J:=[]) (rs:=[.tmp 2]) (vs:=[(.pointer (some ⟨t,0,none⟩))]) ((K.trans W).trans Y) rfl rfl ⟨rfl,trivial⟩ ?_;exact⟨rfl,(z3b.2 ao)⟩
theorem qdv:Enters prog 38:=enters_of func38 rfl (by kernel_rfl)
theorem qe1: ∀ w,∃ z,(zeroValue 77).run prog w= .ok z w∧z.cells=([.pointer none]:List Value).toArray:=fun w=>⟨(.pointer none),by kernel_rfl,rfl⟩
theorem qd3: ∀ w,(sizeOf 77).run prog w= .ok 1 w:=fun w=>by kernel_rfl
theorem q83: ∀ w,(isAgg 77).run prog w= .ok false w:=fun w=>by kernel_rfl
theorem qdj: ∀ w,∃ z,(zeroValue 80).run prog w= .ok z w∧z.cells=([.nilFunc]:List Value).toArray:=fun w=>⟨.nilFunc,by kernel_rfl,rfl⟩
theorem qd2: ∀ w,(sizeOf 80).run prog w= .ok 1 w:=fun w=>by kernel_rfl
theorem qcp: ∀ w,(isAgg 80).run prog w= .ok false w:=fun w=>by kernel_rfl
theorem fo:FieldOk prog 45 0 0:=by
 obtain⟨i,hi,a⟩: ∃ i,prog.info? 43=some i∧i.size=1:=uz (by kernel_rfl);exact au underlying45 rfl rfl hi (by rw [a];rfl)
theorem zn9: ∀ w,(isAgg 43).run prog w= .ok false w:=fun w=>by kernel_rfl
theorem q80:ZeroOk prog 55 rSprobes_Node.H ((0:Int),(0:Int),.slice none 0 0) 40:=by
 obtain⟨i,zv,hi,a,c,d,f⟩:=z3q (P:=prog) (e:=55) (zv:=(.agg #[(vi 0),(vi 0),vs0])) (k:=3) (b:=40) (by kernel_rfl);exact⟨i,zv,hi,a,c,d,fun R=>by subst f;exact⟨_,_,rfl,rfl,⟨_,_,rfl,rfl,⟨rfl,rfl⟩⟩⟩⟩
theorem qc9: ∀ w,(sizeOf 43).run prog w= .ok 1 w:=fun w=>by kernel_rfl
theorem qcg:TyOk prog 55 rSprobes_Node.H:=by
 obtain⟨i,hi,a⟩: ∃ i,prog.info? 55=some i∧i.size=3:=uz (by kernel_rfl);exact z2n underlying55 hi rfl a
theorem q7f:SlOk prog 43 55 rSprobes_Node.H:=⟨underlying43,qcg⟩
theorem zda:FieldOk prog 55 1 1:=by
 obtain⟨i,hi,a⟩: ∃ i,prog.info? 3=some i∧i.size=1:=uz (by kernel_rfl);exact au underlying55 rfl rfl hi (by rw [a];rfl)
theorem z9f:FieldOk prog 55 0 0:=by
 obtain⟨i,hi,a⟩: ∃ i,prog.info? 3=some i∧i.size=1:=uz (by kernel_rfl);exact au underlying55 rfl rfl hi (by rw [a];rfl)
theorem qbv:Enters prog 40:=enters_of func40 rfl (by kernel_rfl)
theorem zev{N:Nat}(F:Nat): ∀ {R:RH} {now:(List Int)} {S:Value} (ab:VRep (tSl false (qb .i64)) R S now) {p:(List Int)} {E:Value} (ag:VRep (tSl false (qb .i64)) R E p) {b:Nat} {p0_:List Sa} {ac:Value} {fO:Frag} {aD:List Value} (ad:NS rSprobes_Node aD R fO ac p0_) {p1_:Mach} {k:Value} (ae:PRep (jy false false) R k p1_) {a:Nat} {p2_:(Arr 64 Int)} {f:Value} (ah:PRep z5y R f p2_) {d:Nat} {r:Int×List Sa} (x:mi N F now p p0_ p1_ p2_=some r),CallG prog 40 #[S,E,(.pointer (some ⟨b,0,none⟩)),k,(.pointer (some ⟨a,0,none⟩)),(.pointer (some ⟨d,0,none⟩))] R [box b [ac] 45,fO,box a [f] 77,box d [.func (.func 40) #[] #[(.pointer (some ⟨b,0,none⟩)),k,(.pointer (some ⟨a,0,none⟩)),(.pointer (some ⟨d,0,none⟩))]] 80] (fun v R' O'=> ∃ aQ aR,v=(vi r.1)∧O'=[box b [aQ] 45,aR,box a [f] 77,box d [.func (.func 40) #[] #[(.pointer (some ⟨b,0,none⟩)),k,(.pointer (some ⟨a,0,none⟩)),(.pointer (some ⟨d,0,none⟩))]] 80]∧NS rSprobes_Node aD R' aR aQ r.2):=by
  induction F with
  |zero=>intros;rename_i x;exact qo x
  |succ F ih=>
    intro R now S ab p E ag b p0_ ac fO aD ad p1_ k ae a p2_ f ah d r x
    refine z7t (args:=[S,E,(.pointer (some ⟨b,0,none⟩)),k,(.pointer (some ⟨a,0,none⟩)),(.pointer (some ⟨d,0,none⟩))]) func40 rfl rfl fun A=>?_
    rw [mi] at x
    obtain⟨aS,ba,ad⟩:=ad
    refine zt ?_
    refine zm ?_
    refine zi (vi 0) ?_
    refine z8 ?_
    refine zt ?_
    refine zm ?_
    refine zl (qg fo rfl) ?_
    refine zl (qi (i:=0) zn9 rfl rfl rfl) ?_
    refine z2z rfl (q8 (q0c rfl underlying43 rfl ad)) fun v1 R3 G h2=>?_
    obtain rfl:=Eq.symm h2
    refine zi (vi (↑p0_.length:Int)) ?_
    refine z8 ?_
    refine zt ?_
    refine zm ?_
    refine je rfl zby z8e rfl (ae.mono G) fun v5 h6=>?_
    refine qj rfl ty3 rfl h6 fun v7 h8=>?_
    obtain rfl:=j5.1 h8
    obtain⟨bb,x⟩:=zb x
    refine z7y (T:=(qb .i64)) (m:=p1_.outputs.toNat) (c:=p1_.outputs.toNat) rfl underlying32 zo3 (zg rfl bb.1) (zg rfl bb.1) (Nat.le_refl _) (zdv bb) (zdy bb) fun v9 dm bG bT=>?_
    refine zi v9 ?_
    refine z8 ?_
    obtain⟨U,e,x⟩:=zo x
    refine qp (γ:=(List Int)×Frag) (rs [11,12,27,36]) (fun g=>[]) (fun g=>[box b [ac] 45,fO,box a [f] 77,box d [(.func (.func 40) #[] #[(.pointer (some ⟨b,0,none⟩)),k,(.pointer (some ⟨a,0,none⟩)),(.pointer (some ⟨d,0,none⟩))])] 80,g.2]++A) (fun g R=>U=g.1∧ORep (qb .i64) R g.2 v9 g.1∧capOf v9=g.1.length∧True) ?_ ?_
    · refine zt ?_
      refine zm ?_
      refine zh v9 ?_
      refine zl (l6 rfl underlying32 rfl bT) ?_
      refine zh (vi 0) ?_
      refine z8 ?_
      refine zx ?_
      refine jc (γ:=Nat×Int×(List Int)×Frag) (rs [11,12,29,36]) (fun g=>[(29,(vi g.2.1))]) (fun g=>[box b [ac] 45,fO,box a [f] 77,box d [(.func (.func 40) #[] #[(.pointer (some ⟨b,0,none⟩)),k,(.pointer (some ⟨a,0,none⟩)),(.pointer (some ⟨d,0,none⟩))])] 80,g.2.2.2]++A) (fun g R=>dh N p1_ g.1 g.2.1 g.2.2.1=some U∧ORep (qb .i64) R g.2.2.2 v9 g.2.2.1∧capOf v9=g.2.2.1.length∧True) (fun g=>g.1) (N,0,(mk p1_.outputs (0:Int)),dm) ⟨[],(pk 1 rfl (pk 1 rfl (pk 1 rfl (pk 1 rfl (pk 0 rfl (List.Perm.refl _))))))⟩ ⟨e,bT,(bG.trans List.length_replicate.symm),trivial⟩ ?_
      clear e
      rintro⟨bc,ax,bH,dn⟩ ff fg bU ⟨e,bI,bl,_⟩
      rcases bc with _|bc
      · exact qo e
      replace e:dh N p1_ (bc+1) ax bH=some U:=e;rw [dh] at e
      refine zt ?_
      refine zm ?_
      refine zl (j6 rfl rfl) ?_
      refine z8 ?_
      refine zt ?_
      refine zu rfl e (fun e=>?_) (fun e=>?_)
      · refine qa ?_
        refine zt ?_
        refine zx ?_
        refine zt ?_
        refine zm ?_
        refine zh (vi ax) ?_
        refine zi (vi ax) ?_
        refine z8 ?_
        refine zm ?_
        refine zh v9 ?_
        refine zh (vi ax) ?_
        obtain⟨bJ,e⟩:=zb e
        refine ai (i:=ax.toNat) rfl ic rfl bI (zg rfl bJ.1) (zy bJ) fun fh dp=>?_
        refine z1y (i:=ax.toNat) (j:=4) ty3 bI rfl rfl dp (zy bJ) rfl (j5.2 rfl) fun dq dr=>?_
        refine z8 ?_
        refine zm ?_
        obtain⟨ds,e⟩:=zb e
        refine zl (jg rfl rfl ds) ?_
        refine zh (vi (ax+1)) ?_
        refine z8 ?_
        exact⟨dkt,(RH.le.refl _),jm,(bc,ax+1,(up bH ax (-1)),dq),Nat.lt_succ_self _,⟨rfl,trivial⟩,prm,e,dr,(bl.trans List.length_set.symm),trivial⟩
      · refine jf ?_
        exact⟨dkt,bU,jm,(bH,dn),trivial,prm,(Option.some.inj e).symm,bI,bl,trivial⟩
    · rintro⟨U,dt⟩ fi fj s ⟨rfl,bK,dU,_⟩
      refine zt ?_
      refine zm ?_
      refine zl (qg fo rfl) ?_
      refine zl (qi (i:=0) zn9 rfl rfl rfl) ?_
      refine zh v9 ?_
      refine zl (z7j [(0,(vi (-1))),(1,(vi (-1))),(2,(.agg #[v9]))] (ps:=[(0,(vi (-1))),(1,(vi (-1))),(2,v9)]) (v:=(.agg #[(vi (-1)),(vi (-1)),v9])) rfl (by simp only [List.map_cons,List.map_nil,lw bK];rfl) (fun w=>by kernel_rfl)) ?_
      refine q19 (K:=rSprobes_Node) (nx:=(((-1):Int),((-1):Int),v9)) (cs:=[(vi (-1)),(vi (-1)),v9]) (u:=(.agg #[(vi (-1)),(vi (-1)),v9])) rfl underlying43 q80 rfl rfl ⟨_,_,rfl,rfl,⟨_,_,rfl,rfl,⟨rfl,z0w bK⟩⟩⟩ rfl fun fk fl o du=>?_
      obtain⟨bV,x⟩:=zb x
      refine zhs (Oc:=[fO,dt]) (Or:=[box b [ac] 45,box a [f] 77,box d [(.func (.func 40) #[] #[(.pointer (some ⟨b,0,none⟩)),k,(.pointer (some ⟨a,0,none⟩)),(.pointer (some ⟨d,0,none⟩))])] 80]++A) rfl (pk 1 rfl (pk 3 rfl (pk 0 rfl (pk 0 rfl (pk 0 rfl (List.Perm.refl _)))))) (zr2 (K:=rSprobes_Node) (nx:=(⟨(-1),(-1),U⟩:Sa)) underlying43 q80 rfl rfl (ad.mono ((G.trans s).trans o)) (bK.mono o) du bV.1 bV.2) ?_
      rintro aj fm dV dW ⟨rfl,aP,rfl,aE⟩
      obtain⟨be,aT⟩: ∃ V,V=aS++[v9]:=⟨_,rfl⟩;rw [←aT] at aE
      have ar:be[p0_.length]? =some v9:=by rw [aT];exact q72 (zun (ad.mono ((G.trans s).trans o)))
      have aU:=(List.prefix_rfl.trans ba).trans (List.prefix_append aS [v9]);rw [←aT] at aU
      refine zl (qg fo rfl) ?_
      refine jr (i:=1) (vs:=[aj]) qc9 rfl rfl (q1h aE) rfl rfl rfl (qf (q8r aE) jv) ?_
      refine z8 ?_
      refine zt ?_
      refine zt ?_
      refine zm ?_
      refine zh S ?_
      refine zl (qw rfl underlying32 rfl (ja (ab.mono ((G.trans s).trans o)))) ?_
      refine zl (yu rfl rfl) ?_
      refine z8 ?_
      refine zu rfl x (fun x=>?_) (fun x=>?_)
      · refine zt ?_
        refine z4j 8 mixed (by kernel_rfl) (by kernel_rfl) ?_
        refine uw (v:=(.pointer (some ⟨b,0,none⟩))) (qg fo rfl) ?_
        refine uw (v:=aj) (qi (i:=1) zn9 rfl rfl rfl) ?_
        refine uw (v:=(vi (↑p0_.length:Int))) (zf rfl) ?_
        refine uw (v:=E) (zf rfl) ?_
        obtain⟨bW,x⟩:=zb x
        refine z3n (mh (i:=(0:Int).toNat) ic rfl (ja (ag.mono ((G.trans s).trans o))) (zg rfl bW.1) (zy bW)) fun fn dv=>?_
        refine uw (nz (kw ty3 rfl dv)) ?_
        obtain⟨bL,x⟩:=zb x
        refine z3n (zvi (i:=(↑p0_.length:Int).toNat) q7f rfl aE (zg rfl bL.1) (zy bL)) fun fp dw=>?_
        refine z3n (zjq zda rfl dw) fun dx dy=>?_
        intro fq bm
        refine zca (Oc:=[aP]) (Or:=[box b [aj] 45,box a [f] 77,box d [(.func (.func 40) #[] #[(.pointer (some ⟨b,0,none⟩)),k,(.pointer (some ⟨a,0,none⟩)),(.pointer (some ⟨d,0,none⟩))])] 80]++A) (List.Perm.refl _) (zhi (K:=rSprobes_Node) (i:=(↑p0_.length:Int).toNat) (u:=dx) (nx:=(⟨(ix (p0_++[(⟨(-1),(-1),U⟩:Sa)]) (↑p0_.length:Int)).fB,(ix p 0),(ix (p0_++[(⟨(-1),(-1),U⟩:Sa)]) (↑p0_.length:Int)).fC⟩:Sa)) (q8p zv5) ty3 (aE.mono bm) rfl dy (zy bL) rfl (j5.2 rfl) rfl (fun _=>rfl)) ?_
        rintro fr fs dX dY ⟨rfl,bX,rfl,dz⟩
        refine z8 ?_
        refine zt ?_
        refine zm ?_
        refine zh (vi (↑p0_.length:Int)) ?_
        refine zi (vi (↑p0_.length:Int)) ?_
        refine z8 ?_
        refine qx ?_
        obtain rfl:=Option.some.inj x
        refine z5k (D:=[]) (J:=[]) (O':=[box b [aj] 45,bX,box a [f] 77,box d [(.func (.func 40) #[] #[(.pointer (some ⟨b,0,none⟩)),k,(.pointer (some ⟨a,0,none⟩)),(.pointer (some ⟨d,0,none⟩))])] 80]) (rs:=[.tmp 8]) (vs:=[(vi (↑p0_.length:Int))]) (((G.trans s).trans o).trans bm) ((pk 1 rfl (pk 0 rfl (pk 0 rfl (pk 0 rfl (List.Perm.refl _)))))) rfl ⟨rfl,trivial⟩ ?_
        exact⟨aj,bX,rfl,rfl,(zhn (aU.trans List.prefix_rfl) dz)⟩
      · refine qa ?_
        refine zt ?_
        refine zm ?_
        refine zi (.int .u16 0) ?_
        refine z8 ?_
        obtain⟨O,e,x⟩:=zo x
        refine qp (γ:=Int) (rs [12,13,14,15,55,66]) (fun g=>[(12,(.int .u16 g))]) (fun g=>[box b [aj] 45,aP,box a [f] 77,box d [(.func (.func 40) #[] #[(.pointer (some ⟨b,0,none⟩)),k,(.pointer (some ⟨a,0,none⟩)),(.pointer (some ⟨d,0,none⟩))])] 80]++A) (fun g R=>O=g∧True) ?_ ?_
        · refine zt ?_
          refine zm ?_
          refine zh S ?_
          refine zl (qw rfl underlying32 rfl (ja (ab.mono ((G.trans s).trans o)))) ?_
          refine zh (vi 0) ?_
          refine z8 ?_
          refine zx ?_
          refine jc (γ:=Nat×Int×Int) (rs [12,13,14,15,57,66]) (fun g=>[(12,(.int .u16 g.2.1)),(57,(vi g.2.2))]) (fun g=>[box b [aj] 45,aP,box a [f] 77,box d [(.func (.func 40) #[] #[(.pointer (some ⟨b,0,none⟩)),k,(.pointer (some ⟨a,0,none⟩)),(.pointer (some ⟨d,0,none⟩))])] 80]++A) (fun g R=>pz N now g.1 g.2.1 g.2.2=some O∧True) (fun g=>g.1) (N,0,0) ⟨[],(pk 1 rfl (pk 0 rfl (pk 0 rfl (pk 0 rfl (List.Perm.refl _)))))⟩ ⟨e,trivial⟩ ?_
          clear e
          rintro⟨bg,aV,az⟩ dZ ft bn ⟨e,_⟩
          rcases bg with _|bg
          · exact qo e
          replace e:pz N now (bg+1) aV az=some O:=e;rw [pz] at e
          refine zt ?_
          refine zm ?_
          refine zl (j6 rfl rfl) ?_
          refine z8 ?_
          refine zt ?_
          refine zu rfl e (fun e=>?_) (fun e=>?_)
          · refine qa ?_
            refine zt ?_
            refine zx ?_
            refine zt ?_
            refine zm ?_
            obtain⟨bY,e⟩:=zb e
            refine kg (i:=az.toNat) rfl ic rfl (ja (ab.mono (((G.trans s).trans o).trans bn))) (zg rfl bY.1) (zy bY) fun fu dA=>?_
            refine qj rfl ty3 rfl dA fun fv dB=>?_
            obtain rfl:=j5.1 dB
            refine zi (vi (ix now az)) ?_
            refine z8 ?_
            refine zm ?_
            refine zh (.int .u16 aV) ?_
            refine zh (vi (ix now az)) ?_
            obtain⟨bZ,e⟩:=zb e
            refine zl (z7c rfl rfl bZ) ?_
            obtain⟨b0,e⟩:=zb e
            refine zl (zhl rfl rfl b0) ?_
            refine zi (.int .u16 (ior aV (lh .u16 (1:Int) (ix now az)))) ?_
            refine z8 ?_
            refine zm ?_
            obtain⟨b1,e⟩:=zb e
            refine zl (jg rfl rfl b1) ?_
            refine zh (vi (az+1)) ?_
            refine z8 ?_
            exact⟨dkt,(RH.le.refl _),jm,(bg,ior aV (lh .u16 (1:Int) (ix now az)),az+1),Nat.lt_succ_self _,⟨rfl,rfl,trivial⟩,prm,e,trivial⟩
          · refine jf ?_
            exact⟨dkt,bn,jm,aV,⟨rfl,trivial⟩,prm,(Option.some.inj e).symm,trivial⟩
        · rintro O d5 fw y ⟨rfl,_⟩
          refine zt ?_
          refine zm ?_
          refine zi (vi 0) ?_
          refine z8 ?_
          obtain⟨t,e,x⟩:=zo x
          refine qp (γ:=Int) (rs [15,16,66,79]) (fun g=>[(15,(vi g))]) (fun g=>[box b [aj] 45,aP,box d [(.func (.func 40) #[] #[(.pointer (some ⟨b,0,none⟩)),k,(.pointer (some ⟨a,0,none⟩)),(.pointer (some ⟨d,0,none⟩))])] 80,box a [f] 77]++A) (fun g R=>t=g∧True) ?_ ?_
          · refine zx ?_
            refine jc (γ:=Nat×Int) (rs [15,16,66,79]) (fun g=>[(15,(vi g.2))]) (fun g=>[box b [aj] 45,aP,box a [f] 77,box d [(.func (.func 40) #[] #[(.pointer (some ⟨b,0,none⟩)),k,(.pointer (some ⟨a,0,none⟩)),(.pointer (some ⟨d,0,none⟩))])] 80]++A) (fun g R=>z02 N p1_ p2_ O g.1 g.2=some t∧True) (fun g=>g.1) (N,0) prm ⟨e,trivial⟩ ?_
            clear e
            rintro⟨aI,W⟩ d6 d7 ak ⟨e,_⟩
            rcases aI with _|aI
            · exact qo e
            replace e:z02 N p1_ p2_ O (aI+1) W=some t:=e;rw [z02] at e
            refine zt ?_
            refine zt ?_
            obtain⟨b2,e⟩:=zb e
            obtain⟨bo,b3,e⟩:=zo e
            refine oh 11 [] [phX f,phR (jy false false) p1_,phX (.int .u16 O),phX (vi W),phX f,phX (.int .u16 O),phX f,phP (qb .i64) (ix p2_.1 O),phX (vi (ix p2_.1 O)),phX (.bool bo),phX (.bool (!bo))] mixed (by kernel_rfl) (bi ⟨zq,bf,zq,zq,zq,zq,zq,uf,zq,zq,zq,trivial⟩) ⟨?_,?_,?_,?_,?_,?_,?_,?_,?_,?_,?_,trivial⟩ fun d8 aW=>?_
            · intro l fx Z ha hd
              have a4:l 4=(.pointer (some ⟨a,0,none⟩)):=ha 4 rfl
              exact za rfl rfl rfl (q8 (qi (i:=2) q83 a4 rfl rfl))
            · intro l fy Z ha hd
              have a3:l 3=k:=ha 3 rfl
              exact za rfl rfl rfl (jo z2i a3 ((ae.mono ((((G.trans s).trans o).trans y).trans ak)).mono Z))
            · intro l fA Z ha hd
              have bM:l 12=(.int .u16 O):=ha 12 rfl
              exact za rfl rfl rfl (q8 (zf bM))
            · intro l fD Z ha hd
              have dD:l 15=(vi W):=ha 15 rfl
              exact za rfl rfl rfl (q8 (zf dD))
            · intro l fF Z ha hd
              have a4:l 4=(.pointer (some ⟨a,0,none⟩)):=ha 4 rfl
              exact za rfl rfl rfl (q8 (qi (i:=2) q83 a4 rfl rfl))
            · intro l fG Z ha hd
              have bM:l 12=(.int .u16 O):=ha 12 rfl
              exact za rfl rfl rfl (q8 (zf bM))
            · rintro l fH Z ha ⟨d0,_⟩
              have dE:=d0 rfl
              exact za rfl rfl rfl (q8 (zc4 dE ((ah.mono ((((G.trans s).trans o).trans y).trans ak)).mono Z)))
            · rintro l fI Z ha ⟨d0,d1,_⟩
              have dG:=d0 rfl
              have dH:=d1 rfl
              exact za rfl rfl rfl (znc (X:=p2_) (q:=O) zxf rfl dG ((ah.mono ((((G.trans s).trans o).trans y).trans ak)).mono Z) dH b2)
            · rintro l fJ Z ha ⟨d0,_⟩
              have dI:=d0 rfl
              exact za rfl rfl rfl (yf (jo ty3 rfl dI) (fun _ _ h=>j5.1 h))
            · rintro l fK Z ha ⟨d0,d1,d2,d3,d4,_⟩
              have dJ:l 66=f:=d0 rfl
              have dK:=d1 rfl
              have dL:l 68=(.int .u16 O):=d2 rfl
              have dM:l 69=(vi W):=d3 rfl
              have dN:l 74=(vi (ix p2_.1 O)):=d4 rfl
              exact za rfl rfl rfl (pg (vs:=[f,(l 67),(.int .u16 O),(vi W),(vi (ix p2_.1 O))]) qc8 (by simp only [List.map,ev,dJ,dL,dM,dN]<;>rfl) (z8r (z3b.2 ((ah.mono ((((G.trans s).trans o).trans y).trans ak)).mono Z)) dK b3) (fun _ _ h=>h))
            · rintro l d9 Z ha ⟨d0,_⟩
              have dO:=d0 rfl
              exact za rfl rfl rfl (q8 (z0r dO))
            intro ea b5
            intro eb ec
            intro ed b6
            intro ee b7
            intro ef b8
            intro eg b9
            intro eh ca
            intro ei ej
            intro ek cb
            intro el cc
            intro em cd
            obtain rfl:=Eq.symm b5
            obtain rfl:=Eq.symm b6
            obtain rfl:=Eq.symm b7
            obtain rfl:=Eq.symm b8
            obtain rfl:=Eq.symm b9
            obtain rfl:=Eq.symm ca
            obtain rfl:=Eq.symm cb
            obtain rfl:=Eq.symm cc
            obtain rfl:=Eq.symm cd
            refine z8 ?_
            refine zu rfl e (fun e=>?_) (fun e=>?_)
            · refine qa ?_
              refine zx ?_
              refine zm ?_
              refine zh (vi W) ?_
              obtain⟨ce,e⟩:=zb e
              refine zl (jg rfl rfl ce) ?_
              refine zi (vi (W+1)) ?_
              refine z8 ?_
              exact⟨dkt,aW,jm,(aI,W+1),Nat.lt_succ_self _,⟨rfl,trivial⟩,prm,e,trivial⟩
            · refine jf ?_
              exact⟨dkt,(ak.trans aW),jm,W,⟨rfl,trivial⟩,⟨[],(pk 0 rfl (pk 0 rfl (pk 1 rfl (pk 0 rfl (List.Perm.refl _)))))⟩,(Option.some.inj e).symm,trivial⟩
          · rintro t en eo z ⟨rfl,_⟩
            refine zt ?_
            refine zm ?_
            refine zl (qg fo rfl) ?_
            refine zl (qi (i:=0) zn9 rfl rfl rfl) ?_
            refine zh (vi (↑p0_.length:Int)) ?_
            refine zh (vi t) ?_
            obtain⟨aX,x⟩:=zb x
            refine z2z rfl (zwl (i:=(↑p0_.length:Int).toNat) q7f rfl (aE.mono (y.trans z)) (zg rfl aX.1) (zy aX)) fun ep eq I cf=>?_
            refine z2z rfl (zfr z9f rfl cf) fun cg er L ch=>?_
            refine zca (Oc:=[aP]) (Or:=[box b [aj] 45,box d [(.func (.func 40) #[] #[(.pointer (some ⟨b,0,none⟩)),k,(.pointer (some ⟨a,0,none⟩)),(.pointer (some ⟨d,0,none⟩))])] 80,box a [f] 77]++A) (pk 1 rfl (pk 0 rfl (pk 0 rfl (pk 0 rfl (List.Perm.refl _))))) (zhi (K:=rSprobes_Node) (i:=(↑p0_.length:Int).toNat) (u:=cg) (nx:=(⟨t,(ix (p0_++[(⟨(-1),(-1),U⟩:Sa)]) (↑p0_.length:Int)).fE,(ix (p0_++[(⟨(-1),(-1),U⟩:Sa)]) (↑p0_.length:Int)).fC⟩:Sa)) zv5 ty3 (aE.mono (((y.trans z).trans I).trans L)) rfl ch (zy aX) rfl (j5.2 rfl) rfl (fun _=>rfl)) ?_
            rintro es et dP dQ ⟨rfl,ci,rfl,aY⟩
            refine z8 ?_
            obtain⟨aJ,e,x⟩:=zo x
            refine qp (γ:=(List Sa)×Value×Frag) (rs [16,21,85,139]) (fun g=>[]) (fun g=>[box b [g.2.1] 45,g.2.2,box a [f] 77,box d [(.func (.func 40) #[] #[(.pointer (some ⟨b,0,none⟩)),k,(.pointer (some ⟨a,0,none⟩)),(.pointer (some ⟨d,0,none⟩))])] 80]++A) (fun g R=>aJ=g.1∧NS rSprobes_Node be R g.2.2 g.2.1 g.1∧True) ?_ ?_
            · refine zt ?_
              refine zm ?_
              refine zh v9 ?_
              refine z2z rfl (q8 (zvo (K:=rSprobes_Node) (r:=p0_.length) rfl underlying32 aY (zux List.prefix_rfl ar aY) (zuy List.prefix_rfl ar) rfl)) fun eu ew M cj=>?_
              obtain rfl:=Eq.symm cj
              refine zh (vi 0) ?_
              refine z8 ?_
              refine zx ?_
              refine jc (γ:=Nat×Int×(List Sa)×Value×Frag) (rs [16,21,87,139]) (fun g=>[(87,(vi g.2.1))]) (fun g=>[box d [(.func (.func 40) #[] #[(.pointer (some ⟨b,0,none⟩)),k,(.pointer (some ⟨a,0,none⟩)),(.pointer (some ⟨d,0,none⟩))])] 80,box b [g.2.2.2.1] 45,g.2.2.2.2,box a [f] 77]++A) (fun g R=>df N (mi N F) now p p0_ p1_ p2_ U t g.1 g.2.1 g.2.2.1=some aJ∧NS rSprobes_Node be R g.2.2.2.2 g.2.2.2.1 g.2.2.1∧True) (fun g=>g.1) (N,0,(up (p0_++[(⟨(-1),(-1),U⟩:Sa)]) (↑p0_.length:Int) (⟨t,(ix (p0_++[(⟨(-1),(-1),U⟩:Sa)]) (↑p0_.length:Int)).fE,(ix (p0_++[(⟨(-1),(-1),U⟩:Sa)]) (↑p0_.length:Int)).fC⟩:Sa)),aj,ci) ⟨[],(pk 2 rfl (pk 1 rfl (pk 0 rfl (pk 0 rfl (List.Perm.refl _)))))⟩ ⟨e,(zhn List.prefix_rfl (aY.mono M)),trivial⟩ ?_
              clear e
              rintro⟨aK,H,aZ,au,av⟩ ex ey P ⟨e,⟨ez,aF,a0⟩,_⟩
              rcases aK with _|aK
              · exact qo e
              replace e:df N (mi N F) now p p0_ p1_ p2_ U t (aK+1) H aZ=some aJ:=e;rw [df] at e
              refine zt ?_
              refine zm ?_
              refine zl (j6 rfl rfl) ?_
              refine z8 ?_
              refine zt ?_
              refine zu rfl e (fun e=>?_) (fun e=>?_)
              · refine qa ?_
                obtain⟨a1,al,e⟩:=zo e
                refine qp (γ:=(List Sa)×Value×Frag) (rs [16,21,89,138]) (fun g=>[]) (fun g=>[box d [(.func (.func 40) #[] #[(.pointer (some ⟨b,0,none⟩)),k,(.pointer (some ⟨a,0,none⟩)),(.pointer (some ⟨d,0,none⟩))])] 80,box b [g.2.1] 45,g.2.2,box a [f] 77]++A) (fun g R=>a1=g.1∧NS rSprobes_Node be R g.2.2 g.2.1 g.1∧True) ?_ ?_
                · refine zx ?_
                  refine zt ?_
                  refine zm ?_
                  refine zh (vi H) ?_
                  refine zi (vi H) ?_
                  refine z8 ?_
                  refine zt ?_
                  refine zm ?_
                  refine zi vs0 ?_
                  refine zi vs0 ?_
                  refine z8 ?_
                  obtain⟨aw,Q,al⟩:=zo al
                  refine qp (γ:=(List Int×List Int)×Value×Frag×Value×Frag) (rs [17,21,90,128]) (fun g=>[(17,g.2.1),(18,g.2.2.2.1)]) (fun g=>[box d [(.func (.func 40) #[] #[(.pointer (some ⟨b,0,none⟩)),k,(.pointer (some ⟨a,0,none⟩)),(.pointer (some ⟨d,0,none⟩))])] 80,box b [au] 45,av,box a [f] 77,g.2.2.1,g.2.2.2.2]++A) (fun g R=>aw=g.1∧ORep (qb .i64) R g.2.2.1 g.2.1 g.1.1∧ORep (qb .i64) R g.2.2.2.2 g.2.2.2.1 g.1.2∧True) ?_ ?_
                  · refine zt ?_
                    refine zm ?_
                    refine zh S ?_
                    refine zl (qw rfl underlying32 rfl (ja (ab.mono ((((((((G.trans s).trans o).trans y).trans z).trans I).trans L).trans M).trans P)))) ?_
                    refine zh (vi 0) ?_
                    refine z8 ?_
                    refine zx ?_
                    refine z2l ?_
                    refine z2l ?_
                    refine jc (γ:=Nat×(List Int)×(List Int)×Int×Value×Frag×Value×Frag) (rs [17,21,92,128]) (fun g=>[(17,g.2.2.2.2.1),(18,g.2.2.2.2.2.2.1),(92,(vi g.2.2.2.1))]) (fun g=>[box d [(.func (.func 40) #[] #[(.pointer (some ⟨b,0,none⟩)),k,(.pointer (some ⟨a,0,none⟩)),(.pointer (some ⟨d,0,none⟩))])] 80,box b [au] 45,av,box a [f] 77,g.2.2.2.2.2.1,g.2.2.2.2.2.2.2]++A) (fun g R=>xw N now p p1_ t H g.1 g.2.1 g.2.2.1 g.2.2.2.1=some aw∧ORep (qb .i64) R g.2.2.2.2.2.1 g.2.2.2.2.1 g.2.1∧ORep (qb .i64) R g.2.2.2.2.2.2.2 g.2.2.2.2.2.2.1 g.2.2.1∧True) (fun g=>g.1) (N,[],[],0,vs0,emp,vs0,emp) ⟨[],(pk 2 rfl (pk 2 rfl (pk 2 rfl (pk 2 rfl (pk 1 rfl (pk 0 rfl (List.Perm.refl _)))))))⟩ ⟨Q,(lm (T:=(qb .i64))),(lm (T:=(qb .i64))),trivial⟩ ?_
                    clear Q
                    rintro⟨aL,aA,aB,n,a2,bp,a5,bq⟩ eA eB am ⟨Q,a6,a7,_⟩
                    rcases aL with _|aL
                    · exact qo Q
                    replace Q:xw N now p p1_ t H (aL+1) aA aB n=some aw:=Q;rw [xw] at Q
                    refine zt ?_
                    refine zm ?_
                    refine zl (j6 rfl rfl) ?_
                    refine z8 ?_
                    refine zt ?_
                    refine zu rfl Q (fun Q=>?_) (fun Q=>?_)
                    · refine qa ?_
                      obtain⟨aM,C,Q⟩:=zo Q
                      refine qp (γ:=(List Int×List Int)×Value×Frag×Value×Frag) (rs [17,21,94,127]) (fun g=>[(17,g.2.1),(18,g.2.2.2.1)]) (fun g=>[box d [(.func (.func 40) #[] #[(.pointer (some ⟨b,0,none⟩)),k,(.pointer (some ⟨a,0,none⟩)),(.pointer (some ⟨d,0,none⟩))])] 80,box b [au] 45,av,box a [f] 77,g.2.2.1,g.2.2.2.2]++A) (fun g R=>aM=g.1∧ORep (qb .i64) R g.2.2.1 g.2.1 g.1.1∧ORep (qb .i64) R g.2.2.2.2 g.2.2.2.1 g.1.2∧True) ?_ ?_
                      · refine zx ?_
                        refine zt ?_
                        refine zm ?_
                        refine zh (vi n) ?_
                        obtain⟨br,C⟩:=zb C
                        refine kg (i:=n.toNat) rfl ic rfl (ja (ab.mono (((((((((G.trans s).trans o).trans y).trans z).trans I).trans L).trans M).trans P).trans am))) (zg rfl br.1) (zy br) fun eC ck=>?_
                        refine qj rfl ty3 rfl ck fun eD cl=>?_
                        obtain rfl:=j5.1 cl
                        refine zi (vi n) ?_
                        refine zi (vi (ix now n)) ?_
                        refine z8 ?_
                        refine zt ?_
                        refine zm ?_
                        refine je rfl xc uy rfl (ae.mono (((((((((G.trans s).trans o).trans y).trans z).trans I).trans L).trans M).trans P).trans am)) fun eE cm=>?_
                        refine qj rfl z3p rfl cm fun eF cn=>?_
                        refine zh (vi (ix now n)) ?_
                        obtain⟨bs,C⟩:=zb C
                        refine kg (i:=(ix now n).toNat) rfl zaq rfl (ja cn) (zg rfl bs.1) (zy bs) fun eG co=>?_
                        refine qj rfl za8 rfl co fun eH cp=>?_
                        refine zh (vi t) ?_
                        obtain⟨bt,C⟩:=zb C
                        refine kg (i:=t.toNat) rfl zb5 rfl (ja cp) (zg rfl bt.1) (zy bt) fun eI cq=>?_
                        refine je rfl z5n zhb rfl cq fun eJ cr=>?_
                        refine qj rfl ty3 rfl cr fun eK ct=>?_
                        obtain rfl:=j5.1 ct
                        refine zh (vi H) ?_
                        refine zl (yu rfl rfl) ?_
                        refine z8 ?_
                        refine zu rfl C (fun C=>?_) (fun C=>?_)
                        · refine zt ?_
                          refine zm ?_
                          refine zh a2 ?_
                          refine je rfl xc uy rfl (ae.mono (((((((((G.trans s).trans o).trans y).trans z).trans I).trans L).trans M).trans P).trans am)) fun eL cu=>?_
                          refine qj rfl z3p rfl cu fun eM cv=>?_
                          refine zh (vi (ix now n)) ?_
                          obtain⟨bu,C⟩:=zb C
                          refine kg (i:=(ix now n).toNat) rfl zaq rfl (ja cv) (zg rfl bu.1) (zy bu) fun eN cw=>?_
                          refine qj rfl za8 rfl cw fun eO cx=>?_
                          refine zh (vi t) ?_
                          obtain⟨bv,C⟩:=zb C
                          refine kg (i:=t.toNat) rfl zb5 rfl (ja cx) (zg rfl bv.1) (zy bv) fun eP cy=>?_
                          refine je rfl z0v zbb rfl cy fun eQ cz=>?_
                          refine qj rfl ty3 rfl cz fun eR cA=>?_
                          obtain rfl:=j5.1 cA
                          let G1:=([(ix (ix p1_.rows (ix now n)) t).to]:List Int)
                          refine sw (T:=(qb .i64)) (X:=G1) (ps:=[(0,(vi ((ix (ix p1_.rows (ix now n)) t).to)))]) (css:=[[(vi ((ix (ix p1_.rows (ix now n)) t).to))]]) rfl underlying32 zo3 rfl rfl (ky ⟨rfl,trivial⟩) rfl rfl (by decide) fun cB eS bj cC=>?_
                          refine vo (i:=0) rfl cC fun cD ay cE=>?_
                          have cF:VRep (tSl true (qb .i64)) cD cB G1:=(z3o cE bj)
                          obtain⟨bw,C⟩:=zb C
                          refine pu (i:=4) (X:=aA) (Y:=G1) rfl underlying32 zo3 rfl rfl rfl (a6.mono ay) (ja (Sub.v (B:=(tSl false (qb .i64))) (uh Sub.refl (fun _=>rfl)) cF)) bw.1 bw.2 fun bx cG cH=>?_
                          refine zi bx ?_
                          refine z8 ?_
                          refine zm ?_
                          refine zh a5 ?_
                          refine zh E ?_
                          refine zh (vi n) ?_
                          obtain⟨bz,C⟩:=zb C
                          refine kg (i:=n.toNat) rfl ic rfl (ja (ag.mono ((((((((((G.trans s).trans o).trans y).trans z).trans I).trans L).trans M).trans P).trans am).trans ay))) (zg rfl bz.1) (zy bz) fun eT cI=>?_
                          refine qj rfl ty3 rfl cI fun eU cJ=>?_
                          obtain rfl:=j5.1 cJ
                          refine sw (T:=(qb .i64)) (X:=([(ix p n)]:List Int)) (ps:=[(0,(vi (ix p n)))]) (css:=[[(vi (ix p n))]]) rfl underlying32 zo3 rfl rfl (ky ⟨rfl,trivial⟩) rfl rfl (by decide) fun cK eV bk cL=>?_
                          refine vo (i:=0) rfl cL fun cM aG cN=>?_
                          have cO:VRep (tSl true (qb .i64)) cM cK ([(ix p n)]:List Int):=(z3o cN bk)
                          obtain⟨bA,C⟩:=zb C
                          refine pu (i:=5) (X:=aB) (Y:=([(ix p n)]:List Int)) rfl underlying32 zo3 rfl rfl rfl (a7.mono (ay.trans aG)) (ja (Sub.v (B:=(tSl false (qb .i64))) (uh Sub.refl (fun _=>rfl)) cO)) bA.1 bA.2 fun bB cP cQ=>?_
                          refine zi bB ?_
                          refine z8 ?_
                          exact⟨dkt,(ay.trans aG),jm,(((aA++G1),(aB++([(ix p n)]:List Int))),bx,cG,bB,cP),⟨rfl,rfl,trivial⟩,prm,(Option.some.inj C).symm,(cH.mono aG),cQ,trivial⟩
                        · refine qa ?_
                          exact⟨dkt,(RH.le.refl _),jm,((aA,aB),a2,bp,a5,bq),⟨rfl,rfl,trivial⟩,prm,(Option.some.inj C).symm,a6,a7,trivial⟩
                      · rintro⟨aM,cR,cS,cT,cU⟩ eW eX bN ⟨rfl,cV,cW,_⟩
                        refine zm ?_
                        obtain⟨cX,Q⟩:=zb Q
                        refine zl (jg rfl rfl cX) ?_
                        refine zh (vi (n+1)) ?_
                        refine z8 ?_
                        exact⟨dkt,bN,jm,(aL,aM.1,aM.2,n+1,cR,cS,cT,cU),Nat.lt_succ_self _,⟨rfl,rfl,rfl,trivial⟩,prm,Q,cV,cW,trivial⟩
                    · refine jf ?_
                      exact⟨dkt,am,jm,((aA,aB),a2,bp,a5,bq),⟨rfl,rfl,trivial⟩,prm,(Option.some.inj Q).symm,a6,a7,trivial⟩
                  · rintro⟨aw,aN,cY,a8,cZ⟩ eY eZ af ⟨rfl,bC,c0,_⟩
                    refine zt ?_
                    refine zm ?_
                    refine zh aN ?_
                    refine zl (l6 rfl underlying32 rfl bC) ?_
                    refine zl (z5a rfl rfl) ?_
                    refine z8 ?_
                    refine zu rfl al (fun al=>?_) (fun al=>?_)
                    · refine zm ?_
                      refine zh v9 ?_
                      refine zh (vi H) ?_
                      refine zl (qi (i:=0) qcp rfl rfl rfl) ?_
                      refine zh aN ?_
                      refine zh a8 ?_
                      refine vo (i:=4) rfl bC fun c1 an c2=>?_
                      have c3:VRep (tSl false (qb .i64)) c1 aN aw.1:=(z5v c2)
                      refine vo (i:=4) rfl (c0.mono an) fun c4 ao c5=>?_
                      have c6:VRep (tSl false (qb .i64)) c4 a8 aw.2:=(z5v c5)
                      obtain⟨aa,c7,al⟩:=zo al
                      refine ziq (Oc:=[box b [au] 45,av,box a [f] 77,box d [(.func (.func 40) #[] #[(.pointer (some ⟨b,0,none⟩)),k,(.pointer (some ⟨a,0,none⟩)),(.pointer (some ⟨d,0,none⟩))])] 80]) (Or:=[]++A) (cs:=[(.pointer (some ⟨b,0,none⟩)),k,(.pointer (some ⟨a,0,none⟩)),(.pointer (some ⟨d,0,none⟩))]) (vs:=[aN,a8]) rfl qbv rfl rfl ((pk 1 rfl (pk 1 rfl (pk 1 rfl (pk 0 rfl (List.Perm.refl _)))))) (ih (c3.mono ao) c6 (zhn aF (a0.mono ((af.trans an).trans ao))) (ae.mono (((((((((((G.trans s).trans o).trans y).trans z).trans I).trans L).trans M).trans P).trans af).trans an).trans ao)) (ah.mono (((((((((((G.trans s).trans o).trans y).trans z).trans I).trans L).trans M).trans P).trans af).trans an).trans ao)) c7) fun e0 e1 dR bO c8=>?_
                      obtain⟨bD,c9,rfl,rfl,⟨e2,ap,aO⟩⟩:=c8
                      obtain⟨a9,al⟩:=zb al
                      refine z2z rfl (zsd (K:=rSprobes_Node) (i:=H.toNat) (r:=p0_.length) ic aO (zux ap ar aO) (zuy ap ar) rfl (zg rfl a9.1) (zy a9)) fun da e3 aH db=>?_
                      refine zca (Oc:=[c9]) (Or:=[box b [bD] 45,box a [f] 77,box d [(.func (.func 40) #[] #[(.pointer (some ⟨b,0,none⟩)),k,(.pointer (some ⟨a,0,none⟩)),(.pointer (some ⟨d,0,none⟩))])] 80]++A) (pk 1 rfl (pk 0 rfl (pk 0 rfl (pk 0 rfl (List.Perm.refl _))))) (zrr (K:=rSprobes_Node) (i:=H.toNat) (r:=p0_.length) (u:=da) (u0:=v9) (nx:=(⟨(aa.2.getD p0_.length default).fB,(aa.2.getD p0_.length default).fE,up (aa.2.getD p0_.length default).fC H aa.1⟩:Sa)) ty3 (aO.mono aH) (zux ap ar (aO.mono aH)) (zuy ap ar) rfl db (zy a9) rfl (j5.2 rfl) rfl (fun _=>rfl)) ?_
                      rintro e4 e5 dS dT ⟨rfl,dc,rfl,dd⟩
                      refine z8 ?_
                      exact⟨dkt,((((af.trans an).trans ao).trans bO).trans aH),jm,((aa.2.set p0_.length (⟨(aa.2.getD p0_.length default).fB,(aa.2.getD p0_.length default).fE,up (aa.2.getD p0_.length default).fC H aa.1⟩:Sa)),bD,dc),trivial,⟨[],(pk 3 rfl (pk 1 rfl (pk 0 rfl (pk 0 rfl (List.Perm.refl _)))))⟩,(Option.some.inj al).symm,(zhn ap dd),trivial⟩
                    · refine qa ?_
                      exact⟨dkt,af,jm,(aZ,au,av),trivial,⟨[cY,cZ],(pk 4 rfl (pk 4 rfl (pk 0 rfl (pk 0 rfl (pk 0 rfl (pk 0 rfl (List.Perm.refl _)))))))⟩,(Option.some.inj al).symm,(zhn aF (a0.mono af)),trivial⟩
                · rintro⟨a1,de,dg⟩ e6 e7 bP ⟨rfl,⟨e8,bQ,di⟩,_⟩
                  refine zm ?_
                  obtain⟨dj,e⟩:=zb e
                  refine zl (jg rfl rfl dj) ?_
                  refine zh (vi (H+1)) ?_
                  refine z8 ?_
                  exact⟨dkt,bP,jm,(aK,H+1,a1,de,dg),Nat.lt_succ_self _,⟨rfl,trivial⟩,prm,e,(zhn bQ di),trivial⟩
              · refine jf ?_
                exact⟨dkt,(M.trans P),jm,(aZ,au,av),trivial,⟨[],(pk 1 rfl (pk 1 rfl (pk 1 rfl (pk 0 rfl (List.Perm.refl _)))))⟩,(Option.some.inj e).symm,(zhn aF a0),trivial⟩
            · rintro⟨aJ,bE,bF⟩ e9 fa bR ⟨rfl,⟨fb,bS,dk⟩,_⟩
              refine zt ?_
              refine zm ?_
              refine zh (vi (↑p0_.length:Int)) ?_
              refine zi (vi (↑p0_.length:Int)) ?_
              refine z8 ?_
              refine qx ?_
              obtain rfl:=Option.some.inj x
              refine z5k (D:=[]) (J:=[]) (O':=[box b [bE] 45,bF,box a [f] 77,box d [(.func (.func 40) #[] #[(.pointer (some ⟨b,0,none⟩)),k,(.pointer (some ⟨a,0,none⟩)),(.pointer (some ⟨d,0,none⟩))])] 80]) (rs:=[.tmp 8]) (vs:=[(vi (↑p0_.length:Int))]) (((((((G.trans s).trans o).trans y).trans z).trans I).trans L).trans bR) ((pk 0 rfl (pk 0 rfl (pk 0 rfl (pk 0 rfl (List.Perm.refl _)))))) rfl ⟨rfl,trivial⟩ ?_
              exact⟨bE,bF,rfl,rfl,(zhn (aU.trans bS) dk)⟩
theorem zj5{N:Nat}{R:RH}{now:(List Int)}{g:Value}(n:VRep (tSl false (qb .i64)) R g now){h:(List Int)}{e:Value}(i:VRep (tSl false (qb .i64)) R e h){a:Nat}{p0_:List Sa}{j:Value}{fO:Frag}{k:List Value}(o:NS rSprobes_Node k R fO j p0_){p1_:Mach}{d:Value}(p:PRep (jy false false) R d p1_){b:Nat}{p2_:(Arr 64 Int)}{f:Value}(q:PRep z5y R f p2_){c:Nat}{r:Int×List Sa}(s:mi N N now h p0_ p1_ p2_=some r):CallG prog 40 #[g,e,(.pointer (some ⟨a,0,none⟩)),d,(.pointer (some ⟨b,0,none⟩)),(.pointer (some ⟨c,0,none⟩))] R [box a [j] 45,fO,box b [f] 77,box c [.func (.func 40) #[] #[(.pointer (some ⟨a,0,none⟩)),d,(.pointer (some ⟨b,0,none⟩)),(.pointer (some ⟨c,0,none⟩))]] 80] (fun v R' O'=> ∃ l m,v=(vi r.1)∧O'=[box a [l] 45,m,box b [f] 77,box c [.func (.func 40) #[] #[(.pointer (some ⟨a,0,none⟩)),d,(.pointer (some ⟨b,0,none⟩)),(.pointer (some ⟨c,0,none⟩))]] 80]∧NS rSprobes_Node k R' m l r.2):=zev N n i o p q s
theorem q78{a:Bool}:TyOk prog 55 (zz a):=by
 obtain⟨i,hi,b⟩: ∃ i,prog.info? 55=some i∧i.size=3:=uz (by kernel_rfl);exact z2n underlying55 hi rfl b
theorem ze2{a:Bool}:SlOk prog 43 55 (zz a):=⟨underlying43,q78⟩
theorem zbg{N:Nat}{R:RH}{s:(List Sa)}{a:Value}(b:VRep (tSl false (zz false)) R a s){r:(List Sa)}(c:z0m N s=some r):CallP prog 42 #[a] R (fun v R'=>VRep (tSl true (zz false)) R' v r):=by
 refine qh (args:=[a]) func42 rfl rfl fun A=>?_;rw [z0m] at c;refine zk (zi vs0 (j4 (zh a (zh a (zl (qw rfl underlying43 rfl (ja b)) (zh a (zl (qw rfl underlying43 rfl (ja b)) ?_)))))));obtain⟨d,c⟩:=zb c
 refine zco (v:=a) (lo:=(0:Int).toNat) (hi:=(↑s.length:Int).toNat) (mx:=(↑s.length:Int).toNat) rfl ze2 rfl (ja b) (.inl ⟨rfl,rfl⟩) (.inr ⟨_,congrArg some (zg rfl (zkh d))⟩) (.inr ⟨_,congrArg some (zg rfl (zkh d))⟩) (zlr d) (zbk d) (Nat.le_refl _) (Nat.le_trans (zbk d) (zw9 (ja b))) (X':=(cut s 0 (↑s.length:Int))) rfl fun f g e=>?_
 have h:VRep (tSl true (zz false)) R f (cut s 0 (↑s.length:Int)):=z3o g (e.trans (zpw d).symm);refine zi f (z8 (qx ?_));obtain rfl:=Option.some.inj c;refine qd (D:=[]) (J:=[]) (rs:=[.tmp 2]) (vs:=[f]) (RH.le.refl _) rfl rfl ⟨rfl,trivial⟩ ?_;exact⟨rfl,h⟩
theorem qea:Enters prog 42:=enters_of func42 rfl (by kernel_rfl)
theorem ze7: ∀ w,(isAgg 45).run prog w= .ok true w:=fun w=>by kernel_rfl
theorem zf7{N:Nat}{R:RH}{m:Mach}{F:Value}(q:VRep (jy false false) R F m){r:Sb×Int}(a:z5c N m=some r):CallP prog 15 #[F] R (fun v R'=> ∃ u0,v= .tuple #[u0,(vi r.2)]∧VRep (ko true false) R' u0 r.1):=by
 refine qh (args:=[F]) func15 rfl rfl fun A=>?_;rw [z5c] at a;refine zk (ug (T:=(jy false false)) rfl rfl rfl q fun G R3 n h5 h2=>?_);refine kv rfl zwp fun L=>?_;refine zi (vi 0) (z8 (zt (zk (zl (u7 z2i rfl rfl h5 (q.mono n)) ?_))));obtain⟨M,c9,a⟩:=zo a
 refine jh rfl q66 rfl (z8j (q.mono n) c9) fun aP aQ c ai=>?_;obtain rfl:=ai;refine zi (vi M) (j4 (zh (vi M) (zl (xm rfl rfl) (z8 (zu rfl a (fun a=>?_) (fun a=>?_))))))
 refine zk (zl (bg (ps:=[]) (v:=(.agg #[vs0])) rfl (fun w=>by kernel_rfl)) (zh (vi M) (jr (i:=0) (vs:=[vs0]) z8x rfl rfl rfl rfl rfl rfl (qf rfl jv) ?_)));refine zi (vi M) (z8 (qx ?_));obtain rfl:=Option.some.inj a
 refine qd (D:=[]) (J:=[box L [vs0] 45]) (rs:=[.cell 2 45,.tmp 3]) (vs:=[(.agg #[vs0]),(vi M)]) (n.trans c) rfl rfl ⟨⟨_,rfl,fun w O=>z0z (i:=0) O rfl rfl ze7 z8x rfl rfl⟩,rfl,trivial⟩ ?_
 exact⟨rfl,⟨(.agg #[vs0]),rfl,(⟨_,(u6 (T:=(tSl true (zz false))) rfl z5w),rfl⟩:VRep (ko true false) _ _ (⟨[]⟩:Sb))⟩⟩;refine qa (zk (zl (u7 z2i rfl rfl (h5.mono c) (q.mono (n.trans c))) ?_));obtain⟨aR,aj,a⟩:=zo a
 refine jh rfl qdv rfl (zjk (q.mono (n.trans c)) aj) fun p aS k y=>?_;refine kv rfl qe1 fun d=>?_;refine jr (i:=0) (vs:=[p]) qd3 rfl rfl (zql (zsw (z3b.1 y))) rfl rfl rfl (qf (zsw (z3b.1 y)) jv) ?_;refine j4 (je rfl xc uy rfl (h2.mono (c.trans k)) fun aT ak=>?_)
 refine qj rfl z3p rfl ak fun aU al=>?_;refine zl (qw rfl underlying28 rfl (ja al)) ?_;obtain⟨am,a⟩:=zb a
 refine zl (z7c rfl rfl am) (zl (znk rfl rfl) (zi (.int .u16 (IntKind.u16.wrap ((lh .u16 (1:Int) (↑m.rows.length:Int))-1))) (z8 (zt (zk (zl (qi (i:=0) q83 rfl rfl rfl) (zh (.int .u16 (IntKind.u16.wrap ((lh .u16 (1:Int) (↑m.rows.length:Int))-1))) ?_)))))));obtain⟨aV,an,a⟩:=zo a
 refine jh rfl q88 rfl (z5u (z3b.2 (z3b.1 y)) an) fun aW aX l ao=>?_;obtain rfl:=ao;refine zl (z0r rfl) (z8 (zu rfl a (fun a=>?_) (fun a=>?_)))
 refine zk (zl (bg (ps:=[]) (v:=(.agg #[vs0])) rfl (fun w=>by kernel_rfl)) (jr (i:=1) (vs:=[vs0]) z8x rfl rfl rfl rfl rfl rfl (qf rfl jv) ?_));refine zi (vi 7) (z8 (qx ?_));obtain rfl:=Option.some.inj a
 refine qd (D:=[]) (J:=[box d [p] 77,box L [vs0] 45]) (rs:=[.cell 2 45,.tmp 3]) (vs:=[(.agg #[vs0]),(vi 7)]) (((n.trans c).trans k).trans l) rfl rfl ⟨⟨_,rfl,fun w O=>z0z (i:=1) O rfl rfl ze7 z8x rfl rfl⟩,rfl,trivial⟩ ?_
 exact⟨rfl,⟨(.agg #[vs0]),rfl,(⟨_,(u6 (T:=(tSl true (zz false))) rfl z5w),rfl⟩:VRep (ko true false) _ _ (⟨[]⟩:Sb))⟩⟩;refine qa (zk (kv rfl zwp fun f=>?_));refine j4 (kv rfl qdj fun h=>?_)
 refine j4 (zl (z1o (fs:=[]) (cs:=[(.pointer (some ⟨f,0,none⟩)),G,(.pointer (some ⟨d,0,none⟩)),(.pointer (some ⟨h,0,none⟩))]) rfl rfl) (jr (i:=0) (vs:=[(.func (.func 40) #[] #[(.pointer (some ⟨f,0,none⟩)),G,(.pointer (some ⟨d,0,none⟩)),(.pointer (some ⟨h,0,none⟩))])]) qd2 rfl rfl rfl rfl rfl rfl (qf rfl jv) ?_))
 refine j4 (zi vs0 (z8 ?_));obtain⟨s,b,a⟩:=zo a
 refine qp (γ:=(List Int)×Value×Frag) (rs [9,11,30,41]) (fun g=>[(9,g.2.1)]) (fun g=>[box L [vs0] 45,box f [vs0] 45,box h [(.func (.func 40) #[] #[(.pointer (some ⟨f,0,none⟩)),G,(.pointer (some ⟨d,0,none⟩)),(.pointer (some ⟨h,0,none⟩))])] 80,box d [p] 77,g.2.2]++A) (fun g R=>s=g.1∧ORep (qb .i64) R g.2.2 g.2.1 g.1∧True) ?_ ?_
 refine zk (je rfl xc uy rfl (h2.mono ((c.trans k).trans l)) fun aY ap=>?_);refine qj rfl z3p rfl ap fun aZ aq=>?_;refine zl (qw rfl underlying28 rfl (ja aq)) (zh (vi 0) (z8 (zx (z2l ?_))))
 refine jc (γ:=Nat×(List Int)×Int×Value×Frag) (rs [9,11,33,41]) (fun g=>[(9,g.2.2.2.1),(33,(vi g.2.2.1))]) (fun g=>[box L [vs0] 45,box f [vs0] 45,box h [(.func (.func 40) #[] #[(.pointer (some ⟨f,0,none⟩)),G,(.pointer (some ⟨d,0,none⟩)),(.pointer (some ⟨h,0,none⟩))])] 80,box d [p] 77,g.2.2.2.2]++A) (fun g R=>ah N m g.1 g.2.1 g.2.2.1=some s∧ORep (qb .i64) R g.2.2.2.2 g.2.2.2.1 g.2.1∧True) (fun g=>g.1) (N,[],0,vs0,emp) ⟨[],(pk 4 rfl (pk 2 rfl (pk 1 rfl (pk 1 rfl (pk 0 rfl (List.Perm.refl _))))))⟩ ⟨b,(lm (T:=(qb .i64))),trivial⟩ ?_
 clear b;rintro⟨z,C,e,P,ar⟩ a0 a1 Q ⟨b,S,_⟩;rcases z with _|z;exact qo b;replace b:ah N m (z+1) C e=some s:=b;rw [ah] at b;refine zk (zl (j6 rfl rfl) (z8 (zt (zu rfl b (fun b=>?_) (fun b=>?_)))))
 refine qa (zt (zx (zk (zh (vi e) (zi (vi e) (z8 (zm (zh P (zh (vi e) (sw (T:=(qb .i64)) (X:=([e]:List Int)) (ps:=[(0,(vi e))]) (css:=[[(vi e)]]) rfl underlying32 zo3 rfl rfl (ky ⟨rfl,trivial⟩) rfl rfl (by decide) fun au a2 H av=>?_))))))))))
 refine vo (i:=0) rfl av fun aw E ax=>?_;have ay:VRep (tSl true (qb .i64)) aw au ([e]:List Int):=(z3o ax H);obtain⟨U,b⟩:=zb b
 refine pu (i:=4) (X:=C) (Y:=([e]:List Int)) rfl underlying32 zo3 rfl rfl rfl (S.mono E) (ja (Sub.v (B:=(tSl false (qb .i64))) (uh Sub.refl (fun _=>rfl)) ay)) U.1 U.2 fun V az aA=>?_;refine zi V (z8 (zm ?_));obtain⟨aB,b⟩:=zb b;refine zl (jg rfl rfl aB) (zh (vi (e+1)) (z8 ?_))
 exact⟨dkt,E,jm,(z,(C++([e]:List Int)),e+1,V,az),Nat.lt_succ_self _,⟨rfl,rfl,trivial⟩,prm,b,aA,trivial⟩;refine jf ?_;exact⟨dkt,Q,jm,(C,P,ar),⟨rfl,trivial⟩,prm,(Option.some.inj b).symm,S,trivial⟩;rintro⟨s,t,a3⟩ a4 a5 u ⟨rfl,aC,_⟩
 refine zk (zl (qi (i:=2) qcp rfl rfl rfl) (zh t (zh t (vo (i:=4) rfl aC fun W x aD=>?_))));have Z:VRep (tSl false (qb .i64)) W t s:=(z5v aD);refine q4e ?_;obtain⟨aE,aF,a⟩:=zo a
 refine ziq (Oc:=[box f [vs0] 45,emp,box d [p] 77,box h [(.func (.func 40) #[] #[(.pointer (some ⟨f,0,none⟩)),G,(.pointer (some ⟨d,0,none⟩)),(.pointer (some ⟨h,0,none⟩))])] 80]) (Or:=[box L [vs0] 45]++A) (cs:=[(.pointer (some ⟨f,0,none⟩)),G,(.pointer (some ⟨d,0,none⟩)),(.pointer (some ⟨h,0,none⟩))]) (vs:=[t,t]) rfl qbv rfl rfl ((pk 2 rfl (pk 0 rfl (pk 2 rfl (pk 1 rfl (pk 0 rfl (List.Perm.refl _))))))) (zj5 Z Z (zhn (List.nil_prefix) (q8h (K:=rSprobes_Node) (R:=W))) (h2.mono ((((c.trans k).trans l).trans u).trans x)) ((z3b.1 y).mono ((l.trans u).trans x)) aF) fun a6 a7 aL aa aG=>?_
 obtain⟨aH,a8,rfl,rfl,⟨a9,aM,aI⟩⟩:=aG;refine j4 (zl (qg fo rfl) (zl (qi (i:=0) zn9 rfl rfl rfl) (zvl zkl (i:=1) rfl aI fun aJ ab ac=>?_)));have ad:VRep (tSl false (zz false)) aJ aH aE.2:=(z5v ac);obtain⟨ae,af,a⟩:=zo a
 refine jh rfl qea rfl (zbg ad af) fun j aN I o=>?_;refine zl (qg fo rfl) (jr (i:=0) (vs:=[j]) qc9 rfl rfl (z4b o) rfl rfl rfl (qf (z6d o) jv) ?_)
 refine j4 (zl (ui (i:=0) ze7 z8x rfl rfl rfl rfl) (jr (i:=3) (vs:=[j]) z8x rfl rfl rfl rfl rfl rfl (qf (z6d o) jv) ?_));refine zi (vi 0) (z8 (qx ?_));obtain rfl:=Option.some.inj a
 refine qd (D:=[]) (J:=[box f [j] 45,box d [p] 77,box h [(.func (.func 40) #[] #[(.pointer (some ⟨f,0,none⟩)),G,(.pointer (some ⟨d,0,none⟩)),(.pointer (some ⟨h,0,none⟩))])] 80,box L [j] 45]) (rs:=[.cell 2 45,.tmp 3]) (vs:=[(.agg #[j]),(vi 0)]) ((((((((n.trans c).trans k).trans l).trans u).trans x).trans aa).trans ab).trans I) rfl rfl ⟨⟨_,rfl,fun w O=>z0z (i:=3) O rfl rfl ze7 z8x rfl rfl⟩,rfl,trivial⟩ ?_
 exact⟨rfl,⟨(.agg #[j]),rfl,(⟨_,(u6 (T:=(tSl true (zz false))) rfl o),rfl⟩:VRep (ko true false) _ _ (⟨ae⟩:Sb))⟩⟩
theorem qao:Enters prog 15:=enters_of func15 rfl (by kernel_rfl)
theorem q06: ∀ w,∃ z,(zeroValue 55).run prog w= .ok z w∧z.cells=([.int .i64 0,.int .i64 0,.slice none 0 0]:List Value).toArray:=fun w=>⟨(.agg #[(vi 0),(vi 0),vs0]),by kernel_rfl,rfl⟩
theorem zlc: ∀ w,(sizeOf 55).run prog w= .ok 3 w:=fun w=>by kernel_rfl
theorem q3o: ∀ w,(isAgg 55).run prog w= .ok true w:=fun w=>by kernel_rfl
theorem z8t{N:Nat}{R:RH}{input:Int}{next:(List Int)}{a:Value}(b:VRep (tSl false (qb .i64)) R a next){r:Sa}(c:z4q N input next=some r):CallP prog 36 #[(vi input),a] R (fun v R'=>VRep (zz false) R' v r):=by
 refine qh (args:=[(vi input),a]) func36 rfl rfl fun A=>?_;rw [z4q] at c;refine zk (kv rfl q06 fun d=>?_)
 refine j4 (zh (vi input) (zh a (zl (z7j [(0,(vi input)),(1,(vi (-1))),(2,(.agg #[a]))] (ps:=[(0,(vi input)),(1,(vi (-1))),(2,a)]) (v:=(.agg #[(vi input),(vi (-1)),a])) rfl (by simp only [List.map_cons,List.map_nil,z4b b];rfl) (fun w=>by kernel_rfl)) (jr (i:=0) (vs:=[(vi input),(vi (-1)),a]) zlc rfl rfl rfl rfl rfl rfl (qf rfl (qf rfl (qf (z6d b) jv))) ?_))))
 refine z8 (qx ?_);obtain rfl:=Option.some.inj c;refine qd (D:=[]) (J:=[box d [(vi input),(vi (-1)),a] 55]) (rs:=[.cell 4 55]) (vs:=[(.agg #[(vi input),(vi (-1)),a])]) (RH.le.refl _) rfl rfl ⟨⟨_,rfl,fun w e=>z0z (i:=0) e rfl rfl q3o zlc rfl rfl⟩,trivial⟩ ?_
 exact⟨rfl,(⟨_,⟨_,_,rfl,rfl,⟨_,_,rfl,rfl,(u6 rfl b)⟩⟩,rfl⟩:VRep (zz false) _ _ (⟨input,(-1),next⟩:Sa))⟩
theorem qar:Enters prog 36:=enters_of func36 rfl (by kernel_rfl)
theorem z6a{N:Nat}{R:RH}{s:Int}{r:Sa}(b:z3f N s=some r):CallP prog 37 #[(vi s)] R (fun v R'=>VRep (zz true) R' v r):=by
 refine qh (args:=[(vi s)]) func37 rfl rfl fun A=>?_;rw [z3f] at b;refine zk (kv rfl q06 fun h=>?_)
 refine j4 (zh (vi s) (sw (T:=(qb .i64)) (X:=([(-1),(-1)]:List Int)) (ps:=[(0,(vi (-1))),(1,(vi (-1)))]) (css:=[[(vi (-1))],[(vi (-1))]]) rfl underlying32 zo3 rfl rfl (ky ⟨rfl,rfl,trivial⟩) rfl rfl (by decide) fun a l c d=>?_))
 refine zl (z7j [(0,(vi (-1))),(1,(vi s)),(2,(.agg #[a]))] (ps:=[(0,(vi (-1))),(1,(vi s)),(2,a)]) (v:=(.agg #[(vi (-1)),(vi s),a])) rfl (by simp only [List.map_cons,List.map_nil,lw d];rfl) (fun w=>by kernel_rfl)) (jr (i:=1) (vs:=[(vi (-1)),(vi s),a]) zlc rfl rfl rfl rfl rfl rfl (qf rfl (qf rfl (qf (z0w d) jv))) ?_)
 refine z8 (il (i:=0) rfl d fun j e f=>?_);have g:VRep (tSl true (qb .i64)) j a ([(-1),(-1)]:List Int):=(z3o f c);refine qx ?_;obtain rfl:=Option.some.inj b
 refine qd (D:=[]) (J:=[box h [(vi (-1)),(vi s),a] 55]) (rs:=[.cell 2 55]) (vs:=[(.agg #[(vi (-1)),(vi s),a])]) e rfl rfl ⟨⟨_,rfl,fun w k=>z0z (i:=0) k rfl rfl q3o zlc rfl rfl⟩,trivial⟩ ?_
 exact⟨rfl,(⟨_,⟨_,_,rfl,rfl,⟨_,_,rfl,rfl,(u6 rfl g)⟩⟩,rfl⟩:VRep (zz true) _ _ (⟨(-1),s,([(-1),(-1)]:List Int)⟩:Sa))⟩
theorem q9t:Enters prog 37:=enters_of func37 rfl (by kernel_rfl)
theorem q2l{a:Bool}:ZeroOk prog 55 (zz a) (⟨(0:Int),(0:Int),([]:List Int)⟩:Sa) 40:=by
 obtain⟨i,zv,hi,c,d,f,g⟩:=z3q (P:=prog) (e:=55) (zv:=(.agg #[(vi 0),(vi 0),vs0])) (k:=3) (b:=40) (by kernel_rfl);exact⟨i,zv,hi,c,d,f,fun R=>by subst g;exact⟨_,_,rfl,rfl,⟨_,_,rfl,rfl,(u6 rfl z5w)⟩⟩⟩
theorem zb7{a b:Bool}:TyOk prog 43 (tSl a (zz b)):=by
 obtain⟨i,hi,c⟩: ∃ i,prog.info? 43=some i∧i.size=1:=uz (by kernel_rfl);exact z2n underlying43 hi rfl c
theorem z6u:FieldOk prog 55 2 2:=by
 obtain⟨i,hi,a⟩: ∃ i,prog.info? 32=some i∧i.size=1:=uz (by kernel_rfl);exact au underlying55 rfl rfl hi (by rw [a];rfl)
theorem z5q{N:Nat}{R:RH}{t:Sb}{I:Value}(ad:VRep (ko false false) R I t){outputs:(List Int)}{k:Value}(o:VRep (tSl false (qb .i64)) R k outputs){r:Int×Int}(f:z0f N t outputs=some r):CallP prog 21 #[I,k] R (fun v R'=>v= .tuple #[(vi r.1),(vi r.2)]):=by
 refine qh (args:=[I,k]) func21 rfl rfl fun A=>?_;rw [z0f] at f;refine zk (ug (T:=(ko false false)) rfl rfl rfl ad fun v1 R3 x h5 h2=>?_);refine zi (vi 0) (zi (vi 0) (z8 (zt (zk (je rfl fo ku rfl h2 fun v6 h7=>?_)))));refine qj rfl zb7 rfl h7 fun v8 h9=>?_
 refine zl (qw rfl underlying43 rfl (ja h9)) (zl (yu rfl rfl) (z8 (zu rfl f (fun f=>?_) (fun f=>?_))));refine zk (zi (vi 0) (zi (vi 4) (z8 (qx ?_))));obtain rfl:=Option.some.inj f;refine qd (D:=[]) (J:=[]) (rs:=[.tmp 4,.tmp 5]) (vs:=[(vi 0),(vi 4)]) x rfl rfl ⟨rfl,rfl,trivial⟩ ?_
 exact⟨rfl,rfl⟩;refine qa (zk (zi (vi 0) (z8 ?_)));obtain⟨K,d,f⟩:=zo f;refine qp (γ:=Int) (rs [4,7,8,10,15,63]) (fun g=>[(6,(vi g))]) (fun g=>[]++A) (fun g R=>K=Ex.go g∧True) ?_ ?_
 refine zk (zh k (zl (qw rfl underlying32 rfl (ja (o.mono x))) (zh (vi 0) (z8 (zx (jc (γ:=Nat×Int×Int) (rs [4,7,8,10,17,63]) (fun g=>[(6,(vi g.2.1)),(17,(vi g.2.2))]) (fun g=>[]++A) (fun g R=>ax N t outputs g.1 g.2.1 g.2.2=some K∧True) (fun g=>g.1) (N,0,0) prm ⟨d,trivial⟩ ?_))))))
 clear d;rintro⟨E,b,a⟩ au aX u ⟨d,_⟩;rcases E with _|E;exact qo d;replace d:ax N t outputs (E+1) b a=some K:=d;rw [ax] at d;refine zk (zl (j6 rfl rfl) (z8 (zt (zu rfl d (fun d=>?_) (fun d=>?_)))));refine qa (zt (zx (zk ?_)));obtain⟨M,d⟩:=zb d
 refine kg (i:=a.toNat) rfl ic rfl (ja (o.mono (x.trans u))) (zg rfl M.1) (zy M) fun aY ae=>?_;refine qj rfl ty3 rfl ae fun aZ af=>?_;obtain rfl:=j5.1 af;refine zi (vi (ix outputs a)) (j4 (je rfl fo ku rfl (h2.mono u) fun a0 ag=>?_));refine qj rfl zb7 rfl ag fun a1 ah=>?_
 refine zh (vi b) ?_;obtain⟨O,d⟩:=zb d;refine kg (i:=b.toNat) rfl ze2 rfl (ja ah) (zg rfl O.1) (zy O) fun a2 ai=>?_;refine qj rfl q78 rfl ai fun a3 aj=>?_;refine kv rfl q06 fun w=>?_;obtain⟨q,rfl,y⟩:=lc aj
 refine jr (i:=0) (vs:=[(vi ((ix t.fA b).fB)),(vi ((ix t.fA b).fE)),q]) zlc rfl rfl rfl rfl rfl rfl (qf rfl (qf rfl (qf (z6d y) jv))) ?_
 refine z8 (zt (zk (zl (qg z9f rfl) (zl (qi (i:=0) ag3 rfl rfl rfl) (zl (yu rfl rfl) (z8 (zu rfl d (fun d=>?_) (fun d=>?_))))))));refine zk (zi (vi 0) (zi (vi 16) (z8 (qx ?_))));replace f:=z2q d f;obtain rfl:=Option.some.inj f
 refine qd (D:=[]) (J:=[box w [(vi ((ix t.fA b).fB)),(vi ((ix t.fA b).fE)),q] 55]) (rs:=[.tmp 4,.tmp 5]) (vs:=[(vi 0),(vi 16)]) (x.trans u) rfl rfl ⟨rfl,rfl,trivial⟩ ?_;exact⟨rfl,rfl⟩;refine qa (zt (zt ?_));obtain⟨P,Q,d⟩:=q3m d
 refine oh 28 [] [phX (vi (ix outputs a)),phX (.bool (decide ((ix outputs a)<0))),phX (.bool (decide ((ix outputs a)<0))),phG (true&&((decide ((ix outputs a)<0))==false)) (phX (vi (ix outputs a))),phG (true&&((decide ((ix outputs a)<0))==false)) (phX (.pointer (some ⟨w,2,none⟩))),phG (true&&((decide ((ix outputs a)<0))==false)) (phX q),phG (true&&((decide ((ix outputs a)<0))==false)) (phX (vi (↑((ix t.fA b).fC).length:Int))),phG (true&&((decide ((ix outputs a)<0))==false)) (phX (.bool (decide ((↑((ix t.fA b).fC).length:Int)≤(ix outputs a))))),phX (.bool ((decide ((ix outputs a)<0))||(decide ((↑((ix t.fA b).fC).length:Int)≤(ix outputs a))))),phX (.bool ((decide ((ix outputs a)<0))||(decide ((↑((ix t.fA b).fC).length:Int)≤(ix outputs a))))),phG (true&&(((decide ((ix outputs a)<0))||(decide ((↑((ix t.fA b).fC).length:Int)≤(ix outputs a))))==false)) (phX (.pointer (some ⟨w,2,none⟩))),phG (true&&(((decide ((ix outputs a)<0))||(decide ((↑((ix t.fA b).fC).length:Int)≤(ix outputs a))))==false)) (phX q),phG (true&&(((decide ((ix outputs a)<0))||(decide ((↑((ix t.fA b).fC).length:Int)≤(ix outputs a))))==false)) (phX (vi (ix outputs a))),phG (true&&(((decide ((ix outputs a)<0))||(decide ((↑((ix t.fA b).fC).length:Int)≤(ix outputs a))))==false)) (phP (qb .i64) (ix ((ix t.fA b).fC) (ix outputs a))),phG (true&&(((decide ((ix outputs a)<0))||(decide ((↑((ix t.fA b).fC).length:Int)≤(ix outputs a))))==false)) (phX (vi (ix ((ix t.fA b).fC) (ix outputs a)))),phG (true&&(((decide ((ix outputs a)<0))||(decide ((↑((ix t.fA b).fC).length:Int)≤(ix outputs a))))==false)) (phX (.bool (decide ((ix ((ix t.fA b).fC) (ix outputs a))<0)))),phX (.bool (((decide ((ix outputs a)<0))||(decide ((↑((ix t.fA b).fC).length:Int)≤(ix outputs a))))||(decide ((ix ((ix t.fA b).fC) (ix outputs a))<0)))),phX (.bool (((decide ((ix outputs a)<0))||(decide ((↑((ix t.fA b).fC).length:Int)≤(ix outputs a))))||(decide ((ix ((ix t.fA b).fC) (ix outputs a))<0)))),phG (true&&((((decide ((ix outputs a)<0))||(decide ((↑((ix t.fA b).fC).length:Int)≤(ix outputs a))))||(decide ((ix ((ix t.fA b).fC) (ix outputs a))<0)))==false)) (phX (.pointer (some ⟨w,2,none⟩))),phG (true&&((((decide ((ix outputs a)<0))||(decide ((↑((ix t.fA b).fC).length:Int)≤(ix outputs a))))||(decide ((ix ((ix t.fA b).fC) (ix outputs a))<0)))==false)) (phX q),phG (true&&((((decide ((ix outputs a)<0))||(decide ((↑((ix t.fA b).fC).length:Int)≤(ix outputs a))))||(decide ((ix ((ix t.fA b).fC) (ix outputs a))<0)))==false)) (phX (vi (ix outputs a))),phG (true&&((((decide ((ix outputs a)<0))||(decide ((↑((ix t.fA b).fC).length:Int)≤(ix outputs a))))||(decide ((ix ((ix t.fA b).fC) (ix outputs a))<0)))==false)) (phP (qb .i64) (ix ((ix t.fA b).fC) (ix outputs a))),phG (true&&((((decide ((ix outputs a)<0))||(decide ((↑((ix t.fA b).fC).length:Int)≤(ix outputs a))))||(decide ((ix ((ix t.fA b).fC) (ix outputs a))<0)))==false)) (phX (vi (ix ((ix t.fA b).fC) (ix outputs a)))),phG (true&&((((decide ((ix outputs a)<0))||(decide ((↑((ix t.fA b).fC).length:Int)≤(ix outputs a))))||(decide ((ix ((ix t.fA b).fC) (ix outputs a))<0)))==false)) (phP (tSl false (zz false)) t.fA),phG (true&&((((decide ((ix outputs a)<0))||(decide ((↑((ix t.fA b).fC).length:Int)≤(ix outputs a))))||(decide ((ix ((ix t.fA b).fC) (ix outputs a))<0)))==false)) (phR (tSl false (zz false)) t.fA),phG (true&&((((decide ((ix outputs a)<0))||(decide ((↑((ix t.fA b).fC).length:Int)≤(ix outputs a))))||(decide ((ix ((ix t.fA b).fC) (ix outputs a))<0)))==false)) (phX (vi (↑t.fA.length:Int))),phG (true&&((((decide ((ix outputs a)<0))||(decide ((↑((ix t.fA b).fC).length:Int)≤(ix outputs a))))||(decide ((ix ((ix t.fA b).fC) (ix outputs a))<0)))==false)) (phX (.bool (decide ((↑t.fA.length:Int)≤(ix ((ix t.fA b).fC) (ix outputs a)))))),phX (.bool ((((decide ((ix outputs a)<0))||(decide ((↑((ix t.fA b).fC).length:Int)≤(ix outputs a))))||(decide ((ix ((ix t.fA b).fC) (ix outputs a))<0)))||(decide ((↑t.fA.length:Int)≤(ix ((ix t.fA b).fC) (ix outputs a))))))] mixed (by kernel_rfl) (bi ⟨zq,zq,zq,(jb zq),(jb zq),(jb zq),(jb zq),(jb zq),zq,zq,(jb zq),(jb zq),(jb zq),(jb uf),(jb zq),(jb zq),zq,zq,(jb zq),(jb zq),(jb zq),(jb uf),(jb zq),(jb uf),(jb bf),(jb zq),(jb zq),zq,trivial⟩) ⟨?_,?_,?_,?_,?_,?_,?_,?_,?_,?_,?_,?_,?_,?_,?_,?_,?_,?_,?_,?_,?_,?_,?_,?_,?_,?_,?_,?_,trivial⟩ fun a4 z=>?_
 intro l a5 c m hd;exact za rfl rfl rfl (q8 (zf (m 8 rfl)));rintro l a6 c m ⟨e,_⟩;exact za rfl rfl rfl (q8 (j6 (e rfl) rfl));rintro l a7 c m ⟨e,_⟩;exact za rfl rfl rfl (q8 (zf (e rfl)));rintro l a8 c m ⟨e,_⟩
 exact zw (Gj:=true) (Bj:=decide ((ix outputs a)<0)) rfl rfl rfl (ul (e rfl)) rfl (fun p j=>q8 (zf (m 8 rfl)));rintro l a9 c m ⟨e,_⟩;exact zw (Gj:=true) (Bj:=decide ((ix outputs a)<0)) rfl rfl rfl (ul (e rfl)) rfl (fun p j=>q8 (qg z6u (m 9 rfl)));rintro l ba c m ⟨e,n,_⟩
 exact zw (Gj:=true) (Bj:=decide ((ix outputs a)<0)) rfl rfl rfl (ul (n rfl)) rfl (fun p j=>q8 (qi (i:=0) zcj (show l 33=(.pointer (some ⟨w,2,none⟩)) from(e rfl).1 (zn rfl j)) rfl rfl));rintro l bb c m ⟨e,n,_⟩
 exact zw (Gj:=true) (Bj:=decide ((ix outputs a)<0)) rfl rfl rfl (ul (n rfl)) rfl (fun p j=>q8 (qw rfl underlying32 (show l 34=q from(e rfl).1 (zn rfl j)) (ja (y.mono c))));rintro l bc c m ⟨e,n,L,_⟩
 exact zw (Gj:=true) (Bj:=decide ((ix outputs a)<0)) rfl rfl rfl (ul (L rfl)) rfl (fun p j=>q8 (z2a (show l 32=(vi (ix outputs a)) from(e rfl).1 (zn rfl j)) (show l 35=(vi (↑((ix t.fA b).fC).length:Int)) from(n rfl).1 (zn rfl j))));rintro l be c m ⟨e,n,_⟩
 exact za rfl rfl rfl (q8 (r9 (e rfl) rfl (fun S=>(show l 36=(.bool (decide ((↑((ix t.fA b).fC).length:Int)≤(ix outputs a)))) from(n rfl).1 (zn rfl S)))));rintro l bg c m ⟨e,n,_⟩;exact za rfl rfl rfl (q8 (zf (e rfl)));rintro l av c m ⟨e,_⟩
 exact zw (Gj:=true) (Bj:=(decide ((ix outputs a)<0))||(decide ((↑((ix t.fA b).fC).length:Int)≤(ix outputs a)))) rfl rfl rfl (ul (e rfl)) rfl (fun p j=>q8 (qg z6u (m 9 rfl)));rintro l aw c m ⟨e,n,_⟩
 exact zw (Gj:=true) (Bj:=(decide ((ix outputs a)<0))||(decide ((↑((ix t.fA b).fC).length:Int)≤(ix outputs a)))) rfl rfl rfl (ul (n rfl)) rfl (fun p j=>q8 (qi (i:=0) zcj (show l 39=(.pointer (some ⟨w,2,none⟩)) from(e rfl).1 (zn rfl j)) rfl rfl));rintro l ay c m ⟨e,_⟩
 exact zw (Gj:=true) (Bj:=(decide ((ix outputs a)<0))||(decide ((↑((ix t.fA b).fC).length:Int)≤(ix outputs a)))) rfl rfl rfl (ul (e rfl)) rfl (fun p j=>q8 (zf (m 8 rfl)));rintro l az c m ⟨e,n,L,_⟩
 exact zw (Gj:=true) (Bj:=(decide ((ix outputs a)<0))||(decide ((↑((ix t.fA b).fC).length:Int)≤(ix outputs a)))) rfl rfl rfl (ul (L rfl)) rfl (fun p j=>uj (i:=(ix outputs a).toNat) ic (show l 40=q from(e rfl).1 (zn rfl j)) (ja (y.mono c)) (zg (show l 41=(vi (ix outputs a)) from(n rfl).1 (zn rfl j)) (P (zn p j)).1) (zy (P (zn p j))))
 rintro l aA c m ⟨e,n,_⟩;exact zw (Gj:=true) (Bj:=(decide ((ix outputs a)<0))||(decide ((↑((ix t.fA b).fC).length:Int)≤(ix outputs a)))) rfl rfl rfl (ul (n rfl)) rfl (fun p j=>yf (jo ty3 rfl ((e rfl).1 (zn rfl j))) (fun _ _ h=>j5.1 h));rintro l aB c m ⟨e,n,_⟩
 exact zw (Gj:=true) (Bj:=(decide ((ix outputs a)<0))||(decide ((↑((ix t.fA b).fC).length:Int)≤(ix outputs a)))) rfl rfl rfl (ul (n rfl)) rfl (fun p j=>q8 (j6 (show l 43=(vi (ix ((ix t.fA b).fC) (ix outputs a))) from(e rfl).1 (zn rfl j)) rfl));rintro l aC c m ⟨e,n,_⟩
 exact za rfl rfl rfl (q8 (r9 (e rfl) rfl (fun S=>(show l 44=(.bool (decide ((ix ((ix t.fA b).fC) (ix outputs a))<0))) from(n rfl).1 (zn rfl S)))));rintro l aD c m ⟨e,n,_⟩;exact za rfl rfl rfl (q8 (zf (e rfl)));rintro l aE c m ⟨e,_⟩
 exact zw (Gj:=true) (Bj:=((decide ((ix outputs a)<0))||(decide ((↑((ix t.fA b).fC).length:Int)≤(ix outputs a))))||(decide ((ix ((ix t.fA b).fC) (ix outputs a))<0))) rfl rfl rfl (ul (e rfl)) rfl (fun p j=>q8 (qg z6u (m 9 rfl)));rintro l aF c m ⟨e,n,_⟩
 exact zw (Gj:=true) (Bj:=((decide ((ix outputs a)<0))||(decide ((↑((ix t.fA b).fC).length:Int)≤(ix outputs a))))||(decide ((ix ((ix t.fA b).fC) (ix outputs a))<0))) rfl rfl rfl (ul (n rfl)) rfl (fun p j=>q8 (qi (i:=0) zcj (show l 47=(.pointer (some ⟨w,2,none⟩)) from(e rfl).1 (zn rfl j)) rfl rfl))
 rintro l aG c m ⟨e,_⟩;exact zw (Gj:=true) (Bj:=((decide ((ix outputs a)<0))||(decide ((↑((ix t.fA b).fC).length:Int)≤(ix outputs a))))||(decide ((ix ((ix t.fA b).fC) (ix outputs a))<0))) rfl rfl rfl (ul (e rfl)) rfl (fun p j=>q8 (zf (m 8 rfl)));rintro l aH c m ⟨e,n,L,_⟩
 exact zw (Gj:=true) (Bj:=((decide ((ix outputs a)<0))||(decide ((↑((ix t.fA b).fC).length:Int)≤(ix outputs a))))||(decide ((ix ((ix t.fA b).fC) (ix outputs a))<0))) rfl rfl rfl (ul (L rfl)) rfl (fun p j=>uj (i:=(ix outputs a).toNat) ic (show l 48=q from(e rfl).1 (zn rfl j)) (ja (y.mono c)) (zg (show l 49=(vi (ix outputs a)) from(n rfl).1 (zn rfl j)) (Q (zn p j)).1) (zy (Q (zn p j))))
 rintro l aI c m ⟨e,n,_⟩;exact zw (Gj:=true) (Bj:=((decide ((ix outputs a)<0))||(decide ((↑((ix t.fA b).fC).length:Int)≤(ix outputs a))))||(decide ((ix ((ix t.fA b).fC) (ix outputs a))<0))) rfl rfl rfl (ul (n rfl)) rfl (fun p j=>yf (jo ty3 rfl ((e rfl).1 (zn rfl j))) (fun _ _ h=>j5.1 h))
 rintro l aJ c m ⟨e,_⟩;exact zw (Gj:=true) (Bj:=((decide ((ix outputs a)<0))||(decide ((↑((ix t.fA b).fC).length:Int)≤(ix outputs a))))||(decide ((ix ((ix t.fA b).fC) (ix outputs a))<0))) rfl rfl rfl (ul (e rfl)) rfl (fun p j=>yt fo ku (m 2 rfl) ((h2.mono u).mono c));rintro l aK c m ⟨e,n,_⟩
 exact zw (Gj:=true) (Bj:=((decide ((ix outputs a)<0))||(decide ((↑((ix t.fA b).fC).length:Int)≤(ix outputs a))))||(decide ((ix ((ix t.fA b).fC) (ix outputs a))<0))) rfl rfl rfl (ul (n rfl)) rfl (fun p j=>jo zb7 rfl ((e rfl).1 (zn rfl j)));rintro l aL c m ⟨e,n,_⟩
 exact zw (Gj:=true) (Bj:=((decide ((ix outputs a)<0))||(decide ((↑((ix t.fA b).fC).length:Int)≤(ix outputs a))))||(decide ((ix ((ix t.fA b).fC) (ix outputs a))<0))) rfl rfl rfl (ul (n rfl)) rfl (fun p j=>q8 (qw rfl underlying43 rfl (ja ((e rfl).1 (zn rfl j)))));rintro l aM c m ⟨e,n,L,_⟩
 exact zw (Gj:=true) (Bj:=((decide ((ix outputs a)<0))||(decide ((↑((ix t.fA b).fC).length:Int)≤(ix outputs a))))||(decide ((ix ((ix t.fA b).fC) (ix outputs a))<0))) rfl rfl rfl (ul (L rfl)) rfl (fun p j=>q8 (z2a (show l 51=(vi (ix ((ix t.fA b).fC) (ix outputs a))) from(e rfl).1 (zn rfl j)) (show l 54=(vi (↑t.fA.length:Int)) from(n rfl).1 (zn rfl j))))
 rintro l aN c m ⟨e,n,_⟩;exact za rfl rfl rfl (q8 (r9 (e rfl) rfl (fun S=>(show l 55=(.bool (decide ((↑t.fA.length:Int)≤(ix ((ix t.fA b).fC) (ix outputs a))))) from(n rfl).1 (zn rfl S)))))
 intro bh ak bj al bk am bl bm bn bo bp bq br bs bt bu bv an bw ao bx bz bA bB bC bD bE bF bG bH bI bJ bK ap bL aq bM bN bO bP bQ bR bS bT bU bV bW bX bY bZ b0 b1 b2 b3 b4 ar;obtain rfl:=Eq.symm ak;obtain rfl:=Eq.symm al;obtain rfl:=Eq.symm am;obtain rfl:=Eq.symm an;obtain rfl:=Eq.symm ao;obtain rfl:=Eq.symm ap
 obtain rfl:=Eq.symm aq;obtain rfl:=Eq.symm ar;refine z8 (zu rfl d (fun d=>?_) (fun d=>?_));refine zk (zi (vi 0) (zi (vi 7) (z8 (qx ?_))));replace f:=z2q d f;obtain rfl:=Option.some.inj f
 refine qd (D:=[]) (J:=[box w [(vi ((ix t.fA b).fB)),(vi ((ix t.fA b).fE)),q] 55]) (rs:=[.tmp 4,.tmp 5]) (vs:=[(vi 0),(vi 7)]) ((x.trans u).trans z) rfl rfl ⟨rfl,rfl,trivial⟩ ?_;exact⟨rfl,rfl⟩
 refine qa (zm (zl (qg z6u rfl) (zl (qi (i:=0) zcj rfl rfl rfl) (zh (vi (ix outputs a)) ?_))));obtain⟨F,d⟩:=zb d;refine kg (i:=(ix outputs a).toNat) rfl ic rfl (ja (y.mono z)) (zg rfl F.1) (zy F) fun aO U=>?_;refine qj rfl ty3 rfl U fun aP V=>?_;obtain rfl:=j5.1 V
 refine zi (vi (ix ((ix t.fA b).fC) (ix outputs a))) (z8 (zm ?_));obtain⟨W,d⟩:=zb d;refine zl (jg rfl rfl W) (zh (vi (a+1)) (z8 ?_))
 exact⟨dkt,z,jm,(E,(ix ((ix t.fA b).fC) (ix outputs a)),a+1),Nat.lt_succ_self _,⟨rfl,rfl,trivial⟩,⟨[box w [(vi ((ix t.fA b).fB)),(vi ((ix t.fA b).fE)),q] 55],(List.Perm.refl _)⟩,d,trivial⟩;refine jf ?_;exact⟨dkt,u,jm,b,⟨rfl,trivial⟩,prm,(Option.some.inj d).symm,trivial⟩
 rintro s aQ b5 B ⟨rfl,_⟩;replace f:=z4h f;refine zt (zk (je rfl fo ku rfl (h2.mono B) fun aR X=>?_));refine qj rfl zb7 rfl X fun aS Y=>?_;refine zh (vi s) ?_;obtain⟨G,f⟩:=zb f;refine kg (i:=s.toNat) rfl ze2 rfl (ja Y) (zg rfl G.1) (zy G) fun aT Z=>?_
 refine qj rfl q78 rfl Z fun aU aa=>?_;refine kv rfl q06 fun H=>?_;obtain⟨C,rfl,ab⟩:=lc aa;refine jr (i:=0) (vs:=[(vi ((ix t.fA s).fB)),(vi ((ix t.fA s).fE)),C]) zlc rfl rfl rfl rfl rfl rfl (qf rfl (qf rfl (qf (z6d ab) jv))) ?_
 refine j4 (zl (qg z9f rfl) (zl (qi (i:=0) ag3 rfl rfl rfl) (zl (yu rfl rfl) (z8 (zu rfl f (fun f=>?_) (fun f=>?_))))));refine zk (zl (qg zda rfl) (zl (qi (i:=0) ag3 rfl rfl rfl) (zi (vi ((ix t.fA s).fE)) (zi (vi 0) (z8 (qx ?_))))));obtain rfl:=Option.some.inj f
 refine qd (D:=[]) (J:=[box H [(vi ((ix t.fA s).fB)),(vi ((ix t.fA s).fE)),C] 55]) (rs:=[.tmp 4,.tmp 5]) (vs:=[(vi ((ix t.fA s).fE)),(vi 0)]) (x.trans B) rfl rfl ⟨rfl,rfl,trivial⟩ ?_;exact⟨rfl,rfl⟩;refine qa (zk (zi (vi 0) (zi (vi 16) (z8 (qx ?_)))))
 obtain rfl:=Option.some.inj f;refine qd (D:=[]) (J:=[box H [(vi ((ix t.fA s).fB)),(vi ((ix t.fA s).fE)),C] 55]) (rs:=[.tmp 4,.tmp 5]) (vs:=[(vi 0),(vi 16)]) (x.trans B) rfl rfl ⟨rfl,rfl,trivial⟩ ?_;exact⟨rfl,rfl⟩
theorem q5q:Enters prog 21:=enters_of func21 rfl (by kernel_rfl)
theorem z9o{N:Nat}{R:RH}{a:Sb}{E:Value}(aa:VRep (ko false false) R E a){b:Sb}{F:Value}(ab:VRep (ko false false) R F b){r:Bool}(p:z1e N a b=some r):CallP prog 17 #[E,F] R (fun v R'=>v=(.bool r)):=by
 refine qh (args:=[E,F]) func17 rfl rfl fun A=>?_;rw [z1e] at p;refine zk (ug (T:=(ko false false)) rfl rfl rfl aa fun v1 R3 w h5 H=>?_);refine ug (T:=(ko false false)) rfl rfl rfl (ab.mono w) fun v6 R8 s bG Z=>?_
 refine zi (.bool false) (z8 (zt (zk (je rfl fo ku rfl (H.mono s) fun bH ac=>?_))));refine qj rfl zb7 rfl ac fun bI ad=>?_;refine zl (qw rfl underlying43 rfl (ja ad)) (je rfl fo ku rfl Z fun bJ ae=>?_);refine qj rfl zb7 rfl ae fun bK af=>?_
 refine zl (qw rfl underlying43 rfl (ja af)) (zl (xm rfl rfl) (z8 (zu rfl p (fun p=>?_) (fun p=>?_))));refine zk (zi (.bool false) (z8 (qx ?_)));obtain rfl:=Option.some.inj p;refine qd (D:=[]) (J:=[]) (rs:=[.tmp 4]) (vs:=[(.bool false)]) (w.trans s) rfl rfl ⟨rfl,trivial⟩ ?_;exact⟨rfl,rfl⟩;refine qa ?_
 obtain⟨G,m,p⟩:=zo p;refine qp (γ:=Unit) (rs [4,6,13,66]) (fun g=>[]) (fun g=>[]++A) (fun g R=>G=Ex.go g∧True) ?_ ?_
 refine zk (zi (vi 0) (z8 (zx (jc (γ:=Nat×Int) (rs [4,6,13,66]) (fun g=>[(5,(vi g.2))]) (fun g=>[]++A) (fun g R=>oo N a b g.1 g.2=some G∧True) (fun g=>g.1) (N,0) prm ⟨m,trivial⟩ ?_))));clear m;rintro⟨x,c⟩ av bL o ⟨m,_⟩;rcases x with _|x;exact qo m
 replace m:oo N a b (x+1) c=some G:=m;rw [oo] at m;refine zt (zk (zh (vi c) (je rfl fo ku rfl (H.mono (s.trans o)) fun bM ag=>?_)));refine qj rfl zb7 rfl ag fun bN ah=>?_
 refine zl (qw rfl underlying43 rfl (ja ah)) (zl (j6 rfl rfl) (z8 (zu rfl m (fun m=>?_) (fun m=>?_))));refine qa (zt (zx (zt ?_)));obtain⟨I,K,L,M,O,P,m⟩:=qb7 m
 obtain⟨t,ai,m⟩:=zo m;let q:=(true&&(((decide (((ix a.fA c).fB)≠((ix b.fA c).fB)))||(decide (((ix a.fA c).fE)≠((ix b.fA c).fE))))==false))
 refine oh 46 [] [phP (tSl false (zz false)) a.fA,phR (tSl false (zz false)) a.fA,phX (vi c),phP (zz false) (ix a.fA c),phP (qb .i64) ((ix a.fA c).fB),phX (vi ((ix a.fA c).fB)),phP (tSl false (zz false)) b.fA,phR (tSl false (zz false)) b.fA,phX (vi c),phP (zz false) (ix b.fA c),phP (qb .i64) ((ix b.fA c).fB),phX (vi ((ix b.fA c).fB)),phX (.bool (decide (((ix a.fA c).fB)≠((ix b.fA c).fB)))),phX (.bool (decide (((ix a.fA c).fB)≠((ix b.fA c).fB)))),phG (true&&((decide (((ix a.fA c).fB)≠((ix b.fA c).fB)))==false)) (phP (tSl false (zz false)) a.fA),phG (true&&((decide (((ix a.fA c).fB)≠((ix b.fA c).fB)))==false)) (phR (tSl false (zz false)) a.fA),phG (true&&((decide (((ix a.fA c).fB)≠((ix b.fA c).fB)))==false)) (phX (vi c)),phG (true&&((decide (((ix a.fA c).fB)≠((ix b.fA c).fB)))==false)) (phP (zz false) (ix a.fA c)),phG (true&&((decide (((ix a.fA c).fB)≠((ix b.fA c).fB)))==false)) (phP (qb .i64) ((ix a.fA c).fE)),phG (true&&((decide (((ix a.fA c).fB)≠((ix b.fA c).fB)))==false)) (phX (vi ((ix a.fA c).fE))),phG (true&&((decide (((ix a.fA c).fB)≠((ix b.fA c).fB)))==false)) (phP (tSl false (zz false)) b.fA),phG (true&&((decide (((ix a.fA c).fB)≠((ix b.fA c).fB)))==false)) (phR (tSl false (zz false)) b.fA),phG (true&&((decide (((ix a.fA c).fB)≠((ix b.fA c).fB)))==false)) (phX (vi c)),phG (true&&((decide (((ix a.fA c).fB)≠((ix b.fA c).fB)))==false)) (phP (zz false) (ix b.fA c)),phG (true&&((decide (((ix a.fA c).fB)≠((ix b.fA c).fB)))==false)) (phP (qb .i64) ((ix b.fA c).fE)),phG (true&&((decide (((ix a.fA c).fB)≠((ix b.fA c).fB)))==false)) (phX (vi ((ix b.fA c).fE))),phG (true&&((decide (((ix a.fA c).fB)≠((ix b.fA c).fB)))==false)) (phX (.bool (decide (((ix a.fA c).fE)≠((ix b.fA c).fE))))),phX (.bool ((decide (((ix a.fA c).fB)≠((ix b.fA c).fB)))||(decide (((ix a.fA c).fE)≠((ix b.fA c).fE))))),phX (.bool ((decide (((ix a.fA c).fB)≠((ix b.fA c).fB)))||(decide (((ix a.fA c).fE)≠((ix b.fA c).fE))))),phG q (phP (tSl false (zz false)) a.fA),phG q (phR (tSl false (zz false)) a.fA),phG q (phX (vi c)),phG q (phP (zz false) (ix a.fA c)),phG q (phP (tSl false (qb .i64)) ((ix a.fA c).fC)),phG q (phR (tSl false (qb .i64)) ((ix a.fA c).fC)),phG q (phR (tSl true (tSl false (qb .i64))) ([(ix a.fA c).fC]:List (List Int))),phG q (phP (tSl false (zz false)) b.fA),phG q (phR (tSl false (zz false)) b.fA),phG q (phX (vi c)),phG q (phP (zz false) (ix b.fA c)),phG q (phP (tSl false (qb .i64)) ((ix b.fA c).fC)),phG q (phR (tSl false (qb .i64)) ((ix b.fA c).fC)),phG q (phR (tSl true (tSl false (qb .i64))) ([(ix b.fA c).fC]:List (List Int))),phG q (phX (.bool (t.getD default))),phG q (phX (.bool (!(t.getD default)))),phX (.bool (((decide (((ix a.fA c).fB)≠((ix b.fA c).fB)))||(decide (((ix a.fA c).fE)≠((ix b.fA c).fE))))||(!(t.getD default))))] mixed (by kernel_rfl) (bi ⟨uf,bf,zq,uf,uf,zq,uf,bf,zq,uf,uf,zq,zq,zq,(jb uf),(jb bf),(jb zq),(jb uf),(jb uf),(jb zq),(jb uf),(jb bf),(jb zq),(jb uf),(jb uf),(jb zq),(jb zq),zq,zq,(jb uf),(jb bf),(jb zq),(jb uf),(jb uf),(jb bf),(jb bf),(jb uf),(jb bf),(jb zq),(jb uf),(jb uf),(jb bf),(jb bf),(jb zq),(jb zq),zq,trivial⟩) ⟨?_,?_,?_,?_,?_,?_,?_,?_,?_,?_,?_,?_,?_,?_,?_,?_,?_,?_,?_,?_,?_,?_,?_,?_,?_,?_,?_,?_,?_,?_,?_,?_,?_,?_,?_,?_,?_,?_,?_,?_,?_,?_,?_,?_,?_,?_,trivial⟩ fun bO y=>?_
 intro l bP d j hd;exact za rfl rfl rfl (yt fo ku (j 2 rfl) ((H.mono (s.trans o)).mono d));rintro l bQ d j ⟨e,_⟩;exact za rfl rfl rfl (jo zb7 rfl (e rfl));intro l bR d j hd;exact za rfl rfl rfl (q8 (zf (j 5 rfl)));rintro l bS d j ⟨e,k,_⟩
 exact za rfl rfl rfl (uj (i:=c.toNat) ze2 rfl (ja (e rfl)) (zg (k rfl) I.1) (zy I));rintro l bT d j ⟨e,_⟩;exact za rfl rfl rfl (yt z9f ll rfl (e rfl));rintro l bU d j ⟨e,_⟩;exact za rfl rfl rfl (yf (jo ty3 rfl (e rfl)) (fun _ _ h=>j5.1 h));intro l bV d j hd
 exact za rfl rfl rfl (yt fo ku (j 3 rfl) ((Z.mono o).mono d));rintro l bW d j ⟨e,_⟩;exact za rfl rfl rfl (jo zb7 rfl (e rfl));intro l bX d j hd;exact za rfl rfl rfl (q8 (zf (j 5 rfl)));rintro l bY d j ⟨e,k,_⟩
 exact za rfl rfl rfl (uj (i:=c.toNat) ze2 rfl (ja (e rfl)) (zg (k rfl) K.1) (zy K));rintro l aw d j ⟨e,_⟩;exact za rfl rfl rfl (yt z9f ll rfl (e rfl));rintro l ax d j ⟨e,_⟩;exact za rfl rfl rfl (yf (jo ty3 rfl (e rfl)) (fun _ _ h=>j5.1 h));rintro l ay d j ⟨e,k,_⟩
 exact za rfl rfl rfl (q8 (xm (e rfl) (k rfl)));rintro l az d j ⟨e,_⟩;exact za rfl rfl rfl (q8 (zf (e rfl)));rintro l aA d j ⟨e,_⟩
 exact zw (Gj:=true) (Bj:=decide (((ix a.fA c).fB)≠((ix b.fA c).fB))) rfl rfl rfl (ul (e rfl)) rfl (fun n f=>yt fo ku (j 2 rfl) ((H.mono (s.trans o)).mono d));rintro l aB d j ⟨e,k,_⟩
 exact zw (Gj:=true) (Bj:=decide (((ix a.fA c).fB)≠((ix b.fA c).fB))) rfl rfl rfl (ul (k rfl)) rfl (fun n f=>jo zb7 rfl ((e rfl).1 (zn rfl f)));rintro l aC d j ⟨e,_⟩
 exact zw (Gj:=true) (Bj:=decide (((ix a.fA c).fB)≠((ix b.fA c).fB))) rfl rfl rfl (ul (e rfl)) rfl (fun n f=>q8 (zf (j 5 rfl)));rintro l aD d j ⟨e,k,u,_⟩
 exact zw (Gj:=true) (Bj:=decide (((ix a.fA c).fB)≠((ix b.fA c).fB))) rfl rfl rfl (ul (u rfl)) rfl (fun n f=>uj (i:=c.toNat) ze2 rfl (ja ((e rfl).1 (zn rfl f))) (zg (show l 36=(vi c) from(k rfl).1 (zn rfl f)) (L (zn n f)).1) (zy (L (zn n f))));rintro l aE d j ⟨e,k,_⟩
 exact zw (Gj:=true) (Bj:=decide (((ix a.fA c).fB)≠((ix b.fA c).fB))) rfl rfl rfl (ul (k rfl)) rfl (fun n f=>yt zda z2u rfl ((e rfl).1 (zn rfl f)));rintro l aF d j ⟨e,k,_⟩
 exact zw (Gj:=true) (Bj:=decide (((ix a.fA c).fB)≠((ix b.fA c).fB))) rfl rfl rfl (ul (k rfl)) rfl (fun n f=>yf (jo ty3 rfl ((e rfl).1 (zn rfl f))) (fun _ _ h=>j5.1 h));rintro l aG d j ⟨e,_⟩
 exact zw (Gj:=true) (Bj:=decide (((ix a.fA c).fB)≠((ix b.fA c).fB))) rfl rfl rfl (ul (e rfl)) rfl (fun n f=>yt fo ku (j 3 rfl) ((Z.mono o).mono d));rintro l aH d j ⟨e,k,_⟩
 exact zw (Gj:=true) (Bj:=decide (((ix a.fA c).fB)≠((ix b.fA c).fB))) rfl rfl rfl (ul (k rfl)) rfl (fun n f=>jo zb7 rfl ((e rfl).1 (zn rfl f)));rintro l aI d j ⟨e,_⟩
 exact zw (Gj:=true) (Bj:=decide (((ix a.fA c).fB)≠((ix b.fA c).fB))) rfl rfl rfl (ul (e rfl)) rfl (fun n f=>q8 (zf (j 5 rfl)));rintro l aJ d j ⟨e,k,u,_⟩
 exact zw (Gj:=true) (Bj:=decide (((ix a.fA c).fB)≠((ix b.fA c).fB))) rfl rfl rfl (ul (u rfl)) rfl (fun n f=>uj (i:=c.toNat) ze2 rfl (ja ((e rfl).1 (zn rfl f))) (zg (show l 42=(vi c) from(k rfl).1 (zn rfl f)) (M (zn n f)).1) (zy (M (zn n f))));rintro l aK d j ⟨e,k,_⟩
 exact zw (Gj:=true) (Bj:=decide (((ix a.fA c).fB)≠((ix b.fA c).fB))) rfl rfl rfl (ul (k rfl)) rfl (fun n f=>yt zda z2u rfl ((e rfl).1 (zn rfl f)));rintro l aL d j ⟨e,k,_⟩
 exact zw (Gj:=true) (Bj:=decide (((ix a.fA c).fB)≠((ix b.fA c).fB))) rfl rfl rfl (ul (k rfl)) rfl (fun n f=>yf (jo ty3 rfl ((e rfl).1 (zn rfl f))) (fun _ _ h=>j5.1 h));rintro l aM d j ⟨e,k,u,_⟩
 exact zw (Gj:=true) (Bj:=decide (((ix a.fA c).fB)≠((ix b.fA c).fB))) rfl rfl rfl (ul (u rfl)) rfl (fun n f=>q8 (xm (show l 39=(vi ((ix a.fA c).fE)) from(e rfl).1 (zn rfl f)) (show l 45=(vi ((ix b.fA c).fE)) from(k rfl).1 (zn rfl f))));rintro l aN d j ⟨e,k,_⟩
 exact za rfl rfl rfl (q8 (r9 (e rfl) rfl (fun hb=>(show l 46=(.bool (decide (((ix a.fA c).fE)≠((ix b.fA c).fE)))) from(k rfl).1 (zn rfl hb)))));rintro l aO d j ⟨e,k,_⟩;exact za rfl rfl rfl (q8 (zf (e rfl)));rintro l aP d j ⟨e,_⟩
 exact zw (Gj:=true) (Bj:=(decide (((ix a.fA c).fB)≠((ix b.fA c).fB)))||(decide (((ix a.fA c).fE)≠((ix b.fA c).fE)))) rfl rfl rfl (ul (e rfl)) rfl (fun n f=>yt fo ku (j 2 rfl) ((H.mono (s.trans o)).mono d));rintro l aQ d j ⟨e,k,_⟩
 exact zw (Gj:=true) (Bj:=(decide (((ix a.fA c).fB)≠((ix b.fA c).fB)))||(decide (((ix a.fA c).fE)≠((ix b.fA c).fE)))) rfl rfl rfl (ul (k rfl)) rfl (fun n f=>jo zb7 rfl ((e rfl).1 (zn rfl f)));rintro l aR d j ⟨e,_⟩
 exact zw (Gj:=true) (Bj:=(decide (((ix a.fA c).fB)≠((ix b.fA c).fB)))||(decide (((ix a.fA c).fE)≠((ix b.fA c).fE)))) rfl rfl rfl (ul (e rfl)) rfl (fun n f=>q8 (zf (j 5 rfl)));rintro l aS d j ⟨e,k,u,_⟩
 exact zw (Gj:=true) (Bj:=(decide (((ix a.fA c).fB)≠((ix b.fA c).fB)))||(decide (((ix a.fA c).fE)≠((ix b.fA c).fE)))) rfl rfl rfl (ul (u rfl)) rfl (fun n f=>uj (i:=c.toNat) ze2 rfl (ja ((e rfl).1 (zn rfl f))) (zg (show l 51=(vi c) from(k rfl).1 (zn rfl f)) (O (zn n f)).1) (zy (O (zn n f))))
 rintro l aT d j ⟨e,k,_⟩;exact zw (Gj:=true) (Bj:=(decide (((ix a.fA c).fB)≠((ix b.fA c).fB)))||(decide (((ix a.fA c).fE)≠((ix b.fA c).fE)))) rfl rfl rfl (ul (k rfl)) rfl (fun n f=>yt z6u z1j rfl ((e rfl).1 (zn rfl f)));rintro l aU d j ⟨e,k,_⟩
 exact zw (Gj:=true) (Bj:=(decide (((ix a.fA c).fB)≠((ix b.fA c).fB)))||(decide (((ix a.fA c).fE)≠((ix b.fA c).fE)))) rfl rfl rfl (ul (k rfl)) rfl (fun n f=>jo zcb rfl ((e rfl).1 (zn rfl f)));rintro l Q d j ⟨e,k,_⟩
 have z:phG q (phR (tSl false (qb .i64)) ((ix a.fA c).fC)) (l 54) Q:=e rfl
 exact zw (Gj:=true) (Bj:=(decide (((ix a.fA c).fB)≠((ix b.fA c).fB)))||(decide (((ix a.fA c).fE)≠((ix b.fA c).fE)))) rfl rfl rfl (ul (k rfl)) rfl (fun n f=>z5d (T:=(tSl false (qb .i64))) (X:=([(ix a.fA c).fC]:List (List Int))) (ps:=[(0,(l 54))]) (css:=[[(l 54)]]) underlying72 q4g rfl (by simp only [List.map_cons,List.map_nil,z4b (z.1 (zn rfl f))];rfl) (ky ⟨(u6 rfl (z.1 (zn rfl f))),trivial⟩) rfl rfl (by decide))
 rintro l aV d j ⟨e,_⟩;exact zw (Gj:=true) (Bj:=(decide (((ix a.fA c).fB)≠((ix b.fA c).fB)))||(decide (((ix a.fA c).fE)≠((ix b.fA c).fE)))) rfl rfl rfl (ul (e rfl)) rfl (fun n f=>yt fo ku (j 3 rfl) ((Z.mono o).mono d));rintro l aW d j ⟨e,k,_⟩
 exact zw (Gj:=true) (Bj:=(decide (((ix a.fA c).fB)≠((ix b.fA c).fB)))||(decide (((ix a.fA c).fE)≠((ix b.fA c).fE)))) rfl rfl rfl (ul (k rfl)) rfl (fun n f=>jo zb7 rfl ((e rfl).1 (zn rfl f)));rintro l aX d j ⟨e,_⟩
 exact zw (Gj:=true) (Bj:=(decide (((ix a.fA c).fB)≠((ix b.fA c).fB)))||(decide (((ix a.fA c).fE)≠((ix b.fA c).fE)))) rfl rfl rfl (ul (e rfl)) rfl (fun n f=>q8 (zf (j 5 rfl)));rintro l aY d j ⟨e,k,u,_⟩
 exact zw (Gj:=true) (Bj:=(decide (((ix a.fA c).fB)≠((ix b.fA c).fB)))||(decide (((ix a.fA c).fE)≠((ix b.fA c).fE)))) rfl rfl rfl (ul (u rfl)) rfl (fun n f=>uj (i:=c.toNat) ze2 rfl (ja ((e rfl).1 (zn rfl f))) (zg (show l 58=(vi c) from(k rfl).1 (zn rfl f)) (P (zn n f)).1) (zy (P (zn n f))))
 rintro l aZ d j ⟨e,k,_⟩;exact zw (Gj:=true) (Bj:=(decide (((ix a.fA c).fB)≠((ix b.fA c).fB)))||(decide (((ix a.fA c).fE)≠((ix b.fA c).fE)))) rfl rfl rfl (ul (k rfl)) rfl (fun n f=>yt z6u z1j rfl ((e rfl).1 (zn rfl f)));rintro l a0 d j ⟨e,k,_⟩
 exact zw (Gj:=true) (Bj:=(decide (((ix a.fA c).fB)≠((ix b.fA c).fB)))||(decide (((ix a.fA c).fE)≠((ix b.fA c).fE)))) rfl rfl rfl (ul (k rfl)) rfl (fun n f=>jo zcb rfl ((e rfl).1 (zn rfl f)));rintro l S d j ⟨e,k,_⟩
 have C:phG q (phR (tSl false (qb .i64)) ((ix b.fA c).fC)) (l 61) S:=e rfl
 exact zw (Gj:=true) (Bj:=(decide (((ix a.fA c).fB)≠((ix b.fA c).fB)))||(decide (((ix a.fA c).fE)≠((ix b.fA c).fE)))) rfl rfl rfl (ul (k rfl)) rfl (fun n f=>z5d (T:=(tSl false (qb .i64))) (X:=([(ix b.fA c).fC]:List (List Int))) (ps:=[(0,(l 61))]) (css:=[[(l 61)]]) underlying72 q4g rfl (by simp only [List.map_cons,List.map_nil,z4b (C.1 (zn rfl f))];rfl) (ky ⟨(u6 rfl (C.1 (zn rfl f))),trivial⟩) rfl rfl (by decide))
 rintro l a1 d j ⟨e,k,u,d3,_⟩
 exact zw (Gj:=true) (Bj:=(decide (((ix a.fA c).fB)≠((ix b.fA c).fB)))||(decide (((ix a.fA c).fE)≠((ix b.fA c).fE)))) rfl rfl rfl (ul (u rfl)) rfl (fun n f=>pg (vs:=[(l 55),(l 62)]) qcm rfl ((by have al:=(z3z ai (zn n f));exact z9l (Sub.v (B:=(tSl false (tSl false (qb .i64)))) (uh Sub.refl (fun _=>rfl)) ((e rfl).1 (zn rfl f))) (Sub.v (B:=(tSl false (tSl false (qb .i64)))) (uh Sub.refl (fun _=>rfl)) ((k rfl).1 (zn rfl f))) al)) (fun _ _ h=>h))
 rintro l a2 d j ⟨e,k,_⟩;exact zw (Gj:=true) (Bj:=(decide (((ix a.fA c).fB)≠((ix b.fA c).fB)))||(decide (((ix a.fA c).fE)≠((ix b.fA c).fE)))) rfl rfl rfl (ul (k rfl)) rfl (fun n f=>q8 (z0r (show l 63=(.bool (t.getD default)) from(e rfl).1 (zn rfl f))));rintro l a3 d j ⟨e,k,_⟩
 exact za rfl rfl rfl (q8 (r9 (e rfl) rfl (fun hb=>(show l 64=(.bool (!(t.getD default))) from(k rfl).1 (zn rfl hb)))));intro bZ b0 b1 b2 b3 am b4 b5 b6 b7 b8 an b9 ca cb cc cd ao ce cf cg ch ci ap cj aq
 intro ck ar cl cm cn co cp cq cr cs ct cu cv cw cx cy cz cA cB cC cD cE cF cG cH cI cJ cK cL au cM U a4 a5 a6 a7 a8 a9 ba bb bc be bg bh bj bk bl bm bn bo bp bq br bs bt bu bv bw bx bz bA bB bC bD bE V;obtain rfl:=Eq.symm am;obtain rfl:=Eq.symm an;obtain rfl:=Eq.symm ao
 obtain rfl:=Eq.symm ap;obtain rfl:=Eq.symm aq;obtain rfl:=Eq.symm ar;obtain rfl:=Eq.symm au;obtain rfl:=Eq.symm U;obtain rfl:=Eq.symm V;refine z8 (zu rfl m (fun m=>?_) (fun m=>?_));refine zk (zi (.bool false) (z8 (qx ?_)));replace p:=z2q m p;obtain rfl:=Option.some.inj p
 refine qd (D:=[]) (J:=[]) (rs:=[.tmp 4]) (vs:=[(.bool false)]) (((w.trans s).trans o).trans y) rfl rfl ⟨rfl,trivial⟩ ?_;exact⟨rfl,rfl⟩;refine qa (zm (zh (vi c) ?_));obtain⟨W,m⟩:=zb m;refine zl (jg rfl rfl W) (zi (vi (c+1)) (z8 ?_))
 exact⟨dkt,y,jm,(x,c+1),Nat.lt_succ_self _,⟨rfl,trivial⟩,prm,m,trivial⟩;refine jf ?_;exact⟨dkt,o,jm,(),trivial,prm,(Option.some.inj m).symm,trivial⟩;rintro cN bF cO Y ⟨rfl,_⟩;replace p:=z4h p;refine zk (zi (.bool true) (z8 (qx ?_)));obtain rfl:=Option.some.inj p
 refine qd (D:=[]) (J:=[]) (rs:=[.tmp 4]) (vs:=[(.bool true)]) ((w.trans s).trans Y) rfl rfl ⟨rfl,trivial⟩ ?_;exact⟨rfl,rfl⟩
end GV
end Go.Proofs.Ytnnobdkjgafdmaa
