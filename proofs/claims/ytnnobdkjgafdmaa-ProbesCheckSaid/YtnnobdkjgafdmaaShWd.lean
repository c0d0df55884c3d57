import Derived.Test.YtnnobdkjgafdmaaShWc
import Derived.Test.YtnnobdkjgafdmaaRows
set_option linter.unusedVariables false
set_option linter.unusedSimpArgs false
set_option linter.unusedSectionVars false
namespace Go.Proofs.Ytnnobdkjgafdmaa
namespace GV
open _root_.Go.Proofs.Try
open Go.IntWalk
set_option maxRecDepth 100000
set_option maxHeartbeats 20000000
theorem q5t:Enters prog 65:=enters_of func65 rfl (by kernel_rfl)
theorem z5n{N:Nat}{R:RH}{E:(Arr 64 Int)}{b:Value}(y:VRep (zyd z3r) R b E){m:Mach}{q:Value}(s:VRep (jv false false) R q m){block:Int}{i:Int}{t:Int}{r:Bool}(k:z19 N E m block i t=some r):CallP prog 41 #[b,q,(.int .u16 block),(vi i),(vi t)] R (fun v R'=>v=(.bool r)):=by
 refine qd (args:=[b,q,(.int .u16 block),(vi i),(vi t)]) func41 rfl rfl fun A=>?_;rw [z19] at k;refine zl (kz (T:=(jv false false)) rfl rfl rfl s fun v1 R3 l Q h2=>?_);refine zi (.bool false) (qy (zm (ky z0w rfl rfl Q (s.mono l)) (zg (.int .u16 block) (zg (vi i) ?_))))
 obtain⟨f,S,k⟩:=zq k;refine jf rfl q5t rfl (zjd (s.mono l) S) fun v8 U o V=>?_;obtain rfl:=V;refine zg (.tuple #[(z0q f.1),(.bool f.2)]) (zm (jr rfl rfl) (zm (jr rfl rfl) (kw rfl zz9 fun F=>?_)))
 refine ay (j:=0) (cs:=(xz (ah 16 (List.replicate 16 (0:Int))))) (cs':=(xz f.1)) zh3 rfl rfl (co_A16tIntu16.len _) (co_A16tIntu16.len _) rfl rfl (z0d (z9f _)) ?_;refine zi (.bool f.2) (z8 ?_);obtain⟨c,a,k⟩:=zq k
 refine qx (γ:=Bool) (rs [12,13,14,15,22,34]) (fun g=>[(12,(.bool g))]) (fun g=>[]++A) (fun g R=>c=g∧True) ?_ ?_
 refine zl (zm (ng (j:=0) (v:=(z0q f.1)) zob zh3 rfl rfl (co_A16tIntu16.len _) rfl) (zg (vi 0) (z8 (zw (je (γ:=Nat×Bool×Int) (rs [12,13,14,15,23,34]) (fun g=>[(12,(.bool g.2.1)),(23,(vi g.2.2))]) (fun g=>[]++A) (fun g R=>av N E t f g.1 g.2.1 g.2.2=some c∧True) (fun g=>g.1) (N,f.2,0) ⟨[box F (xz f.1) 106],(List.Perm.refl _)⟩ ⟨a,trivial⟩ ?_)))))
 clear a;rintro⟨n,d,e⟩ W Y p ⟨a,_⟩;rcases n with _|n;exact qw a;replace a:av N E t f (n+1) d e=some c:=a;rw [av] at a;refine zl (zm (j4 rfl rfl) (z8 (zt (zu rfl a (fun a=>?_) (fun a=>?_)))));refine qb (zt (zw (zl ?_)))
 obtain⟨z,a⟩:=zb a
 refine zm (zoi (i:=e.toNat) (X:=f.1) underlying106 zxk q03 rfl (zf rfl z.1) (Nat.lt_of_lt_of_eq (zx z) f.1.2)) (zi (.int .u16 (ix f.1.1 e)) (z8 (zn (jq (v:=(.bool d)) rfl (ze rfl) (jq (v:=(.bool d)) rfl (ze rfl) (qp rfl rfl rfl rfl (fun u=>qg (v:=b) (ze rfl)) fun Z G=>?_))))))
 refine qp rfl rfl rfl rfl (fun u=>qg (v:=(.int .u16 (ix f.1.1 e))) (ze rfl)) fun aa H=>?_;refine qp rfl rfl rfl rfl (fun u=>qg (v:=(vi t)) (ze rfl)) fun ab I=>?_;obtain⟨w,K,a⟩:=zq a
 refine z6i rfl rfl rfl rfl (fun u=>bu (vs:=[b,(.int .u16 (ix f.1.1 e)),(vi t)]) q1b (zai (G.1 (zh rfl u)) (zai (H.1 (zh rfl u)) (zai (I.1 (zh rfl u)) rfl))) ((by have L:=(z0x K (zh rfl u));exact z3s (z0l.2 ((z0l.1 y).mono ((l.trans o).trans p))) L)) (fun _ _ h=>h)) fun M O B x=>?_
 replace x:phG (true&&(d==true)) (phX (.bool (w.getD default))) M O:=x;refine jq rfl (bz rfl (fun hb=>(x.1 (zh rfl hb))) rfl) (zi (.bool (d&&(w.getD default))) (z8 (zn ?_)));obtain⟨P,a⟩:=zb a;refine zm (ji rfl rfl P) (zg (vi (e+1)) (z8 ?_))
 exact⟨dkt,B,jm,(n,d&&(w.getD default),e+1),Nat.lt_succ_self _,⟨rfl,rfl,trivial⟩,prm,a,trivial⟩;refine jg ?_;exact⟨dkt,p,jm,d,⟨rfl,trivial⟩,prm,(Option.some.inj a).symm,trivial⟩;rintro c ad ae C ⟨rfl,_⟩;refine zl (zg (.bool c) (zi (.bool c) (z8 (qm ?_))));obtain rfl:=Option.some.inj k
 refine qa (D:=[]) (J:=[]) (rs:=[.tmp 10]) (vs:=[(.bool c)]) ((l.trans o).trans C) rfl rfl ⟨rfl,trivial⟩ ?_;exact⟨rfl,rfl⟩
theorem q37:Enters prog 41:=enters_of func41 rfl (by kernel_rfl)
theorem zgg{N:Nat}{R:RH}{m:Mach}{C:Value}(I:VRep (jv false false) R C m){r:(Arr 64 Int)}(E:z8i N m=some r):CallP prog 38 #[C] R (fun v R'=>VRep (zyd z3r) R' v r):=by
 refine qd (args:=[C]) func38 rfl rfl fun A=>?_;rw [z8i] at E;refine zl (kz (T:=(jv false false)) rfl rfl rfl I fun v1 R3 K h5 h2=>?_)
 refine zi (.pointer none) (qy (zm (xn (ps:=[]) (v:=(zc9 (ah 64 (List.replicate 64 (0:Int))))) rfl (fun w=>by kernel_rfl)) (zpz (cs:=(xh (ah 64 (List.replicate 64 (0:Int))))) rfl rfl rfl fun t=>?_)));refine zi (.pointer (some ⟨t,0,none⟩)) (z8 ?_);obtain⟨M,b,E⟩:=zq E
 refine qx (γ:=((Arr 64 Int))) (rs [4,9,11,44]) (fun g=>[]) (fun g=>[box t (xh g) 104]++A) (fun g R=>M=g∧True) ?_ ?_
 refine zl (zi (vi 1) (zi (.bool true) (z8 (zw (je (γ:=Nat×Int×Bool×((Arr 64 Int))) (rs [4,9,11,44]) (fun g=>[(4,(vi g.2.1)),(5,(.bool g.2.2.1))]) (fun g=>[box t (xh g.2.2.2) 104]++A) (fun g R=>z1g N m g.1 g.2.1 g.2.2.1 g.2.2.2=some M∧True) (fun g=>g.1) (N,1,true,(ah 64 (List.replicate 64 (0:Int)))) prm ⟨b,trivial⟩ ?_)))))
 clear b;rintro⟨F,c,O,f⟩ av aw k ⟨b,_⟩;rcases F with _|F;exact qw b;replace b:z1g N m (F+1) c O f=some M:=b;rw [z1g] at b;refine zt (zl (zg (.bool O) (z8 (zu rfl b (fun b=>?_) (fun b=>?_)))));refine qb ?_;obtain⟨u,d,b⟩:=zq b
 refine qx (γ:=(Bool×(Arr 64 Int))) (rs [5,9,14,44]) (fun g=>[(5,(.bool g.1))]) (fun g=>[box t (xh g.2) 104]++A) (fun g R=>u=g∧True) ?_ ?_
 refine zw (zl (zi (.bool false) (qy (zg (.pointer (some ⟨t,0,none⟩)) (zm (zei rfl) (zm (ng (j:=0) (v:=(zc9 f)) q26 zzd rfl rfl (co_A64tInti64.len _) rfl) (kw rfl q1x fun y=>?_)))))))
 refine ay (j:=0) (cs:=(xh (ah 64 (List.replicate 64 (0:Int))))) (cs':=(xh f)) zzd rfl rfl (co_A64tInti64.len _) (co_A64tInti64.len _) rfl rfl (z0d (zka _)) ?_;refine qy (j6 rfl yu ug rfl (h2.mono k) fun ax Z=>?_);refine qh rfl z1n rfl Z fun az aa=>?_
 refine zm (qo rfl underlying28 rfl (j5 aa)) ?_;obtain⟨ab,d⟩:=zb d
 refine zm (z6v rfl rfl ab) (zg (.int .u16 0) (z8 (zw (je (γ:=Nat×Bool×Int×((Arr 64 Int))) (rs [5,6,7,9,21,44]) (fun g=>[(5,(.bool g.2.1)),(21,(.int .u16 g.2.2.1))]) (fun g=>[box t (xh g.2.2.2) 104,box y (xh f) 104]++A) (fun g R=>z1k N m c f g.1 g.2.1 g.2.2.1 g.2.2.2=some u∧True) (fun g=>g.1) (N,false,0,f) ⟨[],(pk 1 rfl (pk 0 rfl (List.Perm.refl _)))⟩ ⟨d,trivial⟩ ?_))))
 clear d;rintro⟨G,p,e,h⟩ aA aB l ⟨d,_⟩;rcases G with _|G;exact qw d;replace d:z1k N m c f (G+1) p e h=some u:=d;rw [z1k] at d;refine zl (zm (j4 rfl rfl) (z8 (zt (zu rfl d (fun d=>?_) (fun d=>?_)))));refine qb ?_;obtain⟨B,a,d⟩:=zq d
 refine qx (γ:=(Bool×(Arr 64 Int))) (rs [5,6,7,9,23,43]) (fun g=>[(5,(.bool g.1))]) (fun g=>[box t (xh g.2) 104,box y (xh f) 104]++A) (fun g R=>B=g∧True) ?_ ?_;refine zw (zl (zg (.int .u16 e) (zi (.int .u16 e) (z8 (zt (zl (zg (.int .u16 e) (zg (vi c) ?_))))))))
 obtain⟨ac,ad,a⟩:=zq a;refine zcw (cs:=[]) (vs:=[(.pointer (some ⟨y,0,none⟩)),(.int .u16 e),(vi c)]) (φ:=fun v=>v=(.bool ac)) rfl q1b rfl rfl (fun aC ar P=>z3s (z0l.2 (zjg (zwr 1 rfl P) ((co_A64tInti64.iff _ _ _).2 rfl))) ad) fun aD ae=>?_;obtain rfl:=ae
 refine z8 (zu rfl a (fun a=>?_) (fun a=>?_));refine jg ?_;exact⟨dkt,(RH.le.refl _),jm,(p,h),⟨rfl,trivial⟩,prm,(Option.some.inj a).symm,trivial⟩;refine qb (zl (j6 rfl z1o z2v rfl (h2.mono (k.trans l)) fun aE af=>?_));refine qh rfl ty3 rfl af fun aF ag=>?_;obtain rfl:=jb.1 ag
 refine zg (vi 0) (z8 (zw (je (γ:=Nat×Int) (rs [5,6,8,9,29,43]) (fun g=>[(5,(.bool p)),(29,(vi g.2))]) (fun g=>[box t (xh h) 104,box y (xh f) 104]++A) (fun g R=>z0y N m c f p e h g.1 g.2=some B∧True) (fun g=>g.1) (N,0) prm ⟨a,trivial⟩ ?_)));clear a
 rintro⟨H,s⟩ aG aH n ⟨a,_⟩;rcases H with _|H;exact qw a;replace a:z0y N m c f p e h (H+1) s=some B:=a;rw [z0y] at a;refine zl (zm (j4 rfl rfl) (z8 (zt (zu rfl a (fun a=>?_) (fun a=>?_)))))
 refine qb (zt (zw (zl (zg (vi s) (zi (vi s) (qy (zm (ky z0w rfl rfl (h5.mono ((k.trans l).trans n)) (I.mono (((K.trans k).trans l).trans n))) (zg (.int .u16 e) (zg (vi s) (zg (vi c) ?_))))))))));obtain⟨ai,aj,a⟩:=zq a
 refine zcw (cs:=[]) (vs:=[(.pointer (some ⟨y,0,none⟩)),C,(.int .u16 e),(vi s),(vi c)]) (φ:=fun v=>v=(.bool ai)) rfl q37 rfl rfl (fun aI Q S=>z5n (z0l.2 (zjg (zwr 1 rfl S) ((co_A64tInti64.iff _ _ _).2 rfl))) ((I.mono (((K.trans k).trans l).trans n)).mono Q) aj) fun aJ ak=>?_
 obtain rfl:=ak;refine z8 (zu rfl a (fun a=>?_) (fun a=>?_));refine zl (zg (.pointer (some ⟨t,0,none⟩)) (zg (.int .u16 e) (zg (vi c) (zm (zei rfl) ?_))));obtain⟨L,a⟩:=zb a
 refine zm (lm (i:=e.toNat) zs6 rfl (zf rfl L.1) (Nat.lt_of_lt_of_eq (zx L) h.2)) (z6r (sz:=1) (cl:=(fun x:Int=>[Value.int .i64 x])) (z:=c) (vs:=[(vi c)]) (q:=e) (i:=e.toNat) (o:=0) (j:=0) (X:=h) cells_int.len sz3 rfl rfl (by omega) rfl (Nat.lt_of_lt_of_eq (zx L) h.2) rfl rfl rfl (qc rfl kg) rfl rfl ?_)
 refine qy (zi (.bool true) (z8 (jg ?_)));exact⟨dkt,n,jm,(true,(l8 h e c)),⟨rfl,trivial⟩,prm,(Option.some.inj a).symm,trivial⟩;refine qb (zn ?_);obtain⟨al,a⟩:=zb a;refine zm (ji rfl rfl al) (zg (vi (s+1)) (z8 ?_))
 exact⟨dkt,(RH.le.refl _),jm,(H,s+1),Nat.lt_succ_self _,⟨rfl,rfl,trivial⟩,prm,a,trivial⟩;refine jg ?_;exact⟨dkt,n,jm,(p,h),⟨rfl,trivial⟩,prm,(Option.some.inj a).symm,trivial⟩;rintro B aK aL U ⟨rfl,_⟩;refine zn (zm (znd rfl rfl) (zg (.int .u16 (IntKind.u16.wrap (e+1))) (z8 ?_)))
 exact⟨dkt,U,jm,(G,B.1,IntKind.u16.wrap (e+1),B.2),Nat.lt_succ_self _,⟨rfl,rfl,trivial⟩,prm,d,trivial⟩;refine jg ?_;exact⟨dkt,l,jm,(p,h),⟨rfl,trivial⟩,⟨[box y (xh f) 104],(pk 1 rfl (pk 0 rfl (List.Perm.refl _)))⟩,(Option.some.inj d).symm,trivial⟩;rintro u aM aN V ⟨rfl,_⟩;refine zn (zg (vi c) ?_)
 obtain⟨am,b⟩:=zb b;refine zm (ji rfl rfl am) (zi (vi (c+1)) (z8 ?_));exact⟨dkt,V,jm,(F,c+1,u.1,u.2),Nat.lt_succ_self _,⟨rfl,rfl,trivial⟩,prm,b,trivial⟩;refine jg ?_;exact⟨dkt,k,jm,f,trivial,prm,(Option.some.inj b).symm,trivial⟩;rintro M aO R9 W ⟨rfl,_⟩
 refine zl (zg (.pointer (some ⟨t,0,none⟩)) (zi (.pointer (some ⟨t,0,none⟩)) (z8 (zq8 (i:=0) rfl fun an Y ao=>?_))));have ap:PRep z3r an (.pointer (some ⟨t,0,none⟩)) M:=zjg ao ((co_A64tInti64.iff _ _ _).2 rfl);refine qm ?_;obtain rfl:=Option.some.inj E
 refine qa (D:=[]) (J:=[]) (rs:=[.tmp 2]) (vs:=[(.pointer (some ⟨t,0,none⟩))]) ((K.trans W).trans Y) rfl rfl ⟨rfl,trivial⟩ ?_;exact⟨rfl,(z0l.2 ap)⟩
theorem q4s:Enters prog 38:=enters_of func38 rfl (by kernel_rfl)
theorem q4r: ∀ w,∃ z,(zeroValue 77).run prog w= .ok z w∧z.cells=([.pointer none]:List Value).toArray:=fun w=>⟨(.pointer none),by kernel_rfl,rfl⟩
theorem q5j: ∀ w,(sizeOf 77).run prog w= .ok 1 w:=fun w=>by kernel_rfl
theorem q0t: ∀ w,(isAgg 77).run prog w= .ok false w:=fun w=>by kernel_rfl
theorem q4q: ∀ w,∃ z,(zeroValue 80).run prog w= .ok z w∧z.cells=([.nilFunc]:List Value).toArray:=fun w=>⟨.nilFunc,by kernel_rfl,rfl⟩
theorem q50: ∀ w,(sizeOf 80).run prog w= .ok 1 w:=fun w=>by kernel_rfl
theorem q29: ∀ w,(isAgg 80).run prog w= .ok false w:=fun w=>by kernel_rfl
theorem pu:FieldOk prog 45 0 0:=by
 obtain⟨i,hi,a⟩: ∃ i,prog.info? 43=some i∧i.size=1:=uf (by kernel_rfl);exact dm underlying45 rfl rfl hi (by rw [a];rfl)
theorem zva: ∀ w,(isAgg 43).run prog w= .ok false w:=fun w=>by kernel_rfl
theorem zzb:ZeroOk prog 55 rSprobes_Node.H ((0:Int),(0:Int),.slice none 0 0) 40:=by
 obtain⟨i,zv,hi,a,c,d,f⟩:=z2c (P:=prog) (e:=55) (zv:=(.agg #[(vi 0),(vi 0),vs0])) (k:=3) (b:=40) (by kernel_rfl);exact⟨i,zv,hi,a,c,d,fun R=>by subst f;exact⟨_,_,rfl,rfl,⟨_,_,rfl,rfl,⟨rfl,rfl⟩⟩⟩⟩
theorem q3d: ∀ w,(sizeOf 43).run prog w= .ok 1 w:=fun w=>by kernel_rfl
theorem q1v:TyOk prog 55 rSprobes_Node.H:=by
 obtain⟨i,hi,a⟩: ∃ i,prog.info? 55=some i∧i.size=3:=uf (by kernel_rfl);exact z01 underlying55 hi rfl a
theorem zzu:SlOk prog 43 55 rSprobes_Node.H:=⟨underlying43,q1v⟩
theorem z7l:FieldOk prog 55 1 1:=by
 obtain⟨i,hi,a⟩: ∃ i,prog.info? 3=some i∧i.size=1:=uf (by kernel_rfl);exact dm underlying55 rfl rfl hi (by rw [a];rfl)
theorem z4q:FieldOk prog 55 0 0:=by
 obtain⟨i,hi,a⟩: ∃ i,prog.info? 3=some i∧i.size=1:=uf (by kernel_rfl);exact dm underlying55 rfl rfl hi (by rw [a];rfl)
theorem q40:Enters prog 40:=enters_of func40 rfl (by kernel_rfl)
theorem zcn{N:Nat}(F:Nat): ∀ {R:RH} {now:(List Int)} {S:Value} (ab:VRep (tSl false (qf .i64)) R S now) {p:(List Int)} {E:Value} (ag:VRep (tSl false (qf .i64)) R E p) {b:Nat} {p0_:List Sa} {ac:Value} {fM:Frag} {aD:List Value} (ad:NS rSprobes_Node aD R fM ac p0_) {p1_:Mach} {k:Value} (ae:PRep (jv false false) R k p1_) {a:Nat} {p2_:(Arr 64 Int)} {f:Value} (ah:PRep z3r R f p2_) {d:Nat} {r:Int×List Sa} (x:z0k N F now p p0_ p1_ p2_=some r),CallG prog 40 #[S,E,(.pointer (some ⟨b,0,none⟩)),k,(.pointer (some ⟨a,0,none⟩)),(.pointer (some ⟨d,0,none⟩))] R [box b [ac] 45,fM,box a [f] 77,box d [.func (.func 40) #[] #[(.pointer (some ⟨b,0,none⟩)),k,(.pointer (some ⟨a,0,none⟩)),(.pointer (some ⟨d,0,none⟩))]] 80] (fun v R' O'=> ∃ aQ aR,v=(vi r.1)∧O'=[box b [aQ] 45,aR,box a [f] 77,box d [.func (.func 40) #[] #[(.pointer (some ⟨b,0,none⟩)),k,(.pointer (some ⟨a,0,none⟩)),(.pointer (some ⟨d,0,none⟩))]] 80]∧NS rSprobes_Node aD R' aR aQ r.2):=by
  induction F with
  |zero=>intros;rename_i x;exact qw x
  |succ F ih=>
    intro R now S ab p E ag b p0_ ac fM aD ad p1_ k ae a p2_ f ah d r x
    refine z5d (args:=[S,E,(.pointer (some ⟨b,0,none⟩)),k,(.pointer (some ⟨a,0,none⟩)),(.pointer (some ⟨d,0,none⟩))]) func40 rfl rfl fun A=>?_
    rw [z0k] at x
    obtain⟨aS,ba,ad⟩:=ad
    refine zt ?_
    refine zn ?_
    refine zi (vi 0) ?_
    refine z8 ?_
    refine zt ?_
    refine zn ?_
    refine zm (qi pu rfl) ?_
    refine zm (qj (i:=0) zva rfl rfl rfl) ?_
    refine z1w rfl (zz (ztu rfl underlying43 rfl ad)) fun v1 R3 G h2=>?_
    obtain rfl:=Eq.symm h2
    refine zi (vi (↑p0_.length:Int)) ?_
    refine z8 ?_
    refine zt ?_
    refine zn ?_
    refine j6 rfl zba z7c rfl (ae.mono G) fun v5 h6=>?_
    refine qh rfl ty3 rfl h6 fun v7 h8=>?_
    obtain rfl:=jb.1 h8
    obtain⟨bb,x⟩:=zb x
    refine z6u (T:=(qf .i64)) (m:=p1_.outputs.toNat) (c:=p1_.outputs.toNat) rfl underlying32 zo3 (zf rfl bb.1) (zf rfl bb.1) (Nat.le_refl _) (zdm bb) (zdi bb) fun v9 dk bG bT=>?_
    refine zi v9 ?_
    refine z8 ?_
    obtain⟨U,e,x⟩:=zq x
    refine qx (γ:=(List Int)×Frag) (rs [11,12,27,36]) (fun g=>[]) (fun g=>[box b [ac] 45,fM,box a [f] 77,box d [(.func (.func 40) #[] #[(.pointer (some ⟨b,0,none⟩)),k,(.pointer (some ⟨a,0,none⟩)),(.pointer (some ⟨d,0,none⟩))])] 80,g.2]++A) (fun g R=>U=g.1∧ORep (qf .i64) R g.2 v9 g.1∧capOf v9=g.1.length∧True) ?_ ?_
    · refine zt ?_
      refine zn ?_
      refine zg v9 ?_
      refine zm (z0h rfl underlying32 rfl bT) ?_
      refine zg (vi 0) ?_
      refine z8 ?_
      refine zw ?_
      refine je (γ:=Nat×Int×(List Int)×Frag) (rs [11,12,29,36]) (fun g=>[(29,(vi g.2.1))]) (fun g=>[box b [ac] 45,fM,box a [f] 77,box d [(.func (.func 40) #[] #[(.pointer (some ⟨b,0,none⟩)),k,(.pointer (some ⟨a,0,none⟩)),(.pointer (some ⟨d,0,none⟩))])] 80,g.2.2.2]++A) (fun g R=>z10 N p1_ g.1 g.2.1 g.2.2.1=some U∧ORep (qf .i64) R g.2.2.2 v9 g.2.2.1∧capOf v9=g.2.2.1.length∧True) (fun g=>g.1) (N,0,(mk p1_.outputs (0:Int)),dk) ⟨[],(pk 1 rfl (pk 1 rfl (pk 1 rfl (pk 1 rfl (pk 0 rfl (List.Perm.refl _))))))⟩ ⟨e,bT,(bG.trans List.length_replicate.symm),trivial⟩ ?_
      clear e
      rintro⟨bc,ax,bH,dl⟩ fe ff bU ⟨e,bI,bk,_⟩
      rcases bc with _|bc
      · exact qw e
      replace e:z10 N p1_ (bc+1) ax bH=some U:=e;rw [z10] at e
      refine zt ?_
      refine zn ?_
      refine zm (j4 rfl rfl) ?_
      refine z8 ?_
      refine zt ?_
      refine zu rfl e (fun e=>?_) (fun e=>?_)
      · refine qb ?_
        refine zt ?_
        refine zw ?_
        refine zt ?_
        refine zn ?_
        refine zg (vi ax) ?_
        refine zi (vi ax) ?_
        refine z8 ?_
        refine zn ?_
        refine zg v9 ?_
        refine zg (vi ax) ?_
        obtain⟨bJ,e⟩:=zb e
        refine oz (i:=ax.toNat) rfl ig rfl bI (zf rfl bJ.1) (zx bJ) fun fg dm=>?_
        refine z3f (i:=ax.toNat) (j:=4) ty3 bI rfl rfl dm (zx bJ) rfl (jb.2 rfl) fun dn dp=>?_
        refine z8 ?_
        refine zn ?_
        obtain⟨dq,e⟩:=zb e
        refine zm (ji rfl rfl dq) ?_
        refine zg (vi (ax+1)) ?_
        refine z8 ?_
        exact⟨dkt,(RH.le.refl _),jm,(bc,ax+1,(up bH ax (-1)),dn),Nat.lt_succ_self _,⟨rfl,trivial⟩,prm,e,dp,(bk.trans List.length_set.symm),trivial⟩
      · refine jg ?_
        exact⟨dkt,bU,jm,(bH,dl),trivial,prm,(Option.some.inj e).symm,bI,bk,trivial⟩
    · rintro⟨U,dr⟩ fh fi s ⟨rfl,bK,dT,_⟩
      refine zt ?_
      refine zn ?_
      refine zm (qi pu rfl) ?_
      refine zm (qj (i:=0) zva rfl rfl rfl) ?_
      refine zg v9 ?_
      refine zm (z6j [(0,(vi (-1))),(1,(vi (-1))),(2,(.agg #[v9]))] (ps:=[(0,(vi (-1))),(1,(vi (-1))),(2,v9)]) (v:=(.agg #[(vi (-1)),(vi (-1)),v9])) rfl (by simp only [List.map_cons,List.map_nil,aj bK];rfl) (fun w=>by kernel_rfl)) ?_
      refine zsm (K:=rSprobes_Node) (nx:=(((-1):Int),((-1):Int),v9)) (cs:=[(vi (-1)),(vi (-1)),v9]) (u:=(.agg #[(vi (-1)),(vi (-1)),v9])) rfl underlying43 zzb rfl rfl ⟨_,_,rfl,rfl,⟨_,_,rfl,rfl,⟨rfl,z07 bK⟩⟩⟩ rfl fun fj fk o ds=>?_
      obtain⟨bV,x⟩:=zb x
      refine zhm (Oc:=[fM,dr]) (Or:=[box b [ac] 45,box a [f] 77,box d [(.func (.func 40) #[] #[(.pointer (some ⟨b,0,none⟩)),k,(.pointer (some ⟨a,0,none⟩)),(.pointer (some ⟨d,0,none⟩))])] 80]++A) rfl (pk 1 rfl (pk 3 rfl (pk 0 rfl (pk 0 rfl (pk 0 rfl (List.Perm.refl _)))))) (zmt (K:=rSprobes_Node) (nx:=(⟨(-1),(-1),U⟩:Sa)) underlying43 zzb rfl rfl (ad.mono ((G.trans s).trans o)) (bK.mono o) ds bV.1 bV.2) ?_
      rintro ai fl dU dV ⟨rfl,aP,rfl,aE⟩
      obtain⟨be,aT⟩: ∃ V,V=aS++[v9]:=⟨_,rfl⟩;rw [←aT] at aE
      have ar:be[p0_.length]? =some v9:=by rw [aT];exact zyp (zqc (ad.mono ((G.trans s).trans o)))
      have aU:=(List.prefix_rfl.trans ba).trans (List.prefix_append aS [v9]);rw [←aT] at aU
      refine zm (qi pu rfl) ?_
      refine jy (i:=1) (vs:=[ai]) q3d rfl rfl (zur aE) rfl rfl rfl (qc (q0u aE) kg) ?_
      refine z8 ?_
      refine zt ?_
      refine zt ?_
      refine zn ?_
      refine zg S ?_
      refine zm (qo rfl underlying32 rfl (j5 (ab.mono ((G.trans s).trans o)))) ?_
      refine zm (yw rfl rfl) ?_
      refine z8 ?_
      refine zu rfl x (fun x=>?_) (fun x=>?_)
      · refine zt ?_
        refine z2k 8 mixed (by kernel_rfl) (by kernel_rfl) ?_
        refine uo (v:=(.pointer (some ⟨b,0,none⟩))) (qi pu rfl) ?_
        refine uo (v:=ai) (qj (i:=1) zva rfl rfl rfl) ?_
        refine uo (v:=(vi (↑p0_.length:Int))) (ze rfl) ?_
        refine uo (v:=E) (ze rfl) ?_
        obtain⟨bW,x⟩:=zb x
        refine z2h (gm (i:=(0:Int).toNat) ig rfl (j5 (ag.mono ((G.trans s).trans o))) (zf rfl bW.1) (zx bW)) fun fm dt=>?_
        refine uo (bi (ko ty3 rfl dt)) ?_
        obtain⟨bL,x⟩:=zb x
        refine z2h (zqb (i:=(↑p0_.length:Int).toNat) zzu rfl aE (zf rfl bL.1) (zx bL)) fun fn du=>?_
        refine z2h (zg2 z7l rfl du) fun dv dw=>?_
        intro fo bl
        refine za8 (Oc:=[aP]) (Or:=[box b [ai] 45,box a [f] 77,box d [(.func (.func 40) #[] #[(.pointer (some ⟨b,0,none⟩)),k,(.pointer (some ⟨a,0,none⟩)),(.pointer (some ⟨d,0,none⟩))])] 80]++A) (List.Perm.refl _) (zep (K:=rSprobes_Node) (i:=(↑p0_.length:Int).toNat) (u:=dv) (nx:=(⟨(ix (p0_++[(⟨(-1),(-1),U⟩:Sa)]) (↑p0_.length:Int)).fB,(ix p 0),(ix (p0_++[(⟨(-1),(-1),U⟩:Sa)]) (↑p0_.length:Int)).fC⟩:Sa)) (q1i zpk) ty3 (aE.mono bl) rfl dw (zx bL) rfl (jb.2 rfl) rfl (fun _=>rfl)) ?_
        rintro fp fq dW dX ⟨rfl,bX,rfl,dx⟩
        refine z8 ?_
        refine zt ?_
        refine zn ?_
        refine zg (vi (↑p0_.length:Int)) ?_
        refine zi (vi (↑p0_.length:Int)) ?_
        refine z8 ?_
        refine qm ?_
        obtain rfl:=Option.some.inj x
        refine z3e (D:=[]) (J:=[]) (O':=[box b [ai] 45,bX,box a [f] 77,box d [(.func (.func 40) #[] #[(.pointer (some ⟨b,0,none⟩)),k,(.pointer (some ⟨a,0,none⟩)),(.pointer (some ⟨d,0,none⟩))])] 80]) (rs:=[.tmp 8]) (vs:=[(vi (↑p0_.length:Int))]) (((G.trans s).trans o).trans bl) ((pk 1 rfl (pk 0 rfl (pk 0 rfl (pk 0 rfl (List.Perm.refl _)))))) rfl ⟨rfl,trivial⟩ ?_
        exact⟨ai,bX,rfl,rfl,(zf9 (aU.trans List.prefix_rfl) dx)⟩
      · refine qb ?_
        refine zt ?_
        refine zn ?_
        refine zi (.int .u16 0) ?_
        refine z8 ?_
        obtain⟨O,e,x⟩:=zq x
        refine qx (γ:=Int) (rs [12,13,14,15,55,66]) (fun g=>[(12,(.int .u16 g))]) (fun g=>[box b [ai] 45,aP,box a [f] 77,box d [(.func (.func 40) #[] #[(.pointer (some ⟨b,0,none⟩)),k,(.pointer (some ⟨a,0,none⟩)),(.pointer (some ⟨d,0,none⟩))])] 80]++A) (fun g R=>O=g∧True) ?_ ?_
        · refine zt ?_
          refine zn ?_
          refine zg S ?_
          refine zm (qo rfl underlying32 rfl (j5 (ab.mono ((G.trans s).trans o)))) ?_
          refine zg (vi 0) ?_
          refine z8 ?_
          refine zw ?_
          refine je (γ:=Nat×Int×Int) (rs [12,13,14,15,57,66]) (fun g=>[(12,(.int .u16 g.2.1)),(57,(vi g.2.2))]) (fun g=>[box b [ai] 45,aP,box a [f] 77,box d [(.func (.func 40) #[] #[(.pointer (some ⟨b,0,none⟩)),k,(.pointer (some ⟨a,0,none⟩)),(.pointer (some ⟨d,0,none⟩))])] 80]++A) (fun g R=>z1i N now g.1 g.2.1 g.2.2=some O∧True) (fun g=>g.1) (N,0,0) ⟨[],(pk 1 rfl (pk 0 rfl (pk 0 rfl (pk 0 rfl (List.Perm.refl _)))))⟩ ⟨e,trivial⟩ ?_
          clear e
          rintro⟨bf,aV,az⟩ dY fr bm ⟨e,_⟩
          rcases bf with _|bf
          · exact qw e
          replace e:z1i N now (bf+1) aV az=some O:=e;rw [z1i] at e
          refine zt ?_
          refine zn ?_
          refine zm (j4 rfl rfl) ?_
          refine z8 ?_
          refine zt ?_
          refine zu rfl e (fun e=>?_) (fun e=>?_)
          · refine qb ?_
            refine zt ?_
            refine zw ?_
            refine zt ?_
            refine zn ?_
            obtain⟨bY,e⟩:=zb e
            refine kv (i:=az.toNat) rfl ig rfl (j5 (ab.mono (((G.trans s).trans o).trans bm))) (zf rfl bY.1) (zx bY) fun fs dy=>?_
            refine qh rfl ty3 rfl dy fun ft dA=>?_
            obtain rfl:=jb.1 dA
            refine zi (vi (ix now az)) ?_
            refine z8 ?_
            refine zn ?_
            refine zg (.int .u16 aV) ?_
            refine zg (vi (ix now az)) ?_
            obtain⟨bZ,e⟩:=zb e
            refine zm (z6v rfl rfl bZ) ?_
            obtain⟨b0,e⟩:=zb e
            refine zm (zew rfl rfl b0) ?_
            refine zi (.int .u16 (ior aV (z1q .u16 (1:Int) (ix now az)))) ?_
            refine z8 ?_
            refine zn ?_
            obtain⟨b1,e⟩:=zb e
            refine zm (ji rfl rfl b1) ?_
            refine zg (vi (az+1)) ?_
            refine z8 ?_
            exact⟨dkt,(RH.le.refl _),jm,(bf,ior aV (z1q .u16 (1:Int) (ix now az)),az+1),Nat.lt_succ_self _,⟨rfl,rfl,trivial⟩,prm,e,trivial⟩
          · refine jg ?_
            exact⟨dkt,bm,jm,aV,⟨rfl,trivial⟩,prm,(Option.some.inj e).symm,trivial⟩
        · rintro O dZ fu y ⟨rfl,_⟩
          refine zt ?_
          refine zn ?_
          refine zi (vi 0) ?_
          refine z8 ?_
          obtain⟨t,e,x⟩:=zq x
          refine qx (γ:=Int) (rs [15,16,66,79]) (fun g=>[(15,(vi g))]) (fun g=>[box b [ai] 45,aP,box d [(.func (.func 40) #[] #[(.pointer (some ⟨b,0,none⟩)),k,(.pointer (some ⟨a,0,none⟩)),(.pointer (some ⟨d,0,none⟩))])] 80,box a [f] 77]++A) (fun g R=>t=g∧True) ?_ ?_
          · refine zw ?_
            refine je (γ:=Nat×Int) (rs [15,16,66,79]) (fun g=>[(15,(vi g.2))]) (fun g=>[box b [ai] 45,aP,box a [f] 77,box d [(.func (.func 40) #[] #[(.pointer (some ⟨b,0,none⟩)),k,(.pointer (some ⟨a,0,none⟩)),(.pointer (some ⟨d,0,none⟩))])] 80]++A) (fun g R=>z16 N p1_ p2_ O g.1 g.2=some t∧True) (fun g=>g.1) (N,0) prm ⟨e,trivial⟩ ?_
            clear e
            rintro⟨aI,W⟩ d5 d6 ak ⟨e,_⟩
            rcases aI with _|aI
            · exact qw e
            replace e:z16 N p1_ p2_ O (aI+1) W=some t:=e;rw [z16] at e
            refine zt ?_
            refine zt ?_
            obtain⟨b2,e⟩:=zb e
            obtain⟨bn,b3,e⟩:=zq e
            refine dz 11 [] [phX f,phR (jv false false) p1_,phX (.int .u16 O),phX (vi W),phX f,phX (.int .u16 O),phX f,phP (qf .i64) (ix p2_.1 O),phX (vi (ix p2_.1 O)),phX (.bool bn),phX (.bool (!bn))] mixed (by kernel_rfl) (gu ⟨zo,yz,zo,zo,zo,zo,zo,u6,zo,zo,zo,trivial⟩) ⟨?_,?_,?_,?_,?_,?_,?_,?_,?_,?_,?_,trivial⟩ fun d7 aW=>?_
            · intro l fv Z ha hd
              have a4:l 4=(.pointer (some ⟨a,0,none⟩)):=ha 4 rfl
              exact za rfl rfl rfl (zz (qj (i:=2) q0t a4 rfl rfl))
            · intro l fw Z ha hd
              have a3:l 3=k:=ha 3 rfl
              exact za rfl rfl rfl (jh z0w a3 ((ae.mono ((((G.trans s).trans o).trans y).trans ak)).mono Z))
            · intro l fy Z ha hd
              have bM:l 12=(.int .u16 O):=ha 12 rfl
              exact za rfl rfl rfl (zz (ze bM))
            · intro l fz Z ha hd
              have dC:l 15=(vi W):=ha 15 rfl
              exact za rfl rfl rfl (zz (ze dC))
            · intro l fA Z ha hd
              have a4:l 4=(.pointer (some ⟨a,0,none⟩)):=ha 4 rfl
              exact za rfl rfl rfl (zz (qj (i:=2) q0t a4 rfl rfl))
            · intro l fE Z ha hd
              have bM:l 12=(.int .u16 O):=ha 12 rfl
              exact za rfl rfl rfl (zz (ze bM))
            · rintro l fF Z ha ⟨d0,_⟩
              have dD:=d0 rfl
              exact za rfl rfl rfl (zz (z9e dD ((ah.mono ((((G.trans s).trans o).trans y).trans ak)).mono Z)))
            · rintro l fG Z ha ⟨d0,d1,_⟩
              have dF:=d0 rfl
              have dG:=d1 rfl
              exact za rfl rfl rfl (zjm (X:=p2_) (q:=O) zs6 rfl dF ((ah.mono ((((G.trans s).trans o).trans y).trans ak)).mono Z) dG b2)
            · rintro l fH Z ha ⟨d0,_⟩
              have dH:=d0 rfl
              exact za rfl rfl rfl (yf (jh ty3 rfl dH) (fun _ _ h=>jb.1 h))
            · rintro l fI Z ha ⟨d0,d1,d2,d3,d4,_⟩
              have dI:l 66=f:=d0 rfl
              have dJ:=d1 rfl
              have dK:l 68=(.int .u16 O):=d2 rfl
              have dL:l 69=(vi W):=d3 rfl
              have dM:l 74=(vi (ix p2_.1 O)):=d4 rfl
              exact za rfl rfl rfl (bu (vs:=[f,(l 67),(.int .u16 O),(vi W),(vi (ix p2_.1 O))]) q37 (by simp only [List.map,ev,dI,dK,dL,dM]<;>rfl) (z5n (z0l.2 ((ah.mono ((((G.trans s).trans o).trans y).trans ak)).mono Z)) dJ b3) (fun _ _ h=>h))
            · rintro l d8 Z ha ⟨d0,_⟩
              have dN:=d0 rfl
              exact za rfl rfl rfl (zz (rf dN))
            intro d9 b5
            intro ea eb
            intro ec b6
            intro ed b7
            intro ee b8
            intro ef b9
            intro eg ca
            intro eh ei
            intro ej cb
            intro ek cc
            intro el cd
            obtain rfl:=Eq.symm b5
            obtain rfl:=Eq.symm b6
            obtain rfl:=Eq.symm b7
            obtain rfl:=Eq.symm b8
            obtain rfl:=Eq.symm b9
            obtain rfl:=Eq.symm ca
            obtain rfl:=Eq.symm cb
            obtain rfl:=Eq.symm cc
            obtain rfl:=Eq.symm cd
            refine z8 ?_
            refine zu rfl e (fun e=>?_) (fun e=>?_)
            · refine qb ?_
              refine zw ?_
              refine zn ?_
              refine zg (vi W) ?_
              obtain⟨ce,e⟩:=zb e
              refine zm (ji rfl rfl ce) ?_
              refine zi (vi (W+1)) ?_
              refine z8 ?_
              exact⟨dkt,aW,jm,(aI,W+1),Nat.lt_succ_self _,⟨rfl,trivial⟩,prm,e,trivial⟩
            · refine jg ?_
              exact⟨dkt,(ak.trans aW),jm,W,⟨rfl,trivial⟩,⟨[],(pk 0 rfl (pk 0 rfl (pk 1 rfl (pk 0 rfl (List.Perm.refl _)))))⟩,(Option.some.inj e).symm,trivial⟩
          · rintro t em en z ⟨rfl,_⟩
            refine zt ?_
            refine zn ?_
            refine zm (qi pu rfl) ?_
            refine zm (qj (i:=0) zva rfl rfl rfl) ?_
            refine zg (vi (↑p0_.length:Int)) ?_
            refine zg (vi t) ?_
            obtain⟨aX,x⟩:=zb x
            refine z1w rfl (zqe (i:=(↑p0_.length:Int).toNat) zzu rfl (aE.mono (y.trans z)) (zf rfl aX.1) (zx aX)) fun eo ep I cf=>?_
            refine z1w rfl (zd5 z4q rfl cf) fun cg eq L ch=>?_
            refine za8 (Oc:=[aP]) (Or:=[box b [ai] 45,box d [(.func (.func 40) #[] #[(.pointer (some ⟨b,0,none⟩)),k,(.pointer (some ⟨a,0,none⟩)),(.pointer (some ⟨d,0,none⟩))])] 80,box a [f] 77]++A) (pk 1 rfl (pk 0 rfl (pk 0 rfl (pk 0 rfl (List.Perm.refl _))))) (zep (K:=rSprobes_Node) (i:=(↑p0_.length:Int).toNat) (u:=cg) (nx:=(⟨t,(ix (p0_++[(⟨(-1),(-1),U⟩:Sa)]) (↑p0_.length:Int)).fD,(ix (p0_++[(⟨(-1),(-1),U⟩:Sa)]) (↑p0_.length:Int)).fC⟩:Sa)) zpk ty3 (aE.mono (((y.trans z).trans I).trans L)) rfl ch (zx aX) rfl (jb.2 rfl) rfl (fun _=>rfl)) ?_
            rintro er es dO dP ⟨rfl,ci,rfl,aY⟩
            refine z8 ?_
            obtain⟨aJ,e,x⟩:=zq x
            refine qx (γ:=(List Sa)×Value×Frag) (rs [16,21,85,139]) (fun g=>[]) (fun g=>[box b [g.2.1] 45,g.2.2,box a [f] 77,box d [(.func (.func 40) #[] #[(.pointer (some ⟨b,0,none⟩)),k,(.pointer (some ⟨a,0,none⟩)),(.pointer (some ⟨d,0,none⟩))])] 80]++A) (fun g R=>aJ=g.1∧NS rSprobes_Node be R g.2.2 g.2.1 g.1∧True) ?_ ?_
            · refine zt ?_
              refine zn ?_
              refine zg v9 ?_
              refine z1w rfl (zz (zpo (K:=rSprobes_Node) (r:=p0_.length) rfl underlying32 aY (zpx List.prefix_rfl ar aY) (zqg List.prefix_rfl ar) rfl)) fun et eu M cj=>?_
              obtain rfl:=Eq.symm cj
              refine zg (vi 0) ?_
              refine z8 ?_
              refine zw ?_
              refine je (γ:=Nat×Int×(List Sa)×Value×Frag) (rs [16,21,87,139]) (fun g=>[(87,(vi g.2.1))]) (fun g=>[box d [(.func (.func 40) #[] #[(.pointer (some ⟨b,0,none⟩)),k,(.pointer (some ⟨a,0,none⟩)),(.pointer (some ⟨d,0,none⟩))])] 80,box b [g.2.2.2.1] 45,g.2.2.2.2,box a [f] 77]++A) (fun g R=>z1f N (z0k N F) now p p0_ p1_ p2_ U t g.1 g.2.1 g.2.2.1=some aJ∧NS rSprobes_Node be R g.2.2.2.2 g.2.2.2.1 g.2.2.1∧True) (fun g=>g.1) (N,0,(up (p0_++[(⟨(-1),(-1),U⟩:Sa)]) (↑p0_.length:Int) (⟨t,(ix (p0_++[(⟨(-1),(-1),U⟩:Sa)]) (↑p0_.length:Int)).fD,(ix (p0_++[(⟨(-1),(-1),U⟩:Sa)]) (↑p0_.length:Int)).fC⟩:Sa)),ai,ci) ⟨[],(pk 2 rfl (pk 1 rfl (pk 0 rfl (pk 0 rfl (List.Perm.refl _)))))⟩ ⟨e,(zf9 List.prefix_rfl (aY.mono M)),trivial⟩ ?_
              clear e
              rintro⟨aK,H,aZ,au,av⟩ ew ex P ⟨e,⟨ey,aF,a0⟩,_⟩
              rcases aK with _|aK
              · exact qw e
              replace e:z1f N (z0k N F) now p p0_ p1_ p2_ U t (aK+1) H aZ=some aJ:=e;rw [z1f] at e
              refine zt ?_
              refine zn ?_
              refine zm (j4 rfl rfl) ?_
              refine z8 ?_
              refine zt ?_
              refine zu rfl e (fun e=>?_) (fun e=>?_)
              · refine qb ?_
                obtain⟨a1,al,e⟩:=zq e
                refine qx (γ:=(List Sa)×Value×Frag) (rs [16,21,89,138]) (fun g=>[]) (fun g=>[box d [(.func (.func 40) #[] #[(.pointer (some ⟨b,0,none⟩)),k,(.pointer (some ⟨a,0,none⟩)),(.pointer (some ⟨d,0,none⟩))])] 80,box b [g.2.1] 45,g.2.2,box a [f] 77]++A) (fun g R=>a1=g.1∧NS rSprobes_Node be R g.2.2 g.2.1 g.1∧True) ?_ ?_
                · refine zw ?_
                  refine zt ?_
                  refine zn ?_
                  refine zg (vi H) ?_
                  refine zi (vi H) ?_
                  refine z8 ?_
                  refine zt ?_
                  refine zn ?_
                  refine zi vs0 ?_
                  refine zi vs0 ?_
                  refine z8 ?_
                  obtain⟨aw,Q,al⟩:=zq al
                  refine qx (γ:=(List Int×List Int)×Value×Frag×Value×Frag) (rs [17,21,90,128]) (fun g=>[(17,g.2.1),(18,g.2.2.2.1)]) (fun g=>[box d [(.func (.func 40) #[] #[(.pointer (some ⟨b,0,none⟩)),k,(.pointer (some ⟨a,0,none⟩)),(.pointer (some ⟨d,0,none⟩))])] 80,box b [au] 45,av,box a [f] 77,g.2.2.1,g.2.2.2.2]++A) (fun g R=>aw=g.1∧ORep (qf .i64) R g.2.2.1 g.2.1 g.1.1∧ORep (qf .i64) R g.2.2.2.2 g.2.2.2.1 g.1.2∧True) ?_ ?_
                  · refine zt ?_
                    refine zn ?_
                    refine zg S ?_
                    refine zm (qo rfl underlying32 rfl (j5 (ab.mono ((((((((G.trans s).trans o).trans y).trans z).trans I).trans L).trans M).trans P)))) ?_
                    refine zg (vi 0) ?_
                    refine z8 ?_
                    refine zw ?_
                    refine z4h ?_
                    refine z4h ?_
                    refine je (γ:=Nat×(List Int)×(List Int)×Int×Value×Frag×Value×Frag) (rs [17,21,92,128]) (fun g=>[(17,g.2.2.2.2.1),(18,g.2.2.2.2.2.2.1),(92,(vi g.2.2.2.1))]) (fun g=>[box d [(.func (.func 40) #[] #[(.pointer (some ⟨b,0,none⟩)),k,(.pointer (some ⟨a,0,none⟩)),(.pointer (some ⟨d,0,none⟩))])] 80,box b [au] 45,av,box a [f] 77,g.2.2.2.2.2.1,g.2.2.2.2.2.2.2]++A) (fun g R=>z1h N now p p1_ t H g.1 g.2.1 g.2.2.1 g.2.2.2.1=some aw∧ORep (qf .i64) R g.2.2.2.2.2.1 g.2.2.2.2.1 g.2.1∧ORep (qf .i64) R g.2.2.2.2.2.2.2 g.2.2.2.2.2.2.1 g.2.2.1∧True) (fun g=>g.1) (N,[],[],0,vs0,emp,vs0,emp) ⟨[],(pk 2 rfl (pk 2 rfl (pk 2 rfl (pk 2 rfl (pk 1 rfl (pk 0 rfl (List.Perm.refl _)))))))⟩ ⟨Q,(z14 (T:=(qf .i64))),(z14 (T:=(qf .i64))),trivial⟩ ?_
                    clear Q
                    rintro⟨aL,aA,aB,n,a2,bo,a5,bp⟩ ez eA am ⟨Q,a6,a7,_⟩
                    rcases aL with _|aL
                    · exact qw Q
                    replace Q:z1h N now p p1_ t H (aL+1) aA aB n=some aw:=Q;rw [z1h] at Q
                    refine zt ?_
                    refine zn ?_
                    refine zm (j4 rfl rfl) ?_
                    refine z8 ?_
                    refine zt ?_
                    refine zu rfl Q (fun Q=>?_) (fun Q=>?_)
                    · refine qb ?_
                      obtain⟨aM,C,Q⟩:=zq Q
                      refine qx (γ:=(List Int×List Int)×Value×Frag×Value×Frag) (rs [17,21,94,127]) (fun g=>[(17,g.2.1),(18,g.2.2.2.1)]) (fun g=>[box d [(.func (.func 40) #[] #[(.pointer (some ⟨b,0,none⟩)),k,(.pointer (some ⟨a,0,none⟩)),(.pointer (some ⟨d,0,none⟩))])] 80,box b [au] 45,av,box a [f] 77,g.2.2.1,g.2.2.2.2]++A) (fun g R=>aM=g.1∧ORep (qf .i64) R g.2.2.1 g.2.1 g.1.1∧ORep (qf .i64) R g.2.2.2.2 g.2.2.2.1 g.1.2∧True) ?_ ?_
                      · refine zw ?_
                        refine zt ?_
                        refine zn ?_
                        refine zg (vi n) ?_
                        obtain⟨bq,C⟩:=zb C
                        refine kv (i:=n.toNat) rfl ig rfl (j5 (ab.mono (((((((((G.trans s).trans o).trans y).trans z).trans I).trans L).trans M).trans P).trans am))) (zf rfl bq.1) (zx bq) fun eB ck=>?_
                        refine qh rfl ty3 rfl ck fun eC cl=>?_
                        obtain rfl:=jb.1 cl
                        refine zi (vi n) ?_
                        refine zi (vi (ix now n)) ?_
                        refine z8 ?_
                        refine zt ?_
                        refine zn ?_
                        refine j6 rfl yu ug rfl (ae.mono (((((((((G.trans s).trans o).trans y).trans z).trans I).trans L).trans M).trans P).trans am)) fun eD cm=>?_
                        refine qh rfl z1n rfl cm fun eE cn=>?_
                        refine zg (vi (ix now n)) ?_
                        obtain⟨br,C⟩:=zb C
                        refine kv (i:=(ix now n).toNat) rfl za4 rfl (j5 cn) (zf rfl br.1) (zx br) fun eF co=>?_
                        refine qh rfl z9h rfl co fun eG cp=>?_
                        refine zg (vi t) ?_
                        obtain⟨bs,C⟩:=zb C
                        refine kv (i:=t.toNat) rfl za2 rfl (j5 cp) (zf rfl bs.1) (zx bs) fun eH cq=>?_
                        refine j6 rfl z7p zi9 rfl cq fun eI cr=>?_
                        refine qh rfl ty3 rfl cr fun eJ ct=>?_
                        obtain rfl:=jb.1 ct
                        refine zg (vi H) ?_
                        refine zm (yw rfl rfl) ?_
                        refine z8 ?_
                        refine zu rfl C (fun C=>?_) (fun C=>?_)
                        · refine zt ?_
                          refine zn ?_
                          refine zg a2 ?_
                          refine j6 rfl yu ug rfl (ae.mono (((((((((G.trans s).trans o).trans y).trans z).trans I).trans L).trans M).trans P).trans am)) fun eK cu=>?_
                          refine qh rfl z1n rfl cu fun eL cv=>?_
                          refine zg (vi (ix now n)) ?_
                          obtain⟨bt,C⟩:=zb C
                          refine kv (i:=(ix now n).toNat) rfl za4 rfl (j5 cv) (zf rfl bt.1) (zx bt) fun eM cw=>?_
                          refine qh rfl z9h rfl cw fun eN cx=>?_
                          refine zg (vi t) ?_
                          obtain⟨bv,C⟩:=zb C
                          refine kv (i:=t.toNat) rfl za2 rfl (j5 cx) (zf rfl bv.1) (zx bv) fun eO cy=>?_
                          refine j6 rfl ll za7 rfl cy fun eP cz=>?_
                          refine qh rfl ty3 rfl cz fun eQ cA=>?_
                          obtain rfl:=jb.1 cA
                          let G1:=([(ix (ix p1_.rows (ix now n)) t).to]:List Int)
                          refine il (T:=(qf .i64)) (X:=G1) (ps:=[(0,(vi ((ix (ix p1_.rows (ix now n)) t).to)))]) (css:=[[(vi ((ix (ix p1_.rows (ix now n)) t).to))]]) rfl underlying32 zo3 rfl rfl (uj ⟨rfl,trivial⟩) rfl rfl (by decide) fun cB eR bh cC=>?_
                          refine gq (i:=0) rfl cC fun cD ay cE=>?_
                          have cF:VRep (tSl true (qf .i64)) cD cB G1:=(z3i cE bh)
                          obtain⟨bw,C⟩:=zb C
                          refine ow (i:=4) (X:=aA) (Y:=G1) rfl underlying32 zo3 rfl rfl rfl (a6.mono ay) (j5 (Sub.v (B:=(tSl false (qf .i64))) (ut Sub.refl (fun _=>rfl)) cF)) bw.1 bw.2 fun bx cG cH=>?_
                          refine zi bx ?_
                          refine z8 ?_
                          refine zn ?_
                          refine zg a5 ?_
                          refine zg E ?_
                          refine zg (vi n) ?_
                          obtain⟨bz,C⟩:=zb C
                          refine kv (i:=n.toNat) rfl ig rfl (j5 (ag.mono ((((((((((G.trans s).trans o).trans y).trans z).trans I).trans L).trans M).trans P).trans am).trans ay))) (zf rfl bz.1) (zx bz) fun eS cI=>?_
                          refine qh rfl ty3 rfl cI fun eT cJ=>?_
                          obtain rfl:=jb.1 cJ
                          refine il (T:=(qf .i64)) (X:=([(ix p n)]:List Int)) (ps:=[(0,(vi (ix p n)))]) (css:=[[(vi (ix p n))]]) rfl underlying32 zo3 rfl rfl (uj ⟨rfl,trivial⟩) rfl rfl (by decide) fun cK eU bj cL=>?_
                          refine gq (i:=0) rfl cL fun cM aG cN=>?_
                          have cO:VRep (tSl true (qf .i64)) cM cK ([(ix p n)]:List Int):=(z3i cN bj)
                          obtain⟨bA,C⟩:=zb C
                          refine ow (i:=5) (X:=aB) (Y:=([(ix p n)]:List Int)) rfl underlying32 zo3 rfl rfl rfl (a7.mono (ay.trans aG)) (j5 (Sub.v (B:=(tSl false (qf .i64))) (ut Sub.refl (fun _=>rfl)) cO)) bA.1 bA.2 fun bB cP cQ=>?_
                          refine zi bB ?_
                          refine z8 ?_
                          exact⟨dkt,(ay.trans aG),jm,(((aA++G1),(aB++([(ix p n)]:List Int))),bx,cG,bB,cP),⟨rfl,rfl,trivial⟩,prm,(Option.some.inj C).symm,(cH.mono aG),cQ,trivial⟩
                        · refine qb ?_
                          exact⟨dkt,(RH.le.refl _),jm,((aA,aB),a2,bo,a5,bp),⟨rfl,rfl,trivial⟩,prm,(Option.some.inj C).symm,a6,a7,trivial⟩
                      · rintro⟨aM,cR,cS,cT,cU⟩ eV eW bN ⟨rfl,cV,cW,_⟩
                        refine zn ?_
                        obtain⟨cX,Q⟩:=zb Q
                        refine zm (ji rfl rfl cX) ?_
                        refine zg (vi (n+1)) ?_
                        refine z8 ?_
                        exact⟨dkt,bN,jm,(aL,aM.1,aM.2,n+1,cR,cS,cT,cU),Nat.lt_succ_self _,⟨rfl,rfl,rfl,trivial⟩,prm,Q,cV,cW,trivial⟩
                    · refine jg ?_
                      exact⟨dkt,am,jm,((aA,aB),a2,bo,a5,bp),⟨rfl,rfl,trivial⟩,prm,(Option.some.inj Q).symm,a6,a7,trivial⟩
                  · rintro⟨aw,aN,cY,a8,cZ⟩ eX eY af ⟨rfl,bC,c0,_⟩
                    refine zt ?_
                    refine zn ?_
                    refine zg aN ?_
                    refine zm (z0h rfl underlying32 rfl bC) ?_
                    refine zm (z2l rfl rfl) ?_
                    refine z8 ?_
                    refine zu rfl al (fun al=>?_) (fun al=>?_)
                    · refine zn ?_
                      refine zg v9 ?_
                      refine zg (vi H) ?_
                      refine zm (qj (i:=0) q29 rfl rfl rfl) ?_
                      refine zg aN ?_
                      refine zg a8 ?_
                      refine gq (i:=4) rfl bC fun c1 an c2=>?_
                      have c3:VRep (tSl false (qf .i64)) c1 aN aw.1:=(z7h c2)
                      refine gq (i:=4) rfl (c0.mono an) fun c4 ao c5=>?_
                      have c6:VRep (tSl false (qf .i64)) c4 a8 aw.2:=(z7h c5)
                      obtain⟨aa,c7,al⟩:=zq al
                      refine zf5 (Oc:=[box b [au] 45,av,box a [f] 77,box d [(.func (.func 40) #[] #[(.pointer (some ⟨b,0,none⟩)),k,(.pointer (some ⟨a,0,none⟩)),(.pointer (some ⟨d,0,none⟩))])] 80]) (Or:=[]++A) (cs:=[(.pointer (some ⟨b,0,none⟩)),k,(.pointer (some ⟨a,0,none⟩)),(.pointer (some ⟨d,0,none⟩))]) (vs:=[aN,a8]) rfl q40 rfl rfl ((pk 1 rfl (pk 1 rfl (pk 1 rfl (pk 0 rfl (List.Perm.refl _)))))) (ih (c3.mono ao) c6 (zf9 aF (a0.mono ((af.trans an).trans ao))) (ae.mono (((((((((((G.trans s).trans o).trans y).trans z).trans I).trans L).trans M).trans P).trans af).trans an).trans ao)) (ah.mono (((((((((((G.trans s).trans o).trans y).trans z).trans I).trans L).trans M).trans P).trans af).trans an).trans ao)) c7) fun eZ e0 dQ bO c8=>?_
                      obtain⟨bD,c9,rfl,rfl,⟨e1,ap,aO⟩⟩:=c8
                      obtain⟨a9,al⟩:=zb al
                      refine z1w rfl (zog (K:=rSprobes_Node) (i:=H.toNat) (r:=p0_.length) ig aO (zpx ap ar aO) (zqg ap ar) rfl (zf rfl a9.1) (zx a9)) fun da e2 aH db=>?_
                      refine za8 (Oc:=[c9]) (Or:=[box b [bD] 45,box a [f] 77,box d [(.func (.func 40) #[] #[(.pointer (some ⟨b,0,none⟩)),k,(.pointer (some ⟨a,0,none⟩)),(.pointer (some ⟨d,0,none⟩))])] 80]++A) (pk 1 rfl (pk 0 rfl (pk 0 rfl (pk 0 rfl (List.Perm.refl _))))) (znm (K:=rSprobes_Node) (i:=H.toNat) (r:=p0_.length) (u:=da) (u0:=v9) (nx:=(⟨(aa.2.getD p0_.length default).fB,(aa.2.getD p0_.length default).fD,up (aa.2.getD p0_.length default).fC H aa.1⟩:Sa)) ty3 (aO.mono aH) (zpx ap ar (aO.mono aH)) (zqg ap ar) rfl db (zx a9) rfl (jb.2 rfl) rfl (fun _=>rfl)) ?_
                      rintro e3 e4 dR dS ⟨rfl,dc,rfl,dd⟩
                      refine z8 ?_
                      exact⟨dkt,((((af.trans an).trans ao).trans bO).trans aH),jm,((aa.2.set p0_.length (⟨(aa.2.getD p0_.length default).fB,(aa.2.getD p0_.length default).fD,up (aa.2.getD p0_.length default).fC H aa.1⟩:Sa)),bD,dc),trivial,⟨[],(pk 3 rfl (pk 1 rfl (pk 0 rfl (pk 0 rfl (List.Perm.refl _)))))⟩,(Option.some.inj al).symm,(zf9 ap dd),trivial⟩
                    · refine qb ?_
                      exact⟨dkt,af,jm,(aZ,au,av),trivial,⟨[cY,cZ],(pk 4 rfl (pk 4 rfl (pk 0 rfl (pk 0 rfl (pk 0 rfl (pk 0 rfl (List.Perm.refl _)))))))⟩,(Option.some.inj al).symm,(zf9 aF (a0.mono af)),trivial⟩
                · rintro⟨a1,de,df⟩ e5 e6 bP ⟨rfl,⟨e7,bQ,dg⟩,_⟩
                  refine zn ?_
                  obtain⟨dh,e⟩:=zb e
                  refine zm (ji rfl rfl dh) ?_
                  refine zg (vi (H+1)) ?_
                  refine z8 ?_
                  exact⟨dkt,bP,jm,(aK,H+1,a1,de,df),Nat.lt_succ_self _,⟨rfl,trivial⟩,prm,e,(zf9 bQ dg),trivial⟩
              · refine jg ?_
                exact⟨dkt,(M.trans P),jm,(aZ,au,av),trivial,⟨[],(pk 1 rfl (pk 1 rfl (pk 1 rfl (pk 0 rfl (List.Perm.refl _)))))⟩,(Option.some.inj e).symm,(zf9 aF a0),trivial⟩
            · rintro⟨aJ,bE,bF⟩ e8 e9 bR ⟨rfl,⟨fa,bS,di⟩,_⟩
              refine zt ?_
              refine zn ?_
              refine zg (vi (↑p0_.length:Int)) ?_
              refine zi (vi (↑p0_.length:Int)) ?_
              refine z8 ?_
              refine qm ?_
              obtain rfl:=Option.some.inj x
              refine z3e (D:=[]) (J:=[]) (O':=[box b [bE] 45,bF,box a [f] 77,box d [(.func (.func 40) #[] #[(.pointer (some ⟨b,0,none⟩)),k,(.pointer (some ⟨a,0,none⟩)),(.pointer (some ⟨d,0,none⟩))])] 80]) (rs:=[.tmp 8]) (vs:=[(vi (↑p0_.length:Int))]) (((((((G.trans s).trans o).trans y).trans z).trans I).trans L).trans bR) ((pk 0 rfl (pk 0 rfl (pk 0 rfl (pk 0 rfl (List.Perm.refl _)))))) rfl ⟨rfl,trivial⟩ ?_
              exact⟨bE,bF,rfl,rfl,(zf9 (aU.trans bS) di)⟩
theorem zg4{N:Nat}{R:RH}{now:(List Int)}{g:Value}(n:VRep (tSl false (qf .i64)) R g now){h:(List Int)}{e:Value}(i:VRep (tSl false (qf .i64)) R e h){a:Nat}{p0_:List Sa}{j:Value}{fM:Frag}{k:List Value}(o:NS rSprobes_Node k R fM j p0_){p1_:Mach}{d:Value}(p:PRep (jv false false) R d p1_){b:Nat}{p2_:(Arr 64 Int)}{f:Value}(q:PRep z3r R f p2_){c:Nat}{r:Int×List Sa}(s:z0k N N now h p0_ p1_ p2_=some r):CallG prog 40 #[g,e,(.pointer (some ⟨a,0,none⟩)),d,(.pointer (some ⟨b,0,none⟩)),(.pointer (some ⟨c,0,none⟩))] R [box a [j] 45,fM,box b [f] 77,box c [.func (.func 40) #[] #[(.pointer (some ⟨a,0,none⟩)),d,(.pointer (some ⟨b,0,none⟩)),(.pointer (some ⟨c,0,none⟩))]] 80] (fun v R' O'=> ∃ l m,v=(vi r.1)∧O'=[box a [l] 45,m,box b [f] 77,box c [.func (.func 40) #[] #[(.pointer (some ⟨a,0,none⟩)),d,(.pointer (some ⟨b,0,none⟩)),(.pointer (some ⟨c,0,none⟩))]] 80]∧NS rSprobes_Node k R' m l r.2):=zcn N n i o p q s
theorem zum{a:Bool}:TyOk prog 55 (q8 a):=by
 obtain⟨i,hi,b⟩: ∃ i,prog.info? 55=some i∧i.size=3:=uf (by kernel_rfl);exact z01 underlying55 hi rfl b
theorem z8u{a:Bool}:SlOk prog 43 55 (q8 a):=⟨underlying43,zum⟩
theorem z8y{N:Nat}{R:RH}{s:(List Sa)}{a:Value}(b:VRep (tSl false (q8 false)) R a s){r:(List Sa)}(c:z2e N s=some r):CallP prog 42 #[a] R (fun v R'=>VRep (tSl true (q8 false)) R' v r):=by
 refine qd (args:=[a]) func42 rfl rfl fun A=>?_;rw [z2e] at c;refine zl (zi vs0 (qy (zg a (zg a (zm (qo rfl underlying43 rfl (j5 b)) (zg a (zm (qo rfl underlying43 rfl (j5 b)) ?_)))))));obtain⟨d,c⟩:=zb c
 refine zab (v:=a) (lo:=(0:Int).toNat) (hi:=(↑s.length:Int).toNat) (mx:=(↑s.length:Int).toNat) rfl z8u rfl (j5 b) (.inl ⟨rfl,rfl⟩) (.inr ⟨_,congrArg some (zf rfl (zgw d))⟩) (.inr ⟨_,congrArg some (zf rfl (zgw d))⟩) (zjy d) (z95 d) (Nat.le_refl _) (Nat.le_trans (z95 d) (zql (j5 b))) (X':=(cut s 0 (↑s.length:Int))) rfl fun f g e=>?_
 have h:VRep (tSl true (q8 false)) R f (cut s 0 (↑s.length:Int)):=z3i g (e.trans (zn3 d).symm);refine zi f (z8 (qm ?_));obtain rfl:=Option.some.inj c;refine qa (D:=[]) (J:=[]) (rs:=[.tmp 2]) (vs:=[f]) (RH.le.refl _) rfl rfl ⟨rfl,trivial⟩ ?_;exact⟨rfl,h⟩
theorem q4k:Enters prog 42:=enters_of func42 rfl (by kernel_rfl)
theorem zk7: ∀ w,(isAgg 45).run prog w= .ok true w:=fun w=>by kernel_rfl
theorem zi5{N:Nat}{R:RH}{m:Mach}{F:Value}(q:VRep (jv false false) R F m){r:Sb×Int}(a:zb3 N m=some r):CallP prog 15 #[F] R (fun v R'=> ∃ u0,v= .tuple #[u0,(vi r.2)]∧VRep (ku true false) R' u0 r.1):=by
 refine qd (args:=[F]) func15 rfl rfl fun A=>?_;rw [zb3] at a;refine zl (kz (T:=(jv false false)) rfl rfl rfl q fun G R3 n h5 h2=>?_);refine kw rfl zz4 fun L=>?_;refine zi (vi 0) (z8 (zt (zl (zm (ky z0w rfl rfl h5 (q.mono n)) ?_))));obtain⟨M,c9,a⟩:=zq a
 refine jf rfl zyv rfl (z5o (q.mono n) c9) fun aO aP c ah=>?_;obtain rfl:=ah;refine zi (vi M) (qy (zg (vi M) (zm (ww rfl rfl) (z8 (zu rfl a (fun a=>?_) (fun a=>?_))))))
 refine zl (zm (xn (ps:=[]) (v:=(.agg #[vs0])) rfl (fun w=>by kernel_rfl)) (zg (vi M) (jy (i:=0) (vs:=[vs0]) ze7 rfl rfl rfl rfl rfl rfl (qc rfl kg) ?_)));refine zi (vi M) (z8 (qm ?_));obtain rfl:=Option.some.inj a
 refine qa (D:=[]) (J:=[box L [vs0] 45]) (rs:=[.cell 2 45,.tmp 3]) (vs:=[(.agg #[vs0]),(vi M)]) (n.trans c) rfl rfl ⟨⟨_,rfl,fun w O=>z04 (i:=0) O rfl rfl zk7 ze7 rfl rfl⟩,rfl,trivial⟩ ?_
 exact⟨rfl,⟨(.agg #[vs0]),rfl,(⟨_,(um (T:=(tSl true (q8 false))) rfl z4s),rfl⟩:VRep (ku true false) _ _ (⟨[]⟩:Sb))⟩⟩;refine qb (zl (zm (ky z0w rfl rfl (h5.mono c) (q.mono (n.trans c))) ?_));obtain⟨aQ,ai,a⟩:=zq a
 refine jf rfl q4s rfl (zgg (q.mono (n.trans c)) ai) fun p aR k y=>?_;refine kw rfl q4r fun d=>?_;refine jy (i:=0) (vs:=[p]) q5j rfl rfl (zmz (zoh (z0l.1 y))) rfl rfl rfl (qc (zoh (z0l.1 y)) kg) ?_;refine qy (j6 rfl yu ug rfl (h2.mono (c.trans k)) fun aS aj=>?_)
 refine qh rfl z1n rfl aj fun aT ak=>?_;refine zm (qo rfl underlying28 rfl (j5 ak)) ?_;obtain⟨al,a⟩:=zb a
 refine zm (z6v rfl rfl al) (zm (zib rfl rfl) (zi (.int .u16 (IntKind.u16.wrap ((z1q .u16 (1:Int) (↑m.rows.length:Int))-1))) (z8 (zt (zl (zm (qj (i:=0) q0t rfl rfl rfl) (zg (.int .u16 (IntKind.u16.wrap ((z1q .u16 (1:Int) (↑m.rows.length:Int))-1))) ?_)))))));obtain⟨aU,am,a⟩:=zq a
 refine jf rfl q1b rfl (z3s (z0l.2 (z0l.1 y)) am) fun aV aW l an=>?_;obtain rfl:=an;refine zm (rf rfl) (z8 (zu rfl a (fun a=>?_) (fun a=>?_)))
 refine zl (zm (xn (ps:=[]) (v:=(.agg #[vs0])) rfl (fun w=>by kernel_rfl)) (jy (i:=1) (vs:=[vs0]) ze7 rfl rfl rfl rfl rfl rfl (qc rfl kg) ?_));refine zi (vi 7) (z8 (qm ?_));obtain rfl:=Option.some.inj a
 refine qa (D:=[]) (J:=[box d [p] 77,box L [vs0] 45]) (rs:=[.cell 2 45,.tmp 3]) (vs:=[(.agg #[vs0]),(vi 7)]) (((n.trans c).trans k).trans l) rfl rfl ⟨⟨_,rfl,fun w O=>z04 (i:=1) O rfl rfl zk7 ze7 rfl rfl⟩,rfl,trivial⟩ ?_
 exact⟨rfl,⟨(.agg #[vs0]),rfl,(⟨_,(um (T:=(tSl true (q8 false))) rfl z4s),rfl⟩:VRep (ku true false) _ _ (⟨[]⟩:Sb))⟩⟩;refine qb (zl (kw rfl zz4 fun f=>?_));refine qy (kw rfl q4q fun h=>?_)
 refine qy (zm (l9 (fs:=[]) (cs:=[(.pointer (some ⟨f,0,none⟩)),G,(.pointer (some ⟨d,0,none⟩)),(.pointer (some ⟨h,0,none⟩))]) rfl rfl) (jy (i:=0) (vs:=[(.func (.func 40) #[] #[(.pointer (some ⟨f,0,none⟩)),G,(.pointer (some ⟨d,0,none⟩)),(.pointer (some ⟨h,0,none⟩))])]) q50 rfl rfl rfl rfl rfl rfl (qc rfl kg) ?_))
 refine qy (zi vs0 (z8 ?_));obtain⟨s,b,a⟩:=zq a
 refine qx (γ:=(List Int)×Value×Frag) (rs [9,11,30,41]) (fun g=>[(9,g.2.1)]) (fun g=>[box L [vs0] 45,box f [vs0] 45,box h [(.func (.func 40) #[] #[(.pointer (some ⟨f,0,none⟩)),G,(.pointer (some ⟨d,0,none⟩)),(.pointer (some ⟨h,0,none⟩))])] 80,box d [p] 77,g.2.2]++A) (fun g R=>s=g.1∧ORep (qf .i64) R g.2.2 g.2.1 g.1∧True) ?_ ?_
 refine zl (j6 rfl yu ug rfl (h2.mono ((c.trans k).trans l)) fun aX ao=>?_);refine qh rfl z1n rfl ao fun aY ap=>?_;refine zm (qo rfl underlying28 rfl (j5 ap)) (zg (vi 0) (z8 (zw (z4h ?_))))
 refine je (γ:=Nat×(List Int)×Int×Value×Frag) (rs [9,11,33,41]) (fun g=>[(9,g.2.2.2.1),(33,(vi g.2.2.1))]) (fun g=>[box L [vs0] 45,box f [vs0] 45,box h [(.func (.func 40) #[] #[(.pointer (some ⟨f,0,none⟩)),G,(.pointer (some ⟨d,0,none⟩)),(.pointer (some ⟨h,0,none⟩))])] 80,box d [p] 77,g.2.2.2.2]++A) (fun g R=>z2u N m g.1 g.2.1 g.2.2.1=some s∧ORep (qf .i64) R g.2.2.2.2 g.2.2.2.1 g.2.1∧True) (fun g=>g.1) (N,[],0,vs0,emp) ⟨[],(pk 4 rfl (pk 2 rfl (pk 1 rfl (pk 1 rfl (pk 0 rfl (List.Perm.refl _))))))⟩ ⟨b,(z14 (T:=(qf .i64))),trivial⟩ ?_
 clear b;rintro⟨z,C,e,P,aq⟩ aZ a0 Q ⟨b,S,_⟩;rcases z with _|z;exact qw b;replace b:z2u N m (z+1) C e=some s:=b;rw [z2u] at b;refine zl (zm (j4 rfl rfl) (z8 (zt (zu rfl b (fun b=>?_) (fun b=>?_)))))
 refine qb (zt (zw (zl (zg (vi e) (zi (vi e) (z8 (zn (zg P (zg (vi e) (il (T:=(qf .i64)) (X:=([e]:List Int)) (ps:=[(0,(vi e))]) (css:=[[(vi e)]]) rfl underlying32 zo3 rfl rfl (uj ⟨rfl,trivial⟩) rfl rfl (by decide) fun ar a1 H au=>?_))))))))))
 refine gq (i:=0) rfl au fun av E aw=>?_;have ax:VRep (tSl true (qf .i64)) av ar ([e]:List Int):=(z3i aw H);obtain⟨U,b⟩:=zb b
 refine ow (i:=4) (X:=C) (Y:=([e]:List Int)) rfl underlying32 zo3 rfl rfl rfl (S.mono E) (j5 (Sub.v (B:=(tSl false (qf .i64))) (ut Sub.refl (fun _=>rfl)) ax)) U.1 U.2 fun V ay az=>?_;refine zi V (z8 (zn ?_));obtain⟨aA,b⟩:=zb b;refine zm (ji rfl rfl aA) (zg (vi (e+1)) (z8 ?_))
 exact⟨dkt,E,jm,(z,(C++([e]:List Int)),e+1,V,ay),Nat.lt_succ_self _,⟨rfl,rfl,trivial⟩,prm,b,az,trivial⟩;refine jg ?_;exact⟨dkt,Q,jm,(C,P,aq),⟨rfl,trivial⟩,prm,(Option.some.inj b).symm,S,trivial⟩;rintro⟨s,t,a2⟩ a3 a4 u ⟨rfl,aB,_⟩
 refine zl (zm (qj (i:=2) q29 rfl rfl rfl) (zg t (zg t (gq (i:=4) rfl aB fun W x aC=>?_))));have Z:VRep (tSl false (qf .i64)) W t s:=(z7h aC);refine zun ?_;obtain⟨aD,aE,a⟩:=zq a
 refine zf5 (Oc:=[box f [vs0] 45,emp,box d [p] 77,box h [(.func (.func 40) #[] #[(.pointer (some ⟨f,0,none⟩)),G,(.pointer (some ⟨d,0,none⟩)),(.pointer (some ⟨h,0,none⟩))])] 80]) (Or:=[box L [vs0] 45]++A) (cs:=[(.pointer (some ⟨f,0,none⟩)),G,(.pointer (some ⟨d,0,none⟩)),(.pointer (some ⟨h,0,none⟩))]) (vs:=[t,t]) rfl q40 rfl rfl ((pk 2 rfl (pk 0 rfl (pk 2 rfl (pk 1 rfl (pk 0 rfl (List.Perm.refl _))))))) (zg4 Z Z (zf9 (List.nil_prefix) (q0h (K:=rSprobes_Node) (R:=W))) (h2.mono ((((c.trans k).trans l).trans u).trans x)) ((z0l.1 y).mono ((l.trans u).trans x)) aE) fun a5 a6 aK aa aF=>?_
 obtain⟨aG,a7,rfl,rfl,⟨a8,aL,aH⟩⟩:=aF;refine qy (zm (qi pu rfl) (zm (qj (i:=0) zva rfl rfl rfl) (zr8 zh8 (i:=1) rfl aH fun aI ab ac=>?_)));have ad:VRep (tSl false (q8 false)) aI aG aD.2:=(z7h ac);obtain⟨ae,af,a⟩:=zq a
 refine jf rfl q4k rfl (z8y ad af) fun j aM I o=>?_;refine zm (qi pu rfl) (jy (i:=0) (vs:=[j]) q3d rfl rfl (z2d o) rfl rfl rfl (qc (z4t o) kg) ?_)
 refine qy (zm (vz (i:=0) zk7 ze7 rfl rfl rfl rfl) (jy (i:=3) (vs:=[j]) ze7 rfl rfl rfl rfl rfl rfl (qc (z4t o) kg) ?_));refine zi (vi 0) (z8 (qm ?_));obtain rfl:=Option.some.inj a
 refine qa (D:=[]) (J:=[box f [j] 45,box d [p] 77,box h [(.func (.func 40) #[] #[(.pointer (some ⟨f,0,none⟩)),G,(.pointer (some ⟨d,0,none⟩)),(.pointer (some ⟨h,0,none⟩))])] 80,box L [j] 45]) (rs:=[.cell 2 45,.tmp 3]) (vs:=[(.agg #[j]),(vi 0)]) ((((((((n.trans c).trans k).trans l).trans u).trans x).trans aa).trans ab).trans I) rfl rfl ⟨⟨_,rfl,fun w O=>z04 (i:=3) O rfl rfl zk7 ze7 rfl rfl⟩,rfl,trivial⟩ ?_
 exact⟨rfl,⟨(.agg #[j]),rfl,(⟨_,(um (T:=(tSl true (q8 false))) rfl o),rfl⟩:VRep (ku true false) _ _ (⟨ae⟩:Sb))⟩⟩
theorem q4g:Enters prog 15:=enters_of func15 rfl (by kernel_rfl)
theorem zu8: ∀ w,∃ z,(zeroValue 55).run prog w= .ok z w∧z.cells=([.int .i64 0,.int .i64 0,.slice none 0 0]:List Value).toArray:=fun w=>⟨(.agg #[(vi 0),(vi 0),vs0]),by kernel_rfl,rfl⟩
theorem zmj: ∀ w,(sizeOf 55).run prog w= .ok 3 w:=fun w=>by kernel_rfl
theorem q0g: ∀ w,(isAgg 55).run prog w= .ok true w:=fun w=>by kernel_rfl
theorem z6a{N:Nat}{R:RH}{input:Int}{next:(List Int)}{a:Value}(b:VRep (tSl false (qf .i64)) R a next){r:Sa}(c:z1s N input next=some r):CallP prog 36 #[(vi input),a] R (fun v R'=>VRep (q8 false) R' v r):=by
 refine qd (args:=[(vi input),a]) func36 rfl rfl fun A=>?_;rw [z1s] at c;refine zl (kw rfl zu8 fun d=>?_)
 refine qy (zg (vi input) (zg a (zm (z6j [(0,(vi input)),(1,(vi (-1))),(2,(.agg #[a]))] (ps:=[(0,(vi input)),(1,(vi (-1))),(2,a)]) (v:=(.agg #[(vi input),(vi (-1)),a])) rfl (by simp only [List.map_cons,List.map_nil,z2d b];rfl) (fun w=>by kernel_rfl)) (jy (i:=0) (vs:=[(vi input),(vi (-1)),a]) zmj rfl rfl rfl rfl rfl rfl (qc rfl (qc rfl (qc (z4t b) kg))) ?_))))
 refine z8 (qm ?_);obtain rfl:=Option.some.inj c;refine qa (D:=[]) (J:=[box d [(vi input),(vi (-1)),a] 55]) (rs:=[.cell 4 55]) (vs:=[(.agg #[(vi input),(vi (-1)),a])]) (RH.le.refl _) rfl rfl ⟨⟨_,rfl,fun w e=>z04 (i:=0) e rfl rfl q0g zmj rfl rfl⟩,trivial⟩ ?_
 exact⟨rfl,(⟨_,⟨_,_,rfl,rfl,⟨_,_,rfl,rfl,(um rfl b)⟩⟩,rfl⟩:VRep (q8 false) _ _ (⟨input,(-1),next⟩:Sa))⟩
theorem q28:Enters prog 36:=enters_of func36 rfl (by kernel_rfl)
theorem z3t{N:Nat}{R:RH}{s:Int}{r:Sa}(b:z0j N s=some r):CallP prog 37 #[(vi s)] R (fun v R'=>VRep (q8 true) R' v r):=by
 refine qd (args:=[(vi s)]) func37 rfl rfl fun A=>?_;rw [z0j] at b;refine zl (kw rfl zu8 fun h=>?_)
 refine qy (zg (vi s) (il (T:=(qf .i64)) (X:=([(-1),(-1)]:List Int)) (ps:=[(0,(vi (-1))),(1,(vi (-1)))]) (css:=[[(vi (-1))],[(vi (-1))]]) rfl underlying32 zo3 rfl rfl (uj ⟨rfl,rfl,trivial⟩) rfl rfl (by decide) fun a l c d=>?_))
 refine zm (z6j [(0,(vi (-1))),(1,(vi s)),(2,(.agg #[a]))] (ps:=[(0,(vi (-1))),(1,(vi s)),(2,a)]) (v:=(.agg #[(vi (-1)),(vi s),a])) rfl (by simp only [List.map_cons,List.map_nil,aj d];rfl) (fun w=>by kernel_rfl)) (jy (i:=1) (vs:=[(vi (-1)),(vi s),a]) zmj rfl rfl rfl rfl rfl rfl (qc rfl (qc rfl (qc (z07 d) kg))) ?_)
 refine z8 (fq (i:=0) rfl d fun j e f=>?_);have g:VRep (tSl true (qf .i64)) j a ([(-1),(-1)]:List Int):=(z3i f c);refine qm ?_;obtain rfl:=Option.some.inj b
 refine qa (D:=[]) (J:=[box h [(vi (-1)),(vi s),a] 55]) (rs:=[.cell 2 55]) (vs:=[(.agg #[(vi (-1)),(vi s),a])]) e rfl rfl ⟨⟨_,rfl,fun w k=>z04 (i:=0) k rfl rfl q0g zmj rfl rfl⟩,trivial⟩ ?_
 exact⟨rfl,(⟨_,⟨_,_,rfl,rfl,⟨_,_,rfl,rfl,(um rfl g)⟩⟩,rfl⟩:VRep (q8 true) _ _ (⟨(-1),s,([(-1),(-1)]:List Int)⟩:Sa))⟩
theorem zzx:Enters prog 37:=enters_of func37 rfl (by kernel_rfl)
theorem q5k{a:Bool}:ZeroOk prog 55 (q8 a) (⟨(0:Int),(0:Int),([]:List Int)⟩:Sa) 40:=by
 obtain⟨i,zv,hi,c,d,f,g⟩:=z2c (P:=prog) (e:=55) (zv:=(.agg #[(vi 0),(vi 0),vs0])) (k:=3) (b:=40) (by kernel_rfl);exact⟨i,zv,hi,c,d,f,fun R=>by subst g;exact⟨_,_,rfl,rfl,⟨_,_,rfl,rfl,(um rfl z4s)⟩⟩⟩
theorem z4g{a b:Bool}:TyOk prog 43 (tSl a (q8 b)):=by
 obtain⟨i,hi,c⟩: ∃ i,prog.info? 43=some i∧i.size=1:=uf (by kernel_rfl);exact z01 underlying43 hi rfl c
theorem z4f:FieldOk prog 55 2 2:=by
 obtain⟨i,hi,a⟩: ∃ i,prog.info? 32=some i∧i.size=1:=uf (by kernel_rfl);exact dm underlying55 rfl rfl hi (by rw [a];rfl)
theorem z5q{N:Nat}{R:RH}{t:Sb}{I:Value}(ad:VRep (ku false false) R I t){outputs:(List Int)}{k:Value}(o:VRep (tSl false (qf .i64)) R k outputs){r:Int×Int}(f:z2z N t outputs=some r):CallP prog 21 #[I,k] R (fun v R'=>v= .tuple #[(vi r.1),(vi r.2)]):=by
 refine qd (args:=[I,k]) func21 rfl rfl fun A=>?_;rw [z2z] at f;refine zl (kz (T:=(ku false false)) rfl rfl rfl ad fun v1 R3 x h5 h2=>?_);refine zi (vi 0) (zi (vi 0) (z8 (zt (zl (j6 rfl pu ja rfl h2 fun v6 h7=>?_)))));refine qh rfl z4g rfl h7 fun v8 h9=>?_
 refine zm (qo rfl underlying43 rfl (j5 h9)) (zm (yw rfl rfl) (z8 (zu rfl f (fun f=>?_) (fun f=>?_))));refine zl (zi (vi 0) (zi (vi 4) (z8 (qm ?_))));obtain rfl:=Option.some.inj f;refine qa (D:=[]) (J:=[]) (rs:=[.tmp 4,.tmp 5]) (vs:=[(vi 0),(vi 4)]) x rfl rfl ⟨rfl,rfl,trivial⟩ ?_
 exact⟨rfl,rfl⟩;refine qb (zl (zi (vi 0) (z8 ?_)));obtain⟨K,d,f⟩:=zq f;refine qx (γ:=Int) (rs [4,7,8,10,15,63]) (fun g=>[(6,(vi g))]) (fun g=>[]++A) (fun g R=>K=Ex.go g∧True) ?_ ?_
 refine zl (zg k (zm (qo rfl underlying32 rfl (j5 (o.mono x))) (zg (vi 0) (z8 (zw (je (γ:=Nat×Int×Int) (rs [4,7,8,10,17,63]) (fun g=>[(6,(vi g.2.1)),(17,(vi g.2.2))]) (fun g=>[]++A) (fun g R=>z0g N t outputs g.1 g.2.1 g.2.2=some K∧True) (fun g=>g.1) (N,0,0) prm ⟨d,trivial⟩ ?_))))))
 clear d;rintro⟨E,b,a⟩ au aW u ⟨d,_⟩;rcases E with _|E;exact qw d;replace d:z0g N t outputs (E+1) b a=some K:=d;rw [z0g] at d;refine zl (zm (j4 rfl rfl) (z8 (zt (zu rfl d (fun d=>?_) (fun d=>?_)))));refine qb (zt (zw (zl ?_)));obtain⟨M,d⟩:=zb d
 refine kv (i:=a.toNat) rfl ig rfl (j5 (o.mono (x.trans u))) (zf rfl M.1) (zx M) fun aX ae=>?_;refine qh rfl ty3 rfl ae fun aY af=>?_;obtain rfl:=jb.1 af;refine zi (vi (ix outputs a)) (qy (j6 rfl pu ja rfl (h2.mono u) fun aZ ag=>?_));refine qh rfl z4g rfl ag fun a0 ah=>?_
 refine zg (vi b) ?_;obtain⟨O,d⟩:=zb d;refine kv (i:=b.toNat) rfl z8u rfl (j5 ah) (zf rfl O.1) (zx O) fun a1 ai=>?_;refine qh rfl zum rfl ai fun a2 aj=>?_;refine kw rfl zu8 fun w=>?_;obtain⟨q,rfl,y⟩:=dh aj
 refine jy (i:=0) (vs:=[(vi ((ix t.fA b).fB)),(vi ((ix t.fA b).fD)),q]) zmj rfl rfl rfl rfl rfl rfl (qc rfl (qc rfl (qc (z4t y) kg))) ?_
 refine z8 (zt (zl (zm (qi z4q rfl) (zm (qj (i:=0) ag3 rfl rfl rfl) (zm (yw rfl rfl) (z8 (zu rfl d (fun d=>?_) (fun d=>?_))))))));refine zl (zi (vi 0) (zi (vi 16) (z8 (qm ?_))));replace f:=z00 d f;obtain rfl:=Option.some.inj f
 refine qa (D:=[]) (J:=[box w [(vi ((ix t.fA b).fB)),(vi ((ix t.fA b).fD)),q] 55]) (rs:=[.tmp 4,.tmp 5]) (vs:=[(vi 0),(vi 16)]) (x.trans u) rfl rfl ⟨rfl,rfl,trivial⟩ ?_;exact⟨rfl,rfl⟩;refine qb (zt (zt ?_));obtain⟨P,Q,d⟩:=zwe d
 refine dz 28 [] [phX (vi (ix outputs a)),phX (.bool (decide ((ix outputs a)<0))),phX (.bool (decide ((ix outputs a)<0))),phG (true&&((decide ((ix outputs a)<0))==false)) (phX (vi (ix outputs a))),phG (true&&((decide ((ix outputs a)<0))==false)) (phX (.pointer (some ⟨w,2,none⟩))),phG (true&&((decide ((ix outputs a)<0))==false)) (phX q),phG (true&&((decide ((ix outputs a)<0))==false)) (phX (vi (↑((ix t.fA b).fC).length:Int))),phG (true&&((decide ((ix outputs a)<0))==false)) (phX (.bool (decide ((↑((ix t.fA b).fC).length:Int)≤(ix outputs a))))),phX (.bool ((decide ((ix outputs a)<0))||(decide ((↑((ix t.fA b).fC).length:Int)≤(ix outputs a))))),phX (.bool ((decide ((ix outputs a)<0))||(decide ((↑((ix t.fA b).fC).length:Int)≤(ix outputs a))))),phG (true&&(((decide ((ix outputs a)<0))||(decide ((↑((ix t.fA b).fC).length:Int)≤(ix outputs a))))==false)) (phX (.pointer (some ⟨w,2,none⟩))),phG (true&&(((decide ((ix outputs a)<0))||(decide ((↑((ix t.fA b).fC).length:Int)≤(ix outputs a))))==false)) (phX q),phG (true&&(((decide ((ix outputs a)<0))||(decide ((↑((ix t.fA b).fC).length:Int)≤(ix outputs a))))==false)) (phX (vi (ix outputs a))),phG (true&&(((decide ((ix outputs a)<0))||(decide ((↑((ix t.fA b).fC).length:Int)≤(ix outputs a))))==false)) (phP (qf .i64) (ix ((ix t.fA b).fC) (ix outputs a))),phG (true&&(((decide ((ix outputs a)<0))||(decide ((↑((ix t.fA b).fC).length:Int)≤(ix outputs a))))==false)) (phX (vi (ix ((ix t.fA b).fC) (ix outputs a)))),phG (true&&(((decide ((ix outputs a)<0))||(decide ((↑((ix t.fA b).fC).length:Int)≤(ix outputs a))))==false)) (phX (.bool (decide ((ix ((ix t.fA b).fC) (ix outputs a))<0)))),phX (.bool (((decide ((ix outputs a)<0))||(decide ((↑((ix t.fA b).fC).length:Int)≤(ix outputs a))))||(decide ((ix ((ix t.fA b).fC) (ix outputs a))<0)))),phX (.bool (((decide ((ix outputs a)<0))||(decide ((↑((ix t.fA b).fC).length:Int)≤(ix outputs a))))||(decide ((ix ((ix t.fA b).fC) (ix outputs a))<0)))),phG (true&&((((decide ((ix outputs a)<0))||(decide ((↑((ix t.fA b).fC).length:Int)≤(ix outputs a))))||(decide ((ix ((ix t.fA b).fC) (ix outputs a))<0)))==false)) (phX (.pointer (some ⟨w,2,none⟩))),phG (true&&((((decide ((ix outputs a)<0))||(decide ((↑((ix t.fA b).fC).length:Int)≤(ix outputs a))))||(decide ((ix ((ix t.fA b).fC) (ix outputs a))<0)))==false)) (phX q),phG (true&&((((decide ((ix outputs a)<0))||(decide ((↑((ix t.fA b).fC).length:Int)≤(ix outputs a))))||(decide ((ix ((ix t.fA b).fC) (ix outputs a))<0)))==false)) (phX (vi (ix outputs a))),phG (true&&((((decide ((ix outputs a)<0))||(decide ((↑((ix t.fA b).fC).length:Int)≤(ix outputs a))))||(decide ((ix ((ix t.fA b).fC) (ix outputs a))<0)))==false)) (phP (qf .i64) (ix ((ix t.fA b).fC) (ix outputs a))),phG (true&&((((decide ((ix outputs a)<0))||(decide ((↑((ix t.fA b).fC).length:Int)≤(ix outputs a))))||(decide ((ix ((ix t.fA b).fC) (ix outputs a))<0)))==false)) (phX (vi (ix ((ix t.fA b).fC) (ix outputs a)))),phG (true&&((((decide ((ix outputs a)<0))||(decide ((↑((ix t.fA b).fC).length:Int)≤(ix outputs a))))||(decide ((ix ((ix t.fA b).fC) (ix outputs a))<0)))==false)) (phP (tSl false (q8 false)) t.fA),phG (true&&((((decide ((ix outputs a)<0))||(decide ((↑((ix t.fA b).fC).length:Int)≤(ix outputs a))))||(decide ((ix ((ix t.fA b).fC) (ix outputs a))<0)))==false)) (phR (tSl false (q8 false)) t.fA),phG (true&&((((decide ((ix outputs a)<0))||(decide ((↑((ix t.fA b).fC).length:Int)≤(ix outputs a))))||(decide ((ix ((ix t.fA b).fC) (ix outputs a))<0)))==false)) (phX (vi (↑t.fA.length:Int))),phG (true&&((((decide ((ix outputs a)<0))||(decide ((↑((ix t.fA b).fC).length:Int)≤(ix outputs a))))||(decide ((ix ((ix t.fA b).fC) (ix outputs a))<0)))==false)) (phX (.bool (decide ((↑t.fA.length:Int)≤(ix ((ix t.fA b).fC) (ix outputs a)))))),phX (.bool ((((decide ((ix outputs a)<0))||(decide ((↑((ix t.fA b).fC).length:Int)≤(ix outputs a))))||(decide ((ix ((ix t.fA b).fC) (ix outputs a))<0)))||(decide ((↑t.fA.length:Int)≤(ix ((ix t.fA b).fC) (ix outputs a))))))] mixed (by kernel_rfl) (gu ⟨zo,zo,zo,(ql zo),(ql zo),(ql zo),(ql zo),(ql zo),zo,zo,(ql zo),(ql zo),(ql zo),(ql u6),(ql zo),(ql zo),zo,zo,(ql zo),(ql zo),(ql zo),(ql u6),(ql zo),(ql u6),(ql yz),(ql zo),(ql zo),zo,trivial⟩) ⟨?_,?_,?_,?_,?_,?_,?_,?_,?_,?_,?_,?_,?_,?_,?_,?_,?_,?_,?_,?_,?_,?_,?_,?_,?_,?_,?_,?_,trivial⟩ fun a3 z=>?_
 intro l a4 c m hd;exact za rfl rfl rfl (zz (ze (m 8 rfl)));rintro l a5 c m ⟨e,_⟩;exact za rfl rfl rfl (zz (j4 (e rfl) rfl));rintro l a6 c m ⟨e,_⟩;exact za rfl rfl rfl (zz (ze (e rfl)));rintro l a7 c m ⟨e,_⟩
 exact zk (Gj:=true) (Bj:=decide ((ix outputs a)<0)) rfl rfl rfl (jo (e rfl)) rfl (fun p j=>zz (ze (m 8 rfl)));rintro l a8 c m ⟨e,_⟩;exact zk (Gj:=true) (Bj:=decide ((ix outputs a)<0)) rfl rfl rfl (jo (e rfl)) rfl (fun p j=>zz (qi z4f (m 9 rfl)));rintro l a9 c m ⟨e,n,_⟩
 exact zk (Gj:=true) (Bj:=decide ((ix outputs a)<0)) rfl rfl rfl (jo (n rfl)) rfl (fun p j=>zz (qj (i:=0) zar (show l 33=(.pointer (some ⟨w,2,none⟩)) from(e rfl).1 (zh rfl j)) rfl rfl));rintro l ba c m ⟨e,n,_⟩
 exact zk (Gj:=true) (Bj:=decide ((ix outputs a)<0)) rfl rfl rfl (jo (n rfl)) rfl (fun p j=>zz (qo rfl underlying32 (show l 34=q from(e rfl).1 (zh rfl j)) (j5 (y.mono c))));rintro l bb c m ⟨e,n,L,_⟩
 exact zk (Gj:=true) (Bj:=decide ((ix outputs a)<0)) rfl rfl rfl (jo (L rfl)) rfl (fun p j=>zz (r9 (show l 32=(vi (ix outputs a)) from(e rfl).1 (zh rfl j)) (show l 35=(vi (↑((ix t.fA b).fC).length:Int)) from(n rfl).1 (zh rfl j))));rintro l bc c m ⟨e,n,_⟩
 exact za rfl rfl rfl (zz (p9 (e rfl) rfl (fun S=>(show l 36=(.bool (decide ((↑((ix t.fA b).fC).length:Int)≤(ix outputs a)))) from(n rfl).1 (zh rfl S)))));rintro l be c m ⟨e,n,_⟩;exact za rfl rfl rfl (zz (ze (e rfl)));rintro l av c m ⟨e,_⟩
 exact zk (Gj:=true) (Bj:=(decide ((ix outputs a)<0))||(decide ((↑((ix t.fA b).fC).length:Int)≤(ix outputs a)))) rfl rfl rfl (jo (e rfl)) rfl (fun p j=>zz (qi z4f (m 9 rfl)));rintro l aw c m ⟨e,n,_⟩
 exact zk (Gj:=true) (Bj:=(decide ((ix outputs a)<0))||(decide ((↑((ix t.fA b).fC).length:Int)≤(ix outputs a)))) rfl rfl rfl (jo (n rfl)) rfl (fun p j=>zz (qj (i:=0) zar (show l 39=(.pointer (some ⟨w,2,none⟩)) from(e rfl).1 (zh rfl j)) rfl rfl));rintro l ax c m ⟨e,_⟩
 exact zk (Gj:=true) (Bj:=(decide ((ix outputs a)<0))||(decide ((↑((ix t.fA b).fC).length:Int)≤(ix outputs a)))) rfl rfl rfl (jo (e rfl)) rfl (fun p j=>zz (ze (m 8 rfl)));rintro l ay c m ⟨e,n,L,_⟩
 exact zk (Gj:=true) (Bj:=(decide ((ix outputs a)<0))||(decide ((↑((ix t.fA b).fC).length:Int)≤(ix outputs a)))) rfl rfl rfl (jo (L rfl)) rfl (fun p j=>ul (i:=(ix outputs a).toNat) ig (show l 40=q from(e rfl).1 (zh rfl j)) (j5 (y.mono c)) (zf (show l 41=(vi (ix outputs a)) from(n rfl).1 (zh rfl j)) (P (zh p j)).1) (zx (P (zh p j))))
 rintro l az c m ⟨e,n,_⟩;exact zk (Gj:=true) (Bj:=(decide ((ix outputs a)<0))||(decide ((↑((ix t.fA b).fC).length:Int)≤(ix outputs a)))) rfl rfl rfl (jo (n rfl)) rfl (fun p j=>yf (jh ty3 rfl ((e rfl).1 (zh rfl j))) (fun _ _ h=>jb.1 h));rintro l aA c m ⟨e,n,_⟩
 exact zk (Gj:=true) (Bj:=(decide ((ix outputs a)<0))||(decide ((↑((ix t.fA b).fC).length:Int)≤(ix outputs a)))) rfl rfl rfl (jo (n rfl)) rfl (fun p j=>zz (j4 (show l 43=(vi (ix ((ix t.fA b).fC) (ix outputs a))) from(e rfl).1 (zh rfl j)) rfl));rintro l aB c m ⟨e,n,_⟩
 exact za rfl rfl rfl (zz (p9 (e rfl) rfl (fun S=>(show l 44=(.bool (decide ((ix ((ix t.fA b).fC) (ix outputs a))<0))) from(n rfl).1 (zh rfl S)))));rintro l aC c m ⟨e,n,_⟩;exact za rfl rfl rfl (zz (ze (e rfl)));rintro l aD c m ⟨e,_⟩
 exact zk (Gj:=true) (Bj:=((decide ((ix outputs a)<0))||(decide ((↑((ix t.fA b).fC).length:Int)≤(ix outputs a))))||(decide ((ix ((ix t.fA b).fC) (ix outputs a))<0))) rfl rfl rfl (jo (e rfl)) rfl (fun p j=>zz (qi z4f (m 9 rfl)));rintro l aE c m ⟨e,n,_⟩
 exact zk (Gj:=true) (Bj:=((decide ((ix outputs a)<0))||(decide ((↑((ix t.fA b).fC).length:Int)≤(ix outputs a))))||(decide ((ix ((ix t.fA b).fC) (ix outputs a))<0))) rfl rfl rfl (jo (n rfl)) rfl (fun p j=>zz (qj (i:=0) zar (show l 47=(.pointer (some ⟨w,2,none⟩)) from(e rfl).1 (zh rfl j)) rfl rfl))
 rintro l aF c m ⟨e,_⟩;exact zk (Gj:=true) (Bj:=((decide ((ix outputs a)<0))||(decide ((↑((ix t.fA b).fC).length:Int)≤(ix outputs a))))||(decide ((ix ((ix t.fA b).fC) (ix outputs a))<0))) rfl rfl rfl (jo (e rfl)) rfl (fun p j=>zz (ze (m 8 rfl)));rintro l aG c m ⟨e,n,L,_⟩
 exact zk (Gj:=true) (Bj:=((decide ((ix outputs a)<0))||(decide ((↑((ix t.fA b).fC).length:Int)≤(ix outputs a))))||(decide ((ix ((ix t.fA b).fC) (ix outputs a))<0))) rfl rfl rfl (jo (L rfl)) rfl (fun p j=>ul (i:=(ix outputs a).toNat) ig (show l 48=q from(e rfl).1 (zh rfl j)) (j5 (y.mono c)) (zf (show l 49=(vi (ix outputs a)) from(n rfl).1 (zh rfl j)) (Q (zh p j)).1) (zx (Q (zh p j))))
 rintro l aH c m ⟨e,n,_⟩;exact zk (Gj:=true) (Bj:=((decide ((ix outputs a)<0))||(decide ((↑((ix t.fA b).fC).length:Int)≤(ix outputs a))))||(decide ((ix ((ix t.fA b).fC) (ix outputs a))<0))) rfl rfl rfl (jo (n rfl)) rfl (fun p j=>yf (jh ty3 rfl ((e rfl).1 (zh rfl j))) (fun _ _ h=>jb.1 h))
 rintro l aI c m ⟨e,_⟩;exact zk (Gj:=true) (Bj:=((decide ((ix outputs a)<0))||(decide ((↑((ix t.fA b).fC).length:Int)≤(ix outputs a))))||(decide ((ix ((ix t.fA b).fC) (ix outputs a))<0))) rfl rfl rfl (jo (e rfl)) rfl (fun p j=>ui pu ja (m 2 rfl) ((h2.mono u).mono c));rintro l aJ c m ⟨e,n,_⟩
 exact zk (Gj:=true) (Bj:=((decide ((ix outputs a)<0))||(decide ((↑((ix t.fA b).fC).length:Int)≤(ix outputs a))))||(decide ((ix ((ix t.fA b).fC) (ix outputs a))<0))) rfl rfl rfl (jo (n rfl)) rfl (fun p j=>jh z4g rfl ((e rfl).1 (zh rfl j)));rintro l aK c m ⟨e,n,_⟩
 exact zk (Gj:=true) (Bj:=((decide ((ix outputs a)<0))||(decide ((↑((ix t.fA b).fC).length:Int)≤(ix outputs a))))||(decide ((ix ((ix t.fA b).fC) (ix outputs a))<0))) rfl rfl rfl (jo (n rfl)) rfl (fun p j=>zz (qo rfl underlying43 rfl (j5 ((e rfl).1 (zh rfl j)))));rintro l aL c m ⟨e,n,L,_⟩
 exact zk (Gj:=true) (Bj:=((decide ((ix outputs a)<0))||(decide ((↑((ix t.fA b).fC).length:Int)≤(ix outputs a))))||(decide ((ix ((ix t.fA b).fC) (ix outputs a))<0))) rfl rfl rfl (jo (L rfl)) rfl (fun p j=>zz (r9 (show l 51=(vi (ix ((ix t.fA b).fC) (ix outputs a))) from(e rfl).1 (zh rfl j)) (show l 54=(vi (↑t.fA.length:Int)) from(n rfl).1 (zh rfl j))))
 rintro l aM c m ⟨e,n,_⟩;exact za rfl rfl rfl (zz (p9 (e rfl) rfl (fun S=>(show l 55=(.bool (decide ((↑t.fA.length:Int)≤(ix ((ix t.fA b).fC) (ix outputs a))))) from(n rfl).1 (zh rfl S)))))
 intro bf ak bg al bh am bi bj bk bl bm bn bo bp bq br bs an bt ao bu bv bw bx bz bA bB bC bD bE bF bG bH ap bI aq bJ bK bL bM bN bO bP bQ bR bS bT bU bV bW bX bY bZ b0 b1 ar;obtain rfl:=Eq.symm ak;obtain rfl:=Eq.symm al;obtain rfl:=Eq.symm am;obtain rfl:=Eq.symm an;obtain rfl:=Eq.symm ao;obtain rfl:=Eq.symm ap
 obtain rfl:=Eq.symm aq;obtain rfl:=Eq.symm ar;refine z8 (zu rfl d (fun d=>?_) (fun d=>?_));refine zl (zi (vi 0) (zi (vi 7) (z8 (qm ?_))));replace f:=z00 d f;obtain rfl:=Option.some.inj f
 refine qa (D:=[]) (J:=[box w [(vi ((ix t.fA b).fB)),(vi ((ix t.fA b).fD)),q] 55]) (rs:=[.tmp 4,.tmp 5]) (vs:=[(vi 0),(vi 7)]) ((x.trans u).trans z) rfl rfl ⟨rfl,rfl,trivial⟩ ?_;exact⟨rfl,rfl⟩
 refine qb (zn (zm (qi z4f rfl) (zm (qj (i:=0) zar rfl rfl rfl) (zg (vi (ix outputs a)) ?_))));obtain⟨F,d⟩:=zb d;refine kv (i:=(ix outputs a).toNat) rfl ig rfl (j5 (y.mono z)) (zf rfl F.1) (zx F) fun aN U=>?_;refine qh rfl ty3 rfl U fun aO V=>?_;obtain rfl:=jb.1 V
 refine zi (vi (ix ((ix t.fA b).fC) (ix outputs a))) (z8 (zn ?_));obtain⟨W,d⟩:=zb d;refine zm (ji rfl rfl W) (zg (vi (a+1)) (z8 ?_))
 exact⟨dkt,z,jm,(E,(ix ((ix t.fA b).fC) (ix outputs a)),a+1),Nat.lt_succ_self _,⟨rfl,rfl,trivial⟩,⟨[box w [(vi ((ix t.fA b).fB)),(vi ((ix t.fA b).fD)),q] 55],(List.Perm.refl _)⟩,d,trivial⟩;refine jg ?_;exact⟨dkt,u,jm,b,⟨rfl,trivial⟩,prm,(Option.some.inj d).symm,trivial⟩
 rintro s aP b2 B ⟨rfl,_⟩;replace f:=z0v f;refine zt (zl (j6 rfl pu ja rfl (h2.mono B) fun aQ X=>?_));refine qh rfl z4g rfl X fun aR Y=>?_;refine zg (vi s) ?_;obtain⟨G,f⟩:=zb f;refine kv (i:=s.toNat) rfl z8u rfl (j5 Y) (zf rfl G.1) (zx G) fun aS Z=>?_
 refine qh rfl zum rfl Z fun aT aa=>?_;refine kw rfl zu8 fun H=>?_;obtain⟨C,rfl,ab⟩:=dh aa;refine jy (i:=0) (vs:=[(vi ((ix t.fA s).fB)),(vi ((ix t.fA s).fD)),C]) zmj rfl rfl rfl rfl rfl rfl (qc rfl (qc rfl (qc (z4t ab) kg))) ?_
 refine qy (zm (qi z4q rfl) (zm (qj (i:=0) ag3 rfl rfl rfl) (zm (yw rfl rfl) (z8 (zu rfl f (fun f=>?_) (fun f=>?_))))));refine zl (zm (qi z7l rfl) (zm (qj (i:=0) ag3 rfl rfl rfl) (zi (vi ((ix t.fA s).fD)) (zi (vi 0) (z8 (qm ?_))))));obtain rfl:=Option.some.inj f
 refine qa (D:=[]) (J:=[box H [(vi ((ix t.fA s).fB)),(vi ((ix t.fA s).fD)),C] 55]) (rs:=[.tmp 4,.tmp 5]) (vs:=[(vi ((ix t.fA s).fD)),(vi 0)]) (x.trans B) rfl rfl ⟨rfl,rfl,trivial⟩ ?_;exact⟨rfl,rfl⟩;refine qb (zl (zi (vi 0) (zi (vi 16) (z8 (qm ?_)))))
 obtain rfl:=Option.some.inj f;refine qa (D:=[]) (J:=[box H [(vi ((ix t.fA s).fB)),(vi ((ix t.fA s).fD)),C] 55]) (rs:=[.tmp 4,.tmp 5]) (vs:=[(vi 0),(vi 16)]) (x.trans B) rfl rfl ⟨rfl,rfl,trivial⟩ ?_;exact⟨rfl,rfl⟩
theorem q1h:Enters prog 21:=enters_of func21 rfl (by kernel_rfl)
theorem zck{N:Nat}{R:RH}{a:Sb}{E:Value}(aa:VRep (ku false false) R E a){b:Sb}{F:Value}(ab:VRep (ku false false) R F b){r:Bool}(p:z4v N a b=some r):CallP prog 17 #[E,F] R (fun v R'=>v=(.bool r)):=by
 refine qd (args:=[E,F]) func17 rfl rfl fun A=>?_;rw [z4v] at p;refine zl (kz (T:=(ku false false)) rfl rfl rfl aa fun v1 R3 w h5 H=>?_);refine kz (T:=(ku false false)) rfl rfl rfl (ab.mono w) fun v6 R8 s bF Z=>?_
 refine zi (.bool false) (z8 (zt (zl (j6 rfl pu ja rfl (H.mono s) fun bG ac=>?_))));refine qh rfl z4g rfl ac fun bH ad=>?_;refine zm (qo rfl underlying43 rfl (j5 ad)) (j6 rfl pu ja rfl Z fun bI ae=>?_);refine qh rfl z4g rfl ae fun bJ af=>?_
 refine zm (qo rfl underlying43 rfl (j5 af)) (zm (ww rfl rfl) (z8 (zu rfl p (fun p=>?_) (fun p=>?_))));refine zl (zi (.bool false) (z8 (qm ?_)));obtain rfl:=Option.some.inj p;refine qa (D:=[]) (J:=[]) (rs:=[.tmp 4]) (vs:=[(.bool false)]) (w.trans s) rfl rfl ⟨rfl,trivial⟩ ?_;exact⟨rfl,rfl⟩;refine qb ?_
 obtain⟨G,m,p⟩:=zq p;refine qx (γ:=Unit) (rs [4,6,13,66]) (fun g=>[]) (fun g=>[]++A) (fun g R=>G=Ex.go g∧True) ?_ ?_
 refine zl (zi (vi 0) (z8 (zw (je (γ:=Nat×Int) (rs [4,6,13,66]) (fun g=>[(5,(vi g.2))]) (fun g=>[]++A) (fun g R=>fe N a b g.1 g.2=some G∧True) (fun g=>g.1) (N,0) prm ⟨m,trivial⟩ ?_))));clear m;rintro⟨x,c⟩ av bK o ⟨m,_⟩;rcases x with _|x;exact qw m
 replace m:fe N a b (x+1) c=some G:=m;rw [fe] at m;refine zt (zl (zg (vi c) (j6 rfl pu ja rfl (H.mono (s.trans o)) fun bL ag=>?_)));refine qh rfl z4g rfl ag fun bM ah=>?_
 refine zm (qo rfl underlying43 rfl (j5 ah)) (zm (j4 rfl rfl) (z8 (zu rfl m (fun m=>?_) (fun m=>?_))));refine qb (zt (zw (zt ?_)));obtain⟨I,K,L,M,O,P,m⟩:=q3v m
 obtain⟨t,ai,m⟩:=zq m;let q:=(true&&(((decide (((ix a.fA c).fB)≠((ix b.fA c).fB)))||(decide (((ix a.fA c).fD)≠((ix b.fA c).fD))))==false))
 refine dz 46 [] [phP (tSl false (q8 false)) a.fA,phR (tSl false (q8 false)) a.fA,phX (vi c),phP (q8 false) (ix a.fA c),phP (qf .i64) ((ix a.fA c).fB),phX (vi ((ix a.fA c).fB)),phP (tSl false (q8 false)) b.fA,phR (tSl false (q8 false)) b.fA,phX (vi c),phP (q8 false) (ix b.fA c),phP (qf .i64) ((ix b.fA c).fB),phX (vi ((ix b.fA c).fB)),phX (.bool (decide (((ix a.fA c).fB)≠((ix b.fA c).fB)))),phX (.bool (decide (((ix a.fA c).fB)≠((ix b.fA c).fB)))),phG (true&&((decide (((ix a.fA c).fB)≠((ix b.fA c).fB)))==false)) (phP (tSl false (q8 false)) a.fA),phG (true&&((decide (((ix a.fA c).fB)≠((ix b.fA c).fB)))==false)) (phR (tSl false (q8 false)) a.fA),phG (true&&((decide (((ix a.fA c).fB)≠((ix b.fA c).fB)))==false)) (phX (vi c)),phG (true&&((decide (((ix a.fA c).fB)≠((ix b.fA c).fB)))==false)) (phP (q8 false) (ix a.fA c)),phG (true&&((decide (((ix a.fA c).fB)≠((ix b.fA c).fB)))==false)) (phP (qf .i64) ((ix a.fA c).fD)),phG (true&&((decide (((ix a.fA c).fB)≠((ix b.fA c).fB)))==false)) (phX (vi ((ix a.fA c).fD))),phG (true&&((decide (((ix a.fA c).fB)≠((ix b.fA c).fB)))==false)) (phP (tSl false (q8 false)) b.fA),phG (true&&((decide (((ix a.fA c).fB)≠((ix b.fA c).fB)))==false)) (phR (tSl false (q8 false)) b.fA),phG (true&&((decide (((ix a.fA c).fB)≠((ix b.fA c).fB)))==false)) (phX (vi c)),phG (true&&((decide (((ix a.fA c).fB)≠((ix b.fA c).fB)))==false)) (phP (q8 false) (ix b.fA c)),phG (true&&((decide (((ix a.fA c).fB)≠((ix b.fA c).fB)))==false)) (phP (qf .i64) ((ix b.fA c).fD)),phG (true&&((decide (((ix a.fA c).fB)≠((ix b.fA c).fB)))==false)) (phX (vi ((ix b.fA c).fD))),phG (true&&((decide (((ix a.fA c).fB)≠((ix b.fA c).fB)))==false)) (phX (.bool (decide (((ix a.fA c).fD)≠((ix b.fA c).fD))))),phX (.bool ((decide (((ix a.fA c).fB)≠((ix b.fA c).fB)))||(decide (((ix a.fA c).fD)≠((ix b.fA c).fD))))),phX (.bool ((decide (((ix a.fA c).fB)≠((ix b.fA c).fB)))||(decide (((ix a.fA c).fD)≠((ix b.fA c).fD))))),phG q (phP (tSl false (q8 false)) a.fA),phG q (phR (tSl false (q8 false)) a.fA),phG q (phX (vi c)),phG q (phP (q8 false) (ix a.fA c)),phG q (phP (tSl false (qf .i64)) ((ix a.fA c).fC)),phG q (phR (tSl false (qf .i64)) ((ix a.fA c).fC)),phG q (phR (tSl true (tSl false (qf .i64))) ([(ix a.fA c).fC]:List (List Int))),phG q (phP (tSl false (q8 false)) b.fA),phG q (phR (tSl false (q8 false)) b.fA),phG q (phX (vi c)),phG q (phP (q8 false) (ix b.fA c)),phG q (phP (tSl false (qf .i64)) ((ix b.fA c).fC)),phG q (phR (tSl false (qf .i64)) ((ix b.fA c).fC)),phG q (phR (tSl true (tSl false (qf .i64))) ([(ix b.fA c).fC]:List (List Int))),phG q (phX (.bool (t.getD default))),phG q (phX (.bool (!(t.getD default)))),phX (.bool (((decide (((ix a.fA c).fB)≠((ix b.fA c).fB)))||(decide (((ix a.fA c).fD)≠((ix b.fA c).fD))))||(!(t.getD default))))] mixed (by kernel_rfl) (gu ⟨u6,yz,zo,u6,u6,zo,u6,yz,zo,u6,u6,zo,zo,zo,(ql u6),(ql yz),(ql zo),(ql u6),(ql u6),(ql zo),(ql u6),(ql yz),(ql zo),(ql u6),(ql u6),(ql zo),(ql zo),zo,zo,(ql u6),(ql yz),(ql zo),(ql u6),(ql u6),(ql yz),(ql yz),(ql u6),(ql yz),(ql zo),(ql u6),(ql u6),(ql yz),(ql yz),(ql zo),(ql zo),zo,trivial⟩) ⟨?_,?_,?_,?_,?_,?_,?_,?_,?_,?_,?_,?_,?_,?_,?_,?_,?_,?_,?_,?_,?_,?_,?_,?_,?_,?_,?_,?_,?_,?_,?_,?_,?_,?_,?_,?_,?_,?_,?_,?_,?_,?_,?_,?_,?_,?_,trivial⟩ fun bN y=>?_
 intro l bO d j hd;exact za rfl rfl rfl (ui pu ja (j 2 rfl) ((H.mono (s.trans o)).mono d));rintro l bP d j ⟨e,_⟩;exact za rfl rfl rfl (jh z4g rfl (e rfl));intro l bQ d j hd;exact za rfl rfl rfl (zz (ze (j 5 rfl)));rintro l bR d j ⟨e,k,_⟩
 exact za rfl rfl rfl (ul (i:=c.toNat) z8u rfl (j5 (e rfl)) (zf (k rfl) I.1) (zx I));rintro l bS d j ⟨e,_⟩;exact za rfl rfl rfl (ui z4q mq rfl (e rfl));rintro l bT d j ⟨e,_⟩;exact za rfl rfl rfl (yf (jh ty3 rfl (e rfl)) (fun _ _ h=>jb.1 h));intro l bU d j hd
 exact za rfl rfl rfl (ui pu ja (j 3 rfl) ((Z.mono o).mono d));rintro l bV d j ⟨e,_⟩;exact za rfl rfl rfl (jh z4g rfl (e rfl));intro l bW d j hd;exact za rfl rfl rfl (zz (ze (j 5 rfl)));rintro l bX d j ⟨e,k,_⟩
 exact za rfl rfl rfl (ul (i:=c.toNat) z8u rfl (j5 (e rfl)) (zf (k rfl) K.1) (zx K));rintro l aw d j ⟨e,_⟩;exact za rfl rfl rfl (ui z4q mq rfl (e rfl));rintro l ax d j ⟨e,_⟩;exact za rfl rfl rfl (yf (jh ty3 rfl (e rfl)) (fun _ _ h=>jb.1 h));rintro l ay d j ⟨e,k,_⟩
 exact za rfl rfl rfl (zz (ww (e rfl) (k rfl)));rintro l az d j ⟨e,_⟩;exact za rfl rfl rfl (zz (ze (e rfl)));rintro l aA d j ⟨e,_⟩
 exact zk (Gj:=true) (Bj:=decide (((ix a.fA c).fB)≠((ix b.fA c).fB))) rfl rfl rfl (jo (e rfl)) rfl (fun n f=>ui pu ja (j 2 rfl) ((H.mono (s.trans o)).mono d));rintro l aB d j ⟨e,k,_⟩
 exact zk (Gj:=true) (Bj:=decide (((ix a.fA c).fB)≠((ix b.fA c).fB))) rfl rfl rfl (jo (k rfl)) rfl (fun n f=>jh z4g rfl ((e rfl).1 (zh rfl f)));rintro l aC d j ⟨e,_⟩
 exact zk (Gj:=true) (Bj:=decide (((ix a.fA c).fB)≠((ix b.fA c).fB))) rfl rfl rfl (jo (e rfl)) rfl (fun n f=>zz (ze (j 5 rfl)));rintro l aD d j ⟨e,k,u,_⟩
 exact zk (Gj:=true) (Bj:=decide (((ix a.fA c).fB)≠((ix b.fA c).fB))) rfl rfl rfl (jo (u rfl)) rfl (fun n f=>ul (i:=c.toNat) z8u rfl (j5 ((e rfl).1 (zh rfl f))) (zf (show l 36=(vi c) from(k rfl).1 (zh rfl f)) (L (zh n f)).1) (zx (L (zh n f))));rintro l aE d j ⟨e,k,_⟩
 exact zk (Gj:=true) (Bj:=decide (((ix a.fA c).fB)≠((ix b.fA c).fB))) rfl rfl rfl (jo (k rfl)) rfl (fun n f=>ui z7l l5 rfl ((e rfl).1 (zh rfl f)));rintro l aF d j ⟨e,k,_⟩
 exact zk (Gj:=true) (Bj:=decide (((ix a.fA c).fB)≠((ix b.fA c).fB))) rfl rfl rfl (jo (k rfl)) rfl (fun n f=>yf (jh ty3 rfl ((e rfl).1 (zh rfl f))) (fun _ _ h=>jb.1 h));rintro l aG d j ⟨e,_⟩
 exact zk (Gj:=true) (Bj:=decide (((ix a.fA c).fB)≠((ix b.fA c).fB))) rfl rfl rfl (jo (e rfl)) rfl (fun n f=>ui pu ja (j 3 rfl) ((Z.mono o).mono d));rintro l aH d j ⟨e,k,_⟩
 exact zk (Gj:=true) (Bj:=decide (((ix a.fA c).fB)≠((ix b.fA c).fB))) rfl rfl rfl (jo (k rfl)) rfl (fun n f=>jh z4g rfl ((e rfl).1 (zh rfl f)));rintro l aI d j ⟨e,_⟩
 exact zk (Gj:=true) (Bj:=decide (((ix a.fA c).fB)≠((ix b.fA c).fB))) rfl rfl rfl (jo (e rfl)) rfl (fun n f=>zz (ze (j 5 rfl)));rintro l aJ d j ⟨e,k,u,_⟩
 exact zk (Gj:=true) (Bj:=decide (((ix a.fA c).fB)≠((ix b.fA c).fB))) rfl rfl rfl (jo (u rfl)) rfl (fun n f=>ul (i:=c.toNat) z8u rfl (j5 ((e rfl).1 (zh rfl f))) (zf (show l 42=(vi c) from(k rfl).1 (zh rfl f)) (M (zh n f)).1) (zx (M (zh n f))));rintro l aK d j ⟨e,k,_⟩
 exact zk (Gj:=true) (Bj:=decide (((ix a.fA c).fB)≠((ix b.fA c).fB))) rfl rfl rfl (jo (k rfl)) rfl (fun n f=>ui z7l l5 rfl ((e rfl).1 (zh rfl f)));rintro l aL d j ⟨e,k,_⟩
 exact zk (Gj:=true) (Bj:=decide (((ix a.fA c).fB)≠((ix b.fA c).fB))) rfl rfl rfl (jo (k rfl)) rfl (fun n f=>yf (jh ty3 rfl ((e rfl).1 (zh rfl f))) (fun _ _ h=>jb.1 h));rintro l aM d j ⟨e,k,u,_⟩
 exact zk (Gj:=true) (Bj:=decide (((ix a.fA c).fB)≠((ix b.fA c).fB))) rfl rfl rfl (jo (u rfl)) rfl (fun n f=>zz (ww (show l 39=(vi ((ix a.fA c).fD)) from(e rfl).1 (zh rfl f)) (show l 45=(vi ((ix b.fA c).fD)) from(k rfl).1 (zh rfl f))));rintro l aN d j ⟨e,k,_⟩
 exact za rfl rfl rfl (zz (p9 (e rfl) rfl (fun hb=>(show l 46=(.bool (decide (((ix a.fA c).fD)≠((ix b.fA c).fD)))) from(k rfl).1 (zh rfl hb)))));rintro l aO d j ⟨e,k,_⟩;exact za rfl rfl rfl (zz (ze (e rfl)));rintro l aP d j ⟨e,_⟩
 exact zk (Gj:=true) (Bj:=(decide (((ix a.fA c).fB)≠((ix b.fA c).fB)))||(decide (((ix a.fA c).fD)≠((ix b.fA c).fD)))) rfl rfl rfl (jo (e rfl)) rfl (fun n f=>ui pu ja (j 2 rfl) ((H.mono (s.trans o)).mono d));rintro l aQ d j ⟨e,k,_⟩
 exact zk (Gj:=true) (Bj:=(decide (((ix a.fA c).fB)≠((ix b.fA c).fB)))||(decide (((ix a.fA c).fD)≠((ix b.fA c).fD)))) rfl rfl rfl (jo (k rfl)) rfl (fun n f=>jh z4g rfl ((e rfl).1 (zh rfl f)));rintro l aR d j ⟨e,_⟩
 exact zk (Gj:=true) (Bj:=(decide (((ix a.fA c).fB)≠((ix b.fA c).fB)))||(decide (((ix a.fA c).fD)≠((ix b.fA c).fD)))) rfl rfl rfl (jo (e rfl)) rfl (fun n f=>zz (ze (j 5 rfl)));rintro l aS d j ⟨e,k,u,_⟩
 exact zk (Gj:=true) (Bj:=(decide (((ix a.fA c).fB)≠((ix b.fA c).fB)))||(decide (((ix a.fA c).fD)≠((ix b.fA c).fD)))) rfl rfl rfl (jo (u rfl)) rfl (fun n f=>ul (i:=c.toNat) z8u rfl (j5 ((e rfl).1 (zh rfl f))) (zf (show l 51=(vi c) from(k rfl).1 (zh rfl f)) (O (zh n f)).1) (zx (O (zh n f))))
 rintro l aT d j ⟨e,k,_⟩;exact zk (Gj:=true) (Bj:=(decide (((ix a.fA c).fB)≠((ix b.fA c).fB)))||(decide (((ix a.fA c).fD)≠((ix b.fA c).fD)))) rfl rfl rfl (jo (k rfl)) rfl (fun n f=>ui z4f mo rfl ((e rfl).1 (zh rfl f)));rintro l aU d j ⟨e,k,_⟩
 exact zk (Gj:=true) (Bj:=(decide (((ix a.fA c).fB)≠((ix b.fA c).fB)))||(decide (((ix a.fA c).fD)≠((ix b.fA c).fD)))) rfl rfl rfl (jo (k rfl)) rfl (fun n f=>jh zc3 rfl ((e rfl).1 (zh rfl f)));rintro l Q d j ⟨e,k,_⟩
 have z:phG q (phR (tSl false (qf .i64)) ((ix a.fA c).fC)) (l 54) Q:=e rfl
 exact zk (Gj:=true) (Bj:=(decide (((ix a.fA c).fB)≠((ix b.fA c).fB)))||(decide (((ix a.fA c).fD)≠((ix b.fA c).fD)))) rfl rfl rfl (jo (k rfl)) rfl (fun n f=>z4c (T:=(tSl false (qf .i64))) (X:=([(ix a.fA c).fC]:List (List Int))) (ps:=[(0,(l 54))]) (css:=[[(l 54)]]) underlying72 zw4 rfl (by simp only [List.map_cons,List.map_nil,z2d (z.1 (zh rfl f))];rfl) (uj ⟨(um rfl (z.1 (zh rfl f))),trivial⟩) rfl rfl (by decide))
 rintro l aV d j ⟨e,_⟩;exact zk (Gj:=true) (Bj:=(decide (((ix a.fA c).fB)≠((ix b.fA c).fB)))||(decide (((ix a.fA c).fD)≠((ix b.fA c).fD)))) rfl rfl rfl (jo (e rfl)) rfl (fun n f=>ui pu ja (j 3 rfl) ((Z.mono o).mono d));rintro l aW d j ⟨e,k,_⟩
 exact zk (Gj:=true) (Bj:=(decide (((ix a.fA c).fB)≠((ix b.fA c).fB)))||(decide (((ix a.fA c).fD)≠((ix b.fA c).fD)))) rfl rfl rfl (jo (k rfl)) rfl (fun n f=>jh z4g rfl ((e rfl).1 (zh rfl f)));rintro l aX d j ⟨e,_⟩
 exact zk (Gj:=true) (Bj:=(decide (((ix a.fA c).fB)≠((ix b.fA c).fB)))||(decide (((ix a.fA c).fD)≠((ix b.fA c).fD)))) rfl rfl rfl (jo (e rfl)) rfl (fun n f=>zz (ze (j 5 rfl)));rintro l aY d j ⟨e,k,u,_⟩
 exact zk (Gj:=true) (Bj:=(decide (((ix a.fA c).fB)≠((ix b.fA c).fB)))||(decide (((ix a.fA c).fD)≠((ix b.fA c).fD)))) rfl rfl rfl (jo (u rfl)) rfl (fun n f=>ul (i:=c.toNat) z8u rfl (j5 ((e rfl).1 (zh rfl f))) (zf (show l 58=(vi c) from(k rfl).1 (zh rfl f)) (P (zh n f)).1) (zx (P (zh n f))))
 rintro l aZ d j ⟨e,k,_⟩;exact zk (Gj:=true) (Bj:=(decide (((ix a.fA c).fB)≠((ix b.fA c).fB)))||(decide (((ix a.fA c).fD)≠((ix b.fA c).fD)))) rfl rfl rfl (jo (k rfl)) rfl (fun n f=>ui z4f mo rfl ((e rfl).1 (zh rfl f)));rintro l a0 d j ⟨e,k,_⟩
 exact zk (Gj:=true) (Bj:=(decide (((ix a.fA c).fB)≠((ix b.fA c).fB)))||(decide (((ix a.fA c).fD)≠((ix b.fA c).fD)))) rfl rfl rfl (jo (k rfl)) rfl (fun n f=>jh zc3 rfl ((e rfl).1 (zh rfl f)));rintro l S d j ⟨e,k,_⟩
 have C:phG q (phR (tSl false (qf .i64)) ((ix b.fA c).fC)) (l 61) S:=e rfl
 exact zk (Gj:=true) (Bj:=(decide (((ix a.fA c).fB)≠((ix b.fA c).fB)))||(decide (((ix a.fA c).fD)≠((ix b.fA c).fD)))) rfl rfl rfl (jo (k rfl)) rfl (fun n f=>z4c (T:=(tSl false (qf .i64))) (X:=([(ix b.fA c).fC]:List (List Int))) (ps:=[(0,(l 61))]) (css:=[[(l 61)]]) underlying72 zw4 rfl (by simp only [List.map_cons,List.map_nil,z2d (C.1 (zh rfl f))];rfl) (uj ⟨(um rfl (C.1 (zh rfl f))),trivial⟩) rfl rfl (by decide))
 rintro l a1 d j ⟨e,k,u,d3,_⟩
 exact zk (Gj:=true) (Bj:=(decide (((ix a.fA c).fB)≠((ix b.fA c).fB)))||(decide (((ix a.fA c).fD)≠((ix b.fA c).fD)))) rfl rfl rfl (jo (u rfl)) rfl (fun n f=>bu (vs:=[(l 55),(l 62)]) q39 rfl ((by have al:=(z0x ai (zh n f));exact z6w (Sub.v (B:=(tSl false (tSl false (qf .i64)))) (ut Sub.refl (fun _=>rfl)) ((e rfl).1 (zh rfl f))) (Sub.v (B:=(tSl false (tSl false (qf .i64)))) (ut Sub.refl (fun _=>rfl)) ((k rfl).1 (zh rfl f))) al)) (fun _ _ h=>h))
 rintro l a2 d j ⟨e,k,_⟩;exact zk (Gj:=true) (Bj:=(decide (((ix a.fA c).fB)≠((ix b.fA c).fB)))||(decide (((ix a.fA c).fD)≠((ix b.fA c).fD)))) rfl rfl rfl (jo (k rfl)) rfl (fun n f=>zz (rf (show l 63=(.bool (t.getD default)) from(e rfl).1 (zh rfl f))));rintro l a3 d j ⟨e,k,_⟩
 exact za rfl rfl rfl (zz (p9 (e rfl) rfl (fun hb=>(show l 64=(.bool (!(t.getD default))) from(k rfl).1 (zh rfl hb)))));intro bY bZ b0 b1 b2 am b3 b4 b5 b6 b7 an b8 b9 ca cb cc ao cd ce cf cg ch ap ci aq
 intro cj ar ck cl cm cn co cp cq cr cs ct cu cv cw cx cy cz cA cB cC cD cE cF cG cH cI cJ cK au cL U a4 a5 a6 a7 a8 a9 ba bb bc be bf bg bh bi bj bk bl bm bn bo bp bq br bs bt bv bw bx bz bA bB bC bD V;obtain rfl:=Eq.symm am;obtain rfl:=Eq.symm an;obtain rfl:=Eq.symm ao
 obtain rfl:=Eq.symm ap;obtain rfl:=Eq.symm aq;obtain rfl:=Eq.symm ar;obtain rfl:=Eq.symm au;obtain rfl:=Eq.symm U;obtain rfl:=Eq.symm V;refine z8 (zu rfl m (fun m=>?_) (fun m=>?_));refine zl (zi (.bool false) (z8 (qm ?_)));replace p:=z00 m p;obtain rfl:=Option.some.inj p
 refine qa (D:=[]) (J:=[]) (rs:=[.tmp 4]) (vs:=[(.bool false)]) (((w.trans s).trans o).trans y) rfl rfl ⟨rfl,trivial⟩ ?_;exact⟨rfl,rfl⟩;refine qb (zn (zg (vi c) ?_));obtain⟨W,m⟩:=zb m;refine zm (ji rfl rfl W) (zi (vi (c+1)) (z8 ?_))
 exact⟨dkt,y,jm,(x,c+1),Nat.lt_succ_self _,⟨rfl,trivial⟩,prm,m,trivial⟩;refine jg ?_;exact⟨dkt,o,jm,(),trivial,prm,(Option.some.inj m).symm,trivial⟩;rintro cM bE cN Y ⟨rfl,_⟩;replace p:=z0v p;refine zl (zi (.bool true) (z8 (qm ?_)));obtain rfl:=Option.some.inj p
 refine qa (D:=[]) (J:=[]) (rs:=[.tmp 4]) (vs:=[(.bool true)]) ((w.trans s).trans Y) rfl rfl ⟨rfl,trivial⟩ ?_;exact⟨rfl,rfl⟩
end GV
end Go.Proofs.Ytnnobdkjgafdmaa
