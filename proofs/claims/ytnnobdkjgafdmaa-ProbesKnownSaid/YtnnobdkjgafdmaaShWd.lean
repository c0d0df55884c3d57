import Derived.Test.YtnnobdkjgafdmaaShWc
import Derived.Test.YtnnobdkjgafdmaaRows
set_option linter.unusedVariables false
set_option linter.unusedSimpArgs false
set_option linter.unusedSectionVars false
namespace Go.Proofs.Ytnnobdkjgafdmaa
namespace GV
open _root_.Go.Proofs.Try
open Go.IntWalk
set_option maxRecDepth 100000
set_option maxHeartbeats 20000000
theorem zpv:Enters prog 65:=enters_of func65 rfl (by kernel_rfl)
theorem z1v{N:Nat}{R:RH}{E:(Arr 64 Int)}{b:Value}(y:VRep (zlj z0k) R b E){m:Mach}{q:Value}(s:VRep (jg false false) R q m){block:Int}{i:Int}{t:Int}{r:Bool}(k:ak N E m block i t=some r):CallP prog 41 #[b,q,(.int .u16 block),(vi i),(vi t)] R (fun v R'=>v=(.bool r)):=by
 refine qd (args:=[b,q,(.int .u16 block),(vi i),(vi t)]) func41 rfl rfl fun A=>?_;rw [ak] at k;refine zk (u7 (T:=(jg false false)) rfl rfl rfl s fun v1 R3 l Q h2=>?_);refine zh (.bool false) (j3 (zl (uj z0b rfl rfl Q (s.mono l)) (zg (.int .u16 block) (zg (vi i) ?_))))
 obtain⟨f,S,k⟩:=zn k;refine ja rfl zpv rfl (zci (s.mono l) S) fun v8 U o V=>?_;obtain rfl:=V;refine zg (.tuple #[(tu f.1),(.bool f.2)]) (zl (qw rfl rfl) (zl (qw rfl rfl) (jy rfl zm9 fun F=>?_)))
 refine gy (j:=0) (cs:=(wh (p8 16 (List.replicate 16 (0:Int))))) (cs':=(wh f.1)) zba rfl rfl (co_A16tIntu16.len _) (co_A16tIntu16.len _) rfl rfl (mh (z5m _)) ?_;refine zh (.bool f.2) (z8 ?_);obtain⟨c,a,k⟩:=zn k
 refine j4 (γ:=Bool) (rs [12,13,14,15,22,34]) (fun g=>[(12,(.bool g))]) (fun g=>[]++A) (fun g R=>c=g∧True) ?_ ?_
 refine zk (zl (y7 (j:=0) (v:=(tu f.1)) zfe zba rfl rfl (co_A16tIntu16.len _) rfl) (zg (vi 0) (z8 (zw (jd (γ:=Nat×Bool×Int) (rs [12,13,14,15,23,34]) (fun g=>[(12,(.bool g.2.1)),(23,(vi g.2.2))]) (fun g=>[]++A) (fun g R=>gp N E t f g.1 g.2.1 g.2.2=some c∧True) (fun g=>g.1) (N,f.2,0) ⟨[box F (wh f.1) 106],(List.Perm.refl _)⟩ ⟨a,trivial⟩ ?_)))))
 clear a;rintro⟨n,d,e⟩ W Y p ⟨a,_⟩;rcases n with _|n;exact qy a;replace a:gp N E t f (n+1) d e=some c:=a;rw [gp] at a;refine zk (zl (j5 rfl rfl) (z8 (zo (zq rfl a (fun a=>?_) (fun a=>?_)))));refine zz (zo (zw (zk ?_)))
 obtain⟨z,a⟩:=ze a
 refine zl (zes (i:=e.toNat) (X:=f.1) underlying106 zkk zms rfl (zi rfl z.1) (Nat.lt_of_lt_of_eq (qc z) f.1.2)) (zh (.int .u16 (ix f.1.1 e)) (z8 (zm (qo (v:=(.bool d)) rfl (za rfl) (qo (v:=(.bool d)) rfl (za rfl) (qa rfl rfl rfl rfl (fun u=>zx (v:=b) (za rfl)) fun Z G=>?_))))))
 refine qa rfl rfl rfl rfl (fun u=>zx (v:=(.int .u16 (ix f.1.1 e))) (za rfl)) fun aa H=>?_;refine qa rfl rfl rfl rfl (fun u=>zx (v:=(vi t)) (za rfl)) fun ab I=>?_;obtain⟨w,K,a⟩:=zn a
 refine iq rfl rfl rfl rfl (fun u=>ww (vs:=[b,(.int .u16 (ix f.1.1 e)),(vi t)]) zmb (z1u (G.1 (zf rfl u)) (z1u (H.1 (zf rfl u)) (z1u (I.1 (zf rfl u)) rfl))) ((by have L:=(mf K (zf rfl u));exact z0j (mr.2 ((mr.1 y).mono ((l.trans o).trans p))) L)) (fun _ _ h=>h)) fun M O B x=>?_
 replace x:phG (true&&(d==true)) (phX (.bool (w.getD default))) M O:=x;refine qo rfl (vg rfl (fun hb=>(x.1 (zf rfl hb))) rfl) (zh (.bool (d&&(w.getD default))) (z8 (zm ?_)));obtain⟨P,a⟩:=ze a;refine zl (jk rfl rfl P) (zg (vi (e+1)) (z8 ?_))
 exact⟨dkt,B,kg,(n,d&&(w.getD default),e+1),Nat.lt_succ_self _,⟨rfl,rfl,trivial⟩,prm,a,trivial⟩;refine je ?_;exact⟨dkt,p,kg,d,⟨rfl,trivial⟩,prm,(Option.some.inj a).symm,trivial⟩;rintro c ad ae C ⟨rfl,_⟩;refine zk (zg (.bool c) (zh (.bool c) (z8 (qh ?_))));obtain rfl:=Option.some.inj k
 refine zy (D:=[]) (J:=[]) (rs:=[.tmp 10]) (vs:=[(.bool c)]) ((l.trans o).trans C) rfl rfl ⟨rfl,trivial⟩ ?_;exact⟨rfl,rfl⟩
theorem zn6:Enters prog 41:=enters_of func41 rfl (by kernel_rfl)
theorem zan{N:Nat}{R:RH}{m:Mach}{C:Value}(I:VRep (jg false false) R C m){r:(Arr 64 Int)}(E:z4l N m=some r):CallP prog 38 #[C] R (fun v R'=>VRep (zlj z0k) R' v r):=by
 refine qd (args:=[C]) func38 rfl rfl fun A=>?_;rw [z4l] at E;refine zk (u7 (T:=(jg false false)) rfl rfl rfl I fun v1 R3 K h5 h2=>?_)
 refine zh (.pointer none) (j3 (zl (jl (ps:=[]) (v:=(z7s (p8 64 (List.replicate 64 (0:Int))))) rfl (fun w=>by kernel_rfl)) (zk9 (cs:=(uy (p8 64 (List.replicate 64 (0:Int))))) rfl rfl rfl fun t=>?_)));refine zh (.pointer (some ⟨t,0,none⟩)) (z8 ?_);obtain⟨M,b,E⟩:=zn E
 refine j4 (γ:=((Arr 64 Int))) (rs [4,9,11,44]) (fun g=>[]) (fun g=>[box t (uy g) 104]++A) (fun g R=>M=g∧True) ?_ ?_
 refine zk (zh (vi 1) (zh (.bool true) (z8 (zw (jd (γ:=Nat×Int×Bool×((Arr 64 Int))) (rs [4,9,11,44]) (fun g=>[(4,(vi g.2.1)),(5,(.bool g.2.2.1))]) (fun g=>[box t (uy g.2.2.2) 104]++A) (fun g R=>eu N m g.1 g.2.1 g.2.2.1 g.2.2.2=some M∧True) (fun g=>g.1) (N,1,true,(p8 64 (List.replicate 64 (0:Int)))) prm ⟨b,trivial⟩ ?_)))))
 clear b;rintro⟨F,c,O,f⟩ ax ay k ⟨b,_⟩;rcases F with _|F;exact qy b;replace b:eu N m (F+1) c O f=some M:=b;rw [eu] at b;refine zo (zk (zg (.bool O) (z8 (zq rfl b (fun b=>?_) (fun b=>?_)))));refine zz ?_;obtain⟨u,d,b⟩:=zn b
 refine j4 (γ:=(Bool×(Arr 64 Int))) (rs [5,9,14,44]) (fun g=>[(5,(.bool g.1))]) (fun g=>[box t (uy g.2) 104]++A) (fun g R=>u=g∧True) ?_ ?_
 refine zw (zk (zh (.bool false) (j3 (zg (.pointer (some ⟨t,0,none⟩)) (zl (za1 rfl) (zl (y7 (j:=0) (v:=(z7s f)) zom zm1 rfl rfl (co_A64tInti64.len _) rfl) (jy rfl zns fun y=>?_)))))))
 refine gy (j:=0) (cs:=(uy (p8 64 (List.replicate 64 (0:Int))))) (cs':=(uy f)) zm1 rfl rfl (co_A64tInti64.len _) (co_A64tInti64.len _) rfl rfl (mh (zda _)) ?_;refine j3 (jb rfl w9 kw rfl (h2.mono k) fun az Z=>?_);refine qg rfl ik rfl Z fun aA aa=>?_
 refine zl (qj rfl underlying28 rfl (jc aa)) ?_;obtain⟨ab,d⟩:=ze d
 refine zl (z3a rfl rfl ab) (zg (.int .u16 0) (z8 (zw (jd (γ:=Nat×Bool×Int×((Arr 64 Int))) (rs [5,6,7,9,21,44]) (fun g=>[(5,(.bool g.2.1)),(21,(.int .u16 g.2.2.1))]) (fun g=>[box t (uy g.2.2.2) 104,box y (uy f) 104]++A) (fun g R=>af N m c f g.1 g.2.1 g.2.2.1 g.2.2.2=some u∧True) (fun g=>g.1) (N,false,0,f) ⟨[],(pk 1 rfl (pk 0 rfl (List.Perm.refl _)))⟩ ⟨d,trivial⟩ ?_))))
 clear d;rintro⟨G,p,e,h⟩ aB aC l ⟨d,_⟩;rcases G with _|G;exact qy d;replace d:af N m c f (G+1) p e h=some u:=d;rw [af] at d;refine zk (zl (j5 rfl rfl) (z8 (zo (zq rfl d (fun d=>?_) (fun d=>?_)))));refine zz ?_;obtain⟨B,a,d⟩:=zn d
 refine j4 (γ:=(Bool×(Arr 64 Int))) (rs [5,6,7,9,23,43]) (fun g=>[(5,(.bool g.1))]) (fun g=>[box t (uy g.2) 104,box y (uy f) 104]++A) (fun g R=>B=g∧True) ?_ ?_;refine zw (zk (zg (.int .u16 e) (zh (.int .u16 e) (z8 (zo (zk (zg (.int .u16 e) (zg (vi c) ?_))))))))
 obtain⟨ac,ad,a⟩:=zn a;refine z8l (cs:=[]) (vs:=[(.pointer (some ⟨y,0,none⟩)),(.int .u16 e),(vi c)]) (φ:=fun v=>v=(.bool ac)) rfl zmb rfl rfl (fun aD av P=>z0j (mr.2 (zcp (zjd 1 rfl P) ((co_A64tInti64.iff _ _ _).2 rfl))) ad) fun aE ag=>?_;obtain rfl:=ag
 refine z8 (zq rfl a (fun a=>?_) (fun a=>?_));refine je ?_;exact⟨dkt,(RH.le.refl _),kg,(p,h),⟨rfl,trivial⟩,prm,(Option.some.inj a).symm,trivial⟩;refine zz (zk (jb rfl z2g ae rfl (h2.mono (k.trans l)) fun aF ah=>?_));refine qg rfl ty3 rfl ah fun aG aj=>?_;obtain rfl:=jo.1 aj
 refine zg (vi 0) (z8 (zw (jd (γ:=Nat×Int) (rs [5,6,8,9,29,43]) (fun g=>[(5,(.bool p)),(29,(vi g.2))]) (fun g=>[box t (uy h) 104,box y (uy f) 104]++A) (fun g R=>ai N m c f p e h g.1 g.2=some B∧True) (fun g=>g.1) (N,0) prm ⟨a,trivial⟩ ?_)));clear a
 rintro⟨H,s⟩ aH aI n ⟨a,_⟩;rcases H with _|H;exact qy a;replace a:ai N m c f p e h (H+1) s=some B:=a;rw [ai] at a;refine zk (zl (j5 rfl rfl) (z8 (zo (zq rfl a (fun a=>?_) (fun a=>?_)))))
 refine zz (zo (zw (zk (zg (vi s) (zh (vi s) (j3 (zl (uj z0b rfl rfl (h5.mono ((k.trans l).trans n)) (I.mono (((K.trans k).trans l).trans n))) (zg (.int .u16 e) (zg (vi s) (zg (vi c) ?_))))))))));obtain⟨ak,al,a⟩:=zn a
 refine z8l (cs:=[]) (vs:=[(.pointer (some ⟨y,0,none⟩)),C,(.int .u16 e),(vi s),(vi c)]) (φ:=fun v=>v=(.bool ak)) rfl zn6 rfl rfl (fun aJ Q S=>z1v (mr.2 (zcp (zjd 1 rfl S) ((co_A64tInti64.iff _ _ _).2 rfl))) ((I.mono (((K.trans k).trans l).trans n)).mono Q) al) fun aK am=>?_
 obtain rfl:=am;refine z8 (zq rfl a (fun a=>?_) (fun a=>?_));refine zk (zg (.pointer (some ⟨t,0,none⟩)) (zg (.int .u16 e) (zg (vi c) (zl (za1 rfl) ?_))));obtain⟨L,a⟩:=ze a
 refine zl (dx (i:=e.toNat) zhm rfl (zi rfl L.1) (Nat.lt_of_lt_of_eq (qc L) h.2)) (z2r (sz:=1) (cl:=(fun x:Int=>[Value.int .i64 x])) (z:=c) (vs:=[(vi c)]) (q:=e) (i:=e.toNat) (o:=0) (j:=0) (X:=h) cells_int.len sz3 rfl rfl (by omega) rfl (Nat.lt_of_lt_of_eq (qc L) h.2) rfl rfl rfl (qb rfl jr) rfl rfl ?_)
 refine j3 (zh (.bool true) (z8 (je ?_)));exact⟨dkt,n,kg,(true,(iw h e c)),⟨rfl,trivial⟩,prm,(Option.some.inj a).symm,trivial⟩;refine zz (zm ?_);obtain⟨an,a⟩:=ze a;refine zl (jk rfl rfl an) (zg (vi (s+1)) (z8 ?_))
 exact⟨dkt,(RH.le.refl _),kg,(H,s+1),Nat.lt_succ_self _,⟨rfl,rfl,trivial⟩,prm,a,trivial⟩;refine je ?_;exact⟨dkt,n,kg,(p,h),⟨rfl,trivial⟩,prm,(Option.some.inj a).symm,trivial⟩;rintro B aL aM U ⟨rfl,_⟩;refine zm (zl (zfw rfl rfl) (zg (.int .u16 (IntKind.u16.wrap (e+1))) (z8 ?_)))
 exact⟨dkt,U,kg,(G,B.1,IntKind.u16.wrap (e+1),B.2),Nat.lt_succ_self _,⟨rfl,rfl,trivial⟩,prm,d,trivial⟩;refine je ?_;exact⟨dkt,l,kg,(p,h),⟨rfl,trivial⟩,⟨[box y (uy f) 104],(pk 1 rfl (pk 0 rfl (List.Perm.refl _)))⟩,(Option.some.inj d).symm,trivial⟩;rintro u aN aO V ⟨rfl,_⟩;refine zm (zg (vi c) ?_)
 obtain⟨ao,b⟩:=ze b;refine zl (jk rfl rfl ao) (zh (vi (c+1)) (z8 ?_));exact⟨dkt,V,kg,(F,c+1,u.1,u.2),Nat.lt_succ_self _,⟨rfl,rfl,trivial⟩,prm,b,trivial⟩;refine je ?_;exact⟨dkt,k,kg,f,trivial,prm,(Option.some.inj b).symm,trivial⟩;rintro M aP R9 W ⟨rfl,_⟩
 refine zk (zg (.pointer (some ⟨t,0,none⟩)) (zh (.pointer (some ⟨t,0,none⟩)) (z8 (zg2 (i:=0) rfl fun ap Y aq=>?_))));have ar:PRep z0k ap (.pointer (some ⟨t,0,none⟩)) M:=zcp aq ((co_A64tInti64.iff _ _ _).2 rfl);refine qh ?_;obtain rfl:=Option.some.inj E
 refine zy (D:=[]) (J:=[]) (rs:=[.tmp 2]) (vs:=[(.pointer (some ⟨t,0,none⟩))]) ((K.trans W).trans Y) rfl rfl ⟨rfl,trivial⟩ ?_;exact⟨rfl,(mr.2 ar)⟩
theorem zpt:Enters prog 38:=enters_of func38 rfl (by kernel_rfl)
theorem zpm: ∀ w,∃ z,(zeroValue 77).run prog w= .ok z w∧z.cells=([.pointer none]:List Value).toArray:=fun w=>⟨(.pointer none),by kernel_rfl,rfl⟩
theorem zpx: ∀ w,(sizeOf 77).run prog w= .ok 1 w:=fun w=>by kernel_rfl
theorem zmn: ∀ w,(isAgg 77).run prog w= .ok false w:=fun w=>by kernel_rfl
theorem zq5: ∀ w,∃ z,(zeroValue 80).run prog w= .ok z w∧z.cells=([.nilFunc]:List Value).toArray:=fun w=>⟨.nilFunc,by kernel_rfl,rfl⟩
theorem zp8: ∀ w,(sizeOf 80).run prog w= .ok 1 w:=fun w=>by kernel_rfl
theorem znv: ∀ w,(isAgg 80).run prog w= .ok false w:=fun w=>by kernel_rfl
theorem gz:FieldOk prog 45 0 0:=by
 obtain⟨i,hi,a⟩: ∃ i,prog.info? 43=some i∧i.size=1:=uu (by kernel_rfl);exact pq underlying45 rfl rfl hi (by rw [a];rfl)
theorem zji: ∀ w,(isAgg 43).run prog w= .ok false w:=fun w=>by kernel_rfl
theorem zm8:ZeroOk prog 55 rSprobes_Node.H ((0:Int),(0:Int),.slice none 0 0) 40:=by
 obtain⟨i,zv,hi,a,c,d,f⟩:=rf (P:=prog) (e:=55) (zv:=(.agg #[(vi 0),(vi 0),vs0])) (k:=3) (b:=40) (by kernel_rfl);exact⟨i,zv,hi,a,c,d,fun R=>by subst f;exact⟨_,_,rfl,rfl,⟨_,_,rfl,rfl,⟨rfl,rfl⟩⟩⟩⟩
theorem zo6: ∀ w,(sizeOf 43).run prog w= .ok 1 w:=fun w=>by kernel_rfl
theorem zo7:TyOk prog 55 rSprobes_Node.H:=by
 obtain⟨i,hi,a⟩: ∃ i,prog.info? 55=some i∧i.size=3:=uu (by kernel_rfl);exact l5 underlying55 hi rfl a
theorem zlv:SlOk prog 43 55 rSprobes_Node.H:=⟨underlying43,zo7⟩
theorem z7r:FieldOk prog 55 1 1:=by
 obtain⟨i,hi,a⟩: ∃ i,prog.info? 3=some i∧i.size=1:=uu (by kernel_rfl);exact pq underlying55 rfl rfl hi (by rw [a];rfl)
theorem z5k:FieldOk prog 55 0 0:=by
 obtain⟨i,hi,a⟩: ∃ i,prog.info? 3=some i∧i.size=1:=uu (by kernel_rfl);exact pq underlying55 rfl rfl hi (by rw [a];rfl)
theorem znf:Enters prog 40:=enters_of func40 rfl (by kernel_rfl)
theorem z88{N:Nat}(F:Nat): ∀ {R:RH} {now:(List Int)} {S:Value} (ac:VRep (tSl false (qm .i64)) R S now) {p:(List Int)} {E:Value} (ai:VRep (tSl false (qm .i64)) R E p) {b:Nat} {p0_:List Sa} {ad:Value} {fG:Frag} {aG:List Value} (ae:NS rSprobes_Node aG R fG ad p0_) {p1_:Mach} {k:Value} (af:PRep (jg false false) R k p1_) {a:Nat} {p2_:(Arr 64 Int)} {f:Value} (aj:PRep z0k R f p2_) {d:Nat} {r:Int×List Sa} (x:ol N F now p p0_ p1_ p2_=some r),CallG prog 40 #[S,E,(.pointer (some ⟨b,0,none⟩)),k,(.pointer (some ⟨a,0,none⟩)),(.pointer (some ⟨d,0,none⟩))] R [box b [ad] 45,fG,box a [f] 77,box d [.func (.func 40) #[] #[(.pointer (some ⟨b,0,none⟩)),k,(.pointer (some ⟨a,0,none⟩)),(.pointer (some ⟨d,0,none⟩))]] 80] (fun v R' O'=> ∃ aT aU,v=(vi r.1)∧O'=[box b [aT] 45,aU,box a [f] 77,box d [.func (.func 40) #[] #[(.pointer (some ⟨b,0,none⟩)),k,(.pointer (some ⟨a,0,none⟩)),(.pointer (some ⟨d,0,none⟩))]] 80]∧NS rSprobes_Node aG R' aU aT r.2):=by
  induction F with
  |zero=>intros;rename_i x;exact qy x
  |succ F ih=>
    intro R now S ac p E ai b p0_ ad fG aG ae p1_ k af a p2_ f aj d r x
    refine z1p (args:=[S,E,(.pointer (some ⟨b,0,none⟩)),k,(.pointer (some ⟨a,0,none⟩)),(.pointer (some ⟨d,0,none⟩))]) func40 rfl rfl fun A=>?_
    rw [ol] at x
    obtain⟨aV,be,ae⟩:=ae
    refine zo ?_
    refine zm ?_
    refine zh (vi 0) ?_
    refine z8 ?_
    refine zo ?_
    refine zm ?_
    refine zl (qp gz rfl) ?_
    refine zl (qi (i:=0) zji rfl rfl rfl) ?_
    refine fe rfl (qf (zif rfl underlying43 rfl ae)) fun v1 R3 G h2=>?_
    obtain rfl:=Eq.symm h2
    refine zh (vi (↑p0_.length:Int)) ?_
    refine z8 ?_
    refine zo ?_
    refine zm ?_
    refine jb rfl z7h z3j rfl (af.mono G) fun v5 h6=>?_
    refine qg rfl ty3 rfl h6 fun v7 h8=>?_
    obtain rfl:=jo.1 h8
    obtain⟨bf,x⟩:=ze x
    refine z5e (T:=(qm .i64)) (m:=p1_.outputs.toNat) (c:=p1_.outputs.toNat) rfl underlying32 zo3 (zi rfl bf.1) (zi rfl bf.1) (Nat.le_refl _) (zbc bf) (zb5 bf) fun v9 dq bK bX=>?_
    refine zh v9 ?_
    refine z8 ?_
    obtain⟨U,e,x⟩:=zn x
    refine j4 (γ:=(List Int)×Frag) (rs [11,12,27,36]) (fun g=>[]) (fun g=>[box b [ad] 45,fG,box a [f] 77,box d [(.func (.func 40) #[] #[(.pointer (some ⟨b,0,none⟩)),k,(.pointer (some ⟨a,0,none⟩)),(.pointer (some ⟨d,0,none⟩))])] 80,g.2]++A) (fun g R=>U=g.1∧ORep (qm .i64) R g.2 v9 g.1∧capOf v9=g.1.length∧True) ?_ ?_
    · refine zo ?_
      refine zm ?_
      refine zg v9 ?_
      refine zl (lw rfl underlying32 rfl bX) ?_
      refine zg (vi 0) ?_
      refine z8 ?_
      refine zw ?_
      refine jd (γ:=Nat×Int×(List Int)×Frag) (rs [11,12,29,36]) (fun g=>[(29,(vi g.2.1))]) (fun g=>[box b [ad] 45,fG,box a [f] 77,box d [(.func (.func 40) #[] #[(.pointer (some ⟨b,0,none⟩)),k,(.pointer (some ⟨a,0,none⟩)),(.pointer (some ⟨d,0,none⟩))])] 80,g.2.2.2]++A) (fun g R=>aa N p1_ g.1 g.2.1 g.2.2.1=some U∧ORep (qm .i64) R g.2.2.2 v9 g.2.2.1∧capOf v9=g.2.2.1.length∧True) (fun g=>g.1) (N,0,(mk p1_.outputs (0:Int)),dq) ⟨[],(pk 1 rfl (pk 1 rfl (pk 1 rfl (pk 1 rfl (pk 0 rfl (List.Perm.refl _))))))⟩ ⟨e,bX,(bK.trans List.length_replicate.symm),trivial⟩ ?_
      clear e
      rintro⟨bh,aA,bL,dr⟩ fj fk bY ⟨e,bM,bn,_⟩
      rcases bh with _|bh
      · exact qy e
      replace e:aa N p1_ (bh+1) aA bL=some U:=e;rw [aa] at e
      refine zo ?_
      refine zm ?_
      refine zl (j5 rfl rfl) ?_
      refine z8 ?_
      refine zo ?_
      refine zq rfl e (fun e=>?_) (fun e=>?_)
      · refine zz ?_
        refine zo ?_
        refine zw ?_
        refine zo ?_
        refine zm ?_
        refine zg (vi aA) ?_
        refine zh (vi aA) ?_
        refine z8 ?_
        refine zm ?_
        refine zg v9 ?_
        refine zg (vi aA) ?_
        obtain⟨bN,e⟩:=ze e
        refine z05 (i:=aA.toNat) rfl z0f rfl bM (zi rfl bN.1) (qc bN) fun fl ds=>?_
        refine z4b (i:=aA.toNat) (j:=4) ty3 bM rfl rfl ds (qc bN) rfl (jo.2 rfl) fun dt du=>?_
        refine z8 ?_
        refine zm ?_
        obtain⟨dv,e⟩:=ze e
        refine zl (jk rfl rfl dv) ?_
        refine zg (vi (aA+1)) ?_
        refine z8 ?_
        exact⟨dkt,(RH.le.refl _),kg,(bh,aA+1,(up bL aA (-1)),dt),Nat.lt_succ_self _,⟨rfl,trivial⟩,prm,e,du,(bn.trans List.length_set.symm),trivial⟩
      · refine je ?_
        exact⟨dkt,bY,kg,(bL,dr),trivial,prm,(Option.some.inj e).symm,bM,bn,trivial⟩
    · rintro⟨U,dw⟩ fm fn s ⟨rfl,bO,dX,_⟩
      refine zo ?_
      refine zm ?_
      refine zl (qp gz rfl) ?_
      refine zl (qi (i:=0) zji rfl rfl rfl) ?_
      refine zg v9 ?_
      refine zl (z0m [(0,(vi (-1))),(1,(vi (-1))),(2,(.agg #[v9]))] (ps:=[(0,(vi (-1))),(1,(vi (-1))),(2,v9)]) (v:=(.agg #[(vi (-1)),(vi (-1)),v9])) rfl (by simp only [List.map_cons,List.map_nil,xm bO];rfl) (fun w=>by kernel_rfl)) ?_
      refine zi8 (K:=rSprobes_Node) (nx:=(((-1):Int),((-1):Int),v9)) (cs:=[(vi (-1)),(vi (-1)),v9]) (u:=(.agg #[(vi (-1)),(vi (-1)),v9])) rfl underlying43 zm8 rfl rfl ⟨_,_,rfl,rfl,⟨_,_,rfl,rfl,⟨rfl,nu bO⟩⟩⟩ rfl fun fo fp o dx=>?_
      obtain⟨bZ,x⟩:=ze x
      refine zeg (Oc:=[fG,dw]) (Or:=[box b [ad] 45,box a [f] 77,box d [(.func (.func 40) #[] #[(.pointer (some ⟨b,0,none⟩)),k,(.pointer (some ⟨a,0,none⟩)),(.pointer (some ⟨d,0,none⟩))])] 80]++A) rfl (pk 1 rfl (pk 3 rfl (pk 0 rfl (pk 0 rfl (pk 0 rfl (List.Perm.refl _)))))) (zea (K:=rSprobes_Node) (nx:=(⟨(-1),(-1),U⟩:Sa)) underlying43 zm8 rfl rfl (ae.mono ((G.trans s).trans o)) (bO.mono o) dx bZ.1 bZ.2) ?_
      rintro ak fq dY dZ ⟨rfl,aS,rfl,aH⟩
      obtain⟨bi,aW⟩: ∃ V,V=aV++[v9]:=⟨_,rfl⟩;rw [←aW] at aH
      have au:bi[p0_.length]? =some v9:=by rw [aW];exact zll (zg8 (ae.mono ((G.trans s).trans o)))
      have aX:=(List.prefix_rfl.trans be).trans (List.prefix_append aV [v9]);rw [←aW] at aX
      refine zl (qp gz rfl) ?_
      refine ko (i:=1) (vs:=[ak]) zo6 rfl rfl (zkb aH) rfl rfl rfl (qb (zn5 aH) jr) ?_
      refine z8 ?_
      refine zo ?_
      refine zo ?_
      refine zm ?_
      refine zg S ?_
      refine zl (qj rfl underlying32 rfl (jc (ac.mono ((G.trans s).trans o)))) ?_
      refine zl (uq rfl rfl) ?_
      refine z8 ?_
      refine zq rfl x (fun x=>?_) (fun x=>?_)
      · refine zo ?_
        refine z1w 8 mixed (by kernel_rfl) (by kernel_rfl) ?_
        refine vk (v:=(.pointer (some ⟨b,0,none⟩))) (qp gz rfl) ?_
        refine vk (v:=ak) (qi (i:=1) zji rfl rfl rfl) ?_
        refine vk (v:=(vi (↑p0_.length:Int))) (za rfl) ?_
        refine vk (v:=E) (za rfl) ?_
        obtain⟨b0,x⟩:=ze x
        refine z3e (df (i:=(0:Int).toNat) z0f rfl (jc (ai.mono ((G.trans s).trans o))) (zi rfl b0.1) (qc b0)) fun fr dy=>?_
        refine vk (vv (jq ty3 rfl dy)) ?_
        obtain⟨bP,x⟩:=ze x
        refine z3e (zgv (i:=(↑p0_.length:Int).toNat) zlv rfl aH (zi rfl bP.1) (qc bP)) fun fs dz=>?_
        refine z3e (zi6 z7r rfl dz) fun dA dB=>?_
        intro ft bo
        refine z7l (Oc:=[aS]) (Or:=[box b [ak] 45,box a [f] 77,box d [(.func (.func 40) #[] #[(.pointer (some ⟨b,0,none⟩)),k,(.pointer (some ⟨a,0,none⟩)),(.pointer (some ⟨d,0,none⟩))])] 80]++A) (List.Perm.refl _) (zaj (K:=rSprobes_Node) (i:=(↑p0_.length:Int).toNat) (u:=dA) (nx:=(⟨(ix (p0_++[(⟨(-1),(-1),U⟩:Sa)]) (↑p0_.length:Int)).fB,(ix p 0),(ix (p0_++[(⟨(-1),(-1),U⟩:Sa)]) (↑p0_.length:Int)).fC⟩:Sa)) (zkl zkt) ty3 (aH.mono bo) rfl dB (qc bP) rfl (jo.2 rfl) rfl (fun _=>rfl)) ?_
        rintro fu fv d5 d6 ⟨rfl,b1,rfl,dC⟩
        refine z8 ?_
        refine zo ?_
        refine zm ?_
        refine zg (vi (↑p0_.length:Int)) ?_
        refine zh (vi (↑p0_.length:Int)) ?_
        refine z8 ?_
        refine qh ?_
        obtain rfl:=Option.some.inj x
        refine z07 (D:=[]) (J:=[]) (O':=[box b [ak] 45,b1,box a [f] 77,box d [(.func (.func 40) #[] #[(.pointer (some ⟨b,0,none⟩)),k,(.pointer (some ⟨a,0,none⟩)),(.pointer (some ⟨d,0,none⟩))])] 80]) (rs:=[.tmp 8]) (vs:=[(vi (↑p0_.length:Int))]) (((G.trans s).trans o).trans bo) ((pk 1 rfl (pk 0 rfl (pk 0 rfl (pk 0 rfl (List.Perm.refl _)))))) rfl ⟨rfl,trivial⟩ ?_
        exact⟨ak,b1,rfl,rfl,(z9l (aX.trans List.prefix_rfl) dC)⟩
      · refine zz ?_
        refine zo ?_
        refine zm ?_
        refine zh (.int .u16 0) ?_
        refine z8 ?_
        obtain⟨O,e,x⟩:=zn x
        refine j4 (γ:=Int) (rs [12,13,14,15,55,66]) (fun g=>[(12,(.int .u16 g))]) (fun g=>[box b [ak] 45,aS,box a [f] 77,box d [(.func (.func 40) #[] #[(.pointer (some ⟨b,0,none⟩)),k,(.pointer (some ⟨a,0,none⟩)),(.pointer (some ⟨d,0,none⟩))])] 80]++A) (fun g R=>O=g∧True) ?_ ?_
        · refine zo ?_
          refine zm ?_
          refine zg S ?_
          refine zl (qj rfl underlying32 rfl (jc (ac.mono ((G.trans s).trans o)))) ?_
          refine zg (vi 0) ?_
          refine z8 ?_
          refine zw ?_
          refine jd (γ:=Nat×Int×Int) (rs [12,13,14,15,57,66]) (fun g=>[(12,(.int .u16 g.2.1)),(57,(vi g.2.2))]) (fun g=>[box b [ak] 45,aS,box a [f] 77,box d [(.func (.func 40) #[] #[(.pointer (some ⟨b,0,none⟩)),k,(.pointer (some ⟨a,0,none⟩)),(.pointer (some ⟨d,0,none⟩))])] 80]++A) (fun g R=>ay N now g.1 g.2.1 g.2.2=some O∧True) (fun g=>g.1) (N,0,0) ⟨[],(pk 1 rfl (pk 0 rfl (pk 0 rfl (pk 0 rfl (List.Perm.refl _)))))⟩ ⟨e,trivial⟩ ?_
          clear e
          rintro⟨bj,aY,aC⟩ d7 fw bp ⟨e,_⟩
          rcases bj with _|bj
          · exact qy e
          replace e:ay N now (bj+1) aY aC=some O:=e;rw [ay] at e
          refine zo ?_
          refine zm ?_
          refine zl (j5 rfl rfl) ?_
          refine z8 ?_
          refine zo ?_
          refine zq rfl e (fun e=>?_) (fun e=>?_)
          · refine zz ?_
            refine zo ?_
            refine zw ?_
            refine zo ?_
            refine zm ?_
            obtain⟨b2,e⟩:=ze e
            refine ku (i:=aC.toNat) rfl z0f rfl (jc (ac.mono (((G.trans s).trans o).trans bp))) (zi rfl b2.1) (qc b2) fun fx dD=>?_
            refine qg rfl ty3 rfl dD fun fy dE=>?_
            obtain rfl:=jo.1 dE
            refine zh (vi (ix now aC)) ?_
            refine z8 ?_
            refine zm ?_
            refine zg (.int .u16 aY) ?_
            refine zg (vi (ix now aC)) ?_
            obtain⟨b3,e⟩:=ze e
            refine zl (z3a rfl rfl b3) ?_
            obtain⟨b4,e⟩:=ze e
            refine zl (za9 rfl rfl b4) ?_
            refine zh (.int .u16 (ior aY (si .u16 (1:Int) (ix now aC)))) ?_
            refine z8 ?_
            refine zm ?_
            obtain⟨b5,e⟩:=ze e
            refine zl (jk rfl rfl b5) ?_
            refine zg (vi (aC+1)) ?_
            refine z8 ?_
            exact⟨dkt,(RH.le.refl _),kg,(bj,ior aY (si .u16 (1:Int) (ix now aC)),aC+1),Nat.lt_succ_self _,⟨rfl,rfl,trivial⟩,prm,e,trivial⟩
          · refine je ?_
            exact⟨dkt,bp,kg,aY,⟨rfl,trivial⟩,prm,(Option.some.inj e).symm,trivial⟩
        · rintro O d8 fz y ⟨rfl,_⟩
          refine zo ?_
          refine zm ?_
          refine zh (vi 0) ?_
          refine z8 ?_
          obtain⟨t,e,x⟩:=zn x
          refine j4 (γ:=Int) (rs [15,16,66,79]) (fun g=>[(15,(vi g))]) (fun g=>[box b [ak] 45,aS,box d [(.func (.func 40) #[] #[(.pointer (some ⟨b,0,none⟩)),k,(.pointer (some ⟨a,0,none⟩)),(.pointer (some ⟨d,0,none⟩))])] 80,box a [f] 77]++A) (fun g R=>t=g∧True) ?_ ?_
          · refine zw ?_
            refine jd (γ:=Nat×Int) (rs [15,16,66,79]) (fun g=>[(15,(vi g.2))]) (fun g=>[box b [ak] 45,aS,box a [f] 77,box d [(.func (.func 40) #[] #[(.pointer (some ⟨b,0,none⟩)),k,(.pointer (some ⟨a,0,none⟩)),(.pointer (some ⟨d,0,none⟩))])] 80]++A) (fun g R=>ah N p1_ p2_ O g.1 g.2=some t∧True) (fun g=>g.1) (N,0) prm ⟨e,trivial⟩ ?_
            clear e
            rintro⟨aL,W⟩ d9 ea al ⟨e,_⟩
            rcases aL with _|aL
            · exact qy e
            replace e:ah N p1_ p2_ O (aL+1) W=some t:=e;rw [ah] at e
            refine zo ?_
            refine zo ?_
            obtain⟨b6,e⟩:=ze e
            obtain⟨bq,b7,e⟩:=zn e
            refine ni 11 [] [phX f,phR (jg false false) p1_,phX (.int .u16 O),phX (vi W),phX f,phX (.int .u16 O),phX f,phP (qm .i64) (ix p2_.1 O),phX (vi (ix p2_.1 O)),phX (.bool bq),phX (.bool (!bq))] mixed (by kernel_rfl) (bu ⟨q8,yc,q8,q8,q8,q8,q8,ut,q8,q8,q8,trivial⟩) ⟨?_,?_,?_,?_,?_,?_,?_,?_,?_,?_,?_,trivial⟩ fun eb aZ=>?_
            · intro l fA Z ha hd
              have a4:l 4=(.pointer (some ⟨a,0,none⟩)):=ha 4 rfl
              exact zb rfl rfl rfl (qf (qi (i:=2) zmn a4 rfl rfl))
            · intro l fE Z ha hd
              have a3:l 3=k:=ha 3 rfl
              exact zb rfl rfl rfl (kv z0b a3 ((af.mono ((((G.trans s).trans o).trans y).trans al)).mono Z))
            · intro l fH Z ha hd
              have bQ:l 12=(.int .u16 O):=ha 12 rfl
              exact zb rfl rfl rfl (qf (za bQ))
            · intro l fI Z ha hd
              have dG:l 15=(vi W):=ha 15 rfl
              exact zb rfl rfl rfl (qf (za dG))
            · intro l fJ Z ha hd
              have a4:l 4=(.pointer (some ⟨a,0,none⟩)):=ha 4 rfl
              exact zb rfl rfl rfl (qf (qi (i:=2) zmn a4 rfl rfl))
            · intro l fK Z ha hd
              have bQ:l 12=(.int .u16 O):=ha 12 rfl
              exact zb rfl rfl rfl (qf (za bQ))
            · rintro l fL Z ha ⟨d0,_⟩
              have dH:=d0 rfl
              exact zb rfl rfl rfl (qf (z5n dH ((aj.mono ((((G.trans s).trans o).trans y).trans al)).mono Z)))
            · rintro l fM Z ha ⟨d0,d1,_⟩
              have dJ:=d0 rfl
              have dK:=d1 rfl
              exact zb rfl rfl rfl (zbp (X:=p2_) (q:=O) zhm rfl dJ ((aj.mono ((((G.trans s).trans o).trans y).trans al)).mono Z) dK b6)
            · rintro l fN Z ha ⟨d0,_⟩
              have dL:=d0 rfl
              exact zb rfl rfl rfl (yh (kv ty3 rfl dL) (fun _ _ h=>jo.1 h))
            · rintro l fO Z ha ⟨d0,d1,d2,d3,d4,_⟩
              have dM:l 66=f:=d0 rfl
              have dN:=d1 rfl
              have dO:l 68=(.int .u16 O):=d2 rfl
              have dP:l 69=(vi W):=d3 rfl
              have dQ:l 74=(vi (ix p2_.1 O)):=d4 rfl
              exact zb rfl rfl rfl (ww (vs:=[f,(l 67),(.int .u16 O),(vi W),(vi (ix p2_.1 O))]) zn6 (by simp only [List.map,ev,dM,dO,dP,dQ]<;>rfl) (z1v (mr.2 ((aj.mono ((((G.trans s).trans o).trans y).trans al)).mono Z)) dN b7) (fun _ _ h=>h))
            · rintro l ec Z ha ⟨d0,_⟩
              have dR:=d0 rfl
              exact zb rfl rfl rfl (qf (bz dR))
            intro ed b9
            intro ee ef
            intro eg ca
            intro eh cb
            intro ei cc
            intro ej cd
            intro ek ce
            intro el em
            intro en cf
            intro eo cg
            intro ep ch
            obtain rfl:=Eq.symm b9
            obtain rfl:=Eq.symm ca
            obtain rfl:=Eq.symm cb
            obtain rfl:=Eq.symm cc
            obtain rfl:=Eq.symm cd
            obtain rfl:=Eq.symm ce
            obtain rfl:=Eq.symm cf
            obtain rfl:=Eq.symm cg
            obtain rfl:=Eq.symm ch
            refine z8 ?_
            refine zq rfl e (fun e=>?_) (fun e=>?_)
            · refine zz ?_
              refine zw ?_
              refine zm ?_
              refine zg (vi W) ?_
              obtain⟨ci,e⟩:=ze e
              refine zl (jk rfl rfl ci) ?_
              refine zh (vi (W+1)) ?_
              refine z8 ?_
              exact⟨dkt,aZ,kg,(aL,W+1),Nat.lt_succ_self _,⟨rfl,trivial⟩,prm,e,trivial⟩
            · refine je ?_
              exact⟨dkt,(al.trans aZ),kg,W,⟨rfl,trivial⟩,⟨[],(pk 0 rfl (pk 0 rfl (pk 1 rfl (pk 0 rfl (List.Perm.refl _)))))⟩,(Option.some.inj e).symm,trivial⟩
          · rintro t eq er z ⟨rfl,_⟩
            refine zo ?_
            refine zm ?_
            refine zl (qp gz rfl) ?_
            refine zl (qi (i:=0) zji rfl rfl rfl) ?_
            refine zg (vi (↑p0_.length:Int)) ?_
            refine zg (vi t) ?_
            obtain⟨a0,x⟩:=ze x
            refine fe rfl (zh7 (i:=(↑p0_.length:Int).toNat) zlv rfl (aH.mono (y.trans z)) (zi rfl a0.1) (qc a0)) fun es et I cj=>?_
            refine fe rfl (zax z5k rfl cj) fun ck eu L cl=>?_
            refine z7l (Oc:=[aS]) (Or:=[box b [ak] 45,box d [(.func (.func 40) #[] #[(.pointer (some ⟨b,0,none⟩)),k,(.pointer (some ⟨a,0,none⟩)),(.pointer (some ⟨d,0,none⟩))])] 80,box a [f] 77]++A) (pk 1 rfl (pk 0 rfl (pk 0 rfl (pk 0 rfl (List.Perm.refl _))))) (zaj (K:=rSprobes_Node) (i:=(↑p0_.length:Int).toNat) (u:=ck) (nx:=(⟨t,(ix (p0_++[(⟨(-1),(-1),U⟩:Sa)]) (↑p0_.length:Int)).fD,(ix (p0_++[(⟨(-1),(-1),U⟩:Sa)]) (↑p0_.length:Int)).fC⟩:Sa)) zkt ty3 (aH.mono (((y.trans z).trans I).trans L)) rfl cl (qc a0) rfl (jo.2 rfl) rfl (fun _=>rfl)) ?_
            rintro ew ex dS dT ⟨rfl,cm,rfl,a1⟩
            refine z8 ?_
            obtain⟨aM,e,x⟩:=zn x
            refine j4 (γ:=(List Sa)×Value×Frag) (rs [16,21,85,139]) (fun g=>[]) (fun g=>[box b [g.2.1] 45,g.2.2,box a [f] 77,box d [(.func (.func 40) #[] #[(.pointer (some ⟨b,0,none⟩)),k,(.pointer (some ⟨a,0,none⟩)),(.pointer (some ⟨d,0,none⟩))])] 80]++A) (fun g R=>aM=g.1∧NS rSprobes_Node bi R g.2.2 g.2.1 g.1∧True) ?_ ?_
            · refine zo ?_
              refine zm ?_
              refine zg v9 ?_
              refine fe rfl (qf (zg6 (K:=rSprobes_Node) (r:=p0_.length) rfl underlying32 a1 (zgg List.prefix_rfl au a1) (zge List.prefix_rfl au) rfl)) fun ey ez M cn=>?_
              obtain rfl:=Eq.symm cn
              refine zg (vi 0) ?_
              refine z8 ?_
              refine zw ?_
              refine jd (γ:=Nat×Int×(List Sa)×Value×Frag) (rs [16,21,87,139]) (fun g=>[(87,(vi g.2.1))]) (fun g=>[box d [(.func (.func 40) #[] #[(.pointer (some ⟨b,0,none⟩)),k,(.pointer (some ⟨a,0,none⟩)),(.pointer (some ⟨d,0,none⟩))])] 80,box b [g.2.2.2.1] 45,g.2.2.2.2,box a [f] 77]++A) (fun g R=>ig N (ol N F) now p p0_ p1_ p2_ U t g.1 g.2.1 g.2.2.1=some aM∧NS rSprobes_Node bi R g.2.2.2.2 g.2.2.2.1 g.2.2.1∧True) (fun g=>g.1) (N,0,(up (p0_++[(⟨(-1),(-1),U⟩:Sa)]) (↑p0_.length:Int) (⟨t,(ix (p0_++[(⟨(-1),(-1),U⟩:Sa)]) (↑p0_.length:Int)).fD,(ix (p0_++[(⟨(-1),(-1),U⟩:Sa)]) (↑p0_.length:Int)).fC⟩:Sa)),ak,cm) ⟨[],(pk 2 rfl (pk 1 rfl (pk 0 rfl (pk 0 rfl (List.Perm.refl _)))))⟩ ⟨e,(z9l List.prefix_rfl (a1.mono M)),trivial⟩ ?_
              clear e
              rintro⟨aN,H,a2,aw,ax⟩ eA eB P ⟨e,⟨eC,aI,a5⟩,_⟩
              rcases aN with _|aN
              · exact qy e
              replace e:ig N (ol N F) now p p0_ p1_ p2_ U t (aN+1) H a2=some aM:=e;rw [ig] at e
              refine zo ?_
              refine zm ?_
              refine zl (j5 rfl rfl) ?_
              refine z8 ?_
              refine zo ?_
              refine zq rfl e (fun e=>?_) (fun e=>?_)
              · refine zz ?_
                obtain⟨a6,am,e⟩:=zn e
                refine j4 (γ:=(List Sa)×Value×Frag) (rs [16,21,89,138]) (fun g=>[]) (fun g=>[box d [(.func (.func 40) #[] #[(.pointer (some ⟨b,0,none⟩)),k,(.pointer (some ⟨a,0,none⟩)),(.pointer (some ⟨d,0,none⟩))])] 80,box b [g.2.1] 45,g.2.2,box a [f] 77]++A) (fun g R=>a6=g.1∧NS rSprobes_Node bi R g.2.2 g.2.1 g.1∧True) ?_ ?_
                · refine zw ?_
                  refine zo ?_
                  refine zm ?_
                  refine zg (vi H) ?_
                  refine zh (vi H) ?_
                  refine z8 ?_
                  refine zo ?_
                  refine zm ?_
                  refine zh vs0 ?_
                  refine zh vs0 ?_
                  refine z8 ?_
                  obtain⟨az,Q,am⟩:=zn am
                  refine j4 (γ:=(List Int×List Int)×Value×Frag×Value×Frag) (rs [17,21,90,128]) (fun g=>[(17,g.2.1),(18,g.2.2.2.1)]) (fun g=>[box d [(.func (.func 40) #[] #[(.pointer (some ⟨b,0,none⟩)),k,(.pointer (some ⟨a,0,none⟩)),(.pointer (some ⟨d,0,none⟩))])] 80,box b [aw] 45,ax,box a [f] 77,g.2.2.1,g.2.2.2.2]++A) (fun g R=>az=g.1∧ORep (qm .i64) R g.2.2.1 g.2.1 g.1.1∧ORep (qm .i64) R g.2.2.2.2 g.2.2.2.1 g.1.2∧True) ?_ ?_
                  · refine zo ?_
                    refine zm ?_
                    refine zg S ?_
                    refine zl (qj rfl underlying32 rfl (jc (ac.mono ((((((((G.trans s).trans o).trans y).trans z).trans I).trans L).trans M).trans P)))) ?_
                    refine zg (vi 0) ?_
                    refine z8 ?_
                    refine zw ?_
                    refine z6w ?_
                    refine z6w ?_
                    refine jd (γ:=Nat×(List Int)×(List Int)×Int×Value×Frag×Value×Frag) (rs [17,21,92,128]) (fun g=>[(17,g.2.2.2.2.1),(18,g.2.2.2.2.2.2.1),(92,(vi g.2.2.2.1))]) (fun g=>[box d [(.func (.func 40) #[] #[(.pointer (some ⟨b,0,none⟩)),k,(.pointer (some ⟨a,0,none⟩)),(.pointer (some ⟨d,0,none⟩))])] 80,box b [aw] 45,ax,box a [f] 77,g.2.2.2.2.2.1,g.2.2.2.2.2.2.2]++A) (fun g R=>av N now p p1_ t H g.1 g.2.1 g.2.2.1 g.2.2.2.1=some az∧ORep (qm .i64) R g.2.2.2.2.2.1 g.2.2.2.2.1 g.2.1∧ORep (qm .i64) R g.2.2.2.2.2.2.2 g.2.2.2.2.2.2.1 g.2.2.1∧True) (fun g=>g.1) (N,[],[],0,vs0,emp,vs0,emp) ⟨[],(pk 2 rfl (pk 2 rfl (pk 2 rfl (pk 2 rfl (pk 1 rfl (pk 0 rfl (List.Perm.refl _)))))))⟩ ⟨Q,(z6d (T:=(qm .i64))),(z6d (T:=(qm .i64))),trivial⟩ ?_
                    clear Q
                    rintro⟨aO,aD,aE,n,a7,br,a8,bs⟩ eD eE an ⟨Q,a9,ba,_⟩
                    rcases aO with _|aO
                    · exact qy Q
                    replace Q:av N now p p1_ t H (aO+1) aD aE n=some az:=Q;rw [av] at Q
                    refine zo ?_
                    refine zm ?_
                    refine zl (j5 rfl rfl) ?_
                    refine z8 ?_
                    refine zo ?_
                    refine zq rfl Q (fun Q=>?_) (fun Q=>?_)
                    · refine zz ?_
                      obtain⟨aP,C,Q⟩:=zn Q
                      refine j4 (γ:=(List Int×List Int)×Value×Frag×Value×Frag) (rs [17,21,94,127]) (fun g=>[(17,g.2.1),(18,g.2.2.2.1)]) (fun g=>[box d [(.func (.func 40) #[] #[(.pointer (some ⟨b,0,none⟩)),k,(.pointer (some ⟨a,0,none⟩)),(.pointer (some ⟨d,0,none⟩))])] 80,box b [aw] 45,ax,box a [f] 77,g.2.2.1,g.2.2.2.2]++A) (fun g R=>aP=g.1∧ORep (qm .i64) R g.2.2.1 g.2.1 g.1.1∧ORep (qm .i64) R g.2.2.2.2 g.2.2.2.1 g.1.2∧True) ?_ ?_
                      · refine zw ?_
                        refine zo ?_
                        refine zm ?_
                        refine zg (vi n) ?_
                        obtain⟨bt,C⟩:=ze C
                        refine ku (i:=n.toNat) rfl z0f rfl (jc (ac.mono (((((((((G.trans s).trans o).trans y).trans z).trans I).trans L).trans M).trans P).trans an))) (zi rfl bt.1) (qc bt) fun eF co=>?_
                        refine qg rfl ty3 rfl co fun eG cp=>?_
                        obtain rfl:=jo.1 cp
                        refine zh (vi n) ?_
                        refine zh (vi (ix now n)) ?_
                        refine z8 ?_
                        refine zo ?_
                        refine zm ?_
                        refine jb rfl w9 kw rfl (af.mono (((((((((G.trans s).trans o).trans y).trans z).trans I).trans L).trans M).trans P).trans an)) fun eH cq=>?_
                        refine qg rfl ik rfl cq fun eI cr=>?_
                        refine zg (vi (ix now n)) ?_
                        obtain⟨bv,C⟩:=ze C
                        refine ku (i:=(ix now n).toNat) rfl z7p rfl (jc cr) (zi rfl bv.1) (qc bv) fun eJ ct=>?_
                        refine qg rfl z7d rfl ct fun eK cu=>?_
                        refine zg (vi t) ?_
                        obtain⟨bw,C⟩:=ze C
                        refine ku (i:=t.toNat) rfl z8n rfl (jc cu) (zi rfl bw.1) (qc bw) fun eL cv=>?_
                        refine jb rfl z1i zcy rfl cv fun eM cw=>?_
                        refine qg rfl ty3 rfl cw fun eN cx=>?_
                        obtain rfl:=jo.1 cx
                        refine zg (vi H) ?_
                        refine zl (uq rfl rfl) ?_
                        refine z8 ?_
                        refine zq rfl C (fun C=>?_) (fun C=>?_)
                        · refine zo ?_
                          refine zm ?_
                          refine zg a7 ?_
                          refine jb rfl w9 kw rfl (af.mono (((((((((G.trans s).trans o).trans y).trans z).trans I).trans L).trans M).trans P).trans an)) fun eO cy=>?_
                          refine qg rfl ik rfl cy fun eP cz=>?_
                          refine zg (vi (ix now n)) ?_
                          obtain⟨bx,C⟩:=ze C
                          refine ku (i:=(ix now n).toNat) rfl z7p rfl (jc cz) (zi rfl bx.1) (qc bx) fun eQ cA=>?_
                          refine qg rfl z7d rfl cA fun eR cB=>?_
                          refine zg (vi t) ?_
                          obtain⟨bA,C⟩:=ze C
                          refine ku (i:=t.toNat) rfl z8n rfl (jc cB) (zi rfl bA.1) (qc bA) fun eS cC=>?_
                          refine jb rfl ow z7y rfl cC fun eT cD=>?_
                          refine qg rfl ty3 rfl cD fun eU cE=>?_
                          obtain rfl:=jo.1 cE
                          let G1:=([(ix (ix p1_.rows (ix now n)) t).to]:List Int)
                          refine bg (T:=(qm .i64)) (X:=G1) (ps:=[(0,(vi ((ix (ix p1_.rows (ix now n)) t).to)))]) (css:=[[(vi ((ix (ix p1_.rows (ix now n)) t).to))]]) rfl underlying32 zo3 rfl rfl (kz ⟨rfl,trivial⟩) rfl rfl (by decide) fun cF eV bl cG=>?_
                          refine wm (i:=0) rfl cG fun cH aB cI=>?_
                          have cJ:VRep (tSl true (qm .i64)) cH cF G1:=(z0n cI bl)
                          obtain⟨bB,C⟩:=ze C
                          refine z2s (i:=4) (X:=aD) (Y:=G1) rfl underlying32 zo3 rfl rfl rfl (a9.mono aB) (jc (Sub.v (B:=(tSl false (qm .i64))) (jh Sub.refl (fun _=>rfl)) cJ)) bB.1 bB.2 fun bC cK cL=>?_
                          refine zh bC ?_
                          refine z8 ?_
                          refine zm ?_
                          refine zg a8 ?_
                          refine zg E ?_
                          refine zg (vi n) ?_
                          obtain⟨bD,C⟩:=ze C
                          refine ku (i:=n.toNat) rfl z0f rfl (jc (ai.mono ((((((((((G.trans s).trans o).trans y).trans z).trans I).trans L).trans M).trans P).trans an).trans aB))) (zi rfl bD.1) (qc bD) fun eW cM=>?_
                          refine qg rfl ty3 rfl cM fun eX cN=>?_
                          obtain rfl:=jo.1 cN
                          refine bg (T:=(qm .i64)) (X:=([(ix p n)]:List Int)) (ps:=[(0,(vi (ix p n)))]) (css:=[[(vi (ix p n))]]) rfl underlying32 zo3 rfl rfl (kz ⟨rfl,trivial⟩) rfl rfl (by decide) fun cO eY bm cP=>?_
                          refine wm (i:=0) rfl cP fun cQ aJ cR=>?_
                          have cS:VRep (tSl true (qm .i64)) cQ cO ([(ix p n)]:List Int):=(z0n cR bm)
                          obtain⟨bE,C⟩:=ze C
                          refine z2s (i:=5) (X:=aE) (Y:=([(ix p n)]:List Int)) rfl underlying32 zo3 rfl rfl rfl (ba.mono (aB.trans aJ)) (jc (Sub.v (B:=(tSl false (qm .i64))) (jh Sub.refl (fun _=>rfl)) cS)) bE.1 bE.2 fun bF cT cU=>?_
                          refine zh bF ?_
                          refine z8 ?_
                          exact⟨dkt,(aB.trans aJ),kg,(((aD++G1),(aE++([(ix p n)]:List Int))),bC,cK,bF,cT),⟨rfl,rfl,trivial⟩,prm,(Option.some.inj C).symm,(cL.mono aJ),cU,trivial⟩
                        · refine zz ?_
                          exact⟨dkt,(RH.le.refl _),kg,((aD,aE),a7,br,a8,bs),⟨rfl,rfl,trivial⟩,prm,(Option.some.inj C).symm,a9,ba,trivial⟩
                      · rintro⟨aP,cV,cW,cX,cY⟩ eZ e0 bR ⟨rfl,cZ,c0,_⟩
                        refine zm ?_
                        obtain⟨c1,Q⟩:=ze Q
                        refine zl (jk rfl rfl c1) ?_
                        refine zg (vi (n+1)) ?_
                        refine z8 ?_
                        exact⟨dkt,bR,kg,(aO,aP.1,aP.2,n+1,cV,cW,cX,cY),Nat.lt_succ_self _,⟨rfl,rfl,rfl,trivial⟩,prm,Q,cZ,c0,trivial⟩
                    · refine je ?_
                      exact⟨dkt,an,kg,((aD,aE),a7,br,a8,bs),⟨rfl,rfl,trivial⟩,prm,(Option.some.inj Q).symm,a9,ba,trivial⟩
                  · rintro⟨az,aQ,c2,bb,c3⟩ e1 e2 ag ⟨rfl,bG,c4,_⟩
                    refine zo ?_
                    refine zm ?_
                    refine zg aQ ?_
                    refine zl (lw rfl underlying32 rfl bG) ?_
                    refine zl (l6 rfl rfl) ?_
                    refine z8 ?_
                    refine zq rfl am (fun am=>?_) (fun am=>?_)
                    · refine zm ?_
                      refine zg v9 ?_
                      refine zg (vi H) ?_
                      refine zl (qi (i:=0) znv rfl rfl rfl) ?_
                      refine zg aQ ?_
                      refine zg bb ?_
                      refine wm (i:=4) rfl bG fun c5 ao c6=>?_
                      have c7:VRep (tSl false (qm .i64)) c5 aQ az.1:=(z9v c6)
                      refine wm (i:=4) rfl (c4.mono ao) fun c8 ap c9=>?_
                      have da:VRep (tSl false (qm .i64)) c8 bb az.2:=(z9v c9)
                      obtain⟨ab,db,am⟩:=zn am
                      refine zac (Oc:=[box b [aw] 45,ax,box a [f] 77,box d [(.func (.func 40) #[] #[(.pointer (some ⟨b,0,none⟩)),k,(.pointer (some ⟨a,0,none⟩)),(.pointer (some ⟨d,0,none⟩))])] 80]) (Or:=[]++A) (cs:=[(.pointer (some ⟨b,0,none⟩)),k,(.pointer (some ⟨a,0,none⟩)),(.pointer (some ⟨d,0,none⟩))]) (vs:=[aQ,bb]) rfl znf rfl rfl ((pk 1 rfl (pk 1 rfl (pk 1 rfl (pk 0 rfl (List.Perm.refl _)))))) (ih (c7.mono ap) da (z9l aI (a5.mono ((ag.trans ao).trans ap))) (af.mono (((((((((((G.trans s).trans o).trans y).trans z).trans I).trans L).trans M).trans P).trans ag).trans ao).trans ap)) (aj.mono (((((((((((G.trans s).trans o).trans y).trans z).trans I).trans L).trans M).trans P).trans ag).trans ao).trans ap)) db) fun e3 e4 dU bS dc=>?_
                      obtain⟨bH,dd,rfl,rfl,⟨e5,aq,aR⟩⟩:=dc
                      obtain⟨bc,am⟩:=ze am
                      refine fe rfl (zfk (K:=rSprobes_Node) (i:=H.toNat) (r:=p0_.length) z0f aR (zgg aq au aR) (zge aq au) rfl (zi rfl bc.1) (qc bc)) fun de e6 aK dg=>?_
                      refine z7l (Oc:=[dd]) (Or:=[box b [bH] 45,box a [f] 77,box d [(.func (.func 40) #[] #[(.pointer (some ⟨b,0,none⟩)),k,(.pointer (some ⟨a,0,none⟩)),(.pointer (some ⟨d,0,none⟩))])] 80]++A) (pk 1 rfl (pk 0 rfl (pk 0 rfl (pk 0 rfl (List.Perm.refl _))))) (zf3 (K:=rSprobes_Node) (i:=H.toNat) (r:=p0_.length) (u:=de) (u0:=v9) (nx:=(⟨(ab.2.getD p0_.length default).fB,(ab.2.getD p0_.length default).fD,up (ab.2.getD p0_.length default).fC H ab.1⟩:Sa)) ty3 (aR.mono aK) (zgg aq au (aR.mono aK)) (zge aq au) rfl dg (qc bc) rfl (jo.2 rfl) rfl (fun _=>rfl)) ?_
                      rintro e7 e8 dV dW ⟨rfl,dh,rfl,di⟩
                      refine z8 ?_
                      exact⟨dkt,((((ag.trans ao).trans ap).trans bS).trans aK),kg,((ab.2.set p0_.length (⟨(ab.2.getD p0_.length default).fB,(ab.2.getD p0_.length default).fD,up (ab.2.getD p0_.length default).fC H ab.1⟩:Sa)),bH,dh),trivial,⟨[],(pk 3 rfl (pk 1 rfl (pk 0 rfl (pk 0 rfl (List.Perm.refl _)))))⟩,(Option.some.inj am).symm,(z9l aq di),trivial⟩
                    · refine zz ?_
                      exact⟨dkt,ag,kg,(a2,aw,ax),trivial,⟨[c2,c3],(pk 4 rfl (pk 4 rfl (pk 0 rfl (pk 0 rfl (pk 0 rfl (pk 0 rfl (List.Perm.refl _)))))))⟩,(Option.some.inj am).symm,(z9l aI (a5.mono ag)),trivial⟩
                · rintro⟨a6,dj,dk⟩ e9 fa bT ⟨rfl,⟨fb,bU,dl⟩,_⟩
                  refine zm ?_
                  obtain⟨dm,e⟩:=ze e
                  refine zl (jk rfl rfl dm) ?_
                  refine zg (vi (H+1)) ?_
                  refine z8 ?_
                  exact⟨dkt,bT,kg,(aN,H+1,a6,dj,dk),Nat.lt_succ_self _,⟨rfl,trivial⟩,prm,e,(z9l bU dl),trivial⟩
              · refine je ?_
                exact⟨dkt,(M.trans P),kg,(a2,aw,ax),trivial,⟨[],(pk 1 rfl (pk 1 rfl (pk 1 rfl (pk 0 rfl (List.Perm.refl _)))))⟩,(Option.some.inj e).symm,(z9l aI a5),trivial⟩
            · rintro⟨aM,bI,bJ⟩ fc fd bV ⟨rfl,⟨ff,bW,dn⟩,_⟩
              refine zo ?_
              refine zm ?_
              refine zg (vi (↑p0_.length:Int)) ?_
              refine zh (vi (↑p0_.length:Int)) ?_
              refine z8 ?_
              refine qh ?_
              obtain rfl:=Option.some.inj x
              refine z07 (D:=[]) (J:=[]) (O':=[box b [bI] 45,bJ,box a [f] 77,box d [(.func (.func 40) #[] #[(.pointer (some ⟨b,0,none⟩)),k,(.pointer (some ⟨a,0,none⟩)),(.pointer (some ⟨d,0,none⟩))])] 80]) (rs:=[.tmp 8]) (vs:=[(vi (↑p0_.length:Int))]) (((((((G.trans s).trans o).trans y).trans z).trans I).trans L).trans bV) ((pk 0 rfl (pk 0 rfl (pk 0 rfl (pk 0 rfl (List.Perm.refl _)))))) rfl ⟨rfl,trivial⟩ ?_
              exact⟨bI,bJ,rfl,rfl,(z9l (aX.trans bW) dn)⟩
theorem zb3{N:Nat}{R:RH}{now:(List Int)}{g:Value}(n:VRep (tSl false (qm .i64)) R g now){h:(List Int)}{e:Value}(i:VRep (tSl false (qm .i64)) R e h){a:Nat}{p0_:List Sa}{j:Value}{fG:Frag}{k:List Value}(o:NS rSprobes_Node k R fG j p0_){p1_:Mach}{d:Value}(p:PRep (jg false false) R d p1_){b:Nat}{p2_:(Arr 64 Int)}{f:Value}(q:PRep z0k R f p2_){c:Nat}{r:Int×List Sa}(s:ol N N now h p0_ p1_ p2_=some r):CallG prog 40 #[g,e,(.pointer (some ⟨a,0,none⟩)),d,(.pointer (some ⟨b,0,none⟩)),(.pointer (some ⟨c,0,none⟩))] R [box a [j] 45,fG,box b [f] 77,box c [.func (.func 40) #[] #[(.pointer (some ⟨a,0,none⟩)),d,(.pointer (some ⟨b,0,none⟩)),(.pointer (some ⟨c,0,none⟩))]] 80] (fun v R' O'=> ∃ l m,v=(vi r.1)∧O'=[box a [l] 45,m,box b [f] 77,box c [.func (.func 40) #[] #[(.pointer (some ⟨a,0,none⟩)),d,(.pointer (some ⟨b,0,none⟩)),(.pointer (some ⟨c,0,none⟩))]] 80]∧NS rSprobes_Node k R' m l r.2):=z88 N n i o p q s
theorem zl2{a:Bool}:TyOk prog 55 (zu a):=by
 obtain⟨i,hi,b⟩: ∃ i,prog.info? 55=some i∧i.size=3:=uu (by kernel_rfl);exact l5 underlying55 hi rfl b
theorem z94{a:Bool}:SlOk prog 43 55 (zu a):=⟨underlying43,zl2⟩
theorem z4z{N:Nat}{R:RH}{s:(List Sa)}{a:Value}(b:VRep (tSl false (zu false)) R a s){r:(List Sa)}(c:sw N s=some r):CallP prog 42 #[a] R (fun v R'=>VRep (tSl true (zu false)) R' v r):=by
 refine qd (args:=[a]) func42 rfl rfl fun A=>?_;rw [sw] at c;refine zk (zh vs0 (j3 (zg a (zg a (zl (qj rfl underlying43 rfl (jc b)) (zg a (zl (qj rfl underlying43 rfl (jc b)) ?_)))))));obtain⟨d,c⟩:=ze c
 refine zb0 (v:=a) (lo:=(0:Int).toNat) (hi:=(↑s.length:Int).toNat) (mx:=(↑s.length:Int).toNat) rfl z94 rfl (jc b) (.inl ⟨rfl,rfl⟩) (.inr ⟨_,congrArg some (zi rfl (zcw d))⟩) (.inr ⟨_,congrArg some (zi rfl (zcw d))⟩) (zhq d) (zb4 d) (Nat.le_refl _) (Nat.le_trans (zb4 d) (zmo (jc b))) (X':=(cut s 0 (↑s.length:Int))) rfl fun f g e=>?_
 have h:VRep (tSl true (zu false)) R f (cut s 0 (↑s.length:Int)):=z0n g (e.trans (zel d).symm);refine zh f (z8 (qh ?_));obtain rfl:=Option.some.inj c;refine zy (D:=[]) (J:=[]) (rs:=[.tmp 2]) (vs:=[f]) (RH.le.refl _) rfl rfl ⟨rfl,trivial⟩ ?_;exact⟨rfl,h⟩
theorem zp4:Enters prog 42:=enters_of func42 rfl (by kernel_rfl)
theorem z9c: ∀ w,(isAgg 45).run prog w= .ok true w:=fun w=>by kernel_rfl
theorem z1s{N:Nat}{R:RH}{m:Mach}{F:Value}(q:VRep (jg false false) R F m){r:Sb×Int}(a:z0x N m=some r):CallP prog 15 #[F] R (fun v R'=> ∃ u0,v= .tuple #[u0,(vi r.2)]∧VRep (jv true false) R' u0 r.1):=by
 refine qd (args:=[F]) func15 rfl rfl fun A=>?_;rw [z0x] at a;refine zk (u7 (T:=(jg false false)) rfl rfl rfl q fun G R3 n h5 h2=>?_);refine jy rfl zii fun L=>?_;refine zh (vi 0) (z8 (zo (zk (zl (uj z0b rfl rfl h5 (q.mono n)) ?_))));obtain⟨M,c9,a⟩:=zn a
 refine ja rfl zky rfl (z2c (q.mono n) c9) fun aO aP c ah=>?_;obtain rfl:=ah;refine zh (vi M) (j3 (zg (vi M) (zl (ky rfl rfl) (z8 (zq rfl a (fun a=>?_) (fun a=>?_))))))
 refine zk (zl (jl (ps:=[]) (v:=(.agg #[vs0])) rfl (fun w=>by kernel_rfl)) (zg (vi M) (ko (i:=0) (vs:=[vs0]) z5a rfl rfl rfl rfl rfl rfl (qb rfl jr) ?_)));refine zh (vi M) (z8 (qh ?_));obtain rfl:=Option.some.inj a
 refine zy (D:=[]) (J:=[box L [vs0] 45]) (rs:=[.cell 2 45,.tmp 3]) (vs:=[(.agg #[vs0]),(vi M)]) (n.trans c) rfl rfl ⟨⟨_,rfl,fun w O=>z0v (i:=0) O rfl rfl z9c z5a rfl rfl⟩,rfl,trivial⟩ ?_
 exact⟨rfl,⟨(.agg #[vs0]),rfl,(⟨_,(ji (T:=(tSl true (zu false))) rfl z2d),rfl⟩:VRep (jv true false) _ _ (⟨[]⟩:Sb))⟩⟩;refine zz (zk (zl (uj z0b rfl rfl (h5.mono c) (q.mono (n.trans c))) ?_));obtain⟨aQ,ai,a⟩:=zn a
 refine ja rfl zpt rfl (zan (q.mono (n.trans c)) ai) fun p aR k y=>?_;refine jy rfl zpm fun d=>?_;refine ko (i:=0) (vs:=[p]) zpx rfl rfl (z9r (zfj (mr.1 y))) rfl rfl rfl (qb (zfj (mr.1 y)) jr) ?_;refine j3 (jb rfl w9 kw rfl (h2.mono (c.trans k)) fun aS aj=>?_)
 refine qg rfl ik rfl aj fun aT ak=>?_;refine zl (qj rfl underlying28 rfl (jc ak)) ?_;obtain⟨al,a⟩:=ze a
 refine zl (z3a rfl rfl al) (zl (zc7 rfl rfl) (zh (.int .u16 (IntKind.u16.wrap ((si .u16 (1:Int) (↑m.rows.length:Int))-1))) (z8 (zo (zk (zl (qi (i:=0) zmn rfl rfl rfl) (zg (.int .u16 (IntKind.u16.wrap ((si .u16 (1:Int) (↑m.rows.length:Int))-1))) ?_)))))));obtain⟨aU,am,a⟩:=zn a
 refine ja rfl zmb rfl (z0j (mr.2 (mr.1 y)) am) fun aV aW l an=>?_;obtain rfl:=an;refine zl (bz rfl) (z8 (zq rfl a (fun a=>?_) (fun a=>?_)))
 refine zk (zl (jl (ps:=[]) (v:=(.agg #[vs0])) rfl (fun w=>by kernel_rfl)) (ko (i:=1) (vs:=[vs0]) z5a rfl rfl rfl rfl rfl rfl (qb rfl jr) ?_));refine zh (vi 7) (z8 (qh ?_));obtain rfl:=Option.some.inj a
 refine zy (D:=[]) (J:=[box d [p] 77,box L [vs0] 45]) (rs:=[.cell 2 45,.tmp 3]) (vs:=[(.agg #[vs0]),(vi 7)]) (((n.trans c).trans k).trans l) rfl rfl ⟨⟨_,rfl,fun w O=>z0v (i:=1) O rfl rfl z9c z5a rfl rfl⟩,rfl,trivial⟩ ?_
 exact⟨rfl,⟨(.agg #[vs0]),rfl,(⟨_,(ji (T:=(tSl true (zu false))) rfl z2d),rfl⟩:VRep (jv true false) _ _ (⟨[]⟩:Sb))⟩⟩;refine zz (zk (jy rfl zii fun f=>?_));refine j3 (jy rfl zq5 fun h=>?_)
 refine j3 (zl (dm (fs:=[]) (cs:=[(.pointer (some ⟨f,0,none⟩)),G,(.pointer (some ⟨d,0,none⟩)),(.pointer (some ⟨h,0,none⟩))]) rfl rfl) (ko (i:=0) (vs:=[(.func (.func 40) #[] #[(.pointer (some ⟨f,0,none⟩)),G,(.pointer (some ⟨d,0,none⟩)),(.pointer (some ⟨h,0,none⟩))])]) zp8 rfl rfl rfl rfl rfl rfl (qb rfl jr) ?_))
 refine j3 (zh vs0 (z8 ?_));obtain⟨s,b,a⟩:=zn a
 refine j4 (γ:=(List Int)×Value×Frag) (rs [9,11,30,41]) (fun g=>[(9,g.2.1)]) (fun g=>[box L [vs0] 45,box f [vs0] 45,box h [(.func (.func 40) #[] #[(.pointer (some ⟨f,0,none⟩)),G,(.pointer (some ⟨d,0,none⟩)),(.pointer (some ⟨h,0,none⟩))])] 80,box d [p] 77,g.2.2]++A) (fun g R=>s=g.1∧ORep (qm .i64) R g.2.2 g.2.1 g.1∧True) ?_ ?_
 refine zk (jb rfl w9 kw rfl (h2.mono ((c.trans k).trans l)) fun aX ao=>?_);refine qg rfl ik rfl ao fun aY ap=>?_;refine zl (qj rfl underlying28 rfl (jc ap)) (zg (vi 0) (z8 (zw (z6w ?_))))
 refine jd (γ:=Nat×(List Int)×Int×Value×Frag) (rs [9,11,33,41]) (fun g=>[(9,g.2.2.2.1),(33,(vi g.2.2.1))]) (fun g=>[box L [vs0] 45,box f [vs0] 45,box h [(.func (.func 40) #[] #[(.pointer (some ⟨f,0,none⟩)),G,(.pointer (some ⟨d,0,none⟩)),(.pointer (some ⟨h,0,none⟩))])] 80,box d [p] 77,g.2.2.2.2]++A) (fun g R=>l8 N m g.1 g.2.1 g.2.2.1=some s∧ORep (qm .i64) R g.2.2.2.2 g.2.2.2.1 g.2.1∧True) (fun g=>g.1) (N,[],0,vs0,emp) ⟨[],(pk 4 rfl (pk 2 rfl (pk 1 rfl (pk 1 rfl (pk 0 rfl (List.Perm.refl _))))))⟩ ⟨b,(z6d (T:=(qm .i64))),trivial⟩ ?_
 clear b;rintro⟨z,C,e,P,aq⟩ aZ a0 Q ⟨b,S,_⟩;rcases z with _|z;exact qy b;replace b:l8 N m (z+1) C e=some s:=b;rw [l8] at b;refine zk (zl (j5 rfl rfl) (z8 (zo (zq rfl b (fun b=>?_) (fun b=>?_)))))
 refine zz (zo (zw (zk (zg (vi e) (zh (vi e) (z8 (zm (zg P (zg (vi e) (bg (T:=(qm .i64)) (X:=([e]:List Int)) (ps:=[(0,(vi e))]) (css:=[[(vi e)]]) rfl underlying32 zo3 rfl rfl (kz ⟨rfl,trivial⟩) rfl rfl (by decide) fun ar a1 H au=>?_))))))))))
 refine wm (i:=0) rfl au fun av E aw=>?_;have ax:VRep (tSl true (qm .i64)) av ar ([e]:List Int):=(z0n aw H);obtain⟨U,b⟩:=ze b
 refine z2s (i:=4) (X:=C) (Y:=([e]:List Int)) rfl underlying32 zo3 rfl rfl rfl (S.mono E) (jc (Sub.v (B:=(tSl false (qm .i64))) (jh Sub.refl (fun _=>rfl)) ax)) U.1 U.2 fun V ay az=>?_;refine zh V (z8 (zm ?_));obtain⟨aA,b⟩:=ze b;refine zl (jk rfl rfl aA) (zg (vi (e+1)) (z8 ?_))
 exact⟨dkt,E,kg,(z,(C++([e]:List Int)),e+1,V,ay),Nat.lt_succ_self _,⟨rfl,rfl,trivial⟩,prm,b,az,trivial⟩;refine je ?_;exact⟨dkt,Q,kg,(C,P,aq),⟨rfl,trivial⟩,prm,(Option.some.inj b).symm,S,trivial⟩;rintro⟨s,t,a2⟩ a3 a4 u ⟨rfl,aB,_⟩
 refine zk (zl (qi (i:=2) znv rfl rfl rfl) (zg t (zg t (wm (i:=4) rfl aB fun W x aC=>?_))));have Z:VRep (tSl false (qm .i64)) W t s:=(z9v aC);refine zml ?_;obtain⟨aD,aE,a⟩:=zn a
 refine zac (Oc:=[box f [vs0] 45,emp,box d [p] 77,box h [(.func (.func 40) #[] #[(.pointer (some ⟨f,0,none⟩)),G,(.pointer (some ⟨d,0,none⟩)),(.pointer (some ⟨h,0,none⟩))])] 80]) (Or:=[box L [vs0] 45]++A) (cs:=[(.pointer (some ⟨f,0,none⟩)),G,(.pointer (some ⟨d,0,none⟩)),(.pointer (some ⟨h,0,none⟩))]) (vs:=[t,t]) rfl znf rfl rfl ((pk 2 rfl (pk 0 rfl (pk 2 rfl (pk 1 rfl (pk 0 rfl (List.Perm.refl _))))))) (zb3 Z Z (z9l (List.nil_prefix) (zmh (K:=rSprobes_Node) (R:=W))) (h2.mono ((((c.trans k).trans l).trans u).trans x)) ((mr.1 y).mono ((l.trans u).trans x)) aE) fun a5 a6 aK aa aF=>?_
 obtain⟨aG,a7,rfl,rfl,⟨a8,aL,aH⟩⟩:=aF;refine j3 (zl (qp gz rfl) (zl (qi (i:=0) zji rfl rfl rfl) (zgs zbj (i:=1) rfl aH fun aI ab ac=>?_)));have ad:VRep (tSl false (zu false)) aI aG aD.2:=(z9v ac);obtain⟨ae,af,a⟩:=zn a
 refine ja rfl zp4 rfl (z4z ad af) fun j aM I o=>?_;refine zl (qp gz rfl) (ko (i:=0) (vs:=[j]) zo6 rfl rfl (bq o) rfl rfl rfl (qb (z2a o) jr) ?_)
 refine j3 (zl (jm (i:=0) z9c z5a rfl rfl rfl rfl) (ko (i:=3) (vs:=[j]) z5a rfl rfl rfl rfl rfl rfl (qb (z2a o) jr) ?_));refine zh (vi 0) (z8 (qh ?_));obtain rfl:=Option.some.inj a
 refine zy (D:=[]) (J:=[box f [j] 45,box d [p] 77,box h [(.func (.func 40) #[] #[(.pointer (some ⟨f,0,none⟩)),G,(.pointer (some ⟨d,0,none⟩)),(.pointer (some ⟨h,0,none⟩))])] 80,box L [j] 45]) (rs:=[.cell 2 45,.tmp 3]) (vs:=[(.agg #[j]),(vi 0)]) ((((((((n.trans c).trans k).trans l).trans u).trans x).trans aa).trans ab).trans I) rfl rfl ⟨⟨_,rfl,fun w O=>z0v (i:=3) O rfl rfl z9c z5a rfl rfl⟩,rfl,trivial⟩ ?_
 exact⟨rfl,⟨(.agg #[j]),rfl,(⟨_,(ji (T:=(tSl true (zu false))) rfl o),rfl⟩:VRep (jv true false) _ _ (⟨ae⟩:Sb))⟩⟩
theorem zlg:Enters prog 15:=enters_of func15 rfl (by kernel_rfl)
theorem zja: ∀ w,∃ z,(zeroValue 55).run prog w= .ok z w∧z.cells=([.int .i64 0,.int .i64 0,.slice none 0 0]:List Value).toArray:=fun w=>⟨(.agg #[(vi 0),(vi 0),vs0]),by kernel_rfl,rfl⟩
theorem zfi: ∀ w,(sizeOf 55).run prog w= .ok 3 w:=fun w=>by kernel_rfl
theorem zmm: ∀ w,(isAgg 55).run prog w= .ok true w:=fun w=>by kernel_rfl
theorem z2n{N:Nat}{R:RH}{input:Int}{next:(List Int)}{a:Value}(b:VRep (tSl false (qm .i64)) R a next){r:Sa}(c:sj N input next=some r):CallP prog 36 #[(vi input),a] R (fun v R'=>VRep (zu false) R' v r):=by
 refine qd (args:=[(vi input),a]) func36 rfl rfl fun A=>?_;rw [sj] at c;refine zk (jy rfl zja fun d=>?_)
 refine j3 (zg (vi input) (zg a (zl (z0m [(0,(vi input)),(1,(vi (-1))),(2,(.agg #[a]))] (ps:=[(0,(vi input)),(1,(vi (-1))),(2,a)]) (v:=(.agg #[(vi input),(vi (-1)),a])) rfl (by simp only [List.map_cons,List.map_nil,bq b];rfl) (fun w=>by kernel_rfl)) (ko (i:=0) (vs:=[(vi input),(vi (-1)),a]) zfi rfl rfl rfl rfl rfl rfl (qb rfl (qb rfl (qb (z2a b) jr))) ?_))))
 refine z8 (qh ?_);obtain rfl:=Option.some.inj c;refine zy (D:=[]) (J:=[box d [(vi input),(vi (-1)),a] 55]) (rs:=[.cell 4 55]) (vs:=[(.agg #[(vi input),(vi (-1)),a])]) (RH.le.refl _) rfl rfl ⟨⟨_,rfl,fun w e=>z0v (i:=0) e rfl rfl zmm zfi rfl rfl⟩,trivial⟩ ?_
 exact⟨rfl,(⟨_,⟨_,_,rfl,rfl,⟨_,_,rfl,rfl,(ji rfl b)⟩⟩,rfl⟩:VRep (zu false) _ _ (⟨input,(-1),next⟩:Sa))⟩
theorem znj:Enters prog 36:=enters_of func36 rfl (by kernel_rfl)
theorem z0h{N:Nat}{R:RH}{s:Int}{r:Sa}(b:o9 N s=some r):CallP prog 37 #[(vi s)] R (fun v R'=>VRep (zu true) R' v r):=by
 refine qd (args:=[(vi s)]) func37 rfl rfl fun A=>?_;rw [o9] at b;refine zk (jy rfl zja fun h=>?_)
 refine j3 (zg (vi s) (bg (T:=(qm .i64)) (X:=([(-1),(-1)]:List Int)) (ps:=[(0,(vi (-1))),(1,(vi (-1)))]) (css:=[[(vi (-1))],[(vi (-1))]]) rfl underlying32 zo3 rfl rfl (kz ⟨rfl,rfl,trivial⟩) rfl rfl (by decide) fun a l c d=>?_))
 refine zl (z0m [(0,(vi (-1))),(1,(vi s)),(2,(.agg #[a]))] (ps:=[(0,(vi (-1))),(1,(vi s)),(2,a)]) (v:=(.agg #[(vi (-1)),(vi s),a])) rfl (by simp only [List.map_cons,List.map_nil,xm d];rfl) (fun w=>by kernel_rfl)) (ko (i:=1) (vs:=[(vi (-1)),(vi s),a]) zfi rfl rfl rfl rfl rfl rfl (qb rfl (qb rfl (qb (nu d) jr))) ?_)
 refine z8 (z4c (i:=0) rfl d fun j e f=>?_);have g:VRep (tSl true (qm .i64)) j a ([(-1),(-1)]:List Int):=(z0n f c);refine qh ?_;obtain rfl:=Option.some.inj b
 refine zy (D:=[]) (J:=[box h [(vi (-1)),(vi s),a] 55]) (rs:=[.cell 2 55]) (vs:=[(.agg #[(vi (-1)),(vi s),a])]) e rfl rfl ⟨⟨_,rfl,fun w k=>z0v (i:=0) k rfl rfl zmm zfi rfl rfl⟩,trivial⟩ ?_
 exact⟨rfl,(⟨_,⟨_,_,rfl,rfl,⟨_,_,rfl,rfl,(ji rfl g)⟩⟩,rfl⟩:VRep (zu true) _ _ (⟨(-1),s,([(-1),(-1)]:List Int)⟩:Sa))⟩
theorem zmr:Enters prog 37:=enters_of func37 rfl (by kernel_rfl)
theorem zq0{a:Bool}:ZeroOk prog 55 (zu a) (⟨(0:Int),(0:Int),([]:List Int)⟩:Sa) 40:=by
 obtain⟨i,zv,hi,c,d,f,g⟩:=rf (P:=prog) (e:=55) (zv:=(.agg #[(vi 0),(vi 0),vs0])) (k:=3) (b:=40) (by kernel_rfl);exact⟨i,zv,hi,c,d,f,fun R=>by subst g;exact⟨_,_,rfl,rfl,⟨_,_,rfl,rfl,(ji rfl z2d)⟩⟩⟩
theorem z4u{a b:Bool}:TyOk prog 43 (tSl a (zu b)):=by
 obtain⟨i,hi,c⟩: ∃ i,prog.info? 43=some i∧i.size=1:=uu (by kernel_rfl);exact l5 underlying43 hi rfl c
theorem z4h:FieldOk prog 55 2 2:=by
 obtain⟨i,hi,a⟩: ∃ i,prog.info? 32=some i∧i.size=1:=uu (by kernel_rfl);exact pq underlying55 rfl rfl hi (by rw [a];rfl)
theorem z2i{N:Nat}{R:RH}{t:Sb}{I:Value}(ad:VRep (jv false false) R I t){outputs:(List Int)}{k:Value}(o:VRep (tSl false (qm .i64)) R k outputs){r:Int×Int}(f:lv N t outputs=some r):CallP prog 21 #[I,k] R (fun v R'=>v= .tuple #[(vi r.1),(vi r.2)]):=by
 refine qd (args:=[I,k]) func21 rfl rfl fun A=>?_;rw [lv] at f;refine zk (u7 (T:=(jv false false)) rfl rfl rfl ad fun v1 R3 x h5 h2=>?_);refine zh (vi 0) (zh (vi 0) (z8 (zo (zk (jb rfl gz jf rfl h2 fun v6 h7=>?_)))));refine qg rfl z4u rfl h7 fun v8 h9=>?_
 refine zl (qj rfl underlying43 rfl (jc h9)) (zl (uq rfl rfl) (z8 (zq rfl f (fun f=>?_) (fun f=>?_))));refine zk (zh (vi 0) (zh (vi 4) (z8 (qh ?_))));obtain rfl:=Option.some.inj f;refine zy (D:=[]) (J:=[]) (rs:=[.tmp 4,.tmp 5]) (vs:=[(vi 0),(vi 4)]) x rfl rfl ⟨rfl,rfl,trivial⟩ ?_
 exact⟨rfl,rfl⟩;refine zz (zk (zh (vi 0) (z8 ?_)));obtain⟨K,d,f⟩:=zn f;refine j4 (γ:=Int) (rs [4,7,8,10,15,63]) (fun g=>[(6,(vi g))]) (fun g=>[]++A) (fun g R=>K=Ex.go g∧True) ?_ ?_
 refine zk (zg k (zl (qj rfl underlying32 rfl (jc (o.mono x))) (zg (vi 0) (z8 (zw (jd (γ:=Nat×Int×Int) (rs [4,7,8,10,17,63]) (fun g=>[(6,(vi g.2.1)),(17,(vi g.2.2))]) (fun g=>[]++A) (fun g R=>oh N t outputs g.1 g.2.1 g.2.2=some K∧True) (fun g=>g.1) (N,0,0) prm ⟨d,trivial⟩ ?_))))))
 clear d;rintro⟨E,b,a⟩ au aW u ⟨d,_⟩;rcases E with _|E;exact qy d;replace d:oh N t outputs (E+1) b a=some K:=d;rw [oh] at d;refine zk (zl (j5 rfl rfl) (z8 (zo (zq rfl d (fun d=>?_) (fun d=>?_)))));refine zz (zo (zw (zk ?_)));obtain⟨M,d⟩:=ze d
 refine ku (i:=a.toNat) rfl z0f rfl (jc (o.mono (x.trans u))) (zi rfl M.1) (qc M) fun aX ae=>?_;refine qg rfl ty3 rfl ae fun aY af=>?_;obtain rfl:=jo.1 af;refine zh (vi (ix outputs a)) (j3 (jb rfl gz jf rfl (h2.mono u) fun aZ ag=>?_));refine qg rfl z4u rfl ag fun a0 ah=>?_
 refine zg (vi b) ?_;obtain⟨O,d⟩:=ze d;refine ku (i:=b.toNat) rfl z94 rfl (jc ah) (zi rfl O.1) (qc O) fun a1 ai=>?_;refine qg rfl zl2 rfl ai fun a2 aj=>?_;refine jy rfl zja fun w=>?_;obtain⟨q,rfl,y⟩:=yo aj
 refine ko (i:=0) (vs:=[(vi ((ix t.fA b).fB)),(vi ((ix t.fA b).fD)),q]) zfi rfl rfl rfl rfl rfl rfl (qb rfl (qb rfl (qb (z2a y) jr))) ?_
 refine z8 (zo (zk (zl (qp z5k rfl) (zl (qi (i:=0) ag3 rfl rfl rfl) (zl (uq rfl rfl) (z8 (zq rfl d (fun d=>?_) (fun d=>?_))))))));refine zk (zh (vi 0) (zh (vi 16) (z8 (qh ?_))));replace f:=bv d f;obtain rfl:=Option.some.inj f
 refine zy (D:=[]) (J:=[box w [(vi ((ix t.fA b).fB)),(vi ((ix t.fA b).fD)),q] 55]) (rs:=[.tmp 4,.tmp 5]) (vs:=[(vi 0),(vi 16)]) (x.trans u) rfl rfl ⟨rfl,rfl,trivial⟩ ?_;exact⟨rfl,rfl⟩;refine zz (zo (zo ?_));obtain⟨P,Q,d⟩:=zjn d
 refine ni 28 [] [phX (vi (ix outputs a)),phX (.bool (decide ((ix outputs a)<0))),phX (.bool (decide ((ix outputs a)<0))),phG (true&&((decide ((ix outputs a)<0))==false)) (phX (vi (ix outputs a))),phG (true&&((decide ((ix outputs a)<0))==false)) (phX (.pointer (some ⟨w,2,none⟩))),phG (true&&((decide ((ix outputs a)<0))==false)) (phX q),phG (true&&((decide ((ix outputs a)<0))==false)) (phX (vi (↑((ix t.fA b).fC).length:Int))),phG (true&&((decide ((ix outputs a)<0))==false)) (phX (.bool (decide ((↑((ix t.fA b).fC).length:Int)≤(ix outputs a))))),phX (.bool ((decide ((ix outputs a)<0))||(decide ((↑((ix t.fA b).fC).length:Int)≤(ix outputs a))))),phX (.bool ((decide ((ix outputs a)<0))||(decide ((↑((ix t.fA b).fC).length:Int)≤(ix outputs a))))),phG (true&&(((decide ((ix outputs a)<0))||(decide ((↑((ix t.fA b).fC).length:Int)≤(ix outputs a))))==false)) (phX (.pointer (some ⟨w,2,none⟩))),phG (true&&(((decide ((ix outputs a)<0))||(decide ((↑((ix t.fA b).fC).length:Int)≤(ix outputs a))))==false)) (phX q),phG (true&&(((decide ((ix outputs a)<0))||(decide ((↑((ix t.fA b).fC).length:Int)≤(ix outputs a))))==false)) (phX (vi (ix outputs a))),phG (true&&(((decide ((ix outputs a)<0))||(decide ((↑((ix t.fA b).fC).length:Int)≤(ix outputs a))))==false)) (phP (qm .i64) (ix ((ix t.fA b).fC) (ix outputs a))),phG (true&&(((decide ((ix outputs a)<0))||(decide ((↑((ix t.fA b).fC).length:Int)≤(ix outputs a))))==false)) (phX (vi (ix ((ix t.fA b).fC) (ix outputs a)))),phG (true&&(((decide ((ix outputs a)<0))||(decide ((↑((ix t.fA b).fC).length:Int)≤(ix outputs a))))==false)) (phX (.bool (decide ((ix ((ix t.fA b).fC) (ix outputs a))<0)))),phX (.bool (((decide ((ix outputs a)<0))||(decide ((↑((ix t.fA b).fC).length:Int)≤(ix outputs a))))||(decide ((ix ((ix t.fA b).fC) (ix outputs a))<0)))),phX (.bool (((decide ((ix outputs a)<0))||(decide ((↑((ix t.fA b).fC).length:Int)≤(ix outputs a))))||(decide ((ix ((ix t.fA b).fC) (ix outputs a))<0)))),phG (true&&((((decide ((ix outputs a)<0))||(decide ((↑((ix t.fA b).fC).length:Int)≤(ix outputs a))))||(decide ((ix ((ix t.fA b).fC) (ix outputs a))<0)))==false)) (phX (.pointer (some ⟨w,2,none⟩))),phG (true&&((((decide ((ix outputs a)<0))||(decide ((↑((ix t.fA b).fC).length:Int)≤(ix outputs a))))||(decide ((ix ((ix t.fA b).fC) (ix outputs a))<0)))==false)) (phX q),phG (true&&((((decide ((ix outputs a)<0))||(decide ((↑((ix t.fA b).fC).length:Int)≤(ix outputs a))))||(decide ((ix ((ix t.fA b).fC) (ix outputs a))<0)))==false)) (phX (vi (ix outputs a))),phG (true&&((((decide ((ix outputs a)<0))||(decide ((↑((ix t.fA b).fC).length:Int)≤(ix outputs a))))||(decide ((ix ((ix t.fA b).fC) (ix outputs a))<0)))==false)) (phP (qm .i64) (ix ((ix t.fA b).fC) (ix outputs a))),phG (true&&((((decide ((ix outputs a)<0))||(decide ((↑((ix t.fA b).fC).length:Int)≤(ix outputs a))))||(decide ((ix ((ix t.fA b).fC) (ix outputs a))<0)))==false)) (phX (vi (ix ((ix t.fA b).fC) (ix outputs a)))),phG (true&&((((decide ((ix outputs a)<0))||(decide ((↑((ix t.fA b).fC).length:Int)≤(ix outputs a))))||(decide ((ix ((ix t.fA b).fC) (ix outputs a))<0)))==false)) (phP (tSl false (zu false)) t.fA),phG (true&&((((decide ((ix outputs a)<0))||(decide ((↑((ix t.fA b).fC).length:Int)≤(ix outputs a))))||(decide ((ix ((ix t.fA b).fC) (ix outputs a))<0)))==false)) (phR (tSl false (zu false)) t.fA),phG (true&&((((decide ((ix outputs a)<0))||(decide ((↑((ix t.fA b).fC).length:Int)≤(ix outputs a))))||(decide ((ix ((ix t.fA b).fC) (ix outputs a))<0)))==false)) (phX (vi (↑t.fA.length:Int))),phG (true&&((((decide ((ix outputs a)<0))||(decide ((↑((ix t.fA b).fC).length:Int)≤(ix outputs a))))||(decide ((ix ((ix t.fA b).fC) (ix outputs a))<0)))==false)) (phX (.bool (decide ((↑t.fA.length:Int)≤(ix ((ix t.fA b).fC) (ix outputs a)))))),phX (.bool ((((decide ((ix outputs a)<0))||(decide ((↑((ix t.fA b).fC).length:Int)≤(ix outputs a))))||(decide ((ix ((ix t.fA b).fC) (ix outputs a))<0)))||(decide ((↑t.fA.length:Int)≤(ix ((ix t.fA b).fC) (ix outputs a))))))] mixed (by kernel_rfl) (bu ⟨q8,q8,q8,(j6 q8),(j6 q8),(j6 q8),(j6 q8),(j6 q8),q8,q8,(j6 q8),(j6 q8),(j6 q8),(j6 ut),(j6 q8),(j6 q8),q8,q8,(j6 q8),(j6 q8),(j6 q8),(j6 ut),(j6 q8),(j6 ut),(j6 yc),(j6 q8),(j6 q8),q8,trivial⟩) ⟨?_,?_,?_,?_,?_,?_,?_,?_,?_,?_,?_,?_,?_,?_,?_,?_,?_,?_,?_,?_,?_,?_,?_,?_,?_,?_,?_,?_,trivial⟩ fun a3 z=>?_
 intro l a4 c m hd;exact zb rfl rfl rfl (qf (za (m 8 rfl)));rintro l a5 c m ⟨e,_⟩;exact zb rfl rfl rfl (qf (j5 (e rfl) rfl));rintro l a6 c m ⟨e,_⟩;exact zb rfl rfl rfl (qf (za (e rfl)));rintro l a7 c m ⟨e,_⟩
 exact zt (Gj:=true) (Bj:=decide ((ix outputs a)<0)) rfl rfl rfl (uk (e rfl)) rfl (fun p j=>qf (za (m 8 rfl)));rintro l a8 c m ⟨e,_⟩;exact zt (Gj:=true) (Bj:=decide ((ix outputs a)<0)) rfl rfl rfl (uk (e rfl)) rfl (fun p j=>qf (qp z4h (m 9 rfl)));rintro l a9 c m ⟨e,n,_⟩
 exact zt (Gj:=true) (Bj:=decide ((ix outputs a)<0)) rfl rfl rfl (uk (n rfl)) rfl (fun p j=>qf (qi (i:=0) z8b (show l 33=(.pointer (some ⟨w,2,none⟩)) from(e rfl).1 (zf rfl j)) rfl rfl));rintro l ba c m ⟨e,n,_⟩
 exact zt (Gj:=true) (Bj:=decide ((ix outputs a)<0)) rfl rfl rfl (uk (n rfl)) rfl (fun p j=>qf (qj rfl underlying32 (show l 34=q from(e rfl).1 (zf rfl j)) (jc (y.mono c))));rintro l bb c m ⟨e,n,L,_⟩
 exact zt (Gj:=true) (Bj:=decide ((ix outputs a)<0)) rfl rfl rfl (uk (L rfl)) rfl (fun p j=>qf (ma (show l 32=(vi (ix outputs a)) from(e rfl).1 (zf rfl j)) (show l 35=(vi (↑((ix t.fA b).fC).length:Int)) from(n rfl).1 (zf rfl j))));rintro l bc c m ⟨e,n,_⟩
 exact zb rfl rfl rfl (qf (um (e rfl) rfl (fun S=>(show l 36=(.bool (decide ((↑((ix t.fA b).fC).length:Int)≤(ix outputs a)))) from(n rfl).1 (zf rfl S)))));rintro l be c m ⟨e,n,_⟩;exact zb rfl rfl rfl (qf (za (e rfl)));rintro l av c m ⟨e,_⟩
 exact zt (Gj:=true) (Bj:=(decide ((ix outputs a)<0))||(decide ((↑((ix t.fA b).fC).length:Int)≤(ix outputs a)))) rfl rfl rfl (uk (e rfl)) rfl (fun p j=>qf (qp z4h (m 9 rfl)));rintro l aw c m ⟨e,n,_⟩
 exact zt (Gj:=true) (Bj:=(decide ((ix outputs a)<0))||(decide ((↑((ix t.fA b).fC).length:Int)≤(ix outputs a)))) rfl rfl rfl (uk (n rfl)) rfl (fun p j=>qf (qi (i:=0) z8b (show l 39=(.pointer (some ⟨w,2,none⟩)) from(e rfl).1 (zf rfl j)) rfl rfl));rintro l ax c m ⟨e,_⟩
 exact zt (Gj:=true) (Bj:=(decide ((ix outputs a)<0))||(decide ((↑((ix t.fA b).fC).length:Int)≤(ix outputs a)))) rfl rfl rfl (uk (e rfl)) rfl (fun p j=>qf (za (m 8 rfl)));rintro l ay c m ⟨e,n,L,_⟩
 exact zt (Gj:=true) (Bj:=(decide ((ix outputs a)<0))||(decide ((↑((ix t.fA b).fC).length:Int)≤(ix outputs a)))) rfl rfl rfl (uk (L rfl)) rfl (fun p j=>y5 (i:=(ix outputs a).toNat) z0f (show l 40=q from(e rfl).1 (zf rfl j)) (jc (y.mono c)) (zi (show l 41=(vi (ix outputs a)) from(n rfl).1 (zf rfl j)) (P (zf p j)).1) (qc (P (zf p j))))
 rintro l az c m ⟨e,n,_⟩;exact zt (Gj:=true) (Bj:=(decide ((ix outputs a)<0))||(decide ((↑((ix t.fA b).fC).length:Int)≤(ix outputs a)))) rfl rfl rfl (uk (n rfl)) rfl (fun p j=>yh (kv ty3 rfl ((e rfl).1 (zf rfl j))) (fun _ _ h=>jo.1 h));rintro l aA c m ⟨e,n,_⟩
 exact zt (Gj:=true) (Bj:=(decide ((ix outputs a)<0))||(decide ((↑((ix t.fA b).fC).length:Int)≤(ix outputs a)))) rfl rfl rfl (uk (n rfl)) rfl (fun p j=>qf (j5 (show l 43=(vi (ix ((ix t.fA b).fC) (ix outputs a))) from(e rfl).1 (zf rfl j)) rfl));rintro l aB c m ⟨e,n,_⟩
 exact zb rfl rfl rfl (qf (um (e rfl) rfl (fun S=>(show l 44=(.bool (decide ((ix ((ix t.fA b).fC) (ix outputs a))<0))) from(n rfl).1 (zf rfl S)))));rintro l aC c m ⟨e,n,_⟩;exact zb rfl rfl rfl (qf (za (e rfl)));rintro l aD c m ⟨e,_⟩
 exact zt (Gj:=true) (Bj:=((decide ((ix outputs a)<0))||(decide ((↑((ix t.fA b).fC).length:Int)≤(ix outputs a))))||(decide ((ix ((ix t.fA b).fC) (ix outputs a))<0))) rfl rfl rfl (uk (e rfl)) rfl (fun p j=>qf (qp z4h (m 9 rfl)));rintro l aE c m ⟨e,n,_⟩
 exact zt (Gj:=true) (Bj:=((decide ((ix outputs a)<0))||(decide ((↑((ix t.fA b).fC).length:Int)≤(ix outputs a))))||(decide ((ix ((ix t.fA b).fC) (ix outputs a))<0))) rfl rfl rfl (uk (n rfl)) rfl (fun p j=>qf (qi (i:=0) z8b (show l 47=(.pointer (some ⟨w,2,none⟩)) from(e rfl).1 (zf rfl j)) rfl rfl))
 rintro l aF c m ⟨e,_⟩;exact zt (Gj:=true) (Bj:=((decide ((ix outputs a)<0))||(decide ((↑((ix t.fA b).fC).length:Int)≤(ix outputs a))))||(decide ((ix ((ix t.fA b).fC) (ix outputs a))<0))) rfl rfl rfl (uk (e rfl)) rfl (fun p j=>qf (za (m 8 rfl)));rintro l aG c m ⟨e,n,L,_⟩
 exact zt (Gj:=true) (Bj:=((decide ((ix outputs a)<0))||(decide ((↑((ix t.fA b).fC).length:Int)≤(ix outputs a))))||(decide ((ix ((ix t.fA b).fC) (ix outputs a))<0))) rfl rfl rfl (uk (L rfl)) rfl (fun p j=>y5 (i:=(ix outputs a).toNat) z0f (show l 48=q from(e rfl).1 (zf rfl j)) (jc (y.mono c)) (zi (show l 49=(vi (ix outputs a)) from(n rfl).1 (zf rfl j)) (Q (zf p j)).1) (qc (Q (zf p j))))
 rintro l aH c m ⟨e,n,_⟩;exact zt (Gj:=true) (Bj:=((decide ((ix outputs a)<0))||(decide ((↑((ix t.fA b).fC).length:Int)≤(ix outputs a))))||(decide ((ix ((ix t.fA b).fC) (ix outputs a))<0))) rfl rfl rfl (uk (n rfl)) rfl (fun p j=>yh (kv ty3 rfl ((e rfl).1 (zf rfl j))) (fun _ _ h=>jo.1 h))
 rintro l aI c m ⟨e,_⟩;exact zt (Gj:=true) (Bj:=((decide ((ix outputs a)<0))||(decide ((↑((ix t.fA b).fC).length:Int)≤(ix outputs a))))||(decide ((ix ((ix t.fA b).fC) (ix outputs a))<0))) rfl rfl rfl (uk (e rfl)) rfl (fun p j=>uw gz jf (m 2 rfl) ((h2.mono u).mono c));rintro l aJ c m ⟨e,n,_⟩
 exact zt (Gj:=true) (Bj:=((decide ((ix outputs a)<0))||(decide ((↑((ix t.fA b).fC).length:Int)≤(ix outputs a))))||(decide ((ix ((ix t.fA b).fC) (ix outputs a))<0))) rfl rfl rfl (uk (n rfl)) rfl (fun p j=>kv z4u rfl ((e rfl).1 (zf rfl j)));rintro l aK c m ⟨e,n,_⟩
 exact zt (Gj:=true) (Bj:=((decide ((ix outputs a)<0))||(decide ((↑((ix t.fA b).fC).length:Int)≤(ix outputs a))))||(decide ((ix ((ix t.fA b).fC) (ix outputs a))<0))) rfl rfl rfl (uk (n rfl)) rfl (fun p j=>qf (qj rfl underlying43 rfl (jc ((e rfl).1 (zf rfl j)))));rintro l aL c m ⟨e,n,L,_⟩
 exact zt (Gj:=true) (Bj:=((decide ((ix outputs a)<0))||(decide ((↑((ix t.fA b).fC).length:Int)≤(ix outputs a))))||(decide ((ix ((ix t.fA b).fC) (ix outputs a))<0))) rfl rfl rfl (uk (L rfl)) rfl (fun p j=>qf (ma (show l 51=(vi (ix ((ix t.fA b).fC) (ix outputs a))) from(e rfl).1 (zf rfl j)) (show l 54=(vi (↑t.fA.length:Int)) from(n rfl).1 (zf rfl j))))
 rintro l aM c m ⟨e,n,_⟩;exact zb rfl rfl rfl (qf (um (e rfl) rfl (fun S=>(show l 55=(.bool (decide ((↑t.fA.length:Int)≤(ix ((ix t.fA b).fC) (ix outputs a))))) from(n rfl).1 (zf rfl S)))))
 intro bf ak bg al bh am bi bj bk bl bm bn bo bp bq br bs an bt ao bw bx bz bA bB bC bD bE bF bG bH bI bJ ap bK aq bL bM bN bO bP bQ bR bS bT bU bV bW bX bY bZ b0 b1 b2 b3 ar;obtain rfl:=Eq.symm ak;obtain rfl:=Eq.symm al;obtain rfl:=Eq.symm am;obtain rfl:=Eq.symm an;obtain rfl:=Eq.symm ao;obtain rfl:=Eq.symm ap
 obtain rfl:=Eq.symm aq;obtain rfl:=Eq.symm ar;refine z8 (zq rfl d (fun d=>?_) (fun d=>?_));refine zk (zh (vi 0) (zh (vi 7) (z8 (qh ?_))));replace f:=bv d f;obtain rfl:=Option.some.inj f
 refine zy (D:=[]) (J:=[box w [(vi ((ix t.fA b).fB)),(vi ((ix t.fA b).fD)),q] 55]) (rs:=[.tmp 4,.tmp 5]) (vs:=[(vi 0),(vi 7)]) ((x.trans u).trans z) rfl rfl ⟨rfl,rfl,trivial⟩ ?_;exact⟨rfl,rfl⟩
 refine zz (zm (zl (qp z4h rfl) (zl (qi (i:=0) z8b rfl rfl rfl) (zg (vi (ix outputs a)) ?_))));obtain⟨F,d⟩:=ze d;refine ku (i:=(ix outputs a).toNat) rfl z0f rfl (jc (y.mono z)) (zi rfl F.1) (qc F) fun aN U=>?_;refine qg rfl ty3 rfl U fun aO V=>?_;obtain rfl:=jo.1 V
 refine zh (vi (ix ((ix t.fA b).fC) (ix outputs a))) (z8 (zm ?_));obtain⟨W,d⟩:=ze d;refine zl (jk rfl rfl W) (zg (vi (a+1)) (z8 ?_))
 exact⟨dkt,z,kg,(E,(ix ((ix t.fA b).fC) (ix outputs a)),a+1),Nat.lt_succ_self _,⟨rfl,rfl,trivial⟩,⟨[box w [(vi ((ix t.fA b).fB)),(vi ((ix t.fA b).fD)),q] 55],(List.Perm.refl _)⟩,d,trivial⟩;refine je ?_;exact⟨dkt,u,kg,b,⟨rfl,trivial⟩,prm,(Option.some.inj d).symm,trivial⟩
 rintro s aP b4 B ⟨rfl,_⟩;replace f:=mg f;refine zo (zk (jb rfl gz jf rfl (h2.mono B) fun aQ X=>?_));refine qg rfl z4u rfl X fun aR Y=>?_;refine zg (vi s) ?_;obtain⟨G,f⟩:=ze f;refine ku (i:=s.toNat) rfl z94 rfl (jc Y) (zi rfl G.1) (qc G) fun aS Z=>?_
 refine qg rfl zl2 rfl Z fun aT aa=>?_;refine jy rfl zja fun H=>?_;obtain⟨C,rfl,ab⟩:=yo aa;refine ko (i:=0) (vs:=[(vi ((ix t.fA s).fB)),(vi ((ix t.fA s).fD)),C]) zfi rfl rfl rfl rfl rfl rfl (qb rfl (qb rfl (qb (z2a ab) jr))) ?_
 refine j3 (zl (qp z5k rfl) (zl (qi (i:=0) ag3 rfl rfl rfl) (zl (uq rfl rfl) (z8 (zq rfl f (fun f=>?_) (fun f=>?_))))));refine zk (zl (qp z7r rfl) (zl (qi (i:=0) ag3 rfl rfl rfl) (zh (vi ((ix t.fA s).fD)) (zh (vi 0) (z8 (qh ?_))))));obtain rfl:=Option.some.inj f
 refine zy (D:=[]) (J:=[box H [(vi ((ix t.fA s).fB)),(vi ((ix t.fA s).fD)),C] 55]) (rs:=[.tmp 4,.tmp 5]) (vs:=[(vi ((ix t.fA s).fD)),(vi 0)]) (x.trans B) rfl rfl ⟨rfl,rfl,trivial⟩ ?_;exact⟨rfl,rfl⟩;refine zz (zk (zh (vi 0) (zh (vi 16) (z8 (qh ?_)))))
 obtain rfl:=Option.some.inj f;refine zy (D:=[]) (J:=[box H [(vi ((ix t.fA s).fB)),(vi ((ix t.fA s).fD)),C] 55]) (rs:=[.tmp 4,.tmp 5]) (vs:=[(vi 0),(vi 16)]) (x.trans B) rfl rfl ⟨rfl,rfl,trivial⟩ ?_;exact⟨rfl,rfl⟩
theorem zmf:Enters prog 21:=enters_of func21 rfl (by kernel_rfl)
theorem z7z{N:Nat}{R:RH}{a:Sb}{E:Value}(aa:VRep (jv false false) R E a){b:Sb}{F:Value}(ab:VRep (jv false false) R F b){r:Bool}(p:z1f N a b=some r):CallP prog 17 #[E,F] R (fun v R'=>v=(.bool r)):=by
 refine qd (args:=[E,F]) func17 rfl rfl fun A=>?_;rw [z1f] at p;refine zk (u7 (T:=(jv false false)) rfl rfl rfl aa fun v1 R3 w h5 H=>?_);refine u7 (T:=(jv false false)) rfl rfl rfl (ab.mono w) fun v6 R8 s bI Z=>?_
 refine zh (.bool false) (z8 (zo (zk (jb rfl gz jf rfl (H.mono s) fun bJ ac=>?_))));refine qg rfl z4u rfl ac fun bK ad=>?_;refine zl (qj rfl underlying43 rfl (jc ad)) (jb rfl gz jf rfl Z fun bL ae=>?_);refine qg rfl z4u rfl ae fun bM af=>?_
 refine zl (qj rfl underlying43 rfl (jc af)) (zl (ky rfl rfl) (z8 (zq rfl p (fun p=>?_) (fun p=>?_))));refine zk (zh (.bool false) (z8 (qh ?_)));obtain rfl:=Option.some.inj p;refine zy (D:=[]) (J:=[]) (rs:=[.tmp 4]) (vs:=[(.bool false)]) (w.trans s) rfl rfl ⟨rfl,trivial⟩ ?_;exact⟨rfl,rfl⟩;refine zz ?_
 obtain⟨G,m,p⟩:=zn p;refine j4 (γ:=Unit) (rs [4,6,13,66]) (fun g=>[]) (fun g=>[]++A) (fun g R=>G=Ex.go g∧True) ?_ ?_
 refine zk (zh (vi 0) (z8 (zw (jd (γ:=Nat×Int) (rs [4,6,13,66]) (fun g=>[(5,(vi g.2))]) (fun g=>[]++A) (fun g R=>pg N a b g.1 g.2=some G∧True) (fun g=>g.1) (N,0) prm ⟨m,trivial⟩ ?_))));clear m;rintro⟨x,c⟩ av bN o ⟨m,_⟩;rcases x with _|x;exact qy m
 replace m:pg N a b (x+1) c=some G:=m;rw [pg] at m;refine zo (zk (zg (vi c) (jb rfl gz jf rfl (H.mono (s.trans o)) fun bO ag=>?_)));refine qg rfl z4u rfl ag fun bP ah=>?_
 refine zl (qj rfl underlying43 rfl (jc ah)) (zl (j5 rfl rfl) (z8 (zq rfl m (fun m=>?_) (fun m=>?_))));refine zz (zo (zw (zo ?_)));obtain⟨I,K,L,M,O,P,m⟩:=zob m
 obtain⟨t,ai,m⟩:=zn m;let q:=(true&&(((decide (((ix a.fA c).fB)≠((ix b.fA c).fB)))||(decide (((ix a.fA c).fD)≠((ix b.fA c).fD))))==false))
 refine ni 46 [] [phP (tSl false (zu false)) a.fA,phR (tSl false (zu false)) a.fA,phX (vi c),phP (zu false) (ix a.fA c),phP (qm .i64) ((ix a.fA c).fB),phX (vi ((ix a.fA c).fB)),phP (tSl false (zu false)) b.fA,phR (tSl false (zu false)) b.fA,phX (vi c),phP (zu false) (ix b.fA c),phP (qm .i64) ((ix b.fA c).fB),phX (vi ((ix b.fA c).fB)),phX (.bool (decide (((ix a.fA c).fB)≠((ix b.fA c).fB)))),phX (.bool (decide (((ix a.fA c).fB)≠((ix b.fA c).fB)))),phG (true&&((decide (((ix a.fA c).fB)≠((ix b.fA c).fB)))==false)) (phP (tSl false (zu false)) a.fA),phG (true&&((decide (((ix a.fA c).fB)≠((ix b.fA c).fB)))==false)) (phR (tSl false (zu false)) a.fA),phG (true&&((decide (((ix a.fA c).fB)≠((ix b.fA c).fB)))==false)) (phX (vi c)),phG (true&&((decide (((ix a.fA c).fB)≠((ix b.fA c).fB)))==false)) (phP (zu false) (ix a.fA c)),phG (true&&((decide (((ix a.fA c).fB)≠((ix b.fA c).fB)))==false)) (phP (qm .i64) ((ix a.fA c).fD)),phG (true&&((decide (((ix a.fA c).fB)≠((ix b.fA c).fB)))==false)) (phX (vi ((ix a.fA c).fD))),phG (true&&((decide (((ix a.fA c).fB)≠((ix b.fA c).fB)))==false)) (phP (tSl false (zu false)) b.fA),phG (true&&((decide (((ix a.fA c).fB)≠((ix b.fA c).fB)))==false)) (phR (tSl false (zu false)) b.fA),phG (true&&((decide (((ix a.fA c).fB)≠((ix b.fA c).fB)))==false)) (phX (vi c)),phG (true&&((decide (((ix a.fA c).fB)≠((ix b.fA c).fB)))==false)) (phP (zu false) (ix b.fA c)),phG (true&&((decide (((ix a.fA c).fB)≠((ix b.fA c).fB)))==false)) (phP (qm .i64) ((ix b.fA c).fD)),phG (true&&((decide (((ix a.fA c).fB)≠((ix b.fA c).fB)))==false)) (phX (vi ((ix b.fA c).fD))),phG (true&&((decide (((ix a.fA c).fB)≠((ix b.fA c).fB)))==false)) (phX (.bool (decide (((ix a.fA c).fD)≠((ix b.fA c).fD))))),phX (.bool ((decide (((ix a.fA c).fB)≠((ix b.fA c).fB)))||(decide (((ix a.fA c).fD)≠((ix b.fA c).fD))))),phX (.bool ((decide (((ix a.fA c).fB)≠((ix b.fA c).fB)))||(decide (((ix a.fA c).fD)≠((ix b.fA c).fD))))),phG q (phP (tSl false (zu false)) a.fA),phG q (phR (tSl false (zu false)) a.fA),phG q (phX (vi c)),phG q (phP (zu false) (ix a.fA c)),phG q (phP (tSl false (qm .i64)) ((ix a.fA c).fC)),phG q (phR (tSl false (qm .i64)) ((ix a.fA c).fC)),phG q (phR (tSl true (tSl false (qm .i64))) ([(ix a.fA c).fC]:List (List Int))),phG q (phP (tSl false (zu false)) b.fA),phG q (phR (tSl false (zu false)) b.fA),phG q (phX (vi c)),phG q (phP (zu false) (ix b.fA c)),phG q (phP (tSl false (qm .i64)) ((ix b.fA c).fC)),phG q (phR (tSl false (qm .i64)) ((ix b.fA c).fC)),phG q (phR (tSl true (tSl false (qm .i64))) ([(ix b.fA c).fC]:List (List Int))),phG q (phX (.bool (t.getD default))),phG q (phX (.bool (!(t.getD default)))),phX (.bool (((decide (((ix a.fA c).fB)≠((ix b.fA c).fB)))||(decide (((ix a.fA c).fD)≠((ix b.fA c).fD))))||(!(t.getD default))))] mixed (by kernel_rfl) (bu ⟨ut,yc,q8,ut,ut,q8,ut,yc,q8,ut,ut,q8,q8,q8,(j6 ut),(j6 yc),(j6 q8),(j6 ut),(j6 ut),(j6 q8),(j6 ut),(j6 yc),(j6 q8),(j6 ut),(j6 ut),(j6 q8),(j6 q8),q8,q8,(j6 ut),(j6 yc),(j6 q8),(j6 ut),(j6 ut),(j6 yc),(j6 yc),(j6 ut),(j6 yc),(j6 q8),(j6 ut),(j6 ut),(j6 yc),(j6 yc),(j6 q8),(j6 q8),q8,trivial⟩) ⟨?_,?_,?_,?_,?_,?_,?_,?_,?_,?_,?_,?_,?_,?_,?_,?_,?_,?_,?_,?_,?_,?_,?_,?_,?_,?_,?_,?_,?_,?_,?_,?_,?_,?_,?_,?_,?_,?_,?_,?_,?_,?_,?_,?_,?_,?_,trivial⟩ fun bQ y=>?_
 intro l bR d j hd;exact zb rfl rfl rfl (uw gz jf (j 2 rfl) ((H.mono (s.trans o)).mono d));rintro l bS d j ⟨e,_⟩;exact zb rfl rfl rfl (kv z4u rfl (e rfl));intro l bT d j hd;exact zb rfl rfl rfl (qf (za (j 5 rfl)));rintro l bU d j ⟨e,k,_⟩
 exact zb rfl rfl rfl (y5 (i:=c.toNat) z94 rfl (jc (e rfl)) (zi (k rfl) I.1) (qc I));rintro l bV d j ⟨e,_⟩;exact zb rfl rfl rfl (uw z5k dh rfl (e rfl));rintro l bW d j ⟨e,_⟩;exact zb rfl rfl rfl (yh (kv ty3 rfl (e rfl)) (fun _ _ h=>jo.1 h));intro l bX d j hd
 exact zb rfl rfl rfl (uw gz jf (j 3 rfl) ((Z.mono o).mono d));rintro l bY d j ⟨e,_⟩;exact zb rfl rfl rfl (kv z4u rfl (e rfl));intro l bZ d j hd;exact zb rfl rfl rfl (qf (za (j 5 rfl)));rintro l b0 d j ⟨e,k,_⟩
 exact zb rfl rfl rfl (y5 (i:=c.toNat) z94 rfl (jc (e rfl)) (zi (k rfl) K.1) (qc K));rintro l aw d j ⟨e,_⟩;exact zb rfl rfl rfl (uw z5k dh rfl (e rfl));rintro l ax d j ⟨e,_⟩;exact zb rfl rfl rfl (yh (kv ty3 rfl (e rfl)) (fun _ _ h=>jo.1 h));rintro l ay d j ⟨e,k,_⟩
 exact zb rfl rfl rfl (qf (ky (e rfl) (k rfl)));rintro l az d j ⟨e,_⟩;exact zb rfl rfl rfl (qf (za (e rfl)));rintro l aA d j ⟨e,_⟩
 exact zt (Gj:=true) (Bj:=decide (((ix a.fA c).fB)≠((ix b.fA c).fB))) rfl rfl rfl (uk (e rfl)) rfl (fun n f=>uw gz jf (j 2 rfl) ((H.mono (s.trans o)).mono d));rintro l aB d j ⟨e,k,_⟩
 exact zt (Gj:=true) (Bj:=decide (((ix a.fA c).fB)≠((ix b.fA c).fB))) rfl rfl rfl (uk (k rfl)) rfl (fun n f=>kv z4u rfl ((e rfl).1 (zf rfl f)));rintro l aC d j ⟨e,_⟩
 exact zt (Gj:=true) (Bj:=decide (((ix a.fA c).fB)≠((ix b.fA c).fB))) rfl rfl rfl (uk (e rfl)) rfl (fun n f=>qf (za (j 5 rfl)));rintro l aD d j ⟨e,k,u,_⟩
 exact zt (Gj:=true) (Bj:=decide (((ix a.fA c).fB)≠((ix b.fA c).fB))) rfl rfl rfl (uk (u rfl)) rfl (fun n f=>y5 (i:=c.toNat) z94 rfl (jc ((e rfl).1 (zf rfl f))) (zi (show l 36=(vi c) from(k rfl).1 (zf rfl f)) (L (zf n f)).1) (qc (L (zf n f))));rintro l aE d j ⟨e,k,_⟩
 exact zt (Gj:=true) (Bj:=decide (((ix a.fA c).fB)≠((ix b.fA c).fB))) rfl rfl rfl (uk (k rfl)) rfl (fun n f=>uw z7r mi rfl ((e rfl).1 (zf rfl f)));rintro l aF d j ⟨e,k,_⟩
 exact zt (Gj:=true) (Bj:=decide (((ix a.fA c).fB)≠((ix b.fA c).fB))) rfl rfl rfl (uk (k rfl)) rfl (fun n f=>yh (kv ty3 rfl ((e rfl).1 (zf rfl f))) (fun _ _ h=>jo.1 h));rintro l aG d j ⟨e,_⟩
 exact zt (Gj:=true) (Bj:=decide (((ix a.fA c).fB)≠((ix b.fA c).fB))) rfl rfl rfl (uk (e rfl)) rfl (fun n f=>uw gz jf (j 3 rfl) ((Z.mono o).mono d));rintro l aH d j ⟨e,k,_⟩
 exact zt (Gj:=true) (Bj:=decide (((ix a.fA c).fB)≠((ix b.fA c).fB))) rfl rfl rfl (uk (k rfl)) rfl (fun n f=>kv z4u rfl ((e rfl).1 (zf rfl f)));rintro l aI d j ⟨e,_⟩
 exact zt (Gj:=true) (Bj:=decide (((ix a.fA c).fB)≠((ix b.fA c).fB))) rfl rfl rfl (uk (e rfl)) rfl (fun n f=>qf (za (j 5 rfl)));rintro l aJ d j ⟨e,k,u,_⟩
 exact zt (Gj:=true) (Bj:=decide (((ix a.fA c).fB)≠((ix b.fA c).fB))) rfl rfl rfl (uk (u rfl)) rfl (fun n f=>y5 (i:=c.toNat) z94 rfl (jc ((e rfl).1 (zf rfl f))) (zi (show l 42=(vi c) from(k rfl).1 (zf rfl f)) (M (zf n f)).1) (qc (M (zf n f))));rintro l aK d j ⟨e,k,_⟩
 exact zt (Gj:=true) (Bj:=decide (((ix a.fA c).fB)≠((ix b.fA c).fB))) rfl rfl rfl (uk (k rfl)) rfl (fun n f=>uw z7r mi rfl ((e rfl).1 (zf rfl f)));rintro l aL d j ⟨e,k,_⟩
 exact zt (Gj:=true) (Bj:=decide (((ix a.fA c).fB)≠((ix b.fA c).fB))) rfl rfl rfl (uk (k rfl)) rfl (fun n f=>yh (kv ty3 rfl ((e rfl).1 (zf rfl f))) (fun _ _ h=>jo.1 h));rintro l aM d j ⟨e,k,u,_⟩
 exact zt (Gj:=true) (Bj:=decide (((ix a.fA c).fB)≠((ix b.fA c).fB))) rfl rfl rfl (uk (u rfl)) rfl (fun n f=>qf (ky (show l 39=(vi ((ix a.fA c).fD)) from(e rfl).1 (zf rfl f)) (show l 45=(vi ((ix b.fA c).fD)) from(k rfl).1 (zf rfl f))));rintro l aN d j ⟨e,k,_⟩
 exact zb rfl rfl rfl (qf (um (e rfl) rfl (fun hb=>(show l 46=(.bool (decide (((ix a.fA c).fD)≠((ix b.fA c).fD)))) from(k rfl).1 (zf rfl hb)))));rintro l aO d j ⟨e,k,_⟩;exact zb rfl rfl rfl (qf (za (e rfl)));rintro l aP d j ⟨e,_⟩
 exact zt (Gj:=true) (Bj:=(decide (((ix a.fA c).fB)≠((ix b.fA c).fB)))||(decide (((ix a.fA c).fD)≠((ix b.fA c).fD)))) rfl rfl rfl (uk (e rfl)) rfl (fun n f=>uw gz jf (j 2 rfl) ((H.mono (s.trans o)).mono d));rintro l aQ d j ⟨e,k,_⟩
 exact zt (Gj:=true) (Bj:=(decide (((ix a.fA c).fB)≠((ix b.fA c).fB)))||(decide (((ix a.fA c).fD)≠((ix b.fA c).fD)))) rfl rfl rfl (uk (k rfl)) rfl (fun n f=>kv z4u rfl ((e rfl).1 (zf rfl f)));rintro l aR d j ⟨e,_⟩
 exact zt (Gj:=true) (Bj:=(decide (((ix a.fA c).fB)≠((ix b.fA c).fB)))||(decide (((ix a.fA c).fD)≠((ix b.fA c).fD)))) rfl rfl rfl (uk (e rfl)) rfl (fun n f=>qf (za (j 5 rfl)));rintro l aS d j ⟨e,k,u,_⟩
 exact zt (Gj:=true) (Bj:=(decide (((ix a.fA c).fB)≠((ix b.fA c).fB)))||(decide (((ix a.fA c).fD)≠((ix b.fA c).fD)))) rfl rfl rfl (uk (u rfl)) rfl (fun n f=>y5 (i:=c.toNat) z94 rfl (jc ((e rfl).1 (zf rfl f))) (zi (show l 51=(vi c) from(k rfl).1 (zf rfl f)) (O (zf n f)).1) (qc (O (zf n f))))
 rintro l aT d j ⟨e,k,_⟩;exact zt (Gj:=true) (Bj:=(decide (((ix a.fA c).fB)≠((ix b.fA c).fB)))||(decide (((ix a.fA c).fD)≠((ix b.fA c).fD)))) rfl rfl rfl (uk (k rfl)) rfl (fun n f=>uw z4h mo rfl ((e rfl).1 (zf rfl f)));rintro l aU d j ⟨e,k,_⟩
 exact zt (Gj:=true) (Bj:=(decide (((ix a.fA c).fB)≠((ix b.fA c).fB)))||(decide (((ix a.fA c).fD)≠((ix b.fA c).fD)))) rfl rfl rfl (uk (k rfl)) rfl (fun n f=>kv zbt rfl ((e rfl).1 (zf rfl f)));rintro l Q d j ⟨e,k,_⟩
 have z:phG q (phR (tSl false (qm .i64)) ((ix a.fA c).fC)) (l 54) Q:=e rfl
 exact zt (Gj:=true) (Bj:=(decide (((ix a.fA c).fB)≠((ix b.fA c).fB)))||(decide (((ix a.fA c).fD)≠((ix b.fA c).fD)))) rfl rfl rfl (uk (k rfl)) rfl (fun n f=>z0y (T:=(tSl false (qm .i64))) (X:=([(ix a.fA c).fC]:List (List Int))) (ps:=[(0,(l 54))]) (css:=[[(l 54)]]) underlying72 zl0 rfl (by simp only [List.map_cons,List.map_nil,bq (z.1 (zf rfl f))];rfl) (kz ⟨(ji rfl (z.1 (zf rfl f))),trivial⟩) rfl rfl (by decide))
 rintro l aV d j ⟨e,_⟩;exact zt (Gj:=true) (Bj:=(decide (((ix a.fA c).fB)≠((ix b.fA c).fB)))||(decide (((ix a.fA c).fD)≠((ix b.fA c).fD)))) rfl rfl rfl (uk (e rfl)) rfl (fun n f=>uw gz jf (j 3 rfl) ((Z.mono o).mono d));rintro l aW d j ⟨e,k,_⟩
 exact zt (Gj:=true) (Bj:=(decide (((ix a.fA c).fB)≠((ix b.fA c).fB)))||(decide (((ix a.fA c).fD)≠((ix b.fA c).fD)))) rfl rfl rfl (uk (k rfl)) rfl (fun n f=>kv z4u rfl ((e rfl).1 (zf rfl f)));rintro l aX d j ⟨e,_⟩
 exact zt (Gj:=true) (Bj:=(decide (((ix a.fA c).fB)≠((ix b.fA c).fB)))||(decide (((ix a.fA c).fD)≠((ix b.fA c).fD)))) rfl rfl rfl (uk (e rfl)) rfl (fun n f=>qf (za (j 5 rfl)));rintro l aY d j ⟨e,k,u,_⟩
 exact zt (Gj:=true) (Bj:=(decide (((ix a.fA c).fB)≠((ix b.fA c).fB)))||(decide (((ix a.fA c).fD)≠((ix b.fA c).fD)))) rfl rfl rfl (uk (u rfl)) rfl (fun n f=>y5 (i:=c.toNat) z94 rfl (jc ((e rfl).1 (zf rfl f))) (zi (show l 58=(vi c) from(k rfl).1 (zf rfl f)) (P (zf n f)).1) (qc (P (zf n f))))
 rintro l aZ d j ⟨e,k,_⟩;exact zt (Gj:=true) (Bj:=(decide (((ix a.fA c).fB)≠((ix b.fA c).fB)))||(decide (((ix a.fA c).fD)≠((ix b.fA c).fD)))) rfl rfl rfl (uk (k rfl)) rfl (fun n f=>uw z4h mo rfl ((e rfl).1 (zf rfl f)));rintro l a0 d j ⟨e,k,_⟩
 exact zt (Gj:=true) (Bj:=(decide (((ix a.fA c).fB)≠((ix b.fA c).fB)))||(decide (((ix a.fA c).fD)≠((ix b.fA c).fD)))) rfl rfl rfl (uk (k rfl)) rfl (fun n f=>kv zbt rfl ((e rfl).1 (zf rfl f)));rintro l S d j ⟨e,k,_⟩
 have C:phG q (phR (tSl false (qm .i64)) ((ix b.fA c).fC)) (l 61) S:=e rfl
 exact zt (Gj:=true) (Bj:=(decide (((ix a.fA c).fB)≠((ix b.fA c).fB)))||(decide (((ix a.fA c).fD)≠((ix b.fA c).fD)))) rfl rfl rfl (uk (k rfl)) rfl (fun n f=>z0y (T:=(tSl false (qm .i64))) (X:=([(ix b.fA c).fC]:List (List Int))) (ps:=[(0,(l 61))]) (css:=[[(l 61)]]) underlying72 zl0 rfl (by simp only [List.map_cons,List.map_nil,bq (C.1 (zf rfl f))];rfl) (kz ⟨(ji rfl (C.1 (zf rfl f))),trivial⟩) rfl rfl (by decide))
 rintro l a1 d j ⟨e,k,u,d3,_⟩
 exact zt (Gj:=true) (Bj:=(decide (((ix a.fA c).fB)≠((ix b.fA c).fB)))||(decide (((ix a.fA c).fD)≠((ix b.fA c).fD)))) rfl rfl rfl (uk (u rfl)) rfl (fun n f=>ww (vs:=[(l 55),(l 62)]) znc rfl ((by have al:=(mf ai (zf n f));exact z3i (Sub.v (B:=(tSl false (tSl false (qm .i64)))) (jh Sub.refl (fun _=>rfl)) ((e rfl).1 (zf rfl f))) (Sub.v (B:=(tSl false (tSl false (qm .i64)))) (jh Sub.refl (fun _=>rfl)) ((k rfl).1 (zf rfl f))) al)) (fun _ _ h=>h))
 rintro l a2 d j ⟨e,k,_⟩;exact zt (Gj:=true) (Bj:=(decide (((ix a.fA c).fB)≠((ix b.fA c).fB)))||(decide (((ix a.fA c).fD)≠((ix b.fA c).fD)))) rfl rfl rfl (uk (k rfl)) rfl (fun n f=>qf (bz (show l 63=(.bool (t.getD default)) from(e rfl).1 (zf rfl f))));rintro l a3 d j ⟨e,k,_⟩
 exact zb rfl rfl rfl (qf (um (e rfl) rfl (fun hb=>(show l 64=(.bool (!(t.getD default))) from(k rfl).1 (zf rfl hb)))));intro b1 b2 b3 b4 b5 am b6 b7 b8 b9 ca an cb cc cd ce cf ao cg ch ci cj ck ap cl aq
 intro cm ar cn co cp cq cr cs ct cu cv cw cx cy cz cA cB cC cD cE cF cG cH cI cJ cK cL cM cN au cO U a4 a5 a6 a7 a8 a9 ba bb bc be bf bg bh bi bj bk bl bm bn bo bp br bs bt bw bx bA bB bC bD bE bF bG V;obtain rfl:=Eq.symm am;obtain rfl:=Eq.symm an;obtain rfl:=Eq.symm ao
 obtain rfl:=Eq.symm ap;obtain rfl:=Eq.symm aq;obtain rfl:=Eq.symm ar;obtain rfl:=Eq.symm au;obtain rfl:=Eq.symm U;obtain rfl:=Eq.symm V;refine z8 (zq rfl m (fun m=>?_) (fun m=>?_));refine zk (zh (.bool false) (z8 (qh ?_)));replace p:=bv m p;obtain rfl:=Option.some.inj p
 refine zy (D:=[]) (J:=[]) (rs:=[.tmp 4]) (vs:=[(.bool false)]) (((w.trans s).trans o).trans y) rfl rfl ⟨rfl,trivial⟩ ?_;exact⟨rfl,rfl⟩;refine zz (zm (zg (vi c) ?_));obtain⟨W,m⟩:=ze m;refine zl (jk rfl rfl W) (zh (vi (c+1)) (z8 ?_))
 exact⟨dkt,y,kg,(x,c+1),Nat.lt_succ_self _,⟨rfl,trivial⟩,prm,m,trivial⟩;refine je ?_;exact⟨dkt,o,kg,(),trivial,prm,(Option.some.inj m).symm,trivial⟩;rintro cP bH cQ Y ⟨rfl,_⟩;replace p:=mg p;refine zk (zh (.bool true) (z8 (qh ?_)));obtain rfl:=Option.some.inj p
 refine zy (D:=[]) (J:=[]) (rs:=[.tmp 4]) (vs:=[(.bool true)]) ((w.trans s).trans Y) rfl rfl ⟨rfl,trivial⟩ ?_;exact⟨rfl,rfl⟩
end GV
end Go.Proofs.Ytnnobdkjgafdmaa
