import Derived.Test.YtplgbkaollfmkaaGreatShXa
import Derived.Test.YtplgbkaollfmkaaGreatRows
set_option linter.unusedVariables false
set_option linter.unusedSimpArgs false
namespace Go.Proofs.YtplgbkaollfmkaaGreat
namespace GV
open _root_.Go.Proofs.Tryz
open Go.IntWalk
set_option maxRecDepth 100000
set_option maxHeartbeats 20000000
theorem q6g:Enters prog 68:=enters_of func68 rfl (by kernel_rfl)
theorem zbo{N:Nat}{R:RH}{marked:(List (List Bool))}{b:Value}(k:VRep (tSl false (tSl false jl)) R b marked){r:(List Int)}(s:lh N marked=some r):CallP prog 91 #[b] R (fun v R'=>VRep (tSl false (zu .i64)) R' v r):=by
 refine qg (args:=[b]) func91 rfl rfl fun A=>?_;rw [lh] at s;refine zl (zi vs0 (qw (zi vs0 (qw (zi (vi 0) (z8 ?_))))));obtain⟨H,c,s⟩:=zq s
 refine ql (γ:=(List Int)×Value×Frag) (rs [3,40]) (fun g=>[(3,g.2.1)]) (fun g=>[g.2.2]++A) (fun g R=>H=g.1∧ORep (zu .i64) R g.2.2 g.2.1 g.1∧True) ?_ ?_;refine zl (zi (vi 0) (z8 (zx (z1g ?_))))
 refine j5 (γ:=Nat×(List Int)×Int×Int×Value×Frag) (rs [3,40]) (fun g=>[(3,g.2.2.2.2.1),(4,(vi g.2.2.1)),(5,(vi g.2.2.2.1))]) (fun g=>[g.2.2.2.2.2]++A) (fun g R=>yh N marked g.1 g.2.1 g.2.2.1 g.2.2.2.1=some H∧ORep (zu .i64) R g.2.2.2.2.2 g.2.2.2.2.1 g.2.1∧True) (fun g=>g.1) (N,[],0,0,vs0,emp) prm ⟨c,(iy (T:=(zu .i64))),trivial⟩ ?_
 clear c;rintro⟨Q,l,m,f,z,p⟩ aq ar q ⟨c,t,_⟩;rcases Q with _|Q;exact qp c;replace c:yh N marked (Q+1) l m f=some H:=c;rw [yh] at c
 refine q9 (zl (zg (vi f) (zg b (zo (qi rfl underlying121 rfl (qz (k.mono q))) (zo (j3 rfl rfl) (z8 (zw rfl c (fun c=>?_) (fun c=>?_))))))));refine qa (q9 (zx (zl (zi (vi (-1)) (z8 ?_)))));obtain⟨o,a,c⟩:=zq c
 refine ql (γ:=Int) (rs [6,8,14,31]) (fun g=>[(6,(vi g))]) (fun g=>[p]++A) (fun g R=>o=g∧True) ?_ ?_
 refine zl (zi (vi 0) (z8 (zx (j5 (γ:=Nat×Int×Int) (rs [6,8,14,31]) (fun g=>[(6,(vi g.2.1)),(7,(vi g.2.2))]) (fun g=>[p]++A) (fun g R=>uq N marked l f g.1 g.2.1 g.2.2=some o∧True) (fun g=>g.1) (N,(-1),0) prm ⟨a,trivial⟩ ?_))));clear a;rintro⟨u,C,d⟩ au av n ⟨a,_⟩
 rcases u with _|u;exact qp a;replace a:uq N marked l f (u+1) C d=some o:=a;rw [uq] at a;refine q9 (zl (zg (vi d) (zg (vi f) (zo (j3 rfl rfl) (z8 (zw rfl a (fun a=>?_) (fun a=>?_)))))));refine qa ?_;obtain⟨E,e,a⟩:=zq a
 refine ql (γ:=Int) (rs [6,7,19,31]) (fun g=>[(6,(vi g))]) (fun g=>[p]++A) (fun g R=>E=g∧True) ?_ ?_;refine zx (zl (zg b (zg (vi f) ?_)));obtain⟨I,e⟩:=zb e;refine kw (i:=f.toNat) rfl zj0 rfl (qz (k.mono (q.trans n))) (ze rfl I.1) (zz I) fun aw U=>?_
 refine qh rfl zg4 rfl U fun ax V=>?_;refine zg (vi d) ?_;obtain⟨K,e⟩:=zb e;refine kw (i:=d.toNat) rfl z4p rfl (qz V) (ze rfl K.1) (zz K) fun ay W=>?_;refine qh rfl ty4 rfl W fun az Z=>?_;obtain rfl:=ul.1 Z;refine zo (z0g rfl) (z8 (zw rfl e (fun e=>?_) (fun e=>?_)))
 refine zy (zg z (zg (vi d) ?_));obtain⟨F,e⟩:=zb e;refine uz (i:=d.toNat) rfl fe rfl (t.mono n) (ze rfl F.1) (zz F) fun aA aa=>?_;refine z2a (i:=d.toNat) (j:=0) rfl ty3 (t.mono n) rfl rfl aa (zz F) fun aB ab=>?_;obtain rfl:=j6.1 ab;refine zi (vi (ix l d)) (z8 ?_)
 exact⟨dkt,(RH.le.refl _),je,(ix l d),⟨rfl,trivial⟩,prm,(Option.some.inj e).symm,trivial⟩;refine qa ?_;exact⟨dkt,(RH.le.refl _),je,C,⟨rfl,trivial⟩,prm,(Option.some.inj e).symm,trivial⟩;rintro E aC aD L ⟨rfl,_⟩;refine zy (zg (vi d) ?_);obtain⟨ac,a⟩:=zb a
 refine zo (j4 rfl rfl ac) (zi (vi (d+1)) (z8 ?_));exact⟨dkt,L,je,(u,E,d+1),Nat.lt_succ_self _,⟨rfl,rfl,trivial⟩,prm,a,trivial⟩;refine jd ?_;exact⟨dkt,n,je,C,⟨rfl,trivial⟩,prm,(Option.some.inj a).symm,trivial⟩;rintro o aE aF w ⟨rfl,_⟩;obtain⟨h,a,c⟩:=zq c
 refine ql (γ:=(Int×Int)) [31,32,33,6,34,35,4] (fun g=>[(4,(vi g.1)),(6,(vi g.2))]) (fun g=>[p]++A) (fun g R=>h=g∧True) ?_ ?_;refine zl (zg (vi o) (zo (j3 rfl rfl) (z8 (zw rfl a (fun a=>?_) (fun a=>?_)))))
 refine zl (zg (vi m) (zi (vi m) (z8 (zy (zg (vi m) ?_)))));obtain⟨ad,a⟩:=zb a;refine zo (j4 rfl rfl ad) (zi (vi (m+1)) (z8 ?_));exact⟨dkt,(RH.le.refl _),je,(m+1,m),⟨rfl,rfl,trivial⟩,prm,(Option.some.inj a).symm,trivial⟩;refine qa ?_
 exact⟨dkt,(RH.le.refl _),je,(m,o),⟨rfl,rfl,trivial⟩,prm,(Option.some.inj a).symm,trivial⟩;rintro h aG aH x ⟨rfl,_⟩
 refine zy (zg z (zg (vi h.2) (mf (T:=(zu .i64)) (X:=([h.2]:List Int)) (ps:=[(0,(vi h.2))]) (css:=[[(vi h.2)]]) rfl underlying33 zo3 rfl rfl (kv ⟨rfl,trivial⟩) rfl rfl (by decide) fun ae aI G af=>?_)));refine ui (i:=0) rfl af fun ag y ah=>?_
 have ai:VRep (tSl true (zu .i64)) ag ae ([h.2]:List Int):=(z1d ah G);obtain⟨M,c⟩:=zb c;refine wh (i:=0) (X:=l) (Y:=([h.2]:List Int)) rfl underlying33 zo3 rfl rfl rfl (t.mono ((w.trans x).trans y)) (qz (Sub.v (B:=(tSl false (zu .i64))) (u6 Sub.refl (fun _=>rfl)) ai)) M.1 M.2 fun O aj ak=>?_
 refine zi O (z8 (zy (zg (vi f) ?_)));obtain⟨al,c⟩:=zb c;refine zo (j4 rfl rfl al) (zi (vi (f+1)) (z8 ?_));exact⟨dkt,((w.trans x).trans y),je,(Q,(l++([h.2]:List Int)),h.1,f+1,O,aj),Nat.lt_succ_self _,⟨rfl,rfl,rfl,trivial⟩,prm,c,ak,trivial⟩;refine jd ?_
 exact⟨dkt,q,je,(l,z,p),⟨rfl,trivial⟩,prm,(Option.some.inj c).symm,t,trivial⟩;rintro⟨H,S,f5⟩ aJ R2 am ⟨rfl,h6,_⟩;refine zl (zg S (zi S (z8 (yj (i:=0) rfl h6 fun an P ao=>?_))));have ap:VRep (tSl false (zu .i64)) an S H:=(z3g ao);refine qx ?_;obtain rfl:=Option.some.inj s
 refine qd (D:=[]) (J:=[]) (rs:=[.tmp 2]) (vs:=[S]) (am.trans P) rfl rfl ⟨rfl,trivial⟩ ?_;exact⟨rfl,ap⟩
theorem qb0:Enters prog 91:=enters_of func91 rfl (by kernel_rfl)
theorem zdi{N:Nat}{R:RH}{m:Mach}{b:Value}(c:VRep (ja false false) R b m){k:Int}{r:(List Int)}(a:z4j N m k=some r):CallP prog 75 #[b,(vi k)] R (fun v R'=>VRep (tSl false (zu .i64)) R' v r):=by
 refine qg (args:=[b,(vi k)]) func75 rfl rfl fun A=>?_;rw [z4j] at a;refine zl (jy (T:=(ja false false)) rfl rfl rfl c fun t u d l w=>?_);refine zi vs0 (qw (zo (jg rf rfl rfl l (c.mono d)) (zg (vi k) ?_)));obtain⟨x,n,a⟩:=zq a
 refine jc rfl q6g rfl (z5n (c.mono d) n) fun y o f p=>?_;obtain⟨q,i,a⟩:=zq a;refine jc rfl qb0 rfl (zbo (Sub.v (B:=(tSl false (tSl false jl))) (u6 (u6 Sub.refl (fun _=>rfl)) (fun e=>e)) p) i) fun g s h j=>?_;refine zi g (z8 (qx ?_));obtain rfl:=Option.some.inj a
 refine qd (D:=[]) (J:=[]) (rs:=[.tmp 4]) (vs:=[g]) ((d.trans f).trans h) rfl rfl ⟨rfl,trivial⟩ ?_;exact⟨rfl,j⟩
theorem qbt:Enters prog 75:=enters_of func75 rfl (by kernel_rfl)
theorem z5d{N:Nat}{R:RH}{m:Mach}{b:Value}(c:VRep (ja false false) R b m){r:(List Int)}(a:l7 N m=some r):CallP prog 52 #[b] R (fun v R'=>VRep (tSl false (zu .i64)) R' v r):=by
 refine qg (args:=[b]) func52 rfl rfl fun A=>?_;rw [l7] at a;refine zl (jy (T:=(ja false false)) rfl rfl rfl c fun p q d i j=>?_);refine zi vs0 (qw (zo (jg rf rfl rfl i (c.mono d)) (jb rfl ug ko rfl j fun s k=>?_)));refine qh rfl z0c rfl k fun t l=>?_
 refine zo (qi rfl underlying30 rfl (qz l)) ?_;obtain⟨n,g,a⟩:=zq a;refine jc rfl qbt rfl (zdi (c.mono d) g) fun e o f h=>?_;refine zi e (z8 (qx ?_));obtain rfl:=Option.some.inj a;refine qd (D:=[]) (J:=[]) (rs:=[.tmp 2]) (vs:=[e]) (d.trans f) rfl rfl ⟨rfl,trivial⟩ ?_;exact⟨rfl,h⟩
theorem q6v:Enters prog 52:=enters_of func52 rfl (by kernel_rfl)
theorem zgg{a:Bool}:ZeroOk prog 33 (tSl a (zu .i64)) ([]:List Int) 24:=by
 obtain⟨i,zv,hi,c,d,f,g⟩:=z6d (P:=prog) (e:=33) (zv:=vs0) (k:=1) (b:=24) (by kernel_rfl);exact⟨i,zv,hi,c,d,f,fun R=>by subst g;exact(ku rfl z3f)⟩
theorem znl: ∀ w,(isAgg 100).run prog w= .ok true w:=fun w=>by kernel_rfl
theorem za9{N:Nat}{R:RH}{m:Mach}{b:Value}(f:VRep (ja false false) R b m){s:Int}{i:Int}{r:Edge}(a:z1t N m s i=some r):CallP prog 54 #[b,(vi s),(vi i)] R (fun v R'=>v=(z0s r)):=by
 refine qg (args:=[b,(vi s),(vi i)]) func54 rfl rfl fun A=>?_;rw [z1t] at a;refine zl (jy (T:=(ja false false)) rfl rfl rfl f fun B C c E q=>?_);refine um rfl z6v fun p=>?_;refine z8 (q9 (zl (zg (vi s) (zo (j3 rfl rfl) (z8 (zw rfl a (fun a=>?_) (fun a=>?_)))))))
 refine zl (zo (yn (ps:=[(0,(vi (-1))),(1,(vi (-1)))]) (v:=(.agg #[(vi (-1)),(vi (-1))])) rfl (fun w=>by kernel_rfl)) (jo (i:=0) (vs:=[(vi (-1)),(vi (-1))]) z4o rfl rfl rfl rfl rfl rfl (qf rfl (qf rfl jq)) ?_));refine z8 (qx ?_);obtain rfl:=Option.some.inj a
 refine qd (D:=[]) (J:=[box p [(vi (-1)),(vi (-1))] 100]) (rs:=[.cell 6 100]) (vs:=[(.agg #[(vi (-1)),(vi (-1))])]) c rfl rfl ⟨⟨_,rfl,fun w g=>z2r (i:=0) g rfl rfl znl z4o rfl rfl⟩,trivial⟩ ?_;exact⟨rfl,rfl⟩;refine qa (zl (jb rfl ug ko rfl q fun F h=>?_))
 refine qh rfl z0c rfl h fun t j=>?_;refine zg (vi s) ?_;obtain⟨d,a⟩:=zb a;refine kw (i:=s.toNat) rfl z7n rfl (qz j) (ze rfl d.1) (zz d) fun u k=>?_;refine qh rfl z7i rfl k fun x l=>?_;refine zg (vi i) ?_;obtain⟨e,a⟩:=zb a
 refine kw (i:=i.toNat) rfl z8x rfl (qz l) (ze rfl e.1) (zz e) fun y n=>?_;refine qh rfl z7k rfl n fun z o=>?_;obtain rfl:=ax.1 o;refine jo (i:=0) (vs:=[(vi ((ix (ix m.rows s) i).to)),(vi ((ix (ix m.rows s) i).out))]) z4o rfl rfl rfl rfl rfl rfl (qf rfl (qf rfl jq)) ?_;refine z8 (qx ?_)
 obtain rfl:=Option.some.inj a;refine qd (D:=[]) (J:=[box p [(vi ((ix (ix m.rows s) i).to)),(vi ((ix (ix m.rows s) i).out))] 100]) (rs:=[.cell 6 100]) (vs:=[(.agg #[(vi ((ix (ix m.rows s) i).to)),(vi ((ix (ix m.rows s) i).out))])]) c rfl rfl ⟨⟨_,rfl,fun w g=>z2r (i:=0) g rfl rfl znl z4o rfl rfl⟩,trivial⟩ ?_;exact⟨rfl,rfl⟩
theorem q82:Enters prog 54:=enters_of func54 rfl (by kernel_rfl)
theorem q2c:Enters prog 66:=enters_of func66 rfl (by kernel_rfl)
theorem zbm{N:Nat}(F:Nat): ∀ {R:RH} {m:Mach} {d:Value} (j:VRep (ja false false) R d m) {s:Int} {n:(List Int)} {c:Value} (g:VRep (tSl false (zu .i64)) R c n) {r:Int} (b:vg N F m s n=some r),CallP prog 66 #[d,(vi s),c] R (fun v R'=>v=(vi r)):=by
  induction F with
  |zero=>intros;rename_i b;exact qp b
  |succ F ih=>
    intro R m d j s n c g r b
    refine qg (args:=[d,(vi s),c]) func66 rfl rfl fun A=>?_
    rw [vg] at b
    refine q9 ?_
    refine zy ?_
    refine jy (T:=(ja false false)) rfl rfl rfl j fun v1 R3 e h5 h2=>?_
    refine zi (vi 0) ?_
    refine z8 ?_
    refine q9 ?_
    refine q9 ?_
    refine zy ?_
    refine zg c ?_
    refine zo (qi rfl underlying33 rfl (qz (g.mono e))) ?_
    refine zo (iw rfl rfl) ?_
    refine z8 ?_
    refine zw rfl b (fun b=>?_) (fun b=>?_)
    · refine q9 ?_
      refine zy ?_
      refine zg (vi s) ?_
      refine zi (vi s) ?_
      refine z8 ?_
      refine qx ?_
      obtain rfl:=Option.some.inj b
      refine qd (D:=[]) (J:=[]) (rs:=[.tmp 6]) (vs:=[(vi s)]) e rfl rfl ⟨rfl,trivial⟩ ?_
      exact⟨rfl,rfl⟩
    · refine qa ?_
      refine q9 ?_
      obtain⟨g7,b⟩:=zb b
      obtain⟨q,c9,b⟩:=zq b
      obtain⟨o,b⟩:=zb b
      obtain⟨p,B,b⟩:=zq b
      refine p8 12 [] [phX d,phX d,phX (vi s),phX c,phP (zu .i64) (ix n 0),phX (vi (ix n 0)),phX (z0s q),phX (vi q.to),phX c,phR (tSl false (zu .i64)) (cut n 1 (↑n.length:Int)),phX (vi p),phX (vi p)] mixed (by kernel_rfl) (vw ⟨zh,zh,zh,zh,wm,zh,zh,zh,zh,vo,zh,zh,trivial⟩) ⟨?_,?_,?_,?_,?_,?_,?_,?_,?_,?_,?_,?_,trivial⟩ fun al t=>?_
      · intro l am a f x
        have C:l 3=v1:=f 3 rfl
        exact za rfl rfl rfl (zn (jg rf rfl C (h5.mono a) ((j.mono e).mono a)))
      · intro l an a f x
        have C:l 3=v1:=f 3 rfl
        exact za rfl rfl rfl (zn (jg rf rfl C (h5.mono a) ((j.mono e).mono a)))
      · intro l ao a f x
        have a1:l 1=(vi s):=f 1 rfl
        exact za rfl rfl rfl (zn (zf a1))
      · intro l aq a f x
        have E:l 2=c:=f 2 rfl
        exact za rfl rfl rfl (zn (zf E))
      · rintro l ar a f ⟨k,_⟩
        have G:=k rfl
        exact za rfl rfl rfl (ut (i:=(0:Int).toNat) fe G (qz ((g.mono e).mono a)) (ze rfl g7.1) (zz g7))
      · rintro l au a f ⟨k,_⟩
        have H:=k rfl
        exact za rfl rfl rfl (uu (kz ty3 rfl H) (fun _ _ h=>j6.1 h))
      · rintro l av a f ⟨k,y,z,_⟩
        have I:l 12=d:=k rfl
        have K:l 13=(vi s):=y rfl
        have L:l 16=(vi (ix n 0)):=z rfl
        exact za rfl rfl rfl (ww (vs:=[d,(vi s),(vi (ix n 0))]) q82 (by simp only [List.map,ev,I,K,L]<;>rfl) (za9 ((j.mono e).mono a) c9) (fun _ _ h=>h))
      · rintro l aw a f ⟨k,_⟩
        have M:=k rfl
        exact za rfl rfl rfl (zn (zy0 (v:=(z0s q)) (u:=(vi q.to)) M (fun w=>by kernel_rfl)))
      · intro l ax a f x
        have E:l 2=c:=f 2 rfl
        exact za rfl rfl rfl (zn (zf E))
      · rintro l ay a f ⟨k,_⟩
        have O:=k rfl
        exact za rfl rfl rfl (zoa (lo:=(1:Int).toNat) (hi:=(↑n.length:Int).toNat) (mx:=(capOf c)) (X':=(cut n 1 (↑n.length:Int))) fe O (qz ((g.mono e).mono a)) (.inr ⟨_,congrArg some (ze rfl o.1)⟩) (.inl ⟨rfl,rfl,rfl⟩) (.inl ⟨rfl,rfl⟩) (zgd o) (z8h o) (fun h=>Nat.le_trans (z8h o) h) (fun _=>Nat.le_refl _) rfl)
      · rintro l ai a f ⟨k,y,z,d3,_⟩
        have P:l 11=d:=k rfl
        have Q:l 18=(vi q.to):=y rfl
        have S:=z rfl
        exact za rfl rfl rfl (ww (vs:=[d,(vi q.to),(l 20)]) q2c (by simp only [List.map,ev,P,Q]<;>rfl) (ih ((j.mono e).mono a) S B) (fun _ _ h=>h))
      · rintro l aj a f ⟨k,y,z,d3,d4,d5,d6,d7,d8,d9,aA,aB,aC,_⟩
        have U:=k rfl
        exact za rfl rfl rfl (zn (iq U))
      intro aD V
      intro aE W
      intro aF X
      intro aG Y
      intro aH aI
      intro aJ Z
      intro aK aa
      intro aL ab
      intro aM ac
      intro aN aO
      intro aP ad
      intro aQ ae
      obtain rfl:=Eq.symm V
      obtain rfl:=Eq.symm W
      obtain rfl:=Eq.symm X
      obtain rfl:=Eq.symm Y
      obtain rfl:=Eq.symm Z
      obtain rfl:=Eq.symm aa
      obtain rfl:=Eq.symm ab
      obtain rfl:=Eq.symm ac
      obtain rfl:=Eq.symm ad
      obtain rfl:=Eq.symm ae
      refine z8 ?_
      refine qx ?_
      obtain rfl:=Option.some.inj b
      refine qd (D:=[]) (J:=[]) (rs:=[.tmp 6]) (vs:=[(vi p)]) (e.trans t) rfl rfl ⟨rfl,trivial⟩ ?_
      exact⟨rfl,rfl⟩
theorem z4c{N:Nat}{R:RH}{m:Mach}{b:Value}(d:VRep (ja false false) R b m){s:Int}{f:(List Int)}{a:Value}(c:VRep (tSl false (zu .i64)) R a f){r:Int}(e:vg N N m s f=some r):CallP prog 66 #[b,(vi s),a] R (fun v R'=>v=(vi r)):=zbm N d c e
theorem z9v{a:Bool}:TyOk prog 33 (tSl a (zu .i64)):=by
 obtain⟨i,hi,b⟩: ∃ i,prog.info? 33=some i∧i.size=1:=jr (by kernel_rfl);exact z2n underlying33 hi rfl b
theorem zec{a:Bool}:SlOk prog 73 33 (tSl a (zu .i64)):=⟨underlying73,z9v⟩
theorem zee{N:Nat}{R:RH}{w:(List Int)}{e:Value}(x:VRep (tSl false (zu .i64)) R e w){inputs:Int}{r:(List Int)}(c:z1u N w inputs=some r):CallP prog 115 #[e,(vi inputs)] R (fun v R'=>VRep (tSl false (zu .i64)) R' v r):=by
 refine qg (args:=[e,(vi inputs)]) func115 rfl rfl fun A=>?_;rw [z1u] at c;refine zl (zi vs0 (qw (mf (T:=(zu .i64)) (X:=([]:List Int)) (ps:=[]) (css:=[]) rfl underlying33 zo3 rfl rfl (kv trivial) rfl rfl (by decide) fun v1 f2 an h4=>?_)));refine zg e ?_;obtain⟨g6,c⟩:=zb c
 refine wh (i:=0) (X:=([]:List Int)) (Y:=w) rfl underlying33 zo3 rfl rfl rfl h4 (qz x) g6.1 g6.2 fun f f8 h9=>?_;refine zi f (z8 ?_);obtain⟨n,a,c⟩:=zq c;refine ql (γ:=(List Int)×Frag) (rs [4,5,6,7,10,34]) (fun g=>[]) (fun g=>[g.2]++A) (fun g R=>n=Ex.go g.1∧ORep (zu .i64) R g.2 f g.1∧True) ?_ ?_
 refine zl (zg f (zo (z2k rfl underlying33 rfl h9) ?_));obtain⟨G,a⟩:=zb a
 refine zo (z99 rfl rfl G) (zi (vi ((↑(([]:List Int)++w).length:Int)-1)) (z8 (zx (j5 (γ:=Nat×Int×(List Int)×Frag) (rs [4,5,6,7,13,34]) (fun g=>[(6,(vi g.2.1))]) (fun g=>[g.2.2.2]++A) (fun g R=>pg N inputs g.1 g.2.1 g.2.2.1=some n∧ORep (zu .i64) R g.2.2.2 f g.2.2.1∧True) (fun g=>g.1) (N,(↑(([]:List Int)++w).length:Int)-1,(([]:List Int)++w),f8) prm ⟨a,h9,trivial⟩ ?_))))
 clear a;rintro⟨k,b,h,H⟩ au av l ⟨a,d,_⟩;rcases k with _|k;exact qp a;replace a:pg N inputs (k+1) b h=some n:=a;rw [pg] at a;refine q9 (zl (zg (vi b) (zo (z10 rfl rfl) (z8 (zw rfl a (fun a=>?_) (fun a=>?_))))))
 refine qa (q9 (zx (q9 (zl (zg f (zg (vi b) ?_))))));obtain⟨o,a⟩:=zb a;refine uz (i:=b.toNat) rfl fe rfl d (ze rfl o.1) (zz o) fun aw I=>?_;refine z2a (i:=b.toNat) (j:=0) rfl ty3 d rfl rfl I (zz o) fun ax K=>?_;obtain rfl:=j6.1 K;obtain⟨L,a⟩:=zb a
 refine zo (j4 rfl rfl L) (zg (vi inputs) (zo (j3 rfl rfl) (z8 (zw rfl a (fun a=>?_) (fun a=>?_)))));refine zl (zg f (zg (vi b) ?_));obtain⟨p,a⟩:=zb a;refine uz (i:=b.toNat) rfl fe rfl d (ze rfl p.1) (zz p) fun az M=>?_
 refine z2a (i:=b.toNat) (j:=0) rfl ty3 d rfl rfl M (zz p) fun aA O=>?_;obtain rfl:=j6.1 O;obtain⟨P,a⟩:=zb a;refine zo (j4 rfl rfl P) ?_;obtain⟨q,a⟩:=zb a;refine uz (i:=b.toNat) rfl fe rfl d (ze rfl q.1) (zz q) fun aB Q=>?_
 refine ay (i:=b.toNat) (j:=0) ty3 d rfl rfl Q (zz q) rfl (j6.2 rfl) fun aC S=>?_;refine qw (zg f (zi f (z8 (yj (i:=0) rfl S fun U y V=>?_))));have W:VRep (tSl false (zu .i64)) U f (up h b ((ix h b)+1)):=(z3g V);refine qx ?_;replace c:=z3k a c;obtain rfl:=Option.some.inj c
 refine qd (D:=[]) (J:=[]) (rs:=[.tmp 4]) (vs:=[f]) (l.trans y) rfl rfl ⟨rfl,trivial⟩ ?_;exact⟨rfl,W⟩;refine qa (zy (zg f (zg (vi b) ?_)));obtain⟨s,a⟩:=zb a;refine uz (i:=b.toNat) rfl fe rfl d (ze rfl s.1) (zz s) fun aD Z=>?_
 refine ay (i:=b.toNat) (j:=0) ty3 d rfl rfl Z (zz s) rfl (j6.2 rfl) fun aa ab=>?_;refine z8 (zy (zg (vi b) ?_));obtain⟨ac,a⟩:=zb a;refine zo (z99 rfl rfl ac) (zi (vi (b-1)) (z8 ?_))
 exact⟨dkt,(RH.le.refl _),je,(k,b-1,(up h b 0),aa),Nat.lt_succ_self _,⟨rfl,trivial⟩,prm,a,ab,trivial⟩;refine jd ?_;exact⟨dkt,l,je,(h,H),trivial,prm,(Option.some.inj a).symm,d,trivial⟩;rintro⟨z,aE⟩ aF aG C ⟨rfl,ad,_⟩;replace c:=z4x c
 refine zl (zg f (mf (T:=(zu .i64)) (X:=([0]:List Int)) (ps:=[(0,(vi 0))]) (css:=[[(vi 0)]]) rfl underlying33 zo3 rfl rfl (kv ⟨rfl,trivial⟩) rfl rfl (by decide) fun ae aH t af=>?_));refine ui (i:=0) rfl af fun ag m ah=>?_;have ai:VRep (tSl true (zu .i64)) ag ae ([0]:List Int):=(z1d ah t)
 obtain⟨E,c⟩:=zb c;refine wh (i:=0) (X:=z) (Y:=([0]:List Int)) rfl underlying33 zo3 rfl rfl rfl (ad.mono m) (qz (Sub.v (B:=(tSl false (zu .i64))) (u6 Sub.refl (fun _=>rfl)) ai)) E.1 E.2 fun u aI aj=>?_;refine zi u (z8 (yj (i:=0) rfl aj fun ak F al=>?_))
 have am:VRep (tSl false (zu .i64)) ak u (z++([0]:List Int)):=(z3g al);refine qx ?_;obtain rfl:=Option.some.inj c;refine qd (D:=[]) (J:=[]) (rs:=[.tmp 4]) (vs:=[u]) ((C.trans m).trans F) rfl rfl ⟨rfl,trivial⟩ ?_;exact⟨rfl,am⟩
theorem q8v:Enters prog 115:=enters_of func115 rfl (by kernel_rfl)
theorem ze4{N:Nat}{R:RH}{m:Mach}{Q:Value}(S:VRep (ja false false) R Q m){f:Int}{r:(List (List Int))×(List Bool)}(o:z1b N m f=some r):CallP prog 109 #[Q,(vi f)] R (fun v R'=> ∃ u0 u1,v= .tuple #[u0,u1]∧VRep (tSl true (tSl false (zu .i64))) R' u0 r.1∧VRep (tSl true jl) R' u1 r.2):=by
 refine qg (args:=[Q,(vi f)]) func109 rfl rfl fun A=>?_;rw [z1b] at o;refine zl (jy (T:=(ja false false)) rfl rfl rfl S fun v1 R3 U h5 h2=>?_);refine zi vs0 (zi vs0 (qw (jb rfl ug ko rfl h2 fun v6 h7=>?_)));refine qh rfl z0c rfl h7 fun v8 h9=>?_
 refine zo (qi rfl underlying30 rfl (qz h9)) ?_;obtain⟨E,o⟩:=zb o;refine z2p (T:=(tSl false (zu .i64))) (m:=(↑m.rows.length:Int).toNat) (c:=(↑m.rows.length:Int).toNat) rfl underlying73 zgg (ze rfl E.1) (ze rfl E.1) (Nat.le_refl _) (z3h E) (z3m E) fun h aG V aH=>?_
 refine zi h (qw (jb rfl ug ko rfl h2 fun bi aI=>?_));refine qh rfl z0c rfl aI fun bj aJ=>?_;refine zo (qi rfl underlying30 rfl (qz aJ)) ?_;obtain⟨F,o⟩:=zb o
 refine z2p (T:=jl) (m:=(↑m.rows.length:Int).toNat) (c:=(↑m.rows.length:Int).toNat) rfl underlying64 zo4 (ze rfl F.1) (ze rfl F.1) (Nat.le_refl _) (z3h F) (z3m F) fun d aK W aL=>?_;refine zi d (z8 ?_);obtain⟨q,b,o⟩:=zq o
 refine ql (γ:=(List (List Int)×List Bool)×Frag×Frag) (rs [8,10,18,49]) (fun g=>[]) (fun g=>[g.2.1,g.2.2]++A) (fun g R=>q=g.1∧ORep (tSl false (zu .i64)) R g.2.1 h g.1.1∧capOf h=g.1.1.length∧ORep jl R g.2.2 d g.1.2∧capOf d=g.1.2.length∧True) ?_ ?_
 refine zl (mf (T:=(zu .i64)) (X:=([]:List Int)) (ps:=[]) (css:=[]) rfl underlying33 zo3 rfl rfl (kv trivial) rfl rfl (by decide) fun Y bk Z aM=>?_);refine zi Y (z8 (zx (yj (i:=0) rfl aM fun aN l aO=>?_)));have aP:VRep (tSl true (zu .i64)) aN Y ([]:List Int):=(z1d aO Z)
 refine j5 (γ:=Nat×((List Int))×(List (List Int))×(List Bool)×Value×Frag×Frag) (rs [8,10,19,49]) (fun g=>[(8,g.2.2.2.2.1)]) (fun g=>[g.2.2.2.2.2.1,g.2.2.2.2.2.2]++A) (fun g R=>yg N m f g.1 g.2.1 g.2.2.1 g.2.2.2.1=some q∧VRep (tSl false (zu .i64)) R g.2.2.2.2.1 g.2.1∧ORep (tSl false (zu .i64)) R g.2.2.2.2.2.1 h g.2.2.1∧capOf h=g.2.2.1.length∧ORep jl R g.2.2.2.2.2.2 d g.2.2.2.1∧capOf d=g.2.2.2.1.length∧True) (fun g=>g.1) (N,[],(mk (↑m.rows.length:Int) ([]:List Int)),(mk (↑m.rows.length:Int) false),Y,aG,aK) ⟨[],(pk 1 rfl (pk 0 rfl (List.Perm.refl _)))⟩ ⟨b,(Sub.v (B:=(tSl false (zu .i64))) (u6 Sub.refl (fun _=>rfl)) aP),(aH.mono l),(V.trans List.length_replicate.symm),(aL.mono l),(W.trans List.length_replicate.symm),trivial⟩ ?_
 clear b;rintro⟨G,ac,H,I,K,ad,ae⟩ a7 bl n ⟨b,L,M,t,s,u,_⟩;rcases G with _|G;exact qp b;replace b:yg N m f (G+1) ac H I=some q:=b;rw [yg] at b
 refine q9 (zl (zg K (zo (qi rfl underlying33 rfl (qz L)) (jb rfl ug ko rfl (h2.mono (l.trans n)) fun bm aQ=>?_))));refine qh rfl z0c rfl aQ fun bn aR=>?_;refine zo (qi rfl underlying30 rfl (qz aR)) (zo (j3 rfl rfl) (z8 (zw rfl b (fun b=>?_) (fun b=>?_))));refine qa ?_
 obtain⟨O,k,b⟩:=zq b;refine ql (γ:=(List (List Int)×List Bool)×Frag×Frag) (rs [9,10,29,49]) (fun g=>[]) (fun g=>[g.2.1,g.2.2]++A) (fun g R=>O=g.1∧ORep (tSl false (zu .i64)) R g.2.1 h g.1.1∧capOf h=g.1.1.length∧ORep jl R g.2.2 d g.1.2∧capOf d=g.1.2.length∧True) ?_ ?_
 refine zx (zl (zo (jg rf rfl rfl (h5.mono (l.trans n)) (S.mono ((U.trans l).trans n))) (zg (vi f) (zg K ?_))));obtain⟨e,aS,k⟩:=zq k;refine jc rfl q2c rfl (z4c (S.mono ((U.trans l).trans n)) L aS) fun bo bp a aT=>?_;obtain rfl:=aT
 refine zi (vi e) (qw (u7 (v:=(vi e)) rfl (zf rfl) (u7 rfl (z10 rfl rfl) (u7 (v:=(.bool (decide (0≤e)))) rfl (zf rfl) (jf rfl rfl rfl rfl (fun w=>jh (v:=d) (zf rfl)) fun bq aU=>?_)))));refine jf rfl rfl rfl rfl (fun w=>jh (v:=(vi e)) (zf rfl)) fun br aV=>?_;obtain⟨aa,k⟩:=zb k
 refine jf rfl rfl rfl rfl (fun w=>z3p (i:=e.toNat) z4p (aU.1 (zt rfl w)) (s.mono a) (ze (aV.1 (zt rfl w)) (aa (zt rfl w)).1) (zz (aa (zt rfl w)))) fun bs aW=>?_
 refine jf rfl rfl rfl rfl (fun w=>jh (z6x (zbf (i:=e.toNat) (j:=1) ty4 (s.mono a) rfl rfl (aW.1 (zt rfl w)) (zz (aa (zt rfl w)))))) fun bt aX=>?_;refine jf rfl rfl rfl rfl (fun w=>jh (z0g (aX.1 (zt rfl w)))) fun bu aY=>?_
 refine u7 rfl (xz rfl (fun hb=>(aY.1 (zt rfl hb))) rfl) (z8 (zw rfl k (fun k=>?_) (fun k=>?_)));refine zl (zg d (zg (vi e) ?_));obtain⟨ab,k⟩:=zb k;refine uz (i:=e.toNat) rfl z4p rfl (s.mono a) (ze rfl ab.1) (zz ab) fun bw af=>?_
 refine ay (i:=e.toNat) (j:=1) ty4 (s.mono a) rfl rfl af (zz ab) rfl (ul.2 rfl) fun ag ah=>?_;refine z8 (zy (zg h (zg (vi e) (zg K ?_))));obtain⟨x,k⟩:=zb k;refine uz (i:=e.toNat) rfl zec rfl (M.mono a) (ze rfl x.1) (zz x) fun a8 ai=>?_
 refine ay (i:=e.toNat) (j:=0) z9v (M.mono a) rfl rfl ai (zz x) rfl (L.mono a) fun aj ak=>?_;refine z8 ?_;exact⟨dkt,a,je,(((up H e ac),(up I e true)),aj,ag),trivial,prm,(Option.some.inj k).symm,ak,(t.trans List.length_set.symm),ah,(u.trans List.length_set.symm),trivial⟩;refine qa ?_
 exact⟨dkt,a,je,((H,I),ad,ae),trivial,prm,(Option.some.inj k).symm,(M.mono a),t,(s.mono a),u,trivial⟩;rintro⟨O,aZ,a0⟩ a9 bx y ⟨rfl,a1,al,a2,am,_⟩;refine zy (zg K (jb rfl av nz rfl (h2.mono ((l.trans n).trans y)) fun ba an=>?_));refine qh rfl ty3 rfl an fun bb ao=>?_
 obtain rfl:=j6.1 ao;obtain⟨ap,aq,b⟩:=zq b;refine jc rfl q8v rfl (zee (L.mono y) aq) fun P bc p ar=>?_;refine zi P (z8 ?_);exact⟨dkt,(y.trans p),je,(G,ap,O.1,O.2,P,aZ,a0),Nat.lt_succ_self _,⟨rfl,trivial⟩,prm,b,ar,(a1.mono p),al,(a2.mono p),am,trivial⟩
 refine jd ?_;exact⟨dkt,(l.trans n),je,((H,I),ad,ae),trivial,prm,(Option.some.inj b).symm,M,t,s,u,trivial⟩;rintro⟨q,bz,bA⟩ be bB au ⟨rfl,a3,aw,a4,ax,_⟩;refine zl (zg h (zg d (zi h (zi d (z8 (yj (i:=0) rfl a3 fun az z aA=>?_))))))
 have aB:VRep (tSl true (tSl false (zu .i64))) az h q.1:=(z1d aA aw);refine yj (i:=0) rfl (a4.mono z) fun aC C aD=>?_;have aE:VRep (tSl true jl) aC d q.2:=(z1d aD ax);refine qx ?_;obtain rfl:=Option.some.inj o
 refine qd (D:=[]) (J:=[]) (rs:=[.tmp 4,.tmp 5]) (vs:=[h,d]) (((U.trans au).trans z).trans C) rfl rfl ⟨rfl,rfl,trivial⟩ ?_;exact⟨rfl,⟨h,d,rfl,(aB.mono C),aE⟩⟩
theorem q9b:Enters prog 109:=enters_of func109 rfl (by kernel_rfl)
theorem zd8{N:Nat}{R:RH}{m:Mach}{b:Value}(c:VRep (ja false false) R b m){r:(List (List Int))×(List Bool)}(a:z1z N m=some r):CallP prog 102 #[b] R (fun v R'=> ∃ j k,v= .tuple #[j,k]∧VRep (tSl true (tSl false (zu .i64))) R' j r.1∧VRep (tSl true jl) R' k r.2):=by
 refine qg (args:=[b]) func102 rfl rfl fun A=>?_;rw [z1z] at a;refine zl (jy (T:=(ja false false)) rfl rfl rfl c fun q s d l t=>?_);refine zi vs0 (zi vs0 (qw (zo (jg rf rfl rfl l (c.mono d)) ?_)));obtain⟨u,n,a⟩:=zq a
 refine jc rfl q9b rfl (ze4 (c.mono d) n) fun w o g p=>?_;obtain⟨e,f,rfl,h,i⟩:=p;refine zo (ky rfl rfl) (zo (ky rfl rfl) (zi e (zi f (z8 (qx ?_)))));obtain rfl:=Option.some.inj a
 refine qd (D:=[]) (J:=[]) (rs:=[.tmp 2,.tmp 3]) (vs:=[e,f]) (d.trans g) rfl rfl ⟨rfl,rfl,trivial⟩ ?_;exact⟨rfl,⟨e,f,rfl,h,i⟩⟩
theorem q9p:Enters prog 102:=enters_of func102 rfl (by kernel_rfl)
theorem zed{N:Nat}{R:RH}{a:(List Int)}{f:Value}(l:VRep (tSl false (zu .i64)) R f a){b:(List Int)}{j:Value}(m:VRep (tSl false (zu .i64)) R j b){r:Int}(d:z0k N a b=some r):CallP prog 103 #[f,j] R (fun v R'=>v=(vi r)):=by
 refine qg (args:=[f,j]) func103 rfl rfl fun A=>?_;rw [z0k] at d;refine zl (zi (vi 0) (z8 (q9 (zl (zg f (zo (qi rfl underlying33 rfl (qz l)) (zg j (zo (qi rfl underlying33 rfl (qz m)) (zo (xx rfl rfl) (z8 (zw rfl d (fun d=>?_) (fun d=>?_))))))))))))
 refine q9 (zl (zg f (zo (qi rfl underlying33 rfl (qz l)) (zg j (zo (qi rfl underlying33 rfl (qz m)) (zo (j3 rfl rfl) (z8 (zw rfl d (fun d=>?_) (fun d=>?_)))))))));refine zl (zi (vi 1) (z8 (qx ?_)));obtain rfl:=Option.some.inj d
 refine qd (D:=[]) (J:=[]) (rs:=[.tmp 4]) (vs:=[(vi 1)]) (RH.le.refl _) rfl rfl ⟨rfl,trivial⟩ ?_;exact⟨rfl,rfl⟩;refine qa (zl (zi (vi 0) (z8 (qx ?_))));obtain rfl:=Option.some.inj d;refine qd (D:=[]) (J:=[]) (rs:=[.tmp 4]) (vs:=[(vi 0)]) (RH.le.refl _) rfl rfl ⟨rfl,trivial⟩ ?_;exact⟨rfl,rfl⟩;refine qa ?_
 obtain⟨u,c,d⟩:=zq d;refine ql (γ:=Unit) (rs [4,6,16,40]) (fun g=>[]) (fun g=>[]++A) (fun g R=>u=Ex.go g∧True) ?_ ?_
 refine zl (zi (vi 0) (z8 (zx (j5 (γ:=Nat×Int) (rs [4,6,16,40]) (fun g=>[(5,(vi g.2))]) (fun g=>[]++A) (fun g R=>mg N a b g.1 g.2=some u∧True) (fun g=>g.1) (N,0) prm ⟨c,trivial⟩ ?_))));clear c;rintro⟨t,k⟩ E O e ⟨c,_⟩;rcases t with _|t;exact qp c
 replace c:mg N a b (t+1) k=some u:=c;rw [mg] at c;refine q9 (zl (zg (vi k) (zg f (zo (qi rfl underlying33 rfl (qz (l.mono e))) (zo (j3 rfl rfl) (z8 (zw rfl c (fun c=>?_) (fun c=>?_))))))))
 refine qa (q9 (zx (q9 (z1i 9 mixed (by kernel_rfl) (by kernel_rfl) ?_))));refine kg (v:=f) (zf rfl) ?_;refine kg (v:=(vi k)) (zf rfl) ?_;obtain⟨o,c⟩:=zb c;refine z06 (yl (i:=k.toNat) fe rfl (qz (l.mono e)) (ze rfl o.1) (zz o)) fun F w=>?_;refine kg (ny (jk ty3 rfl w)) ?_
 refine kg (v:=j) (zf rfl) ?_;refine kg (v:=(vi k)) (zf rfl) ?_;obtain⟨p,c⟩:=zb c;refine z06 (yl (i:=k.toNat) fe rfl (qz (m.mono e)) (ze rfl p.1) (zz p)) fun G x=>?_;refine kg (ny (jk ty3 rfl x)) ?_;refine kg (xx rfl rfl) ?_;intro H h
 refine z8 (zw rfl c (fun c=>?_) (fun c=>?_));refine q9 (q9 (z1i 9 mixed (by kernel_rfl) (by kernel_rfl) ?_));refine kg (v:=f) (zf rfl) ?_;refine kg (v:=(vi k)) (zf rfl) ?_;obtain⟨q,c⟩:=zb c
 refine z06 (yl (i:=k.toNat) fe rfl (qz (l.mono (e.trans h))) (ze rfl q.1) (zz q)) fun I y=>?_;refine kg (ny (jk ty3 rfl y)) ?_;refine kg (v:=j) (zf rfl) ?_;refine kg (v:=(vi k)) (zf rfl) ?_;obtain⟨s,c⟩:=zb c
 refine z06 (yl (i:=k.toNat) fe rfl (qz (m.mono (e.trans h))) (ze rfl s.1) (zz s)) fun K z=>?_;refine kg (ny (jk ty3 rfl z)) ?_;refine kg (j3 rfl rfl) ?_;intro L n;refine z8 (zw rfl c (fun c=>?_) (fun c=>?_));refine zl (zi (vi 1) (z8 (qx ?_)));replace d:=z3k c d
 obtain rfl:=Option.some.inj d;refine qd (D:=[]) (J:=[]) (rs:=[.tmp 4]) (vs:=[(vi 1)]) ((e.trans h).trans n) rfl rfl ⟨rfl,trivial⟩ ?_;exact⟨rfl,rfl⟩;refine qa (zl (zi (vi 0) (z8 (qx ?_))));replace d:=z3k c d;obtain rfl:=Option.some.inj d
 refine qd (D:=[]) (J:=[]) (rs:=[.tmp 4]) (vs:=[(vi 0)]) ((e.trans h).trans n) rfl rfl ⟨rfl,trivial⟩ ?_;exact⟨rfl,rfl⟩;refine qa (zy (zg (vi k) ?_));obtain⟨B,c⟩:=zb c;refine zo (j4 rfl rfl B) (zi (vi (k+1)) (z8 ?_))
 exact⟨dkt,h,je,(t,k+1),Nat.lt_succ_self _,⟨rfl,trivial⟩,prm,c,trivial⟩;refine jd ?_;exact⟨dkt,e,je,(),trivial,prm,(Option.some.inj c).symm,trivial⟩;rintro P M Q C ⟨rfl,_⟩;replace d:=z4x d;refine zl (zi (vi 0) (z8 (qx ?_)));obtain rfl:=Option.some.inj d
 refine qd (D:=[]) (J:=[]) (rs:=[.tmp 4]) (vs:=[(vi 0)]) C rfl rfl ⟨rfl,trivial⟩ ?_;exact⟨rfl,rfl⟩
theorem q9i:Enters prog 103:=enters_of func103 rfl (by kernel_rfl)
theorem ze3{N:Nat}{R:RH}{m:Mach}{ah:Value}(ai:VRep (ja false false) R ah m){r:(List Int)}(H:z2y N m=some r):CallP prog 89 #[ah] R (fun v R'=>VRep (tSl false (zu .i64)) R' v r):=by
 refine qg (args:=[ah]) func89 rfl rfl fun A=>?_;rw [z2y] at H;refine zl (jy (T:=(ja false false)) rfl rfl rfl ai fun v1 R3 aj h5 h2=>?_);refine zi vs0 (qw (zo (jg rf rfl rfl h5 (ai.mono aj)) ?_));obtain⟨U,c7,H⟩:=zq H
 refine jc rfl q9p rfl (zd8 (ai.mono aj) c7) fun v8 bu ar h9=>?_;obtain⟨C,ak,rfl,al,aV⟩:=h9;refine zg (.tuple #[C,ak]) (zo (ky rfl rfl) (zo (ky rfl rfl) (zi C (zi ak (qw (zi vs0 (z8 ?_)))))));obtain⟨K,n,H⟩:=zq H
 refine ql (γ:=(List Int)×Value×Frag) (rs [5,9,14,60]) (fun g=>[(5,g.2.1)]) (fun g=>[g.2.2]++A) (fun g R=>K=g.1∧ORep (zu .i64) R g.2.2 g.2.1 g.1∧True) ?_ ?_;refine zl (zi (vi 0) (z8 (zx (z1g ?_))))
 refine j5 (γ:=Nat×(List Int)×Int×Value×Frag) (rs [5,9,14,60]) (fun g=>[(5,g.2.2.2.1),(6,(vi g.2.2.1))]) (fun g=>[g.2.2.2.2]++A) (fun g R=>dz N U g.1 g.2.1 g.2.2.1=some K∧ORep (zu .i64) R g.2.2.2.2 g.2.2.2.1 g.2.1∧True) (fun g=>g.1) (N,[],0,vs0,emp) prm ⟨n,(iy (T:=(zu .i64))),trivial⟩ ?_;clear n
 rintro⟨M,a,d,q,O⟩ ba bw z ⟨n,I,_⟩;rcases M with _|M;exact qp n;replace n:dz N U (M+1) a d=some K:=n;rw [dz] at n
 refine q9 (zl (zg (vi d) (zg C (zo (qi rfl underlying73 rfl (qz (al.mono z))) (zo (j3 rfl rfl) (z8 (zw rfl n (fun n=>?_) (fun n=>?_))))))));refine qa ?_;obtain⟨am,e,n⟩:=zq n
 refine ql (γ:=(List Int)×Value×Frag) (rs [5,6,7,9,20,60]) (fun g=>[(5,g.2.1)]) (fun g=>[g.2.2]++A) (fun g R=>am=g.1∧ORep (zu .i64) R g.2.2 g.2.1 g.1∧True) ?_ ?_;refine zx (q9 (zl (zg ak (zg (vi d) ?_))));obtain⟨au,e⟩:=zb e
 refine kw (i:=d.toNat) rfl z4p rfl (qz (aV.mono z)) (ze rfl au.1) (zz au) fun bx aW=>?_;refine qh rfl ty4 rfl aW fun bz aX=>?_;obtain rfl:=ul.1 aX;refine zo (z0g rfl) (z8 (zw rfl e (fun e=>?_) (fun e=>?_)));refine jd ?_
 exact⟨dkt,(RH.le.refl _),je,(a,q,O),⟨rfl,trivial⟩,prm,(Option.some.inj e).symm,I,trivial⟩;refine qa (zl (zi (vi 0) (z8 ?_)));obtain⟨f,k,e⟩:=zq e;refine ql (γ:=Int) (rs [7,8,25,46]) (fun g=>[(7,(vi g))]) (fun g=>[O]++A) (fun g R=>f=g∧True) ?_ ?_
 refine zx (j5 (γ:=Nat×Int) (rs [7,8,25,46]) (fun g=>[(7,(vi g.2))]) (fun g=>[O]++A) (fun g R=>cz N U a d g.1 g.2=some f∧True) (fun g=>g.1) (N,0) prm ⟨k,trivial⟩ ?_);clear k;rintro⟨P,b⟩ bb bA t ⟨k,_⟩;rcases P with _|P;exact qp k
 replace k:cz N U a d (P+1) b=some f:=k;rw [cz] at k;refine q9 (q9 ?_);obtain⟨an,av,aw,k⟩:=q1s k;obtain⟨L,aY,k⟩:=zq k
 refine p8 19 [] [phX (vi b),phX q,phX (vi (↑a.length:Int)),phX (.bool (decide (b<(↑a.length:Int)))),phX (.bool (decide (b<(↑a.length:Int)))),phG (true&&((decide (b<(↑a.length:Int)))==true)) (phX C),phG (true&&((decide (b<(↑a.length:Int)))==true)) (phX q),phG (true&&((decide (b<(↑a.length:Int)))==true)) (phX (vi b)),phG (true&&((decide (b<(↑a.length:Int)))==true)) ((fun u _=>z4e (zu .i64) q a u b.toNat)),phG (true&&((decide (b<(↑a.length:Int)))==true)) (phX (vi (ix a b))),phG (true&&((decide (b<(↑a.length:Int)))==true)) (phP (tSl false (zu .i64)) (ix U.1 (ix a b))),phG (true&&((decide (b<(↑a.length:Int)))==true)) (phR (tSl false (zu .i64)) (ix U.1 (ix a b))),phG (true&&((decide (b<(↑a.length:Int)))==true)) (phX C),phG (true&&((decide (b<(↑a.length:Int)))==true)) (phX (vi d)),phG (true&&((decide (b<(↑a.length:Int)))==true)) (phP (tSl false (zu .i64)) (ix U.1 d)),phG (true&&((decide (b<(↑a.length:Int)))==true)) (phR (tSl false (zu .i64)) (ix U.1 d)),phG (true&&((decide (b<(↑a.length:Int)))==true)) (phX (vi (L.getD default))),phG (true&&((decide (b<(↑a.length:Int)))==true)) (phX (.bool (decide ((L.getD default)=1)))),phX (.bool ((decide (b<(↑a.length:Int)))&&(decide ((L.getD default)=1))))] mixed (by kernel_rfl) (vw ⟨zh,zh,zh,zh,zh,(qj zh),(qj zh),(qj zh),(qj (fun _ _ _ _ h=>h)),(qj zh),(qj wm),(qj vo),(qj zh),(qj zh),(qj wm),(qj vo),(qj zh),(qj zh),zh,trivial⟩) ⟨?_,?_,?_,?_,?_,?_,?_,?_,?_,?_,?_,?_,?_,?_,?_,?_,?_,?_,?_,trivial⟩ fun bB V=>?_
 intro l bC c s hd;exact za rfl rfl rfl (zn (zf (s 7 rfl)));intro l bE c s hd;exact za rfl rfl rfl (zn (zf (s 5 rfl)));rintro l bF c s ⟨o,_⟩;exact za rfl rfl rfl (zn (z2k rfl underlying33 (o rfl) ((I.mono t).mono c)));rintro l bG c s ⟨o,x,_⟩;exact za rfl rfl rfl (zn (j3 (o rfl) (x rfl)))
 rintro l bH c s ⟨o,_⟩;exact za rfl rfl rfl (zn (zf (o rfl)));rintro l bI c s ⟨o,_⟩;exact zm (Gj:=true) (Bj:=decide (b<(↑a.length:Int))) rfl rfl rfl (jm (o rfl)) rfl (fun w p=>zn (zf (s 3 rfl)));rintro l bJ c s ⟨o,_⟩
 exact zm (Gj:=true) (Bj:=decide (b<(↑a.length:Int))) rfl rfl rfl (jm (o rfl)) rfl (fun w p=>zn (zf (s 5 rfl)));rintro l bK c s ⟨o,_⟩;exact zm (Gj:=true) (Bj:=decide (b<(↑a.length:Int))) rfl rfl rfl (jm (o rfl)) rfl (fun w p=>zn (zf (s 7 rfl)));rintro l bL c s ⟨o,x,d2,_⟩
 exact zm (Gj:=true) (Bj:=decide (b<(↑a.length:Int))) rfl rfl rfl (jm (d2 rfl)) rfl (fun w p=>sj (i:=b.toNat) fe (show l 31=q from(o rfl).1 (zt rfl p)) ((I.mono t).mono c) (ze (show l 32=(vi b) from(x rfl).1 (zt rfl p)) (an (zt w p)).1) (zz (an (zt w p))));rintro l bM c s ⟨o,x,_⟩
 exact zm (Gj:=true) (Bj:=decide (b<(↑a.length:Int))) rfl rfl rfl (jm (x rfl)) rfl (fun w p=>uu (z3r (i:=b.toNat) (j:=0) ty3 ((I.mono t).mono c) rfl rfl ((o rfl).1 (zt rfl p)) (zz (an (zt w p)))) (fun _ _ h=>j6.1 h));rintro l bc c s ⟨o,x,d2,_⟩
 exact zm (Gj:=true) (Bj:=decide (b<(↑a.length:Int))) rfl rfl rfl (jm (d2 rfl)) rfl (fun w p=>ut (i:=(ix a b).toNat) zec (show l 30=C from(o rfl).1 (zt rfl p)) (qz ((al.mono (z.trans t)).mono c)) (ze (show l 34=(vi (ix a b)) from(x rfl).1 (zt rfl p)) (av (zt w p)).1) (zz (av (zt w p))))
 rintro l be c s ⟨o,x,_⟩;exact zm (Gj:=true) (Bj:=decide (b<(↑a.length:Int))) rfl rfl rfl (jm (x rfl)) rfl (fun w p=>kz z9v rfl ((o rfl).1 (zt rfl p)));rintro l bf c s ⟨o,_⟩;exact zm (Gj:=true) (Bj:=decide (b<(↑a.length:Int))) rfl rfl rfl (jm (o rfl)) rfl (fun w p=>zn (zf (s 3 rfl)))
 rintro l bg c s ⟨o,_⟩;exact zm (Gj:=true) (Bj:=decide (b<(↑a.length:Int))) rfl rfl rfl (jm (o rfl)) rfl (fun w p=>zn (zf (s 6 rfl)));rintro l bh c s ⟨o,x,d2,_⟩
 exact zm (Gj:=true) (Bj:=decide (b<(↑a.length:Int))) rfl rfl rfl (jm (d2 rfl)) rfl (fun w p=>ut (i:=d.toNat) zec (show l 37=C from(o rfl).1 (zt rfl p)) (qz ((al.mono (z.trans t)).mono c)) (ze (show l 38=(vi d) from(x rfl).1 (zt rfl p)) (aw (zt w p)).1) (zz (aw (zt w p))))
 rintro l bi c s ⟨o,x,_⟩;exact zm (Gj:=true) (Bj:=decide (b<(↑a.length:Int))) rfl rfl rfl (jm (x rfl)) rfl (fun w p=>kz z9v rfl ((o rfl).1 (zt rfl p)));rintro l bj c s ⟨o,x,d2,d3,_⟩
 exact zm (Gj:=true) (Bj:=decide (b<(↑a.length:Int))) rfl rfl rfl (jm (d2 rfl)) rfl (fun w p=>ww (vs:=[(l 36),(l 40)]) q9i rfl ((by have aZ:=(z1h aY (zt w p));exact zed ((o rfl).1 (zt rfl p)) ((x rfl).1 (zt rfl p)) aZ)) (fun _ _ h=>h));rintro l bk c s ⟨o,x,_⟩
 exact zm (Gj:=true) (Bj:=decide (b<(↑a.length:Int))) rfl rfl rfl (jm (x rfl)) rfl (fun w p=>zn (iw (show l 41=(vi (L.getD default)) from(o rfl).1 (zt rfl p)) rfl));rintro l bl c s ⟨o,x,_⟩
 exact za rfl rfl rfl (zn (xz (o rfl) (fun hb=>(show l 42=(.bool (decide ((L.getD default)=1))) from(x rfl).1 (zt rfl hb))) rfl));intro bO a0 bP a1 bQ a2 bR a3 bS a4 bT bU bV bW bX bY bZ b0 b1 b2 b3 b4 b5 b6 b7 b8 b9 ca cb cc cd ce cf cg ch ci cj a5;obtain rfl:=Eq.symm a0;obtain rfl:=Eq.symm a1;obtain rfl:=Eq.symm a2
 obtain rfl:=Eq.symm a3;obtain rfl:=Eq.symm a4;obtain rfl:=Eq.symm a5;refine z8 (zw rfl k (fun k=>?_) (fun k=>?_));refine qa (zx (zy (zg (vi b) ?_)));obtain⟨ax,k⟩:=zb k;refine zo (j4 rfl rfl ax) (zi (vi (b+1)) (z8 ?_))
 exact⟨dkt,V,je,(P,b+1),Nat.lt_succ_self _,⟨rfl,trivial⟩,prm,k,trivial⟩;refine jd ?_;exact⟨dkt,(t.trans V),je,b,⟨rfl,trivial⟩,prm,(Option.some.inj k).symm,trivial⟩;rintro f bm ck W ⟨rfl,_⟩
 refine zl (zi vs0 (qw (zg vs0 (zg q (zg (vi f) (ui (i:=0) rfl (I.mono W) fun Z ap ay=>?_))))));have E:VRep (tSl false (zu .i64)) Z q a:=(z3g ay);obtain⟨F,e⟩:=zb e
 refine zb3 (v:=q) (lo:=(0:Int).toNat) (hi:=f.toNat) (mx:=(capOf q)) rfl fe rfl (qz E) (.inl ⟨rfl,rfl⟩) (.inr ⟨_,congrArg some (ze rfl (ze0 F))⟩) (.inl ⟨rfl,rfl⟩) (zgd F) (z8h F) (Nat.le_trans (z8h F) (zt4 (qz E))) (Nat.le_refl _) (X':=(cut a 0 f)) rfl fun az aA aT=>?_
 have aB:VRep (tSl false (zu .i64)) Z az (cut a 0 f):=z3g aA;refine zzy ?_;obtain⟨aa,e⟩:=zb e;refine wh (i:=0) (X:=([]:List Int)) (Y:=(cut a 0 f)) rfl underlying33 zo3 rfl rfl rfl (iy (T:=(zu .i64))) (qz aB) aa.1 aa.2 fun ab bn aC=>?_
 refine zi ab (qw (zg ab (zg (vi d) (mf (T:=(zu .i64)) (X:=([d]:List Int)) (ps:=[(0,(vi d))]) (css:=[[(vi d)]]) rfl underlying33 zo3 rfl rfl (kv ⟨rfl,trivial⟩) rfl rfl (by decide) fun aD bo Q aE=>?_))));refine ui (i:=0) rfl aE fun ac y aF=>?_
 have aG:VRep (tSl true (zu .i64)) ac aD ([d]:List Int):=(z1d aF Q);obtain⟨ad,e⟩:=zb e;refine wh (i:=0) (X:=(([]:List Int)++(cut a 0 f))) (Y:=([d]:List Int)) rfl underlying33 zo3 rfl rfl rfl (aC.mono y) (qz (Sub.v (B:=(tSl false (zu .i64))) (u6 Sub.refl (fun _=>rfl)) aG)) ad.1 ad.2 fun ae bp aH=>?_
 refine zi ae (z8 (zy (zg ae (zg q (zg (vi f) ?_)))));obtain⟨G,e⟩:=zb e
 refine zb3 (v:=q) (lo:=f.toNat) (hi:=(↑a.length:Int).toNat) (mx:=(capOf q)) rfl fe rfl (qz (E.mono y)) (.inr ⟨_,congrArg some (ze rfl G.1)⟩) (.inl ⟨rfl,rfl,rfl⟩) (.inl ⟨rfl,rfl⟩) (zgd G) (z8h G) (Nat.le_trans (z8h G) (zt4 (qz (E.mono y)))) (Nat.le_refl _) (X':=(cut a f (↑a.length:Int))) rfl fun aI aJ aU=>?_
 have aK:VRep (tSl false (zu .i64)) ac aI (cut a f (↑a.length:Int)):=z3g aJ;obtain⟨af,e⟩:=zb e;refine wh (i:=0) (X:=((([]:List Int)++(cut a 0 f))++([d]:List Int))) (Y:=(cut a f (↑a.length:Int))) rfl underlying33 zo3 rfl rfl rfl aH (qz aK) af.1 af.2 fun ag aL aM=>?_;refine zi ag (z8 ?_)
 exact⟨dkt,((W.trans ap).trans y),je,((((([]:List Int)++(cut a 0 f))++([d]:List Int))++(cut a f (↑a.length:Int))),ag,aL),⟨rfl,trivial⟩,prm,(Option.some.inj e).symm,aM,trivial⟩;rintro⟨am,a6,a7⟩ bq cl aN ⟨rfl,a8,_⟩;refine zy (zg (vi d) ?_);obtain⟨aO,n⟩:=zb n
 refine zo (j4 rfl rfl aO) (zi (vi (d+1)) (z8 ?_));exact⟨dkt,aN,je,(M,am,d+1,a6,a7),Nat.lt_succ_self _,⟨rfl,rfl,trivial⟩,prm,n,a8,trivial⟩;refine jd ?_;exact⟨dkt,z,je,(a,q,O),⟨rfl,trivial⟩,prm,(Option.some.inj n).symm,I,trivial⟩;rintro⟨K,S,cm⟩ br cn aP ⟨rfl,a9,_⟩
 refine zl (zg S (zi S (z8 (yj (i:=0) rfl a9 fun aQ aq aR=>?_))));have aS:VRep (tSl false (zu .i64)) aQ S K:=(z3g aR);refine qx ?_;obtain rfl:=Option.some.inj H;refine qd (D:=[]) (J:=[]) (rs:=[.tmp 2]) (vs:=[S]) (((aj.trans ar).trans aP).trans aq) rfl rfl ⟨rfl,trivial⟩ ?_;exact⟨rfl,aS⟩
theorem qa7:Enters prog 89:=enters_of func89 rfl (by kernel_rfl)
theorem z8z{N:Nat}{R:RH}{m:Mach}{O:Value}(p:VRep (ja false false) R O m){r:(List Int)}(j:z0r N m=some r):CallP prog 69 #[O] R (fun v R'=>VRep (tSl false (zu .i64)) R' v r):=by
 refine qg (args:=[O]) func69 rfl rfl fun A=>?_;rw [z0r] at j;refine zl (jy (T:=(ja false false)) rfl rfl rfl p fun v1 R3 q h5 h2=>?_);refine zi vs0 (qw (zo (jg rf rfl rfl h5 (p.mono q)) ?_));obtain⟨y6,c7,j⟩:=zq j
 refine jc rfl q6v rfl (z5d (p.mono q) c7) fun v8 aQ o h9=>?_;refine zi v8 (qw (zo (jg rf rfl rfl (h5.mono o) (p.mono (q.trans o))) ?_));obtain⟨e,ax,j⟩:=zq j;refine jc rfl qa7 rfl (ze3 (p.mono (q.trans o)) ax) fun s aR t C=>?_
 refine zi s (qw (zi vs0 (z8 ?_)));obtain⟨u,b,j⟩:=zq j;refine ql (γ:=(List Int)×Value×Frag) (rs [5,9,13,48]) (fun g=>[(5,g.2.1)]) (fun g=>[g.2.2]++A) (fun g R=>u=g.1∧ORep (zu .i64) R g.2.2 g.2.1 g.1∧True) ?_ ?_;refine zl (zi (vi 0) (z8 (zx (z1g ?_))))
 refine j5 (γ:=Nat×(List Int)×Int×Value×Frag) (rs [5,9,13,48]) (fun g=>[(5,g.2.2.2.1),(6,(vi g.2.2.1))]) (fun g=>[g.2.2.2.2]++A) (fun g R=>gp N y6 e g.1 g.2.1 g.2.2.1=some u∧ORep (zu .i64) R g.2.2.2.2 g.2.2.2.1 g.2.1∧True) (fun g=>g.1) (N,[],0,vs0,emp) prm ⟨b,(iy (T:=(zu .i64))),trivial⟩ ?_
 clear b;rintro⟨E,w,a,P,x⟩ aJ aS f ⟨b,Q,_⟩;rcases E with _|E;exact qp b;replace b:gp N y6 e (E+1) w a=some u:=b;rw [gp] at b
 refine q9 (zl (zg (vi a) (zg s (zo (qi rfl underlying33 rfl (qz (C.mono f))) (zo (j3 rfl rfl) (z8 (zw rfl b (fun b=>?_) (fun b=>?_))))))));refine qa ?_;obtain⟨S,h,b⟩:=zq b
 refine ql (γ:=(List Int)×Value×Frag) (rs [5,6,7,9,19,48]) (fun g=>[(5,g.2.1)]) (fun g=>[g.2.2]++A) (fun g R=>S=g.1∧ORep (zu .i64) R g.2.2 g.2.1 g.1∧True) ?_ ?_;refine zx (zl (zi (vi 0) (z8 ?_)));obtain⟨y,c,h⟩:=zq h
 refine ql (γ:=Int) (rs [7,9,19,39]) (fun g=>[(7,(vi g))]) (fun g=>[x]++A) (fun g R=>y=g∧True) ?_ ?_
 refine zl (zi (vi 0) (z8 (zx (j5 (γ:=Nat×Int×Int) (rs [7,9,19,39]) (fun g=>[(7,(vi g.2.1)),(8,(vi g.2.2))]) (fun g=>[x]++A) (fun g R=>bz N y6 e a g.1 g.2.1 g.2.2=some y∧True) (fun g=>g.1) (N,0,0) prm ⟨c,trivial⟩ ?_))));clear c;rintro⟨F,U,k⟩ aT aU l ⟨c,_⟩;rcases F with _|F
 exact qp c;replace c:bz N y6 e a (F+1) U k=some y:=c;rw [bz] at c;refine q9 (zl (zg (vi k) (zg (vi a) (zo (j3 rfl rfl) (z8 (zw rfl c (fun c=>?_) (fun c=>?_)))))));refine qa ?_;obtain⟨V,d,c⟩:=zq c
 refine ql (γ:=Int) (rs [7,8,24,39]) (fun g=>[(7,(vi g))]) (fun g=>[x]++A) (fun g R=>V=g∧True) ?_ ?_;refine zx (q9 (z1i 15 mixed (by kernel_rfl) (by kernel_rfl) ?_));refine kg (v:=v8) (zf rfl) ?_;refine kg (v:=s) (zf rfl) ?_;refine kg (v:=(vi k)) (zf rfl) ?_;obtain⟨Z,d⟩:=zb d
 refine z06 (yl (i:=k.toNat) fe rfl (qz (C.mono (f.trans l))) (ze rfl Z.1) (zz Z)) fun aV ay=>?_;refine kg (ny (jk ty3 rfl ay)) ?_;obtain⟨aa,d⟩:=zb d;refine z06 (yl (i:=(ix e k).toNat) fe rfl (qz (h9.mono ((t.trans f).trans l))) (ze rfl aa.1) (zz aa)) fun aW az=>?_
 refine kg (ny (jk ty3 rfl az)) ?_;refine kg (v:=v8) (zf rfl) ?_;refine kg (v:=s) (zf rfl) ?_;refine kg (v:=(vi a)) (zf rfl) ?_;obtain⟨ab,d⟩:=zb d;refine z06 (yl (i:=a.toNat) fe rfl (qz (C.mono (f.trans l))) (ze rfl ab.1) (zz ab)) fun aX aA=>?_;refine kg (ny (jk ty3 rfl aA)) ?_
 obtain⟨ac,d⟩:=zb d;refine z06 (yl (i:=(ix e a).toNat) fe rfl (qz (h9.mono ((t.trans f).trans l))) (ze rfl ac.1) (zz ac)) fun aY aB=>?_;refine kg (ny (jk ty3 rfl aB)) ?_;refine kg (iw rfl rfl) ?_;intro aZ I;refine z8 (zw rfl d (fun d=>?_) (fun d=>?_))
 refine zy (zi (vi 1) (z8 ?_));exact⟨dkt,I,je,1,⟨rfl,trivial⟩,prm,(Option.some.inj d).symm,trivial⟩;refine qa ?_;exact⟨dkt,I,je,U,⟨rfl,trivial⟩,prm,(Option.some.inj d).symm,trivial⟩;rintro V a0 a1 ad ⟨rfl,_⟩;refine zy (zg (vi k) ?_);obtain⟨aC,c⟩:=zb c
 refine zo (j4 rfl rfl aC) (zi (vi (k+1)) (z8 ?_));exact⟨dkt,ad,je,(F,V,k+1),Nat.lt_succ_self _,⟨rfl,rfl,trivial⟩,prm,c,trivial⟩;refine jd ?_;exact⟨dkt,l,je,U,⟨rfl,trivial⟩,prm,(Option.some.inj c).symm,trivial⟩;rintro y a2 a3 n ⟨rfl,_⟩
 refine zl (zg (vi y) (zo (iw rfl rfl) (z8 (zw rfl h (fun h=>?_) (fun h=>?_)))));refine zy (zg P (zg s (zg (vi a) ?_)));obtain⟨K,h⟩:=zb h;refine kw (i:=a.toNat) rfl fe rfl (qz (C.mono (f.trans n))) (ze rfl K.1) (zz K) fun aK ae=>?_
 refine qh rfl ty3 rfl ae fun aL af=>?_;obtain rfl:=j6.1 af;refine mf (T:=(zu .i64)) (X:=([(ix e a)]:List Int)) (ps:=[(0,(vi (ix e a)))]) (css:=[[(vi (ix e a))]]) rfl underlying33 zo3 rfl rfl (kv ⟨rfl,trivial⟩) rfl rfl (by decide) fun ag aM G ah=>?_;refine ui (i:=0) rfl ah fun ai z aj=>?_
 have ak:VRep (tSl true (zu .i64)) ai ag ([(ix e a)]:List Int):=(z1d aj G);obtain⟨L,h⟩:=zb h;refine wh (i:=0) (X:=w) (Y:=([(ix e a)]:List Int)) rfl underlying33 zo3 rfl rfl rfl (Q.mono (n.trans z)) (qz (Sub.v (B:=(tSl false (zu .i64))) (u6 Sub.refl (fun _=>rfl)) ak)) L.1 L.2 fun M al am=>?_
 refine zi M (z8 ?_);exact⟨dkt,(n.trans z),je,((w++([(ix e a)]:List Int)),M,al),⟨rfl,trivial⟩,prm,(Option.some.inj h).symm,am,trivial⟩;refine qa ?_;exact⟨dkt,n,je,(w,P,x),⟨rfl,trivial⟩,prm,(Option.some.inj h).symm,(Q.mono n),trivial⟩;rintro⟨S,aD,aE⟩ aN a4 an ⟨rfl,aF,_⟩
 refine zy (zg (vi a) ?_);obtain⟨ao,b⟩:=zb b;refine zo (j4 rfl rfl ao) (zi (vi (a+1)) (z8 ?_));exact⟨dkt,an,je,(E,S,a+1,aD,aE),Nat.lt_succ_self _,⟨rfl,rfl,trivial⟩,prm,b,aF,trivial⟩;refine jd ?_;exact⟨dkt,f,je,(w,P,x),⟨rfl,trivial⟩,prm,(Option.some.inj b).symm,Q,trivial⟩
 rintro⟨u,H,a5⟩ aO a6 ap ⟨rfl,aG,_⟩;refine zl (zg H (zi H (z8 (yj (i:=0) rfl aG fun aq W ar=>?_))));have au:VRep (tSl false (zu .i64)) aq H u:=(z3g ar);refine qx ?_;obtain rfl:=Option.some.inj j
 refine qd (D:=[]) (J:=[]) (rs:=[.tmp 2]) (vs:=[H]) ((((q.trans o).trans t).trans ap).trans W) rfl rfl ⟨rfl,trivial⟩ ?_;exact⟨rfl,au⟩
theorem q9n:Enters prog 69:=enters_of func69 rfl (by kernel_rfl)
theorem z8f{N:Nat}{R:RH}{m:Mach}{L:Value}(aC:VRep (ja false false) R L m){h:Int}{r:(List Bool)}(n:ib N m h=some r):CallP prog 74 #[L,(vi h)] R (fun v R'=>VRep (tSl true jl) R' v r):=by
 refine qg (args:=[L,(vi h)]) func74 rfl rfl fun A=>?_;rw [ib] at n;refine zl (jy (T:=(ja false false)) rfl rfl rfl aC fun v1 R3 aD h5 V=>?_);refine zi vs0 (qw (jb rfl ug ko rfl V fun v6 h7=>?_));refine qh rfl z0c rfl h7 fun v8 h9=>?_
 refine zo (qi rfl underlying30 rfl (qz h9)) ?_;obtain⟨E,n⟩:=zb n;refine z2p (T:=jl) (m:=(↑m.rows.length:Int).toNat) (c:=(↑m.rows.length:Int).toNat) rfl underlying64 zo4 (ze rfl E.1) (ze rfl E.1) (Nat.le_refl _) (z3h E) (z3m E) fun a bg M W=>?_;refine zi a (qw (zg a (zg (vi h) ?_)))
 obtain⟨O,n⟩:=zb n;refine uz (i:=h.toNat) rfl z4p rfl W (ze rfl O.1) (zz O) fun bh aE=>?_;refine ay (i:=h.toNat) (j:=0) ty4 W rfl rfl aE (zz O) rfl (ul.2 rfl) fun aF aG=>?_;refine z8 ?_;obtain⟨s,d,n⟩:=zq n
 refine ql (γ:=(List Bool)×Frag) (rs [6,10,17,57]) (fun g=>[]) (fun g=>[g.2]++A) (fun g R=>s=g.1∧ORep jl R g.2 a g.1∧capOf a=g.1.length∧True) ?_ ?_
 refine zl (zi (vi 0) (z8 (zx (j5 (γ:=Nat×Int×(List Bool)×Frag) (rs [6,10,17,57]) (fun g=>[(6,(vi g.2.1))]) (fun g=>[g.2.2.2]++A) (fun g R=>nk N m g.1 g.2.1 g.2.2.1=some s∧ORep jl R g.2.2.2 a g.2.2.1∧capOf a=g.2.2.1.length∧True) (fun g=>g.1) (N,0,(up (mk (↑m.rows.length:Int) false) h true),aF) prm ⟨d,aG,((M.trans List.length_replicate.symm).trans List.length_set.symm),trivial⟩ ?_))))
 clear d;rintro⟨F,t,P,X⟩ a1 bi o ⟨d,Y,I,_⟩;rcases F with _|F;exact qp d;replace d:nk N m (F+1) t P=some s:=d;rw [nk] at d;refine q9 (zl (zg (vi t) (jb rfl ug ko rfl (V.mono o) fun bj aH=>?_)));refine qh rfl z0c rfl aH fun bk aI=>?_
 refine zo (qi rfl underlying30 rfl (qz aI)) (zo (j3 rfl rfl) (z8 (zw rfl d (fun d=>?_) (fun d=>?_))));refine qa ?_;obtain⟨u,e,d⟩:=zq d;refine ql (γ:=(List Bool)×Frag) (rs [7,10,24,57]) (fun g=>[]) (fun g=>[g.2]++A) (fun g R=>u=g.1∧ORep jl R g.2 a g.1∧capOf a=g.1.length∧True) ?_ ?_
 refine zx (zl (zi (vi 0) (z8 (zx (j5 (γ:=Nat×Int×(List Bool)×Frag) (rs [7,10,24,57]) (fun g=>[(7,(vi g.2.1))]) (fun g=>[g.2.2.2]++A) (fun g R=>xh N m g.1 g.2.1 g.2.2.1=some u∧ORep jl R g.2.2.2 a g.2.2.1∧capOf a=g.2.2.1.length∧True) (fun g=>g.1) (N,0,P,X) prm ⟨e,Y,I,trivial⟩ ?_)))))
 clear e;rintro⟨G,b,Q,Z⟩ a2 bl p ⟨e,aa,K,_⟩;rcases G with _|G;exact qp e;replace e:xh N m (G+1) b Q=some u:=e;rw [xh] at e;refine q9 (zl (zg (vi b) (jb rfl ug ko rfl (V.mono (o.trans p)) fun bm aJ=>?_)))
 refine qh rfl z0c rfl aJ fun bn aK=>?_;refine zo (qi rfl underlying30 rfl (qz aK)) (zo (j3 rfl rfl) (z8 (zw rfl e (fun e=>?_) (fun e=>?_))));refine qa ?_;obtain⟨w,f,e⟩:=zq e
 refine ql (γ:=(List Bool)×Frag) (rs [8,10,31,57]) (fun g=>[]) (fun g=>[g.2]++A) (fun g R=>w=g.1∧ORep jl R g.2 a g.1∧capOf a=g.1.length∧True) ?_ ?_
 refine zx (zl (zi (vi 0) (z8 (zx (j5 (γ:=Nat×Int×(List Bool)×Frag) (rs [8,10,31,57]) (fun g=>[(8,(vi g.2.1))]) (fun g=>[g.2.2.2]++A) (fun g R=>xn N m b g.1 g.2.1 g.2.2.1=some w∧ORep jl R g.2.2.2 a g.2.2.1∧capOf a=g.2.2.1.length∧True) (fun g=>g.1) (N,0,Q,Z) prm ⟨f,aa,K,trivial⟩ ?_)))))
 clear f;rintro⟨H,k,x,ab⟩ a3 bo y ⟨f,q,z,_⟩;rcases H with _|H;exact qp f;replace f:xn N m b (H+1) k x=some w:=f;rw [xn] at f;refine q9 (zl (zg (vi k) (jb rfl av nz rfl (V.mono ((o.trans p).trans y)) fun bp aL=>?_)))
 refine qh rfl ty3 rfl aL fun bq aM=>?_;obtain rfl:=j6.1 aM;refine zo (j3 rfl rfl) (z8 (zw rfl f (fun f=>?_) (fun f=>?_)));refine qa ?_;obtain⟨S,l,f⟩:=zq f
 refine ql (γ:=(List Bool)×Frag) (rs [9,10,37,57]) (fun g=>[]) (fun g=>[g.2]++A) (fun g R=>S=g.1∧ORep jl R g.2 a g.1∧capOf a=g.1.length∧True) ?_ ?_;refine zx (zl (jb rfl ug ko rfl (V.mono ((o.trans p).trans y)) fun br aN=>?_));refine qh rfl z0c rfl aN fun bs aO=>?_;refine zg (vi b) ?_
 obtain⟨ac,l⟩:=zb l;refine kw (i:=b.toNat) rfl z7n rfl (qz aO) (ze rfl ac.1) (zz ac) fun bt aP=>?_;refine qh rfl z7i rfl aP fun bu aQ=>?_;refine zg (vi k) ?_;obtain⟨ad,l⟩:=zb l;refine kw (i:=k.toNat) rfl z8x rfl (qz aQ) (ze rfl ad.1) (zz ad) fun bv aR=>?_
 refine jb rfl yo z6u rfl aR fun bw aS=>?_;refine qh rfl ty3 rfl aS fun bx aT=>?_;obtain rfl:=j6.1 aT;refine zi (vi ((ix (ix m.rows b) k).to)) (qw (u7 (v:=a) rfl (zf rfl) (u7 (v:=(vi b)) rfl (zf rfl) ?_)));obtain⟨B,l⟩:=zb l
 refine zkl rfl (z3p (i:=b.toNat) z4p rfl q (ze rfl B.1) (zz B)) fun a4 ae=>?_;refine u7 rfl (z6x (zbf (i:=b.toNat) (j:=0) ty4 q rfl rfl ae (zz B))) (u7 (v:=(.bool (ix x b))) rfl (zf rfl) (jf rfl rfl rfl rfl (fun hB=>jh (v:=(vi ((ix (ix m.rows b) k).to))) (zf rfl)) fun a6 af=>?_))
 refine jf rfl rfl rfl rfl (fun hB=>jh (z10 (af.1 (zt rfl hB)) rfl)) fun a7 ag=>?_;refine u7 rfl (xz rfl (fun hb=>(ag.1 (zt rfl hb))) rfl) (z8 (zw rfl l (fun l=>?_) (fun l=>?_)));refine zy (zg a (zg (vi ((ix (ix m.rows b) k).to)) ?_));obtain⟨C,l⟩:=zb l
 refine uz (i:=((ix (ix m.rows b) k).to).toNat) rfl z4p rfl q (ze rfl C.1) (zz C) fun a8 ah=>?_;refine ay (i:=((ix (ix m.rows b) k).to).toNat) (j:=0) ty4 q rfl rfl ah (zz C) rfl (ul.2 rfl) fun ai aj=>?_;refine z8 ?_
 exact⟨dkt,(RH.le.refl _),je,((up x ((ix (ix m.rows b) k).to) true),ai),trivial,prm,(Option.some.inj l).symm,aj,(z.trans List.length_set.symm),trivial⟩;refine qa ?_;exact⟨dkt,(RH.le.refl _),je,(x,ab),trivial,prm,(Option.some.inj l).symm,q,z,trivial⟩;rintro⟨S,aU⟩ a9 bA ak ⟨rfl,aV,al,_⟩;refine zy (zg (vi k) ?_)
 obtain⟨am,f⟩:=zb f;refine zo (j4 rfl rfl am) (zi (vi (k+1)) (z8 ?_));exact⟨dkt,ak,je,(H,k+1,S,aU),Nat.lt_succ_self _,⟨rfl,trivial⟩,prm,f,aV,al,trivial⟩;refine jd ?_;exact⟨dkt,y,je,(x,ab),trivial,prm,(Option.some.inj f).symm,q,z,trivial⟩;rintro⟨w,aW⟩ ba bB an ⟨rfl,aX,ao,_⟩
 refine zy (zg (vi b) ?_);obtain⟨ap,e⟩:=zb e;refine zo (j4 rfl rfl ap) (zi (vi (b+1)) (z8 ?_));exact⟨dkt,an,je,(G,b+1,w,aW),Nat.lt_succ_self _,⟨rfl,trivial⟩,prm,e,aX,ao,trivial⟩;refine jd ?_;exact⟨dkt,p,je,(Q,Z),trivial,prm,(Option.some.inj e).symm,aa,K,trivial⟩
 rintro⟨u,aY⟩ bb bC aq ⟨rfl,aZ,ar,_⟩;refine zy (zg (vi t) ?_);obtain⟨au,d⟩:=zb d;refine zo (j4 rfl rfl au) (zi (vi (t+1)) (z8 ?_));exact⟨dkt,aq,je,(F,t+1,u,aY),Nat.lt_succ_self _,⟨rfl,trivial⟩,prm,d,aZ,ar,trivial⟩;refine jd ?_
 exact⟨dkt,o,je,(P,X),trivial,prm,(Option.some.inj d).symm,Y,I,trivial⟩;rintro⟨s,bD⟩ bc bE aw ⟨rfl,a0,ax,_⟩;refine zl (zg a (zi a (z8 (yj (i:=0) rfl a0 fun az U aA=>?_))));have aB:VRep (tSl true jl) az a s:=(z1d aA ax);refine qx ?_;obtain rfl:=Option.some.inj n
 refine qd (D:=[]) (J:=[]) (rs:=[.tmp 4]) (vs:=[a]) ((aD.trans aw).trans U) rfl rfl ⟨rfl,trivial⟩ ?_;exact⟨rfl,aB⟩
theorem q9g:Enters prog 74:=enters_of func74 rfl (by kernel_rfl)
theorem zfx{N:Nat}{R:RH}{m:Mach}{aa:Value}(E:VRep (ja false false) R aa m){r:(List Int)}(u:z4h N m=some r):CallP prog 70 #[aa] R (fun v R'=>VRep (tSl false (zu .i64)) R' v r):=by
 refine qg (args:=[aa]) func70 rfl rfl fun A=>?_;rw [z4h] at u;refine zl (jy (T:=(ja false false)) rfl rfl rfl E fun v1 R3 F h5 h2=>?_);refine zi vs0 (qw (zo (jg rf rfl rfl h5 (E.mono F)) ?_));obtain⟨C,c7,u⟩:=zq u
 refine jc rfl q6v rfl (z5d (E.mono F) c7) fun v8 a6 p h9=>?_;refine zi v8 (qw (zo (jg rf rfl rfl (h5.mono p) (E.mono (F.trans p))) ?_));obtain⟨k,aJ,u⟩:=zq u;refine jc rfl q9n rfl (z8z (E.mono (F.trans p)) aJ) fun K a7 q ai=>?_
 refine zi K (qw (zo (jg rf rfl rfl (h5.mono (p.trans q)) (E.mono ((F.trans p).trans q))) ?_));obtain⟨b,aK,u⟩:=zq u;refine jc rfl q9g rfl (z8f (E.mono ((F.trans p).trans q)) aK) fun aj a8 w aL=>?_;refine zi aj (qw (zi vs0 (z8 ?_)));obtain⟨H,e,u⟩:=zq u
 refine ql (γ:=(List Int)×Value×Frag) (rs [6,10,16,51]) (fun g=>[(6,g.2.1)]) (fun g=>[g.2.2]++A) (fun g R=>H=g.1∧ORep (zu .i64) R g.2.2 g.2.1 g.1∧True) ?_ ?_;refine zl (zi (vi 0) (z8 (zx (z1g ?_))))
 refine j5 (γ:=Nat×(List Int)×Int×Value×Frag) (rs [6,10,16,51]) (fun g=>[(6,g.2.2.2.1),(7,(vi g.2.2.1))]) (fun g=>[g.2.2.2.2]++A) (fun g R=>ae N C k b g.1 g.2.1 g.2.2.1=some H∧ORep (zu .i64) R g.2.2.2.2 g.2.2.2.1 g.2.1∧True) (fun g=>g.1) (N,[],0,vs0,emp) prm ⟨e,(iy (T:=(zu .i64))),trivial⟩ ?_
 clear e;rintro⟨L,M,a,ak,O⟩ aS a9 s ⟨e,al,_⟩;rcases L with _|L;exact qp e;replace e:ae N C k b (L+1) M a=some H:=e;rw [ae] at e
 refine q9 (zl (zg (vi a) (zg v8 (zo (qi rfl underlying33 rfl (qz (h9.mono ((q.trans w).trans s)))) (zo (j3 rfl rfl) (z8 (zw rfl e (fun e=>?_) (fun e=>?_))))))));refine qa (q9 (zx (zl (zi (vi (-1)) (z8 ?_)))));obtain⟨t,f,e⟩:=zq e
 refine ql (γ:=Int) (rs [8,10,22,47]) (fun g=>[(8,(vi g))]) (fun g=>[O]++A) (fun g R=>t=g∧True) ?_ ?_
 refine zl (zi (vi 0) (z8 (zx (j5 (γ:=Nat×Int×Int) (rs [8,10,22,47]) (fun g=>[(8,(vi g.2.1)),(9,(vi g.2.2))]) (fun g=>[O]++A) (fun g R=>ah N C k b a g.1 g.2.1 g.2.2=some t∧True) (fun g=>g.1) (N,(-1),0) prm ⟨f,trivial⟩ ?_))));clear f;rintro⟨P,ab,c⟩ aT ba x ⟨f,_⟩
 rcases P with _|P;exact qp f;replace f:ah N C k b a (P+1) ab c=some t:=f;rw [ah] at f;refine q9 (zl (zg (vi c) (zg K (zo (qi rfl underlying33 rfl (qz (ai.mono ((w.trans s).trans x)))) (zo (j3 rfl rfl) (z8 (zw rfl f (fun f=>?_) (fun f=>?_))))))))
 refine qa ?_;obtain⟨ac,G,f⟩:=zq f;refine ql (γ:=Int) (rs [8,9,28,47]) (fun g=>[(8,(vi g))]) (fun g=>[O]++A) (fun g R=>ac=g∧True) ?_ ?_;refine zx (q9 ?_);obtain⟨am,an,ao,ap,G⟩:=q2j G
 refine p8 18 [] [phX aj,phX (vi a),phP jl (ix b a),phX (.bool (ix b a)),phX (.bool (ix b a)),phG (true&&((ix b a)==true)) (phX v8),phG (true&&((ix b a)==true)) (phX K),phG (true&&((ix b a)==true)) (phX (vi c)),phG (true&&((ix b a)==true)) (phP (zu .i64) (ix k c)),phG (true&&((ix b a)==true)) (phX (vi (ix k c))),phG (true&&((ix b a)==true)) (phP (zu .i64) (ix C (ix k c))),phG (true&&((ix b a)==true)) (phX (vi (ix C (ix k c)))),phG (true&&((ix b a)==true)) (phX v8),phG (true&&((ix b a)==true)) (phX (vi a)),phG (true&&((ix b a)==true)) (phP (zu .i64) (ix C a)),phG (true&&((ix b a)==true)) (phX (vi (ix C a))),phG (true&&((ix b a)==true)) (phX (.bool (decide ((ix C (ix k c))=(ix C a))))),phX (.bool ((ix b a)&&(decide ((ix C (ix k c))=(ix C a)))))] mixed (by kernel_rfl) (vw ⟨zh,zh,wm,zh,zh,(qj zh),(qj zh),(qj zh),(qj wm),(qj zh),(qj wm),(qj zh),(qj zh),(qj zh),(qj wm),(qj zh),(qj zh),zh,trivial⟩) ⟨?_,?_,?_,?_,?_,?_,?_,?_,?_,?_,?_,?_,?_,?_,?_,?_,?_,?_,trivial⟩ fun bb U=>?_
 intro l bc d o hd;exact za rfl rfl rfl (zn (zf (o 5 rfl)));intro l bf d o hd;exact za rfl rfl rfl (zn (zf (o 7 rfl)));rintro l bg d o ⟨j,y,_⟩;have aq:=j rfl;exact za rfl rfl rfl (ut (i:=a.toNat) z4p aq (qz ((aL.mono (s.trans x)).mono d)) (ze (y rfl) am.1) (zz am));rintro l bh d o ⟨j,_⟩
 exact za rfl rfl rfl (uu (kz ty4 rfl (j rfl)) (fun _ _ h=>ul.1 h));rintro l bi d o ⟨j,_⟩;exact za rfl rfl rfl (zn (zf (j rfl)));rintro l bj d o ⟨j,_⟩;exact zm (Gj:=true) (Bj:=(ix b a)) rfl rfl rfl (jm (j rfl)) rfl (fun z n=>zn (zf (o 3 rfl)));rintro l bk d o ⟨j,_⟩
 exact zm (Gj:=true) (Bj:=(ix b a)) rfl rfl rfl (jm (j rfl)) rfl (fun z n=>zn (zf (o 4 rfl)));rintro l bl d o ⟨j,_⟩;exact zm (Gj:=true) (Bj:=(ix b a)) rfl rfl rfl (jm (j rfl)) rfl (fun z n=>zn (zf (o 9 rfl)));rintro l bm d o ⟨j,y,d2,_⟩
 exact zm (Gj:=true) (Bj:=(ix b a)) rfl rfl rfl (jm (d2 rfl)) rfl (fun z n=>ut (i:=c.toNat) fe (show l 34=K from(j rfl).1 (zt rfl n)) (qz ((ai.mono ((w.trans s).trans x)).mono d)) (ze (show l 35=(vi c) from(y rfl).1 (zt rfl n)) (an (zt z n)).1) (zz (an (zt z n))));rintro l bn d o ⟨j,y,_⟩
 exact zm (Gj:=true) (Bj:=(ix b a)) rfl rfl rfl (jm (y rfl)) rfl (fun z n=>uu (kz ty3 rfl ((j rfl).1 (zt rfl n))) (fun _ _ h=>j6.1 h));rintro l aU d o ⟨j,y,d2,_⟩
 exact zm (Gj:=true) (Bj:=(ix b a)) rfl rfl rfl (jm (d2 rfl)) rfl (fun z n=>ut (i:=(ix k c).toNat) fe (show l 33=v8 from(j rfl).1 (zt rfl n)) (qz ((h9.mono (((q.trans w).trans s).trans x)).mono d)) (ze (show l 37=(vi (ix k c)) from(y rfl).1 (zt rfl n)) (ao (zt z n)).1) (zz (ao (zt z n))))
 rintro l aV d o ⟨j,y,_⟩;exact zm (Gj:=true) (Bj:=(ix b a)) rfl rfl rfl (jm (y rfl)) rfl (fun z n=>uu (kz ty3 rfl ((j rfl).1 (zt rfl n))) (fun _ _ h=>j6.1 h));rintro l aW d o ⟨j,_⟩;exact zm (Gj:=true) (Bj:=(ix b a)) rfl rfl rfl (jm (j rfl)) rfl (fun z n=>zn (zf (o 3 rfl)))
 rintro l aX d o ⟨j,_⟩;exact zm (Gj:=true) (Bj:=(ix b a)) rfl rfl rfl (jm (j rfl)) rfl (fun z n=>zn (zf (o 7 rfl)));rintro l aY d o ⟨j,y,d2,_⟩
 exact zm (Gj:=true) (Bj:=(ix b a)) rfl rfl rfl (jm (d2 rfl)) rfl (fun z n=>ut (i:=a.toNat) fe (show l 40=v8 from(j rfl).1 (zt rfl n)) (qz ((h9.mono (((q.trans w).trans s).trans x)).mono d)) (ze (show l 41=(vi a) from(y rfl).1 (zt rfl n)) (ap (zt z n)).1) (zz (ap (zt z n))))
 rintro l aZ d o ⟨j,y,_⟩;exact zm (Gj:=true) (Bj:=(ix b a)) rfl rfl rfl (jm (y rfl)) rfl (fun z n=>uu (kz ty3 rfl ((j rfl).1 (zt rfl n))) (fun _ _ h=>j6.1 h));rintro l a0 d o ⟨j,y,d2,_⟩
 exact zm (Gj:=true) (Bj:=(ix b a)) rfl rfl rfl (jm (d2 rfl)) rfl (fun z n=>zn (iw (show l 39=(vi (ix C (ix k c))) from(j rfl).1 (zt rfl n)) (show l 43=(vi (ix C a)) from(y rfl).1 (zt rfl n))));rintro l a1 d o ⟨j,y,_⟩
 exact za rfl rfl rfl (zn (xz (j rfl) (fun hb=>(show l 44=(.bool (decide ((ix C (ix k c))=(ix C a)))) from(y rfl).1 (zt rfl hb))) rfl));intro bp aM bq aN br bs bt aO bu aP bv bw bx bz bA bB bC bD bE bF bG bH bI bJ bK bL bM bN bO bP bQ bR bS bT bU aQ;obtain rfl:=Eq.symm aM;obtain rfl:=Eq.symm aN;obtain rfl:=Eq.symm aO
 obtain rfl:=Eq.symm aP;obtain rfl:=Eq.symm aQ;refine z8 (zw rfl G (fun G=>?_) (fun G=>?_));refine zy (zg (vi c) (zi (vi c) (z8 ?_)));exact⟨dkt,U,je,c,⟨rfl,trivial⟩,prm,(Option.some.inj G).symm,trivial⟩;refine qa ?_;exact⟨dkt,U,je,ab,⟨rfl,trivial⟩,prm,(Option.some.inj G).symm,trivial⟩
 rintro ac bV bW ar ⟨rfl,_⟩;refine zy (zg (vi c) ?_);obtain⟨au,f⟩:=zb f;refine zo (j4 rfl rfl au) (zi (vi (c+1)) (z8 ?_));exact⟨dkt,ar,je,(P,ac,c+1),Nat.lt_succ_self _,⟨rfl,rfl,trivial⟩,prm,f,trivial⟩;refine jd ?_;exact⟨dkt,x,je,ab,⟨rfl,trivial⟩,prm,(Option.some.inj f).symm,trivial⟩
 rintro t a2 bX V ⟨rfl,_⟩;refine zy (zg ak (zg (vi t) (mf (T:=(zu .i64)) (X:=([t]:List Int)) (ps:=[(0,(vi t))]) (css:=[[(vi t)]]) rfl underlying33 zo3 rfl rfl (kv ⟨rfl,trivial⟩) rfl rfl (by decide) fun av a3 Q aw=>?_)));refine ui (i:=0) rfl aw fun ax I ay=>?_
 have az:VRep (tSl true (zu .i64)) ax av ([t]:List Int):=(z1d ay Q);obtain⟨W,e⟩:=zb e;refine wh (i:=0) (X:=M) (Y:=([t]:List Int)) rfl underlying33 zo3 rfl rfl rfl (al.mono (V.trans I)) (qz (Sub.v (B:=(tSl false (zu .i64))) (u6 Sub.refl (fun _=>rfl)) az)) W.1 W.2 fun Z aA aB=>?_
 refine zi Z (z8 (zy (zg (vi a) ?_)));obtain⟨aC,e⟩:=zb e;refine zo (j4 rfl rfl aC) (zi (vi (a+1)) (z8 ?_));exact⟨dkt,(V.trans I),je,(L,(M++([t]:List Int)),a+1,Z,aA),Nat.lt_succ_self _,⟨rfl,rfl,trivial⟩,prm,e,aB,trivial⟩;refine jd ?_
 exact⟨dkt,s,je,(M,ak,O),⟨rfl,trivial⟩,prm,(Option.some.inj e).symm,al,trivial⟩;rintro⟨H,S,aq⟩ a4 bY aD ⟨rfl,aR,_⟩;refine zl (zg S (zi S (z8 (yj (i:=0) rfl aR fun aE af aF=>?_))));have aG:VRep (tSl false (zu .i64)) aE S H:=(z3g aF);refine qx ?_;obtain rfl:=Option.some.inj u
 refine qd (D:=[]) (J:=[]) (rs:=[.tmp 2]) (vs:=[S]) (((((F.trans p).trans q).trans w).trans aD).trans af) rfl rfl ⟨rfl,trivial⟩ ?_;exact⟨rfl,aG⟩
theorem qa8:Enters prog 70:=enters_of func70 rfl (by kernel_rfl)
theorem sz3: ∀ w,(sizeOf 3).run prog w= .ok 1 w:=fun w=>by kernel_rfl
theorem zcj{N:Nat}{R:RH}{m:Mach}{aj:Value}(E:VRep (ja false false) R aj m){r:Mach}(q:z1p N m=some r):CallP prog 45 #[aj] R (fun v R'=>VRep (ja false false) R' v r):=by
 refine qg (args:=[aj]) func45 rfl rfl fun A=>?_;rw [z1p] at q;refine zl (jy (T:=(ja false false)) rfl rfl rfl E fun v1 R3 F h5 h2=>?_);refine um rfl zh3 fun b6=>?_;refine qw (zo (jg rf rfl rfl h5 (E.mono F)) ?_);obtain⟨k,c9,q⟩:=zq q
 refine jc rfl q9n rfl (z8z (E.mono F) c9) fun ak bA f an=>?_;refine zi ak (qw (zo (jg rf rfl rfl (h5.mono f) (E.mono (F.trans f))) ?_));obtain⟨x,a5,q⟩:=zq q;refine jc rfl qa8 rfl (zfx (E.mono (F.trans f)) a5) fun ao bB j a6=>?_
 refine zi ao (qw (jb rfl av nz rfl (h2.mono (f.trans j)) fun bC a7=>?_));refine qh rfl ty3 rfl a7 fun bD a8=>?_;obtain rfl:=j6.1 a8;refine jb rfl zaj z6o rfl (h2.mono (f.trans j)) fun bE a9=>?_;refine qh rfl ty3 rfl a9 fun bF ba=>?_;obtain rfl:=j6.1 ba
 refine zo (yn (ps:=[(0,(vi m.inputs)),(1,(vi m.outputs))]) (v:=(.agg #[(vi m.inputs),(vi m.outputs),vs0])) rfl (fun w=>by kernel_rfl)) (um rfl zh3 fun y=>?_)
 refine jo (i:=0) (vs:=[(vi m.inputs),(vi m.outputs),vs0]) z4k rfl rfl rfl rfl rfl rfl (qf rfl (qf rfl (qf rfl jq))) ?_;refine z8 ?_;obtain⟨z,d,q⟩:=zq q
 refine ql (γ:=(List (List Edge))×Value×Frag) (rs [6,10,19,61]) (fun g=>[]) (fun g=>[box b6 [(vi 0),(vi 0),vs0] 32,box y [(vi m.inputs),(vi m.outputs),g.2.1] 32,g.2.2]++A) (fun g R=>z=g.1∧ORep (tSl false kEdge) R g.2.2 g.2.1 g.1∧True) ?_ ?_;refine zl (zi (vi 0) (z8 (zx (z1g ?_))))
 refine j5 (γ:=Nat×Int×(List (List Edge))×Value×Frag) (rs [6,10,19,61]) (fun g=>[(6,(vi g.2.1))]) (fun g=>[box b6 [(vi 0),(vi 0),vs0] 32,box y [(vi m.inputs),(vi m.outputs),g.2.2.2.1] 32,g.2.2.2.2]++A) (fun g R=>xe N m k x g.1 g.2.1 g.2.2.1=some z∧ORep (tSl false kEdge) R g.2.2.2.2 g.2.2.2.1 g.2.2.1∧True) (fun g=>g.1) (N,0,[],vs0,emp) ⟨[],(pk 2 rfl (pk 1 rfl (pk 0 rfl (List.Perm.refl _))))⟩ ⟨d,(iy (T:=(tSl false kEdge))),trivial⟩ ?_
 clear d;rintro⟨P,a,Q,S,U⟩ bm bG n ⟨d,ap,_⟩;rcases P with _|P;exact qp d;replace d:xe N m k x (P+1) a Q=some z:=d;rw [xe] at d
 refine q9 (zl (zg (vi a) (zg ak (zo (qi rfl underlying33 rfl (qz (an.mono (j.trans n)))) (zo (j3 rfl rfl) (z8 (zw rfl d (fun d=>?_) (fun d=>?_))))))));refine qa (q9 (zx (zl (zi vs0 (z8 ?_)))));obtain⟨p,b,d⟩:=zq d
 refine ql (γ:=(List Edge)×Value×Frag) (rs [7,10,25,55]) (fun g=>[(7,g.2.1)]) (fun g=>[box b6 [(vi 0),(vi 0),vs0] 32,box y [(vi m.inputs),(vi m.outputs),S] 32,U,g.2.2]++A) (fun g R=>p=g.1∧ORep kEdge R g.2.2 g.2.1 g.1∧True) ?_ ?_;refine zl (zi (vi 0) (z8 (zx (z1g ?_))))
 refine j5 (γ:=Nat×(List Edge)×Int×Value×Frag) (rs [7,10,25,55]) (fun g=>[(7,g.2.2.2.1),(8,(vi g.2.2.1))]) (fun g=>[box b6 [(vi 0),(vi 0),vs0] 32,box y [(vi m.inputs),(vi m.outputs),S] 32,U,g.2.2.2.2]++A) (fun g R=>xg N m k x a g.1 g.2.1 g.2.2.1=some p∧ORep kEdge R g.2.2.2.2 g.2.2.2.1 g.2.1∧True) (fun g=>g.1) (N,[],0,vs0,emp) ⟨[],(pk 1 rfl (pk 1 rfl (pk 1 rfl (pk 0 rfl (List.Perm.refl _)))))⟩ ⟨b,(iy (T:=kEdge)),trivial⟩ ?_
 clear b;rintro⟨V,W,c,aq,ar⟩ bn bH s ⟨b,aw,_⟩;rcases V with _|V;exact qp b;replace b:xg N m k x a (V+1) W c=some p:=b;rw [xg] at b;refine q9 (zl (zg (vi c) (jb rfl av nz rfl (h2.mono (((f.trans j).trans n).trans s)) fun bI bb=>?_)))
 refine qh rfl ty3 rfl bb fun bJ bc=>?_;obtain rfl:=j6.1 bc;refine zo (j3 rfl rfl) (z8 (zw rfl b (fun b=>?_) (fun b=>?_)));refine qa (q9 (zx (q9 ?_)));obtain⟨ay,az,aA,b⟩:=q1s b
 refine p8 12 [⟨11,[.int .i64 0,.int .i64 0],100⟩] [phP (tSl false (tSl false kEdge)) m.rows,phR (tSl false (tSl false kEdge)) m.rows,phX ak,phX (vi a),phP (zu .i64) (ix k a),phX (vi (ix k a)),phP (tSl false kEdge) (ix m.rows (ix k a)),phR (tSl false kEdge) (ix m.rows (ix k a)),phX (vi c),phP kEdge (ix (ix m.rows (ix k a)) c),phX (z0s (ix (ix m.rows (ix k a)) c)),phB] mixed (by kernel_rfl) (vw ⟨wm,vo,zh,zh,wm,zh,wm,vo,zh,wm,zh,ztl,trivial⟩) ⟨?_,?_,?_,?_,?_,?_,?_,?_,?_,?_,?_,?_,trivial⟩ fun bK G=>?_
 intro l bL e t hd;exact za rfl rfl rfl (oq ug ko (t 1 rfl) ((h2.mono (((f.trans j).trans n).trans s)).mono e));rintro l bM e t ⟨C,_⟩;exact za rfl rfl rfl (kz z0c rfl (C rfl));intro l bN e t hd;exact za rfl rfl rfl (zn (zf (t 3 rfl)));intro l bO e t hd
 exact za rfl rfl rfl (zn (zf (t 6 rfl)));rintro l bP e t ⟨C,d1,_⟩;have aC:=d1 rfl;exact za rfl rfl rfl (ut (i:=a.toNat) fe (C rfl) (qz ((an.mono ((j.trans n).trans s)).mono e)) (ze aC ay.1) (zz ay));rintro l bQ e t ⟨C,_⟩
 exact za rfl rfl rfl (uu (kz ty3 rfl (C rfl)) (fun _ _ h=>j6.1 h));rintro l bR e t ⟨C,d1,_⟩;exact za rfl rfl rfl (ut (i:=(ix k a).toNat) z7n rfl (qz (C rfl)) (ze (d1 rfl) az.1) (zz az));rintro l bS e t ⟨C,_⟩;exact za rfl rfl rfl (kz z7i rfl (C rfl));intro l bT e t hd
 exact za rfl rfl rfl (zn (zf (t 8 rfl)));rintro l bU e t ⟨C,d1,_⟩;exact za rfl rfl rfl (ut (i:=c.toNat) z8x rfl (qz (C rfl)) (ze (d1 rfl) aA.1) (zz aA));rintro l bo e t ⟨C,_⟩;exact za rfl rfl rfl (uu (kz z7k rfl (C rfl)) (fun _ _ h=>ax.1 h));intro l bp e t hd
 exact zjh rfl rfl rfl rfl z6v;intro bV bW bX bY bZ be b0 bf b1 b2 b3 bg b4 b5 b7 b8 b9 bh ca cb cc bi cd bj;obtain rfl:=Eq.symm be;obtain rfl:=Eq.symm bf;obtain rfl:=Eq.symm bg;obtain rfl:=Eq.symm bh;obtain rfl:=Eq.symm bi;obtain⟨aD,rfl⟩:=bj
 refine jo (i:=0) (vs:=[(vi ((ix (ix m.rows (ix k a)) c).to)),(vi ((ix (ix m.rows (ix k a)) c).out))]) z4o rfl rfl rfl rfl rfl rfl (qf rfl (qf rfl jq)) ?_;refine z8 ?_;obtain⟨o,u,b⟩:=zq b
 refine ql (γ:=Int) (rs [42,51]) (fun g=>[]) (fun g=>[box b6 [(vi 0),(vi 0),vs0] 32,box y [(vi m.inputs),(vi m.outputs),S] 32,U,ar,box aD [(vi g),(vi ((ix (ix m.rows (ix k a)) c).out))] 100]++A) (fun g R=>o=g∧True) ?_ ?_
 refine zl (zo (q8 yo rfl) (zo (qb (i:=0) ag3 rfl rfl rfl) (zo (z10 rfl rfl) (z8 (zw rfl u (fun u=>?_) (fun u=>?_))))));refine zy (zg ao (zo (q8 yo rfl) (zo (qb (i:=0) ag3 rfl rfl rfl) ?_)));obtain⟨ac,u⟩:=zb u
 refine kw (i:=((ix (ix m.rows (ix k a)) c).to).toNat) rfl fe rfl (qz (a6.mono ((n.trans s).trans G))) (ze rfl ac.1) (zz ac) fun bq aE=>?_;refine qh rfl ty3 rfl aE fun br aF=>?_;obtain rfl:=j6.1 aF
 refine zo (q8 yo rfl) (jo (i:=0) (vs:=[(vi (ix x ((ix (ix m.rows (ix k a)) c).to)))]) sz3 rfl rfl rfl rfl rfl rfl (qf rfl jq) ?_);refine z8 ?_
 exact⟨dkt,(RH.le.refl _),je,(ix x ((ix (ix m.rows (ix k a)) c).to)),trivial,⟨[],(pk 1 rfl (pk 1 rfl (pk 1 rfl (pk 1 rfl (pk 0 rfl (List.Perm.refl _))))))⟩,(Option.some.inj u).symm,trivial⟩;refine qa ?_
 exact⟨dkt,(RH.le.refl _),je,(ix (ix m.rows (ix k a)) c).to,trivial,⟨[],(pk 1 rfl (pk 1 rfl (pk 1 rfl (pk 1 rfl (pk 0 rfl (List.Perm.refl _))))))⟩,(Option.some.inj u).symm,trivial⟩;rintro o bs bt H ⟨rfl,_⟩;refine zy (zg aq (zo (wu (i:=4) znl z4o rfl rfl rfl rfl) ?_))
 let G1:=([(⟨o,(ix (ix m.rows (ix k a)) c).out⟩:Edge)]:List Edge)
 refine mf (T:=kEdge) (X:=G1) (ps:=[(0,(.agg #[(vi o),(vi ((ix (ix m.rows (ix k a)) c).out))]))]) (css:=[[(vi o),(vi ((ix (ix m.rows (ix k a)) c).out))]]) rfl underlying97 zg9 rfl rfl (kv ⟨⟨_,_,rfl,rfl,rfl⟩,trivial⟩) rfl rfl (by decide) fun aG bu Z aH=>?_
 refine ui (i:=0) rfl aH fun aI I aJ=>?_;have aK:VRep (tSl true kEdge) aI aG G1:=(z1d aJ Z);obtain⟨ad,b⟩:=zb b
 refine wh (i:=3) (X:=W) (Y:=G1) rfl underlying97 zg9 rfl rfl rfl (aw.mono ((G.trans H).trans I)) (qz (Sub.v (B:=(tSl false kEdge)) (u6 Sub.refl (fun _=>rfl)) aK)) ad.1 ad.2 fun ae aL aM=>?_;refine zi ae (z8 (zy (zg (vi c) ?_)));obtain⟨aN,b⟩:=zb b
 refine zo (j4 rfl rfl aN) (zi (vi (c+1)) (z8 ?_));exact⟨dkt,((G.trans H).trans I),je,(V,(W++G1),c+1,ae,aL),Nat.lt_succ_self _,⟨rfl,rfl,trivial⟩,⟨[box aD [(vi o),(vi ((ix (ix m.rows (ix k a)) c).out))] 100],(pk 4 rfl (pk 0 rfl (pk 0 rfl (pk 0 rfl (pk 0 rfl (List.Perm.refl _))))))⟩,b,aM,trivial⟩
 refine jd ?_;exact⟨dkt,s,je,(W,aq,ar),⟨rfl,trivial⟩,prm,(Option.some.inj b).symm,aw,trivial⟩;rintro⟨p,aa,ce⟩ bv cf af ⟨rfl,bk,_⟩;refine zy (zo (q8 ug rfl) (zo (qb (i:=1) zam rfl rfl rfl) (zg aa (ui (i:=3) rfl bk fun aO K aP=>?_))));have ag:VRep (tSl false kEdge) aO aa p:=(z3g aP)
 refine mf (T:=(tSl false kEdge)) (X:=([p]:List (List Edge))) (ps:=[(0,aa)]) (css:=[[aa]]) rfl underlying30 zv8 rfl (by simp only [List.map_cons,List.map_nil,ru ag];rfl) (kv ⟨(ku rfl ag),trivial⟩) rfl rfl (by decide) fun aQ bw ab aR=>?_;refine ui (i:=0) rfl aR fun aS L aT=>?_
 have aU:VRep (tSl true (tSl false kEdge)) aS aQ ([p]:List (List Edge)):=(z1d aT ab);obtain⟨ah,d⟩:=zb d
 refine wh (i:=2) (X:=Q) (Y:=([p]:List (List Edge))) rfl underlying30 zv8 rfl rfl rfl (ap.mono ((af.trans K).trans L)) (qz (Sub.v (B:=(tSl false (tSl false kEdge))) (u6 Sub.refl (fun _=>rfl)) aU)) ah.1 ah.2 fun ai aV M=>?_
 refine zo (q8 ug rfl) (jo (i:=1) (vs:=[ai]) q0n rfl rfl (au M) rfl rfl rfl (qf (wz M) jq) ?_);refine z8 (zy (zg (vi a) ?_));obtain⟨aW,d⟩:=zb d;refine zo (j4 rfl rfl aW) (zi (vi (a+1)) (z8 ?_))
 exact⟨dkt,((af.trans K).trans L),je,(P,a+1,(Q++([p]:List (List Edge))),ai,aV),Nat.lt_succ_self _,⟨rfl,trivial⟩,prm,d,M,trivial⟩;refine jd ?_;exact⟨dkt,n,je,(Q,S,U),trivial,prm,(Option.some.inj d).symm,ap,trivial⟩;rintro⟨z,O,aC⟩ bx cg aX ⟨rfl,aY,_⟩
 refine zl (zo (wu (i:=1) z8u z4k rfl rfl rfl rfl) (jo (i:=0) (vs:=[(vi m.inputs),(vi m.outputs),O]) z4k rfl rfl rfl rfl rfl rfl (qf rfl (qf rfl (qf (wz aY) jq))) ?_));refine z8 (yj (i:=2) rfl aY fun aZ al a0=>?_);have a1:VRep (tSl false (tSl false kEdge)) aZ O z:=(z3g a0)
 refine qx ?_;obtain rfl:=Option.some.inj q
 refine qd (D:=[]) (J:=[box b6 [(vi m.inputs),(vi m.outputs),O] 32,box y [(vi m.inputs),(vi m.outputs),O] 32]) (rs:=[.cell 2 32]) (vs:=[(.agg #[(vi m.inputs),(vi m.outputs),O])]) ((((F.trans f).trans j).trans aX).trans al) rfl rfl ⟨⟨_,rfl,fun w hh=>z2r (i:=0) hh rfl rfl z8u z4k rfl rfl⟩,trivial⟩ ?_
 exact⟨rfl,(⟨_,⟨_,_,rfl,rfl,⟨_,_,rfl,rfl,(ku rfl a1)⟩⟩,rfl⟩:VRep (ja false false) _ _ (⟨m.inputs,m.outputs,z⟩:Mach))⟩
end GV
end Go.Proofs.YtplgbkaollfmkaaGreat
