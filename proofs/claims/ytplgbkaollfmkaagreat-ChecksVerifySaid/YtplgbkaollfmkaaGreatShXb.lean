import Derived.Test.YtplgbkaollfmkaaGreatShXa
import Derived.Test.YtplgbkaollfmkaaGreatRows
set_option linter.unusedVariables false
set_option linter.unusedSimpArgs false
namespace Go.Proofs.YtplgbkaollfmkaaGreat
namespace GV
open _root_.Go.Proofs.Tryz
open Go.IntWalk
set_option maxRecDepth 100000
set_option maxHeartbeats 20000000
theorem qac:Enters prog 68:=enters_of func68 rfl (by kernel_rfl)
theorem zbi{N:Nat}{R:RH}{marked:(List (List Bool))}{b:Value}(k:VRep (tSl false (tSl false jl)) R b marked){r:(List Int)}(s:lm N marked=some r):CallP prog 91 #[b] R (fun v R'=>VRep (tSl false (zw .i64)) R' v r):=by
 refine qf (args:=[b]) func91 rfl rfl fun A=>?_;rw [lm] at s;refine zn (zi vs0 (qw (zi vs0 (qw (zi (vi 0) (z8 ?_))))));obtain⟨H,c,s⟩:=zq s
 refine qm (γ:=(List Int)×Value×Frag) (rs [3,40]) (fun g=>[(3,g.2.1)]) (fun g=>[g.2.2]++A) (fun g R=>H=g.1∧ORep (zw .i64) R g.2.2 g.2.1 g.1∧True) ?_ ?_;refine zn (zi (vi 0) (z8 (zy (z2m ?_))))
 refine ja (γ:=Nat×(List Int)×Int×Int×Value×Frag) (rs [3,40]) (fun g=>[(3,g.2.2.2.2.1),(4,(vi g.2.2.1)),(5,(vi g.2.2.2.1))]) (fun g=>[g.2.2.2.2.2]++A) (fun g R=>vz N marked g.1 g.2.1 g.2.2.1 g.2.2.2.1=some H∧ORep (zw .i64) R g.2.2.2.2.2 g.2.2.2.2.1 g.2.1∧True) (fun g=>g.1) (N,[],0,0,vs0,emp) prm ⟨c,(ru (T:=(zw .i64))),trivial⟩ ?_
 clear c;rintro⟨Q,l,m,f,z,p⟩ aq ar q ⟨c,t,_⟩;rcases Q with _|Q;exact qp c;replace c:vz N marked (Q+1) l m f=some H:=c;rw [vz] at c
 refine qa (zn (zg (vi f) (zg b (zt (qj rfl underlying121 rfl (j3 (k.mono q))) (zt (j5 rfl rfl) (z8 (zu rfl c (fun c=>?_) (fun c=>?_))))))));refine q9 (qa (zy (zn (zi (vi (-1)) (z8 ?_)))));obtain⟨o,a,c⟩:=zq c
 refine qm (γ:=Int) (rs [6,8,14,31]) (fun g=>[(6,(vi g))]) (fun g=>[p]++A) (fun g R=>o=g∧True) ?_ ?_
 refine zn (zi (vi 0) (z8 (zy (ja (γ:=Nat×Int×Int) (rs [6,8,14,31]) (fun g=>[(6,(vi g.2.1)),(7,(vi g.2.2))]) (fun g=>[p]++A) (fun g R=>um N marked l f g.1 g.2.1 g.2.2=some o∧True) (fun g=>g.1) (N,(-1),0) prm ⟨a,trivial⟩ ?_))));clear a;rintro⟨u,C,d⟩ au av n ⟨a,_⟩
 rcases u with _|u;exact qp a;replace a:um N marked l f (u+1) C d=some o:=a;rw [um] at a;refine qa (zn (zg (vi d) (zg (vi f) (zt (j5 rfl rfl) (z8 (zu rfl a (fun a=>?_) (fun a=>?_)))))));refine q9 ?_;obtain⟨E,e,a⟩:=zq a
 refine qm (γ:=Int) (rs [6,7,19,31]) (fun g=>[(6,(vi g))]) (fun g=>[p]++A) (fun g R=>E=g∧True) ?_ ?_;refine zy (zn (zg b (zg (vi f) ?_)));obtain⟨I,e⟩:=ze e;refine ko (i:=f.toNat) rfl zlx rfl (j3 (k.mono (q.trans n))) (zf rfl I.1) (zz I) fun aw U=>?_
 refine qo rfl zi5 rfl U fun ax V=>?_;refine zg (vi d) ?_;obtain⟨K,e⟩:=ze e;refine ko (i:=d.toNat) rfl z5h rfl (j3 V) (zf rfl K.1) (zz K) fun ay W=>?_;refine qo rfl ty4 rfl W fun az Z=>?_;obtain rfl:=uj.1 Z;refine zt (lu rfl) (z8 (zu rfl e (fun e=>?_) (fun e=>?_)))
 refine zx (zg z (zg (vi d) ?_));obtain⟨F,e⟩:=ze e;refine uu (i:=d.toNat) rfl tu rfl (t.mono n) (zf rfl F.1) (zz F) fun aA aa=>?_;refine z2q (i:=d.toNat) (j:=0) rfl ty3 (t.mono n) rfl rfl aa (zz F) fun aB ab=>?_;obtain rfl:=j6.1 ab;refine zi (vi (ix l d)) (z8 ?_)
 exact⟨dkt,(RH.le.refl _),jd,(ix l d),⟨rfl,trivial⟩,prm,(Option.some.inj e).symm,trivial⟩;refine q9 ?_;exact⟨dkt,(RH.le.refl _),jd,C,⟨rfl,trivial⟩,prm,(Option.some.inj e).symm,trivial⟩;rintro E aC aD L ⟨rfl,_⟩;refine zx (zg (vi d) ?_);obtain⟨ac,a⟩:=ze a
 refine zt (qz rfl rfl ac) (zi (vi (d+1)) (z8 ?_));exact⟨dkt,L,jd,(u,E,d+1),Nat.lt_succ_self _,⟨rfl,rfl,trivial⟩,prm,a,trivial⟩;refine jf ?_;exact⟨dkt,n,jd,C,⟨rfl,trivial⟩,prm,(Option.some.inj a).symm,trivial⟩;rintro o aE aF w ⟨rfl,_⟩;obtain⟨h,a,c⟩:=zq c
 refine qm (γ:=(Int×Int)) [31,32,33,6,34,35,4] (fun g=>[(4,(vi g.1)),(6,(vi g.2))]) (fun g=>[p]++A) (fun g R=>h=g∧True) ?_ ?_;refine zn (zg (vi o) (zt (j5 rfl rfl) (z8 (zu rfl a (fun a=>?_) (fun a=>?_)))))
 refine zn (zg (vi m) (zi (vi m) (z8 (zx (zg (vi m) ?_)))));obtain⟨ad,a⟩:=ze a;refine zt (qz rfl rfl ad) (zi (vi (m+1)) (z8 ?_));exact⟨dkt,(RH.le.refl _),jd,(m+1,m),⟨rfl,rfl,trivial⟩,prm,(Option.some.inj a).symm,trivial⟩;refine q9 ?_
 exact⟨dkt,(RH.le.refl _),jd,(m,o),⟨rfl,rfl,trivial⟩,prm,(Option.some.inj a).symm,trivial⟩;rintro h aG aH x ⟨rfl,_⟩
 refine zx (zg z (zg (vi h.2) (nk (T:=(zw .i64)) (X:=([h.2]:List Int)) (ps:=[(0,(vi h.2))]) (css:=[[(vi h.2)]]) rfl underlying33 zo3 rfl rfl (kw ⟨rfl,trivial⟩) rfl rfl (by decide) fun ae aI G af=>?_)));refine ug (i:=0) rfl af fun ag y ah=>?_
 have ai:VRep (tSl true (zw .i64)) ag ae ([h.2]:List Int):=(z1s ah G);obtain⟨M,c⟩:=ze c;refine wh (i:=0) (X:=l) (Y:=([h.2]:List Int)) rfl underlying33 zo3 rfl rfl rfl (t.mono ((w.trans x).trans y)) (j3 (Sub.v (B:=(tSl false (zw .i64))) (kv Sub.refl (fun _=>rfl)) ai)) M.1 M.2 fun O aj ak=>?_
 refine zi O (z8 (zx (zg (vi f) ?_)));obtain⟨al,c⟩:=ze c;refine zt (qz rfl rfl al) (zi (vi (f+1)) (z8 ?_));exact⟨dkt,((w.trans x).trans y),jd,(Q,(l++([h.2]:List Int)),h.1,f+1,O,aj),Nat.lt_succ_self _,⟨rfl,rfl,rfl,trivial⟩,prm,c,ak,trivial⟩;refine jf ?_
 exact⟨dkt,q,jd,(l,z,p),⟨rfl,trivial⟩,prm,(Option.some.inj c).symm,t,trivial⟩;rintro⟨H,S,f5⟩ aJ R2 am ⟨rfl,h6,_⟩;refine zn (zg S (zi S (z8 (vo (i:=0) rfl h6 fun an P ao=>?_))));have ap:VRep (tSl false (zw .i64)) an S H:=(z4s ao);refine qx ?_;obtain rfl:=Option.some.inj s
 refine qc (D:=[]) (J:=[]) (rs:=[.tmp 2]) (vs:=[S]) (am.trans P) rfl rfl ⟨rfl,trivial⟩ ?_;exact⟨rfl,ap⟩
theorem qai:Enters prog 91:=enters_of func91 rfl (by kernel_rfl)
theorem zdx{N:Nat}{R:RH}{m:Mach}{b:Value}(c:VRep (je false false) R b m){k:Int}{r:(List Int)}(a:z5a N m k=some r):CallP prog 75 #[b,(vi k)] R (fun v R'=>VRep (tSl false (zw .i64)) R' v r):=by
 refine qf (args:=[b,(vi k)]) func75 rfl rfl fun A=>?_;rw [z5a] at a;refine zn (jy (T:=(je false false)) rfl rfl rfl c fun t u d l w=>?_);refine zi vs0 (qw (zt (jh fe rfl rfl l (c.mono d)) (zg (vi k) ?_)));obtain⟨x,n,a⟩:=zq a
 refine jb rfl qac rfl (zdq (c.mono d) n) fun y o f p=>?_;obtain⟨q,i,a⟩:=zq a;refine jb rfl qai rfl (zbi (Sub.v (B:=(tSl false (tSl false jl))) (kv (kv Sub.refl (fun _=>rfl)) (fun e=>e)) p) i) fun g s h j=>?_;refine zi g (z8 (qx ?_));obtain rfl:=Option.some.inj a
 refine qc (D:=[]) (J:=[]) (rs:=[.tmp 4]) (vs:=[g]) ((d.trans f).trans h) rfl rfl ⟨rfl,trivial⟩ ?_;exact⟨rfl,j⟩
theorem qao:Enters prog 75:=enters_of func75 rfl (by kernel_rfl)
theorem z5i{N:Nat}{R:RH}{m:Mach}{b:Value}(c:VRep (je false false) R b m){r:(List Int)}(a:l6 N m=some r):CallP prog 52 #[b] R (fun v R'=>VRep (tSl false (zw .i64)) R' v r):=by
 refine qf (args:=[b]) func52 rfl rfl fun A=>?_;rw [l6] at a;refine zn (jy (T:=(je false false)) rfl rfl rfl c fun p q d i j=>?_);refine zi vs0 (qw (zt (jh fe rfl rfl i (c.mono d)) (jg rfl uy u6 rfl j fun s k=>?_)));refine qo rfl z1z rfl k fun t l=>?_
 refine zt (qj rfl underlying30 rfl (j3 l)) ?_;obtain⟨n,g,a⟩:=zq a;refine jb rfl qao rfl (zdx (c.mono d) g) fun e o f h=>?_;refine zi e (z8 (qx ?_));obtain rfl:=Option.some.inj a;refine qc (D:=[]) (J:=[]) (rs:=[.tmp 2]) (vs:=[e]) (d.trans f) rfl rfl ⟨rfl,trivial⟩ ?_;exact⟨rfl,h⟩
theorem q74:Enters prog 52:=enters_of func52 rfl (by kernel_rfl)
theorem zgx{a:Bool}:ZeroOk prog 33 (tSl a (zw .i64)) ([]:List Int) 24:=by
 obtain⟨i,zv,hi,c,d,f,g⟩:=z6b (P:=prog) (e:=33) (zv:=vs0) (k:=1) (b:=24) (by kernel_rfl);exact⟨i,zv,hi,c,d,f,fun R=>by subst g;exact(ku rfl z4g)⟩
theorem zpf: ∀ w,(isAgg 100).run prog w= .ok true w:=fun w=>by kernel_rfl
theorem z9j{N:Nat}{R:RH}{m:Mach}{b:Value}(f:VRep (je false false) R b m){s:Int}{i:Int}{r:Edge}(a:z2a N m s i=some r):CallP prog 54 #[b,(vi s),(vi i)] R (fun v R'=>v=(z2o r)):=by
 refine qf (args:=[b,(vi s),(vi i)]) func54 rfl rfl fun A=>?_;rw [z2a] at a;refine zn (jy (T:=(je false false)) rfl rfl rfl f fun B C c E q=>?_);refine uq rfl za1 fun p=>?_;refine z8 (qa (zn (zg (vi s) (zt (j5 rfl rfl) (z8 (zu rfl a (fun a=>?_) (fun a=>?_)))))))
 refine zn (zt (yw (ps:=[(0,(vi (-1))),(1,(vi (-1)))]) (v:=(.agg #[(vi (-1)),(vi (-1))])) rfl (fun w=>by kernel_rfl)) (jo (i:=0) (vs:=[(vi (-1)),(vi (-1))]) z6j rfl rfl rfl rfl rfl rfl (qg rfl (qg rfl kg)) ?_));refine z8 (qx ?_);obtain rfl:=Option.some.inj a
 refine qc (D:=[]) (J:=[box p [(vi (-1)),(vi (-1))] 100]) (rs:=[.cell 6 100]) (vs:=[(.agg #[(vi (-1)),(vi (-1))])]) c rfl rfl ⟨⟨_,rfl,fun w g=>z3v (i:=0) g rfl rfl zpf z6j rfl rfl⟩,trivial⟩ ?_;exact⟨rfl,rfl⟩;refine q9 (zn (jg rfl uy u6 rfl q fun F h=>?_))
 refine qo rfl z1z rfl h fun t j=>?_;refine zg (vi s) ?_;obtain⟨d,a⟩:=ze a;refine ko (i:=s.toNat) rfl za6 rfl (j3 j) (zf rfl d.1) (zz d) fun u k=>?_;refine qo rfl z97 rfl k fun x l=>?_;refine zg (vi i) ?_;obtain⟨e,a⟩:=ze a
 refine ko (i:=i.toNat) rfl zaf rfl (j3 l) (zf rfl e.1) (zz e) fun y n=>?_;refine qo rfl zai rfl n fun z o=>?_;obtain rfl:=z0c.1 o;refine jo (i:=0) (vs:=[(vi ((ix (ix m.rows s) i).to)),(vi ((ix (ix m.rows s) i).out))]) z6j rfl rfl rfl rfl rfl rfl (qg rfl (qg rfl kg)) ?_;refine z8 (qx ?_)
 obtain rfl:=Option.some.inj a;refine qc (D:=[]) (J:=[box p [(vi ((ix (ix m.rows s) i).to)),(vi ((ix (ix m.rows s) i).out))] 100]) (rs:=[.cell 6 100]) (vs:=[(.agg #[(vi ((ix (ix m.rows s) i).to)),(vi ((ix (ix m.rows s) i).out))])]) c rfl rfl ⟨⟨_,rfl,fun w g=>z3v (i:=0) g rfl rfl zpf z6j rfl rfl⟩,trivial⟩ ?_;exact⟨rfl,rfl⟩
theorem q8a:Enters prog 54:=enters_of func54 rfl (by kernel_rfl)
theorem q2r:Enters prog 66:=enters_of func66 rfl (by kernel_rfl)
theorem zbh{N:Nat}(F:Nat): ∀ {R:RH} {m:Mach} {d:Value} (j:VRep (je false false) R d m) {s:Int} {n:(List Int)} {c:Value} (g:VRep (tSl false (zw .i64)) R c n) {r:Int} (b:ww N F m s n=some r),CallP prog 66 #[d,(vi s),c] R (fun v R'=>v=(vi r)):=by
  induction F with
  |zero=>intros;rename_i b;exact qp b
  |succ F ih=>
    intro R m d j s n c g r b
    refine qf (args:=[d,(vi s),c]) func66 rfl rfl fun A=>?_
    rw [ww] at b
    refine qa ?_
    refine zx ?_
    refine jy (T:=(je false false)) rfl rfl rfl j fun v1 R3 e h5 h2=>?_
    refine zi (vi 0) ?_
    refine z8 ?_
    refine qa ?_
    refine qa ?_
    refine zx ?_
    refine zg c ?_
    refine zt (qj rfl underlying33 rfl (j3 (g.mono e))) ?_
    refine zt (xy rfl rfl) ?_
    refine z8 ?_
    refine zu rfl b (fun b=>?_) (fun b=>?_)
    · refine qa ?_
      refine zx ?_
      refine zg (vi s) ?_
      refine zi (vi s) ?_
      refine z8 ?_
      refine qx ?_
      obtain rfl:=Option.some.inj b
      refine qc (D:=[]) (J:=[]) (rs:=[.tmp 6]) (vs:=[(vi s)]) e rfl rfl ⟨rfl,trivial⟩ ?_
      exact⟨rfl,rfl⟩
    · refine q9 ?_
      refine qa ?_
      obtain⟨g7,b⟩:=ze b
      obtain⟨q,c9,b⟩:=zq b
      obtain⟨o,b⟩:=ze b
      obtain⟨p,B,b⟩:=zq b
      refine cu 12 [] [phX d,phX d,phX (vi s),phX c,phP (zw .i64) (ix n 0),phX (vi (ix n 0)),phX (z2o q),phX (vi q.to),phX c,phR (tSl false (zw .i64)) (cut n 1 (↑n.length:Int)),phX (vi p),phX (vi p)] mixed (by kernel_rfl) (ym ⟨zk,zk,zk,zk,yl,zk,zk,zk,zk,pq,zk,zk,trivial⟩) ⟨?_,?_,?_,?_,?_,?_,?_,?_,?_,?_,?_,?_,trivial⟩ fun al t=>?_
      · intro l am a f x
        have C:l 3=v1:=f 3 rfl
        exact za rfl rfl rfl (zo (jh fe rfl C (h5.mono a) ((j.mono e).mono a)))
      · intro l an a f x
        have C:l 3=v1:=f 3 rfl
        exact za rfl rfl rfl (zo (jh fe rfl C (h5.mono a) ((j.mono e).mono a)))
      · intro l ao a f x
        have a1:l 1=(vi s):=f 1 rfl
        exact za rfl rfl rfl (zo (zb a1))
      · intro l aq a f x
        have E:l 2=c:=f 2 rfl
        exact za rfl rfl rfl (zo (zb E))
      · rintro l ar a f ⟨k,_⟩
        have G:=k rfl
        exact za rfl rfl rfl (wz (i:=(0:Int).toNat) tu G (j3 ((g.mono e).mono a)) (zf rfl g7.1) (zz g7))
      · rintro l au a f ⟨k,_⟩
        have H:=k rfl
        exact za rfl rfl rfl (uo (u7 ty3 rfl H) (fun _ _ h=>j6.1 h))
      · rintro l av a f ⟨k,y,z,_⟩
        have I:l 12=d:=k rfl
        have K:l 13=(vi s):=y rfl
        have L:l 16=(vi (ix n 0)):=z rfl
        exact za rfl rfl rfl (ut (vs:=[d,(vi s),(vi (ix n 0))]) q8a (by simp only [List.map,ev,I,K,L]<;>rfl) (z9j ((j.mono e).mono a) c9) (fun _ _ h=>h))
      · rintro l aw a f ⟨k,_⟩
        have M:=k rfl
        exact za rfl rfl rfl (zo (zy4 (v:=(z2o q)) (u:=(vi q.to)) M (fun w=>by kernel_rfl)))
      · intro l ax a f x
        have E:l 2=c:=f 2 rfl
        exact za rfl rfl rfl (zo (zb E))
      · rintro l ay a f ⟨k,_⟩
        have O:=k rfl
        exact za rfl rfl rfl (zfp (lo:=(1:Int).toNat) (hi:=(↑n.length:Int).toNat) (mx:=(capOf c)) (X':=(cut n 1 (↑n.length:Int))) tu O (j3 ((g.mono e).mono a)) (.inr ⟨_,congrArg some (zf rfl o.1)⟩) (.inl ⟨rfl,rfl,rfl⟩) (.inl ⟨rfl,rfl⟩) (ze5 o) (z6k o) (fun h=>Nat.le_trans (z6k o) h) (fun _=>Nat.le_refl _) rfl)
      · rintro l ai a f ⟨k,y,z,d3,_⟩
        have P:l 11=d:=k rfl
        have Q:l 18=(vi q.to):=y rfl
        have S:=z rfl
        exact za rfl rfl rfl (ut (vs:=[d,(vi q.to),(l 20)]) q2r (by simp only [List.map,ev,P,Q]<;>rfl) (ih ((j.mono e).mono a) S B) (fun _ _ h=>h))
      · rintro l aj a f ⟨k,y,z,d3,d4,d5,d6,d7,d8,d9,aA,aB,aC,_⟩
        have U:=k rfl
        exact za rfl rfl rfl (zo (z0m U))
      intro aD V
      intro aE W
      intro aF X
      intro aG Y
      intro aH aI
      intro aJ Z
      intro aK aa
      intro aL ab
      intro aM ac
      intro aN aO
      intro aP ad
      intro aQ ae
      obtain rfl:=Eq.symm V
      obtain rfl:=Eq.symm W
      obtain rfl:=Eq.symm X
      obtain rfl:=Eq.symm Y
      obtain rfl:=Eq.symm Z
      obtain rfl:=Eq.symm aa
      obtain rfl:=Eq.symm ab
      obtain rfl:=Eq.symm ac
      obtain rfl:=Eq.symm ad
      obtain rfl:=Eq.symm ae
      refine z8 ?_
      refine qx ?_
      obtain rfl:=Option.some.inj b
      refine qc (D:=[]) (J:=[]) (rs:=[.tmp 6]) (vs:=[(vi p)]) (e.trans t) rfl rfl ⟨rfl,trivial⟩ ?_
      exact⟨rfl,rfl⟩
theorem z4o{N:Nat}{R:RH}{m:Mach}{b:Value}(d:VRep (je false false) R b m){s:Int}{f:(List Int)}{a:Value}(c:VRep (tSl false (zw .i64)) R a f){r:Int}(e:ww N N m s f=some r):CallP prog 66 #[b,(vi s),a] R (fun v R'=>v=(vi r)):=zbh N d c e
theorem za4{a:Bool}:TyOk prog 33 (tSl a (zw .i64)):=by
 obtain⟨i,hi,b⟩: ∃ i,prog.info? 33=some i∧i.size=1:=ky (by kernel_rfl);exact z4t underlying33 hi rfl b
theorem zei{a:Bool}:SlOk prog 73 33 (tSl a (zw .i64)):=⟨underlying73,za4⟩
theorem zeg{N:Nat}{R:RH}{w:(List Int)}{e:Value}(x:VRep (tSl false (zw .i64)) R e w){inputs:Int}{r:(List Int)}(c:z2c N w inputs=some r):CallP prog 115 #[e,(vi inputs)] R (fun v R'=>VRep (tSl false (zw .i64)) R' v r):=by
 refine qf (args:=[e,(vi inputs)]) func115 rfl rfl fun A=>?_;rw [z2c] at c;refine zn (zi vs0 (qw (nk (T:=(zw .i64)) (X:=([]:List Int)) (ps:=[]) (css:=[]) rfl underlying33 zo3 rfl rfl (kw trivial) rfl rfl (by decide) fun v1 f2 an h4=>?_)));refine zg e ?_;obtain⟨g6,c⟩:=ze c
 refine wh (i:=0) (X:=([]:List Int)) (Y:=w) rfl underlying33 zo3 rfl rfl rfl h4 (j3 x) g6.1 g6.2 fun f f8 h9=>?_;refine zi f (z8 ?_);obtain⟨n,a,c⟩:=zq c;refine qm (γ:=(List Int)×Frag) (rs [4,5,6,7,10,34]) (fun g=>[]) (fun g=>[g.2]++A) (fun g R=>n=Ex.go g.1∧ORep (zw .i64) R g.2 f g.1∧True) ?_ ?_
 refine zn (zg f (zt (z2l rfl underlying33 rfl h9) ?_));obtain⟨G,a⟩:=ze a
 refine zt (z8y rfl rfl G) (zi (vi ((↑(([]:List Int)++w).length:Int)-1)) (z8 (zy (ja (γ:=Nat×Int×(List Int)×Frag) (rs [4,5,6,7,13,34]) (fun g=>[(6,(vi g.2.1))]) (fun g=>[g.2.2.2]++A) (fun g R=>bz N inputs g.1 g.2.1 g.2.2.1=some n∧ORep (zw .i64) R g.2.2.2 f g.2.2.1∧True) (fun g=>g.1) (N,(↑(([]:List Int)++w).length:Int)-1,(([]:List Int)++w),f8) prm ⟨a,h9,trivial⟩ ?_))))
 clear a;rintro⟨k,b,h,H⟩ au av l ⟨a,d,_⟩;rcases k with _|k;exact qp a;replace a:bz N inputs (k+1) b h=some n:=a;rw [bz] at a;refine qa (zn (zg (vi b) (zt (z2z rfl rfl) (z8 (zu rfl a (fun a=>?_) (fun a=>?_))))))
 refine q9 (qa (zy (qa (zn (zg f (zg (vi b) ?_))))));obtain⟨o,a⟩:=ze a;refine uu (i:=b.toNat) rfl tu rfl d (zf rfl o.1) (zz o) fun aw I=>?_;refine z2q (i:=b.toNat) (j:=0) rfl ty3 d rfl rfl I (zz o) fun ax K=>?_;obtain rfl:=j6.1 K;obtain⟨L,a⟩:=ze a
 refine zt (qz rfl rfl L) (zg (vi inputs) (zt (j5 rfl rfl) (z8 (zu rfl a (fun a=>?_) (fun a=>?_)))));refine zn (zg f (zg (vi b) ?_));obtain⟨p,a⟩:=ze a;refine uu (i:=b.toNat) rfl tu rfl d (zf rfl p.1) (zz p) fun ay M=>?_
 refine z2q (i:=b.toNat) (j:=0) rfl ty3 d rfl rfl M (zz p) fun az O=>?_;obtain rfl:=j6.1 O;obtain⟨P,a⟩:=ze a;refine zt (qz rfl rfl P) ?_;obtain⟨q,a⟩:=ze a;refine uu (i:=b.toNat) rfl tu rfl d (zf rfl q.1) (zz q) fun aA Q=>?_
 refine og (i:=b.toNat) (j:=0) ty3 d rfl rfl Q (zz q) rfl (j6.2 rfl) fun aB S=>?_;refine qw (zg f (zi f (z8 (vo (i:=0) rfl S fun U y V=>?_))));have W:VRep (tSl false (zw .i64)) U f (up h b ((ix h b)+1)):=(z4s V);refine qx ?_;replace c:=z3f a c;obtain rfl:=Option.some.inj c
 refine qc (D:=[]) (J:=[]) (rs:=[.tmp 4]) (vs:=[f]) (l.trans y) rfl rfl ⟨rfl,trivial⟩ ?_;exact⟨rfl,W⟩;refine q9 (zx (zg f (zg (vi b) ?_)));obtain⟨s,a⟩:=ze a;refine uu (i:=b.toNat) rfl tu rfl d (zf rfl s.1) (zz s) fun aC Z=>?_
 refine og (i:=b.toNat) (j:=0) ty3 d rfl rfl Z (zz s) rfl (j6.2 rfl) fun aa ab=>?_;refine z8 (zx (zg (vi b) ?_));obtain⟨ac,a⟩:=ze a;refine zt (z8y rfl rfl ac) (zi (vi (b-1)) (z8 ?_))
 exact⟨dkt,(RH.le.refl _),jd,(k,b-1,(up h b 0),aa),Nat.lt_succ_self _,⟨rfl,trivial⟩,prm,a,ab,trivial⟩;refine jf ?_;exact⟨dkt,l,jd,(h,H),trivial,prm,(Option.some.inj a).symm,d,trivial⟩;rintro⟨z,aD⟩ aE aF C ⟨rfl,ad,_⟩;replace c:=z5c c
 refine zn (zg f (nk (T:=(zw .i64)) (X:=([0]:List Int)) (ps:=[(0,(vi 0))]) (css:=[[(vi 0)]]) rfl underlying33 zo3 rfl rfl (kw ⟨rfl,trivial⟩) rfl rfl (by decide) fun ae aG t af=>?_));refine ug (i:=0) rfl af fun ag m ah=>?_;have ai:VRep (tSl true (zw .i64)) ag ae ([0]:List Int):=(z1s ah t)
 obtain⟨E,c⟩:=ze c;refine wh (i:=0) (X:=z) (Y:=([0]:List Int)) rfl underlying33 zo3 rfl rfl rfl (ad.mono m) (j3 (Sub.v (B:=(tSl false (zw .i64))) (kv Sub.refl (fun _=>rfl)) ai)) E.1 E.2 fun u aH aj=>?_;refine zi u (z8 (vo (i:=0) rfl aj fun ak F al=>?_))
 have am:VRep (tSl false (zw .i64)) ak u (z++([0]:List Int)):=(z4s al);refine qx ?_;obtain rfl:=Option.some.inj c;refine qc (D:=[]) (J:=[]) (rs:=[.tmp 4]) (vs:=[u]) ((C.trans m).trans F) rfl rfl ⟨rfl,trivial⟩ ?_;exact⟨rfl,am⟩
theorem q8i:Enters prog 115:=enters_of func115 rfl (by kernel_rfl)
theorem zee{N:Nat}{R:RH}{m:Mach}{Q:Value}(S:VRep (je false false) R Q m){f:Int}{r:(List (List Int))×(List Bool)}(o:z1o N m f=some r):CallP prog 109 #[Q,(vi f)] R (fun v R'=> ∃ u0 u1,v= .tuple #[u0,u1]∧VRep (tSl true (tSl false (zw .i64))) R' u0 r.1∧VRep (tSl true jl) R' u1 r.2):=by
 refine qf (args:=[Q,(vi f)]) func109 rfl rfl fun A=>?_;rw [z1o] at o;refine zn (jy (T:=(je false false)) rfl rfl rfl S fun v1 R3 U h5 h2=>?_);refine zi vs0 (zi vs0 (qw (jg rfl uy u6 rfl h2 fun v6 h7=>?_)));refine qo rfl z1z rfl h7 fun v8 h9=>?_
 refine zt (qj rfl underlying30 rfl (j3 h9)) ?_;obtain⟨E,o⟩:=ze o;refine z2y (T:=(tSl false (zw .i64))) (m:=(↑m.rows.length:Int).toNat) (c:=(↑m.rows.length:Int).toNat) rfl underlying73 zgx (zf rfl E.1) (zf rfl E.1) (Nat.le_refl _) (z3s E) (z3u E) fun h aE V aF=>?_
 refine zi h (qw (jg rfl uy u6 rfl h2 fun bg aG=>?_));refine qo rfl z1z rfl aG fun bh aH=>?_;refine zt (qj rfl underlying30 rfl (j3 aH)) ?_;obtain⟨F,o⟩:=ze o
 refine z2y (T:=jl) (m:=(↑m.rows.length:Int).toNat) (c:=(↑m.rows.length:Int).toNat) rfl underlying64 zo4 (zf rfl F.1) (zf rfl F.1) (Nat.le_refl _) (z3s F) (z3u F) fun d aI W aJ=>?_;refine zi d (z8 ?_);obtain⟨q,b,o⟩:=zq o
 refine qm (γ:=(List (List Int)×List Bool)×Frag×Frag) (rs [8,10,18,49]) (fun g=>[]) (fun g=>[g.2.1,g.2.2]++A) (fun g R=>q=g.1∧ORep (tSl false (zw .i64)) R g.2.1 h g.1.1∧capOf h=g.1.1.length∧ORep jl R g.2.2 d g.1.2∧capOf d=g.1.2.length∧True) ?_ ?_
 refine zn (nk (T:=(zw .i64)) (X:=([]:List Int)) (ps:=[]) (css:=[]) rfl underlying33 zo3 rfl rfl (kw trivial) rfl rfl (by decide) fun Y bi Z aK=>?_);refine zi Y (z8 (zy (vo (i:=0) rfl aK fun aL l aM=>?_)));have aN:VRep (tSl true (zw .i64)) aL Y ([]:List Int):=(z1s aM Z)
 refine ja (γ:=Nat×((List Int))×(List (List Int))×(List Bool)×Value×Frag×Frag) (rs [8,10,19,49]) (fun g=>[(8,g.2.2.2.2.1)]) (fun g=>[g.2.2.2.2.2.1,g.2.2.2.2.2.2]++A) (fun g R=>vw N m f g.1 g.2.1 g.2.2.1 g.2.2.2.1=some q∧VRep (tSl false (zw .i64)) R g.2.2.2.2.1 g.2.1∧ORep (tSl false (zw .i64)) R g.2.2.2.2.2.1 h g.2.2.1∧capOf h=g.2.2.1.length∧ORep jl R g.2.2.2.2.2.2 d g.2.2.2.1∧capOf d=g.2.2.2.1.length∧True) (fun g=>g.1) (N,[],(mk (↑m.rows.length:Int) ([]:List Int)),(mk (↑m.rows.length:Int) false),Y,aE,aI) ⟨[],(pk 1 rfl (pk 0 rfl (List.Perm.refl _)))⟩ ⟨b,(Sub.v (B:=(tSl false (zw .i64))) (kv Sub.refl (fun _=>rfl)) aN),(aF.mono l),(V.trans List.length_replicate.symm),(aJ.mono l),(W.trans List.length_replicate.symm),trivial⟩ ?_
 clear b;rintro⟨G,ac,H,I,K,ad,ae⟩ a5 bj n ⟨b,L,M,t,s,u,_⟩;rcases G with _|G;exact qp b;replace b:vw N m f (G+1) ac H I=some q:=b;rw [vw] at b
 refine qa (zn (zg K (zt (qj rfl underlying33 rfl (j3 L)) (jg rfl uy u6 rfl (h2.mono (l.trans n)) fun bk aO=>?_))));refine qo rfl z1z rfl aO fun bl aP=>?_;refine zt (qj rfl underlying30 rfl (j3 aP)) (zt (j5 rfl rfl) (z8 (zu rfl b (fun b=>?_) (fun b=>?_))));refine q9 ?_
 obtain⟨O,k,b⟩:=zq b;refine qm (γ:=(List (List Int)×List Bool)×Frag×Frag) (rs [9,10,29,49]) (fun g=>[]) (fun g=>[g.2.1,g.2.2]++A) (fun g R=>O=g.1∧ORep (tSl false (zw .i64)) R g.2.1 h g.1.1∧capOf h=g.1.1.length∧ORep jl R g.2.2 d g.1.2∧capOf d=g.1.2.length∧True) ?_ ?_
 refine zy (zn (zt (jh fe rfl rfl (h5.mono (l.trans n)) (S.mono ((U.trans l).trans n))) (zg (vi f) (zg K ?_))));obtain⟨e,aQ,k⟩:=zq k;refine jb rfl q2r rfl (z4o (S.mono ((U.trans l).trans n)) L aQ) fun bm bn a aR=>?_;obtain rfl:=aR
 refine zi (vi e) (qw (jm (v:=(vi e)) rfl (zb rfl) (jm rfl (z2z rfl rfl) (jm (v:=(.bool (decide (0≤e)))) rfl (zb rfl) (j4 rfl rfl rfl rfl (fun w=>qy (v:=d) (zb rfl)) fun bo aS=>?_)))));refine j4 rfl rfl rfl rfl (fun w=>qy (v:=(vi e)) (zb rfl)) fun bp aT=>?_;obtain⟨aa,k⟩:=ze k
 refine j4 rfl rfl rfl rfl (fun w=>z3w (i:=e.toNat) z5h (aS.1 (zm rfl w)) (s.mono a) (zf (aT.1 (zm rfl w)) (aa (zm rfl w)).1) (zz (aa (zm rfl w)))) fun bq aU=>?_
 refine j4 rfl rfl rfl rfl (fun w=>qy (z7p (zb2 (i:=e.toNat) (j:=1) ty4 (s.mono a) rfl rfl (aU.1 (zm rfl w)) (zz (aa (zm rfl w)))))) fun br aV=>?_;refine j4 rfl rfl rfl rfl (fun w=>qy (lu (aV.1 (zm rfl w)))) fun bs aW=>?_
 refine jm rfl (wu rfl (fun hb=>(aW.1 (zm rfl hb))) rfl) (z8 (zu rfl k (fun k=>?_) (fun k=>?_)));refine zn (zg d (zg (vi e) ?_));obtain⟨ab,k⟩:=ze k;refine uu (i:=e.toNat) rfl z5h rfl (s.mono a) (zf rfl ab.1) (zz ab) fun bu af=>?_
 refine og (i:=e.toNat) (j:=1) ty4 (s.mono a) rfl rfl af (zz ab) rfl (uj.2 rfl) fun ag ah=>?_;refine z8 (zx (zg h (zg (vi e) (zg K ?_))));obtain⟨x,k⟩:=ze k;refine uu (i:=e.toNat) rfl zei rfl (M.mono a) (zf rfl x.1) (zz x) fun a6 ai=>?_
 refine og (i:=e.toNat) (j:=0) za4 (M.mono a) rfl rfl ai (zz x) rfl (L.mono a) fun aj ak=>?_;refine z8 ?_;exact⟨dkt,a,jd,(((up H e ac),(up I e true)),aj,ag),trivial,prm,(Option.some.inj k).symm,ak,(t.trans List.length_set.symm),ah,(u.trans List.length_set.symm),trivial⟩;refine q9 ?_
 exact⟨dkt,a,jd,((H,I),ad,ae),trivial,prm,(Option.some.inj k).symm,(M.mono a),t,(s.mono a),u,trivial⟩;rintro⟨O,aX,aY⟩ a7 bv y ⟨rfl,aZ,al,a0,am,_⟩;refine zx (zg K (jg rfl ll lh rfl (h2.mono ((l.trans n).trans y)) fun a8 an=>?_));refine qo rfl ty3 rfl an fun a9 ao=>?_
 obtain rfl:=j6.1 ao;obtain⟨ap,aq,b⟩:=zq b;refine jb rfl q8i rfl (zeg (L.mono y) aq) fun P ba p ar=>?_;refine zi P (z8 ?_);exact⟨dkt,(y.trans p),jd,(G,ap,O.1,O.2,P,aX,aY),Nat.lt_succ_self _,⟨rfl,trivial⟩,prm,b,ar,(aZ.mono p),al,(a0.mono p),am,trivial⟩
 refine jf ?_;exact⟨dkt,(l.trans n),jd,((H,I),ad,ae),trivial,prm,(Option.some.inj b).symm,M,t,s,u,trivial⟩;rintro⟨q,bw,bx⟩ bb bz au ⟨rfl,a1,av,a2,aw,_⟩;refine zn (zg h (zg d (zi h (zi d (z8 (vo (i:=0) rfl a1 fun ax z ay=>?_))))))
 have az:VRep (tSl true (tSl false (zw .i64))) ax h q.1:=(z1s ay av);refine vo (i:=0) rfl (a2.mono z) fun aA C aB=>?_;have aC:VRep (tSl true jl) aA d q.2:=(z1s aB aw);refine qx ?_;obtain rfl:=Option.some.inj o
 refine qc (D:=[]) (J:=[]) (rs:=[.tmp 4,.tmp 5]) (vs:=[h,d]) (((U.trans au).trans z).trans C) rfl rfl ⟨rfl,rfl,trivial⟩ ?_;exact⟨rfl,⟨h,d,rfl,(az.mono C),aC⟩⟩
theorem q9j:Enters prog 109:=enters_of func109 rfl (by kernel_rfl)
theorem zdt{N:Nat}{R:RH}{m:Mach}{b:Value}(c:VRep (je false false) R b m){r:(List (List Int))×(List Bool)}(a:z2x N m=some r):CallP prog 102 #[b] R (fun v R'=> ∃ j k,v= .tuple #[j,k]∧VRep (tSl true (tSl false (zw .i64))) R' j r.1∧VRep (tSl true jl) R' k r.2):=by
 refine qf (args:=[b]) func102 rfl rfl fun A=>?_;rw [z2x] at a;refine zn (jy (T:=(je false false)) rfl rfl rfl c fun q s d l t=>?_);refine zi vs0 (zi vs0 (qw (zt (jh fe rfl rfl l (c.mono d)) ?_)));obtain⟨u,n,a⟩:=zq a
 refine jb rfl q9j rfl (zee (c.mono d) n) fun w o g p=>?_;obtain⟨e,f,rfl,h,i⟩:=p;refine zt (jv rfl rfl) (zt (jv rfl rfl) (zi e (zi f (z8 (qx ?_)))));obtain rfl:=Option.some.inj a
 refine qc (D:=[]) (J:=[]) (rs:=[.tmp 2,.tmp 3]) (vs:=[e,f]) (d.trans g) rfl rfl ⟨rfl,rfl,trivial⟩ ?_;exact⟨rfl,⟨e,f,rfl,h,i⟩⟩
theorem q86:Enters prog 102:=enters_of func102 rfl (by kernel_rfl)
theorem zf1{N:Nat}{R:RH}{a:(List Int)}{f:Value}(l:VRep (tSl false (zw .i64)) R f a){b:(List Int)}{j:Value}(m:VRep (tSl false (zw .i64)) R j b){r:Int}(d:z0w N a b=some r):CallP prog 103 #[f,j] R (fun v R'=>v=(vi r)):=by
 refine qf (args:=[f,j]) func103 rfl rfl fun A=>?_;rw [z0w] at d;refine zn (zi (vi 0) (z8 (qa (zn (zg f (zt (qj rfl underlying33 rfl (j3 l)) (zg j (zt (qj rfl underlying33 rfl (j3 m)) (zt (vk rfl rfl) (z8 (zu rfl d (fun d=>?_) (fun d=>?_))))))))))))
 refine qa (zn (zg f (zt (qj rfl underlying33 rfl (j3 l)) (zg j (zt (qj rfl underlying33 rfl (j3 m)) (zt (j5 rfl rfl) (z8 (zu rfl d (fun d=>?_) (fun d=>?_)))))))));refine zn (zi (vi 1) (z8 (qx ?_)));obtain rfl:=Option.some.inj d
 refine qc (D:=[]) (J:=[]) (rs:=[.tmp 4]) (vs:=[(vi 1)]) (RH.le.refl _) rfl rfl ⟨rfl,trivial⟩ ?_;exact⟨rfl,rfl⟩;refine q9 (zn (zi (vi 0) (z8 (qx ?_))));obtain rfl:=Option.some.inj d;refine qc (D:=[]) (J:=[]) (rs:=[.tmp 4]) (vs:=[(vi 0)]) (RH.le.refl _) rfl rfl ⟨rfl,trivial⟩ ?_;exact⟨rfl,rfl⟩;refine q9 ?_
 obtain⟨u,c,d⟩:=zq d;refine qm (γ:=Unit) (rs [4,6,16,40]) (fun g=>[]) (fun g=>[]++A) (fun g R=>u=Ex.go g∧True) ?_ ?_
 refine zn (zi (vi 0) (z8 (zy (ja (γ:=Nat×Int) (rs [4,6,16,40]) (fun g=>[(5,(vi g.2))]) (fun g=>[]++A) (fun g R=>mf N a b g.1 g.2=some u∧True) (fun g=>g.1) (N,0) prm ⟨c,trivial⟩ ?_))));clear c;rintro⟨t,k⟩ E O e ⟨c,_⟩;rcases t with _|t;exact qp c
 replace c:mf N a b (t+1) k=some u:=c;rw [mf] at c;refine qa (zn (zg (vi k) (zg f (zt (qj rfl underlying33 rfl (j3 (l.mono e))) (zt (j5 rfl rfl) (z8 (zu rfl c (fun c=>?_) (fun c=>?_))))))))
 refine q9 (qa (zy (qa (z4q 9 mixed (by kernel_rfl) (by kernel_rfl) ?_))));refine uf (v:=f) (zb rfl) ?_;refine uf (v:=(vi k)) (zb rfl) ?_;obtain⟨o,c⟩:=ze c;refine z3i (vg (i:=k.toNat) tu rfl (j3 (l.mono e)) (zf rfl o.1) (zz o)) fun F w=>?_;refine uf (ow (jr ty3 rfl w)) ?_
 refine uf (v:=j) (zb rfl) ?_;refine uf (v:=(vi k)) (zb rfl) ?_;obtain⟨p,c⟩:=ze c;refine z3i (vg (i:=k.toNat) tu rfl (j3 (m.mono e)) (zf rfl p.1) (zz p)) fun G x=>?_;refine uf (ow (jr ty3 rfl x)) ?_;refine uf (vk rfl rfl) ?_;intro H h
 refine z8 (zu rfl c (fun c=>?_) (fun c=>?_));refine qa (qa (z4q 9 mixed (by kernel_rfl) (by kernel_rfl) ?_));refine uf (v:=f) (zb rfl) ?_;refine uf (v:=(vi k)) (zb rfl) ?_;obtain⟨q,c⟩:=ze c
 refine z3i (vg (i:=k.toNat) tu rfl (j3 (l.mono (e.trans h))) (zf rfl q.1) (zz q)) fun I y=>?_;refine uf (ow (jr ty3 rfl y)) ?_;refine uf (v:=j) (zb rfl) ?_;refine uf (v:=(vi k)) (zb rfl) ?_;obtain⟨s,c⟩:=ze c
 refine z3i (vg (i:=k.toNat) tu rfl (j3 (m.mono (e.trans h))) (zf rfl s.1) (zz s)) fun K z=>?_;refine uf (ow (jr ty3 rfl z)) ?_;refine uf (j5 rfl rfl) ?_;intro L n;refine z8 (zu rfl c (fun c=>?_) (fun c=>?_));refine zn (zi (vi 1) (z8 (qx ?_)));replace d:=z3f c d
 obtain rfl:=Option.some.inj d;refine qc (D:=[]) (J:=[]) (rs:=[.tmp 4]) (vs:=[(vi 1)]) ((e.trans h).trans n) rfl rfl ⟨rfl,trivial⟩ ?_;exact⟨rfl,rfl⟩;refine q9 (zn (zi (vi 0) (z8 (qx ?_))));replace d:=z3f c d;obtain rfl:=Option.some.inj d
 refine qc (D:=[]) (J:=[]) (rs:=[.tmp 4]) (vs:=[(vi 0)]) ((e.trans h).trans n) rfl rfl ⟨rfl,trivial⟩ ?_;exact⟨rfl,rfl⟩;refine q9 (zx (zg (vi k) ?_));obtain⟨B,c⟩:=ze c;refine zt (qz rfl rfl B) (zi (vi (k+1)) (z8 ?_))
 exact⟨dkt,h,jd,(t,k+1),Nat.lt_succ_self _,⟨rfl,trivial⟩,prm,c,trivial⟩;refine jf ?_;exact⟨dkt,e,jd,(),trivial,prm,(Option.some.inj c).symm,trivial⟩;rintro P M Q C ⟨rfl,_⟩;replace d:=z5c d;refine zn (zi (vi 0) (z8 (qx ?_)));obtain rfl:=Option.some.inj d
 refine qc (D:=[]) (J:=[]) (rs:=[.tmp 4]) (vs:=[(vi 0)]) C rfl rfl ⟨rfl,trivial⟩ ?_;exact⟨rfl,rfl⟩
theorem q9b:Enters prog 103:=enters_of func103 rfl (by kernel_rfl)
theorem zef{N:Nat}{R:RH}{m:Mach}{ah:Value}(ai:VRep (je false false) R ah m){r:(List Int)}(H:z3o N m=some r):CallP prog 89 #[ah] R (fun v R'=>VRep (tSl false (zw .i64)) R' v r):=by
 refine qf (args:=[ah]) func89 rfl rfl fun A=>?_;rw [z3o] at H;refine zn (jy (T:=(je false false)) rfl rfl rfl ai fun v1 R3 aj h5 h2=>?_);refine zi vs0 (qw (zt (jh fe rfl rfl h5 (ai.mono aj)) ?_));obtain⟨U,c7,H⟩:=zq H
 refine jb rfl q86 rfl (zdt (ai.mono aj) c7) fun v8 bu ar h9=>?_;obtain⟨C,ak,rfl,al,aV⟩:=h9;refine zg (.tuple #[C,ak]) (zt (jv rfl rfl) (zt (jv rfl rfl) (zi C (zi ak (qw (zi vs0 (z8 ?_)))))));obtain⟨K,n,H⟩:=zq H
 refine qm (γ:=(List Int)×Value×Frag) (rs [5,9,14,60]) (fun g=>[(5,g.2.1)]) (fun g=>[g.2.2]++A) (fun g R=>K=g.1∧ORep (zw .i64) R g.2.2 g.2.1 g.1∧True) ?_ ?_;refine zn (zi (vi 0) (z8 (zy (z2m ?_))))
 refine ja (γ:=Nat×(List Int)×Int×Value×Frag) (rs [5,9,14,60]) (fun g=>[(5,g.2.2.2.1),(6,(vi g.2.2.1))]) (fun g=>[g.2.2.2.2]++A) (fun g R=>dw N U g.1 g.2.1 g.2.2.1=some K∧ORep (zw .i64) R g.2.2.2.2 g.2.2.2.1 g.2.1∧True) (fun g=>g.1) (N,[],0,vs0,emp) prm ⟨n,(ru (T:=(zw .i64))),trivial⟩ ?_;clear n
 rintro⟨M,a,d,q,O⟩ ba bw z ⟨n,I,_⟩;rcases M with _|M;exact qp n;replace n:dw N U (M+1) a d=some K:=n;rw [dw] at n
 refine qa (zn (zg (vi d) (zg C (zt (qj rfl underlying73 rfl (j3 (al.mono z))) (zt (j5 rfl rfl) (z8 (zu rfl n (fun n=>?_) (fun n=>?_))))))));refine q9 ?_;obtain⟨am,e,n⟩:=zq n
 refine qm (γ:=(List Int)×Value×Frag) (rs [5,6,7,9,20,60]) (fun g=>[(5,g.2.1)]) (fun g=>[g.2.2]++A) (fun g R=>am=g.1∧ORep (zw .i64) R g.2.2 g.2.1 g.1∧True) ?_ ?_;refine zy (qa (zn (zg ak (zg (vi d) ?_))));obtain⟨au,e⟩:=ze e
 refine ko (i:=d.toNat) rfl z5h rfl (j3 (aV.mono z)) (zf rfl au.1) (zz au) fun bx aW=>?_;refine qo rfl ty4 rfl aW fun bz aX=>?_;obtain rfl:=uj.1 aX;refine zt (lu rfl) (z8 (zu rfl e (fun e=>?_) (fun e=>?_)));refine jf ?_
 exact⟨dkt,(RH.le.refl _),jd,(a,q,O),⟨rfl,trivial⟩,prm,(Option.some.inj e).symm,I,trivial⟩;refine q9 (zn (zi (vi 0) (z8 ?_)));obtain⟨f,k,e⟩:=zq e;refine qm (γ:=Int) (rs [7,8,25,46]) (fun g=>[(7,(vi g))]) (fun g=>[O]++A) (fun g R=>f=g∧True) ?_ ?_
 refine zy (ja (γ:=Nat×Int) (rs [7,8,25,46]) (fun g=>[(7,(vi g.2))]) (fun g=>[O]++A) (fun g R=>di N U a d g.1 g.2=some f∧True) (fun g=>g.1) (N,0) prm ⟨k,trivial⟩ ?_);clear k;rintro⟨P,b⟩ bb bA t ⟨k,_⟩;rcases P with _|P;exact qp k
 replace k:di N U a d (P+1) b=some f:=k;rw [di] at k;refine qa (qa ?_);obtain⟨an,av,aw,k⟩:=q20 k;obtain⟨L,aY,k⟩:=zq k
 refine cu 19 [] [phX (vi b),phX q,phX (vi (↑a.length:Int)),phX (.bool (decide (b<(↑a.length:Int)))),phX (.bool (decide (b<(↑a.length:Int)))),phG (true&&((decide (b<(↑a.length:Int)))==true)) (phX C),phG (true&&((decide (b<(↑a.length:Int)))==true)) (phX q),phG (true&&((decide (b<(↑a.length:Int)))==true)) (phX (vi b)),phG (true&&((decide (b<(↑a.length:Int)))==true)) ((fun u _=>z4l (zw .i64) q a u b.toNat)),phG (true&&((decide (b<(↑a.length:Int)))==true)) (phX (vi (ix a b))),phG (true&&((decide (b<(↑a.length:Int)))==true)) (phP (tSl false (zw .i64)) (ix U.1 (ix a b))),phG (true&&((decide (b<(↑a.length:Int)))==true)) (phR (tSl false (zw .i64)) (ix U.1 (ix a b))),phG (true&&((decide (b<(↑a.length:Int)))==true)) (phX C),phG (true&&((decide (b<(↑a.length:Int)))==true)) (phX (vi d)),phG (true&&((decide (b<(↑a.length:Int)))==true)) (phP (tSl false (zw .i64)) (ix U.1 d)),phG (true&&((decide (b<(↑a.length:Int)))==true)) (phR (tSl false (zw .i64)) (ix U.1 d)),phG (true&&((decide (b<(↑a.length:Int)))==true)) (phX (vi (L.getD default))),phG (true&&((decide (b<(↑a.length:Int)))==true)) (phX (.bool (decide ((L.getD default)=1)))),phX (.bool ((decide (b<(↑a.length:Int)))&&(decide ((L.getD default)=1))))] mixed (by kernel_rfl) (ym ⟨zk,zk,zk,zk,zk,(qi zk),(qi zk),(qi zk),(qi (fun _ _ _ _ h=>h)),(qi zk),(qi yl),(qi pq),(qi zk),(qi zk),(qi yl),(qi pq),(qi zk),(qi zk),zk,trivial⟩) ⟨?_,?_,?_,?_,?_,?_,?_,?_,?_,?_,?_,?_,?_,?_,?_,?_,?_,?_,?_,trivial⟩ fun bB V=>?_
 intro l bC c s hd;exact za rfl rfl rfl (zo (zb (s 7 rfl)));intro l bE c s hd;exact za rfl rfl rfl (zo (zb (s 5 rfl)));rintro l bF c s ⟨o,_⟩;exact za rfl rfl rfl (zo (z2l rfl underlying33 (o rfl) ((I.mono t).mono c)));rintro l bG c s ⟨o,x,_⟩;exact za rfl rfl rfl (zo (j5 (o rfl) (x rfl)))
 rintro l bH c s ⟨o,_⟩;exact za rfl rfl rfl (zo (zb (o rfl)));rintro l bI c s ⟨o,_⟩;exact zl (Gj:=true) (Bj:=decide (b<(↑a.length:Int))) rfl rfl rfl (jc (o rfl)) rfl (fun w p=>zo (zb (s 3 rfl)));rintro l bJ c s ⟨o,_⟩
 exact zl (Gj:=true) (Bj:=decide (b<(↑a.length:Int))) rfl rfl rfl (jc (o rfl)) rfl (fun w p=>zo (zb (s 5 rfl)));rintro l bK c s ⟨o,_⟩;exact zl (Gj:=true) (Bj:=decide (b<(↑a.length:Int))) rfl rfl rfl (jc (o rfl)) rfl (fun w p=>zo (zb (s 7 rfl)));rintro l bL c s ⟨o,x,d2,_⟩
 exact zl (Gj:=true) (Bj:=decide (b<(↑a.length:Int))) rfl rfl rfl (jc (d2 rfl)) rfl (fun w p=>ik (i:=b.toNat) tu (show l 31=q from(o rfl).1 (zm rfl p)) ((I.mono t).mono c) (zf (show l 32=(vi b) from(x rfl).1 (zm rfl p)) (an (zm w p)).1) (zz (an (zm w p))));rintro l bM c s ⟨o,x,_⟩
 exact zl (Gj:=true) (Bj:=decide (b<(↑a.length:Int))) rfl rfl rfl (jc (x rfl)) rfl (fun w p=>uo (z3g (i:=b.toNat) (j:=0) ty3 ((I.mono t).mono c) rfl rfl ((o rfl).1 (zm rfl p)) (zz (an (zm w p)))) (fun _ _ h=>j6.1 h));rintro l bc c s ⟨o,x,d2,_⟩
 exact zl (Gj:=true) (Bj:=decide (b<(↑a.length:Int))) rfl rfl rfl (jc (d2 rfl)) rfl (fun w p=>wz (i:=(ix a b).toNat) zei (show l 30=C from(o rfl).1 (zm rfl p)) (j3 ((al.mono (z.trans t)).mono c)) (zf (show l 34=(vi (ix a b)) from(x rfl).1 (zm rfl p)) (av (zm w p)).1) (zz (av (zm w p))))
 rintro l be c s ⟨o,x,_⟩;exact zl (Gj:=true) (Bj:=decide (b<(↑a.length:Int))) rfl rfl rfl (jc (x rfl)) rfl (fun w p=>u7 za4 rfl ((o rfl).1 (zm rfl p)));rintro l bf c s ⟨o,_⟩;exact zl (Gj:=true) (Bj:=decide (b<(↑a.length:Int))) rfl rfl rfl (jc (o rfl)) rfl (fun w p=>zo (zb (s 3 rfl)))
 rintro l bg c s ⟨o,_⟩;exact zl (Gj:=true) (Bj:=decide (b<(↑a.length:Int))) rfl rfl rfl (jc (o rfl)) rfl (fun w p=>zo (zb (s 6 rfl)));rintro l bh c s ⟨o,x,d2,_⟩
 exact zl (Gj:=true) (Bj:=decide (b<(↑a.length:Int))) rfl rfl rfl (jc (d2 rfl)) rfl (fun w p=>wz (i:=d.toNat) zei (show l 37=C from(o rfl).1 (zm rfl p)) (j3 ((al.mono (z.trans t)).mono c)) (zf (show l 38=(vi d) from(x rfl).1 (zm rfl p)) (aw (zm w p)).1) (zz (aw (zm w p))))
 rintro l bi c s ⟨o,x,_⟩;exact zl (Gj:=true) (Bj:=decide (b<(↑a.length:Int))) rfl rfl rfl (jc (x rfl)) rfl (fun w p=>u7 za4 rfl ((o rfl).1 (zm rfl p)));rintro l bj c s ⟨o,x,d2,d3,_⟩
 exact zl (Gj:=true) (Bj:=decide (b<(↑a.length:Int))) rfl rfl rfl (jc (d2 rfl)) rfl (fun w p=>ut (vs:=[(l 36),(l 40)]) q9b rfl ((by have aZ:=(lv aY (zm w p));exact zf1 ((o rfl).1 (zm rfl p)) ((x rfl).1 (zm rfl p)) aZ)) (fun _ _ h=>h));rintro l bk c s ⟨o,x,_⟩
 exact zl (Gj:=true) (Bj:=decide (b<(↑a.length:Int))) rfl rfl rfl (jc (x rfl)) rfl (fun w p=>zo (xy (show l 41=(vi (L.getD default)) from(o rfl).1 (zm rfl p)) rfl));rintro l bl c s ⟨o,x,_⟩
 exact za rfl rfl rfl (zo (wu (o rfl) (fun hb=>(show l 42=(.bool (decide ((L.getD default)=1))) from(x rfl).1 (zm rfl hb))) rfl));intro bO a0 bP a1 bQ a2 bR a3 bS a4 bT bU bV bW bX bY bZ b0 b1 b2 b3 b4 b5 b6 b7 b8 b9 ca cb cc cd ce cf cg ch ci cj a5;obtain rfl:=Eq.symm a0;obtain rfl:=Eq.symm a1;obtain rfl:=Eq.symm a2
 obtain rfl:=Eq.symm a3;obtain rfl:=Eq.symm a4;obtain rfl:=Eq.symm a5;refine z8 (zu rfl k (fun k=>?_) (fun k=>?_));refine q9 (zy (zx (zg (vi b) ?_)));obtain⟨ax,k⟩:=ze k;refine zt (qz rfl rfl ax) (zi (vi (b+1)) (z8 ?_))
 exact⟨dkt,V,jd,(P,b+1),Nat.lt_succ_self _,⟨rfl,trivial⟩,prm,k,trivial⟩;refine jf ?_;exact⟨dkt,(t.trans V),jd,b,⟨rfl,trivial⟩,prm,(Option.some.inj k).symm,trivial⟩;rintro f bm ck W ⟨rfl,_⟩
 refine zn (zi vs0 (qw (zg vs0 (zg q (zg (vi f) (ug (i:=0) rfl (I.mono W) fun Z ap ay=>?_))))));have E:VRep (tSl false (zw .i64)) Z q a:=(z4s ay);obtain⟨F,e⟩:=ze e
 refine zcp (v:=q) (lo:=(0:Int).toNat) (hi:=f.toNat) (mx:=(capOf q)) rfl tu rfl (j3 E) (.inl ⟨rfl,rfl⟩) (.inr ⟨_,congrArg some (zf rfl (zbq F))⟩) (.inl ⟨rfl,rfl⟩) (ze5 F) (z6k F) (Nat.le_trans (z6k F) (zqo (j3 E))) (Nat.le_refl _) (X':=(cut a 0 f)) rfl fun az aA aT=>?_
 have aB:VRep (tSl false (zw .i64)) Z az (cut a 0 f):=z4s aA;refine q38 ?_;obtain⟨aa,e⟩:=ze e;refine wh (i:=0) (X:=([]:List Int)) (Y:=(cut a 0 f)) rfl underlying33 zo3 rfl rfl rfl (ru (T:=(zw .i64))) (j3 aB) aa.1 aa.2 fun ab bn aC=>?_
 refine zi ab (qw (zg ab (zg (vi d) (nk (T:=(zw .i64)) (X:=([d]:List Int)) (ps:=[(0,(vi d))]) (css:=[[(vi d)]]) rfl underlying33 zo3 rfl rfl (kw ⟨rfl,trivial⟩) rfl rfl (by decide) fun aD bo Q aE=>?_))));refine ug (i:=0) rfl aE fun ac y aF=>?_
 have aG:VRep (tSl true (zw .i64)) ac aD ([d]:List Int):=(z1s aF Q);obtain⟨ad,e⟩:=ze e;refine wh (i:=0) (X:=(([]:List Int)++(cut a 0 f))) (Y:=([d]:List Int)) rfl underlying33 zo3 rfl rfl rfl (aC.mono y) (j3 (Sub.v (B:=(tSl false (zw .i64))) (kv Sub.refl (fun _=>rfl)) aG)) ad.1 ad.2 fun ae bp aH=>?_
 refine zi ae (z8 (zx (zg ae (zg q (zg (vi f) ?_)))));obtain⟨G,e⟩:=ze e
 refine zcp (v:=q) (lo:=f.toNat) (hi:=(↑a.length:Int).toNat) (mx:=(capOf q)) rfl tu rfl (j3 (E.mono y)) (.inr ⟨_,congrArg some (zf rfl G.1)⟩) (.inl ⟨rfl,rfl,rfl⟩) (.inl ⟨rfl,rfl⟩) (ze5 G) (z6k G) (Nat.le_trans (z6k G) (zqo (j3 (E.mono y)))) (Nat.le_refl _) (X':=(cut a f (↑a.length:Int))) rfl fun aI aJ aU=>?_
 have aK:VRep (tSl false (zw .i64)) ac aI (cut a f (↑a.length:Int)):=z4s aJ;obtain⟨af,e⟩:=ze e;refine wh (i:=0) (X:=((([]:List Int)++(cut a 0 f))++([d]:List Int))) (Y:=(cut a f (↑a.length:Int))) rfl underlying33 zo3 rfl rfl rfl aH (j3 aK) af.1 af.2 fun ag aL aM=>?_;refine zi ag (z8 ?_)
 exact⟨dkt,((W.trans ap).trans y),jd,((((([]:List Int)++(cut a 0 f))++([d]:List Int))++(cut a f (↑a.length:Int))),ag,aL),⟨rfl,trivial⟩,prm,(Option.some.inj e).symm,aM,trivial⟩;rintro⟨am,a6,a7⟩ bq cl aN ⟨rfl,a8,_⟩;refine zx (zg (vi d) ?_);obtain⟨aO,n⟩:=ze n
 refine zt (qz rfl rfl aO) (zi (vi (d+1)) (z8 ?_));exact⟨dkt,aN,jd,(M,am,d+1,a6,a7),Nat.lt_succ_self _,⟨rfl,rfl,trivial⟩,prm,n,a8,trivial⟩;refine jf ?_;exact⟨dkt,z,jd,(a,q,O),⟨rfl,trivial⟩,prm,(Option.some.inj n).symm,I,trivial⟩;rintro⟨K,S,cm⟩ br cn aP ⟨rfl,a9,_⟩
 refine zn (zg S (zi S (z8 (vo (i:=0) rfl a9 fun aQ aq aR=>?_))));have aS:VRep (tSl false (zw .i64)) aQ S K:=(z4s aR);refine qx ?_;obtain rfl:=Option.some.inj H;refine qc (D:=[]) (J:=[]) (rs:=[.tmp 2]) (vs:=[S]) (((aj.trans ar).trans aP).trans aq) rfl rfl ⟨rfl,trivial⟩ ?_;exact⟨rfl,aS⟩
theorem qav:Enters prog 89:=enters_of func89 rfl (by kernel_rfl)
theorem z8m{N:Nat}{R:RH}{m:Mach}{O:Value}(p:VRep (je false false) R O m){r:(List Int)}(j:z10 N m=some r):CallP prog 69 #[O] R (fun v R'=>VRep (tSl false (zw .i64)) R' v r):=by
 refine qf (args:=[O]) func69 rfl rfl fun A=>?_;rw [z10] at j;refine zn (jy (T:=(je false false)) rfl rfl rfl p fun v1 R3 q h5 h2=>?_);refine zi vs0 (qw (zt (jh fe rfl rfl h5 (p.mono q)) ?_));obtain⟨y6,c7,j⟩:=zq j
 refine jb rfl q74 rfl (z5i (p.mono q) c7) fun v8 aQ o h9=>?_;refine zi v8 (qw (zt (jh fe rfl rfl (h5.mono o) (p.mono (q.trans o))) ?_));obtain⟨e,ax,j⟩:=zq j;refine jb rfl qav rfl (zef (p.mono (q.trans o)) ax) fun s aR t C=>?_
 refine zi s (qw (zi vs0 (z8 ?_)));obtain⟨u,b,j⟩:=zq j;refine qm (γ:=(List Int)×Value×Frag) (rs [5,9,13,48]) (fun g=>[(5,g.2.1)]) (fun g=>[g.2.2]++A) (fun g R=>u=g.1∧ORep (zw .i64) R g.2.2 g.2.1 g.1∧True) ?_ ?_;refine zn (zi (vi 0) (z8 (zy (z2m ?_))))
 refine ja (γ:=Nat×(List Int)×Int×Value×Frag) (rs [5,9,13,48]) (fun g=>[(5,g.2.2.2.1),(6,(vi g.2.2.1))]) (fun g=>[g.2.2.2.2]++A) (fun g R=>gy N y6 e g.1 g.2.1 g.2.2.1=some u∧ORep (zw .i64) R g.2.2.2.2 g.2.2.2.1 g.2.1∧True) (fun g=>g.1) (N,[],0,vs0,emp) prm ⟨b,(ru (T:=(zw .i64))),trivial⟩ ?_
 clear b;rintro⟨E,w,a,P,x⟩ aJ aS f ⟨b,Q,_⟩;rcases E with _|E;exact qp b;replace b:gy N y6 e (E+1) w a=some u:=b;rw [gy] at b
 refine qa (zn (zg (vi a) (zg s (zt (qj rfl underlying33 rfl (j3 (C.mono f))) (zt (j5 rfl rfl) (z8 (zu rfl b (fun b=>?_) (fun b=>?_))))))));refine q9 ?_;obtain⟨S,h,b⟩:=zq b
 refine qm (γ:=(List Int)×Value×Frag) (rs [5,6,7,9,19,48]) (fun g=>[(5,g.2.1)]) (fun g=>[g.2.2]++A) (fun g R=>S=g.1∧ORep (zw .i64) R g.2.2 g.2.1 g.1∧True) ?_ ?_;refine zy (zn (zi (vi 0) (z8 ?_)));obtain⟨y,c,h⟩:=zq h
 refine qm (γ:=Int) (rs [7,9,19,39]) (fun g=>[(7,(vi g))]) (fun g=>[x]++A) (fun g R=>y=g∧True) ?_ ?_
 refine zn (zi (vi 0) (z8 (zy (ja (γ:=Nat×Int×Int) (rs [7,9,19,39]) (fun g=>[(7,(vi g.2.1)),(8,(vi g.2.2))]) (fun g=>[x]++A) (fun g R=>bi N y6 e a g.1 g.2.1 g.2.2=some y∧True) (fun g=>g.1) (N,0,0) prm ⟨c,trivial⟩ ?_))));clear c;rintro⟨F,U,k⟩ aT aU l ⟨c,_⟩;rcases F with _|F
 exact qp c;replace c:bi N y6 e a (F+1) U k=some y:=c;rw [bi] at c;refine qa (zn (zg (vi k) (zg (vi a) (zt (j5 rfl rfl) (z8 (zu rfl c (fun c=>?_) (fun c=>?_)))))));refine q9 ?_;obtain⟨V,d,c⟩:=zq c
 refine qm (γ:=Int) (rs [7,8,24,39]) (fun g=>[(7,(vi g))]) (fun g=>[x]++A) (fun g R=>V=g∧True) ?_ ?_;refine zy (qa (z4q 15 mixed (by kernel_rfl) (by kernel_rfl) ?_));refine uf (v:=v8) (zb rfl) ?_;refine uf (v:=s) (zb rfl) ?_;refine uf (v:=(vi k)) (zb rfl) ?_;obtain⟨Z,d⟩:=ze d
 refine z3i (vg (i:=k.toNat) tu rfl (j3 (C.mono (f.trans l))) (zf rfl Z.1) (zz Z)) fun aV ay=>?_;refine uf (ow (jr ty3 rfl ay)) ?_;obtain⟨aa,d⟩:=ze d;refine z3i (vg (i:=(ix e k).toNat) tu rfl (j3 (h9.mono ((t.trans f).trans l))) (zf rfl aa.1) (zz aa)) fun aW az=>?_
 refine uf (ow (jr ty3 rfl az)) ?_;refine uf (v:=v8) (zb rfl) ?_;refine uf (v:=s) (zb rfl) ?_;refine uf (v:=(vi a)) (zb rfl) ?_;obtain⟨ab,d⟩:=ze d;refine z3i (vg (i:=a.toNat) tu rfl (j3 (C.mono (f.trans l))) (zf rfl ab.1) (zz ab)) fun aX aA=>?_;refine uf (ow (jr ty3 rfl aA)) ?_
 obtain⟨ac,d⟩:=ze d;refine z3i (vg (i:=(ix e a).toNat) tu rfl (j3 (h9.mono ((t.trans f).trans l))) (zf rfl ac.1) (zz ac)) fun aY aB=>?_;refine uf (ow (jr ty3 rfl aB)) ?_;refine uf (xy rfl rfl) ?_;intro aZ I;refine z8 (zu rfl d (fun d=>?_) (fun d=>?_))
 refine zx (zi (vi 1) (z8 ?_));exact⟨dkt,I,jd,1,⟨rfl,trivial⟩,prm,(Option.some.inj d).symm,trivial⟩;refine q9 ?_;exact⟨dkt,I,jd,U,⟨rfl,trivial⟩,prm,(Option.some.inj d).symm,trivial⟩;rintro V a0 a1 ad ⟨rfl,_⟩;refine zx (zg (vi k) ?_);obtain⟨aC,c⟩:=ze c
 refine zt (qz rfl rfl aC) (zi (vi (k+1)) (z8 ?_));exact⟨dkt,ad,jd,(F,V,k+1),Nat.lt_succ_self _,⟨rfl,rfl,trivial⟩,prm,c,trivial⟩;refine jf ?_;exact⟨dkt,l,jd,U,⟨rfl,trivial⟩,prm,(Option.some.inj c).symm,trivial⟩;rintro y a2 a3 n ⟨rfl,_⟩
 refine zn (zg (vi y) (zt (xy rfl rfl) (z8 (zu rfl h (fun h=>?_) (fun h=>?_)))));refine zx (zg P (zg s (zg (vi a) ?_)));obtain⟨K,h⟩:=ze h;refine ko (i:=a.toNat) rfl tu rfl (j3 (C.mono (f.trans n))) (zf rfl K.1) (zz K) fun aK ae=>?_
 refine qo rfl ty3 rfl ae fun aL af=>?_;obtain rfl:=j6.1 af;refine nk (T:=(zw .i64)) (X:=([(ix e a)]:List Int)) (ps:=[(0,(vi (ix e a)))]) (css:=[[(vi (ix e a))]]) rfl underlying33 zo3 rfl rfl (kw ⟨rfl,trivial⟩) rfl rfl (by decide) fun ag aM G ah=>?_;refine ug (i:=0) rfl ah fun ai z aj=>?_
 have ak:VRep (tSl true (zw .i64)) ai ag ([(ix e a)]:List Int):=(z1s aj G);obtain⟨L,h⟩:=ze h;refine wh (i:=0) (X:=w) (Y:=([(ix e a)]:List Int)) rfl underlying33 zo3 rfl rfl rfl (Q.mono (n.trans z)) (j3 (Sub.v (B:=(tSl false (zw .i64))) (kv Sub.refl (fun _=>rfl)) ak)) L.1 L.2 fun M al am=>?_
 refine zi M (z8 ?_);exact⟨dkt,(n.trans z),jd,((w++([(ix e a)]:List Int)),M,al),⟨rfl,trivial⟩,prm,(Option.some.inj h).symm,am,trivial⟩;refine q9 ?_;exact⟨dkt,n,jd,(w,P,x),⟨rfl,trivial⟩,prm,(Option.some.inj h).symm,(Q.mono n),trivial⟩;rintro⟨S,aD,aE⟩ aN a4 an ⟨rfl,aF,_⟩
 refine zx (zg (vi a) ?_);obtain⟨ao,b⟩:=ze b;refine zt (qz rfl rfl ao) (zi (vi (a+1)) (z8 ?_));exact⟨dkt,an,jd,(E,S,a+1,aD,aE),Nat.lt_succ_self _,⟨rfl,rfl,trivial⟩,prm,b,aF,trivial⟩;refine jf ?_;exact⟨dkt,f,jd,(w,P,x),⟨rfl,trivial⟩,prm,(Option.some.inj b).symm,Q,trivial⟩
 rintro⟨u,H,a5⟩ aO a6 ap ⟨rfl,aG,_⟩;refine zn (zg H (zi H (z8 (vo (i:=0) rfl aG fun aq W ar=>?_))));have au:VRep (tSl false (zw .i64)) aq H u:=(z4s ar);refine qx ?_;obtain rfl:=Option.some.inj j
 refine qc (D:=[]) (J:=[]) (rs:=[.tmp 2]) (vs:=[H]) ((((q.trans o).trans t).trans ap).trans W) rfl rfl ⟨rfl,trivial⟩ ?_;exact⟨rfl,au⟩
theorem q9m:Enters prog 69:=enters_of func69 rfl (by kernel_rfl)
theorem z7y{N:Nat}{R:RH}{m:Mach}{L:Value}(aB:VRep (je false false) R L m){h:Int}{r:(List Bool)}(n:av N m h=some r):CallP prog 74 #[L,(vi h)] R (fun v R'=>VRep (tSl true jl) R' v r):=by
 refine qf (args:=[L,(vi h)]) func74 rfl rfl fun A=>?_;rw [av] at n;refine zn (jy (T:=(je false false)) rfl rfl rfl aB fun v1 R3 aC h5 V=>?_);refine zi vs0 (qw (jg rfl uy u6 rfl V fun v6 h7=>?_));refine qo rfl z1z rfl h7 fun v8 h9=>?_
 refine zt (qj rfl underlying30 rfl (j3 h9)) ?_;obtain⟨E,n⟩:=ze n;refine z2y (T:=jl) (m:=(↑m.rows.length:Int).toNat) (c:=(↑m.rows.length:Int).toNat) rfl underlying64 zo4 (zf rfl E.1) (zf rfl E.1) (Nat.le_refl _) (z3s E) (z3u E) fun a bf M W=>?_;refine zi a (qw (zg a (zg (vi h) ?_)))
 obtain⟨O,n⟩:=ze n;refine uu (i:=h.toNat) rfl z5h rfl W (zf rfl O.1) (zz O) fun bg aD=>?_;refine og (i:=h.toNat) (j:=0) ty4 W rfl rfl aD (zz O) rfl (uj.2 rfl) fun aE aF=>?_;refine z8 ?_;obtain⟨s,d,n⟩:=zq n
 refine qm (γ:=(List Bool)×Frag) (rs [6,10,17,57]) (fun g=>[]) (fun g=>[g.2]++A) (fun g R=>s=g.1∧ORep jl R g.2 a g.1∧capOf a=g.1.length∧True) ?_ ?_
 refine zn (zi (vi 0) (z8 (zy (ja (γ:=Nat×Int×(List Bool)×Frag) (rs [6,10,17,57]) (fun g=>[(6,(vi g.2.1))]) (fun g=>[g.2.2.2]++A) (fun g R=>ng N m g.1 g.2.1 g.2.2.1=some s∧ORep jl R g.2.2.2 a g.2.2.1∧capOf a=g.2.2.1.length∧True) (fun g=>g.1) (N,0,(up (mk (↑m.rows.length:Int) false) h true),aE) prm ⟨d,aF,((M.trans List.length_replicate.symm).trans List.length_set.symm),trivial⟩ ?_))))
 clear d;rintro⟨F,t,P,X⟩ a0 bh o ⟨d,Y,I,_⟩;rcases F with _|F;exact qp d;replace d:ng N m (F+1) t P=some s:=d;rw [ng] at d;refine qa (zn (zg (vi t) (jg rfl uy u6 rfl (V.mono o) fun bi aG=>?_)));refine qo rfl z1z rfl aG fun bj aH=>?_
 refine zt (qj rfl underlying30 rfl (j3 aH)) (zt (j5 rfl rfl) (z8 (zu rfl d (fun d=>?_) (fun d=>?_))));refine q9 ?_;obtain⟨u,e,d⟩:=zq d;refine qm (γ:=(List Bool)×Frag) (rs [7,10,24,57]) (fun g=>[]) (fun g=>[g.2]++A) (fun g R=>u=g.1∧ORep jl R g.2 a g.1∧capOf a=g.1.length∧True) ?_ ?_
 refine zy (zn (zi (vi 0) (z8 (zy (ja (γ:=Nat×Int×(List Bool)×Frag) (rs [7,10,24,57]) (fun g=>[(7,(vi g.2.1))]) (fun g=>[g.2.2.2]++A) (fun g R=>xg N m g.1 g.2.1 g.2.2.1=some u∧ORep jl R g.2.2.2 a g.2.2.1∧capOf a=g.2.2.1.length∧True) (fun g=>g.1) (N,0,P,X) prm ⟨e,Y,I,trivial⟩ ?_)))))
 clear e;rintro⟨G,b,Q,Z⟩ a1 bk p ⟨e,aa,K,_⟩;rcases G with _|G;exact qp e;replace e:xg N m (G+1) b Q=some u:=e;rw [xg] at e;refine qa (zn (zg (vi b) (jg rfl uy u6 rfl (V.mono (o.trans p)) fun bl aI=>?_)))
 refine qo rfl z1z rfl aI fun bm aJ=>?_;refine zt (qj rfl underlying30 rfl (j3 aJ)) (zt (j5 rfl rfl) (z8 (zu rfl e (fun e=>?_) (fun e=>?_))));refine q9 ?_;obtain⟨w,f,e⟩:=zq e
 refine qm (γ:=(List Bool)×Frag) (rs [8,10,31,57]) (fun g=>[]) (fun g=>[g.2]++A) (fun g R=>w=g.1∧ORep jl R g.2 a g.1∧capOf a=g.1.length∧True) ?_ ?_
 refine zy (zn (zi (vi 0) (z8 (zy (ja (γ:=Nat×Int×(List Bool)×Frag) (rs [8,10,31,57]) (fun g=>[(8,(vi g.2.1))]) (fun g=>[g.2.2.2]++A) (fun g R=>xu N m b g.1 g.2.1 g.2.2.1=some w∧ORep jl R g.2.2.2 a g.2.2.1∧capOf a=g.2.2.1.length∧True) (fun g=>g.1) (N,0,Q,Z) prm ⟨f,aa,K,trivial⟩ ?_)))))
 clear f;rintro⟨H,k,x,ab⟩ a2 bn y ⟨f,q,z,_⟩;rcases H with _|H;exact qp f;replace f:xu N m b (H+1) k x=some w:=f;rw [xu] at f;refine qa (zn (zg (vi k) (jg rfl ll lh rfl (V.mono ((o.trans p).trans y)) fun bo aK=>?_)))
 refine qo rfl ty3 rfl aK fun bp aL=>?_;obtain rfl:=j6.1 aL;refine zt (j5 rfl rfl) (z8 (zu rfl f (fun f=>?_) (fun f=>?_)));refine q9 ?_;obtain⟨S,l,f⟩:=zq f
 refine qm (γ:=(List Bool)×Frag) (rs [9,10,37,57]) (fun g=>[]) (fun g=>[g.2]++A) (fun g R=>S=g.1∧ORep jl R g.2 a g.1∧capOf a=g.1.length∧True) ?_ ?_;refine zy (zn (jg rfl uy u6 rfl (V.mono ((o.trans p).trans y)) fun bq aM=>?_));refine qo rfl z1z rfl aM fun br aN=>?_;refine zg (vi b) ?_
 obtain⟨ac,l⟩:=ze l;refine ko (i:=b.toNat) rfl za6 rfl (j3 aN) (zf rfl ac.1) (zz ac) fun bs aO=>?_;refine qo rfl z97 rfl aO fun bt aP=>?_;refine zg (vi k) ?_;obtain⟨ad,l⟩:=ze l;refine ko (i:=k.toNat) rfl zaf rfl (j3 aP) (zf rfl ad.1) (zz ad) fun bu aQ=>?_
 refine jg rfl o8 z5w rfl aQ fun bv aR=>?_;refine qo rfl ty3 rfl aR fun bw aS=>?_;obtain rfl:=j6.1 aS;refine zi (vi ((ix (ix m.rows b) k).to)) (qw (jm (v:=a) rfl (zb rfl) (jm (v:=(vi b)) rfl (zb rfl) ?_)));obtain⟨B,l⟩:=ze l
 refine zjz rfl (z3w (i:=b.toNat) z5h rfl q (zf rfl B.1) (zz B)) fun a3 ae=>?_;refine jm rfl (z7p (zb2 (i:=b.toNat) (j:=0) ty4 q rfl rfl ae (zz B))) (jm (v:=(.bool (ix x b))) rfl (zb rfl) (j4 rfl rfl rfl rfl (fun hB=>qy (v:=(vi ((ix (ix m.rows b) k).to))) (zb rfl)) fun a5 af=>?_))
 refine j4 rfl rfl rfl rfl (fun hB=>qy (z2z (af.1 (zm rfl hB)) rfl)) fun a6 ag=>?_;refine jm rfl (wu rfl (fun hb=>(ag.1 (zm rfl hb))) rfl) (z8 (zu rfl l (fun l=>?_) (fun l=>?_)));refine zx (zg a (zg (vi ((ix (ix m.rows b) k).to)) ?_));obtain⟨C,l⟩:=ze l
 refine uu (i:=((ix (ix m.rows b) k).to).toNat) rfl z5h rfl q (zf rfl C.1) (zz C) fun a7 ah=>?_;refine og (i:=((ix (ix m.rows b) k).to).toNat) (j:=0) ty4 q rfl rfl ah (zz C) rfl (uj.2 rfl) fun ai aj=>?_;refine z8 ?_
 exact⟨dkt,(RH.le.refl _),jd,((up x ((ix (ix m.rows b) k).to) true),ai),trivial,prm,(Option.some.inj l).symm,aj,(z.trans List.length_set.symm),trivial⟩;refine q9 ?_;exact⟨dkt,(RH.le.refl _),jd,(x,ab),trivial,prm,(Option.some.inj l).symm,q,z,trivial⟩;rintro⟨S,aT⟩ a8 bz ak ⟨rfl,aU,al,_⟩;refine zx (zg (vi k) ?_)
 obtain⟨am,f⟩:=ze f;refine zt (qz rfl rfl am) (zi (vi (k+1)) (z8 ?_));exact⟨dkt,ak,jd,(H,k+1,S,aT),Nat.lt_succ_self _,⟨rfl,trivial⟩,prm,f,aU,al,trivial⟩;refine jf ?_;exact⟨dkt,y,jd,(x,ab),trivial,prm,(Option.some.inj f).symm,q,z,trivial⟩;rintro⟨w,aV⟩ a9 bA an ⟨rfl,aW,ao,_⟩
 refine zx (zg (vi b) ?_);obtain⟨ap,e⟩:=ze e;refine zt (qz rfl rfl ap) (zi (vi (b+1)) (z8 ?_));exact⟨dkt,an,jd,(G,b+1,w,aV),Nat.lt_succ_self _,⟨rfl,trivial⟩,prm,e,aW,ao,trivial⟩;refine jf ?_;exact⟨dkt,p,jd,(Q,Z),trivial,prm,(Option.some.inj e).symm,aa,K,trivial⟩
 rintro⟨u,aX⟩ ba bB aq ⟨rfl,aY,ar,_⟩;refine zx (zg (vi t) ?_);obtain⟨au,d⟩:=ze d;refine zt (qz rfl rfl au) (zi (vi (t+1)) (z8 ?_));exact⟨dkt,aq,jd,(F,t+1,u,aX),Nat.lt_succ_self _,⟨rfl,trivial⟩,prm,d,aY,ar,trivial⟩;refine jf ?_
 exact⟨dkt,o,jd,(P,X),trivial,prm,(Option.some.inj d).symm,Y,I,trivial⟩;rintro⟨s,bC⟩ bb bD aw ⟨rfl,aZ,ax,_⟩;refine zn (zg a (zi a (z8 (vo (i:=0) rfl aZ fun ay U az=>?_))));have aA:VRep (tSl true jl) ay a s:=(z1s az ax);refine qx ?_;obtain rfl:=Option.some.inj n
 refine qc (D:=[]) (J:=[]) (rs:=[.tmp 4]) (vs:=[a]) ((aC.trans aw).trans U) rfl rfl ⟨rfl,trivial⟩ ?_;exact⟨rfl,aA⟩
theorem q92:Enters prog 74:=enters_of func74 rfl (by kernel_rfl)
theorem zg9{N:Nat}{R:RH}{m:Mach}{aa:Value}(E:VRep (je false false) R aa m){r:(List Int)}(u:z4z N m=some r):CallP prog 70 #[aa] R (fun v R'=>VRep (tSl false (zw .i64)) R' v r):=by
 refine qf (args:=[aa]) func70 rfl rfl fun A=>?_;rw [z4z] at u;refine zn (jy (T:=(je false false)) rfl rfl rfl E fun v1 R3 F h5 h2=>?_);refine zi vs0 (qw (zt (jh fe rfl rfl h5 (E.mono F)) ?_));obtain⟨C,c7,u⟩:=zq u
 refine jb rfl q74 rfl (z5i (E.mono F) c7) fun v8 a5 p h9=>?_;refine zi v8 (qw (zt (jh fe rfl rfl (h5.mono p) (E.mono (F.trans p))) ?_));obtain⟨k,aI,u⟩:=zq u;refine jb rfl q9m rfl (z8m (E.mono (F.trans p)) aI) fun K a6 q ah=>?_
 refine zi K (qw (zt (jh fe rfl rfl (h5.mono (p.trans q)) (E.mono ((F.trans p).trans q))) ?_));obtain⟨b,aJ,u⟩:=zq u;refine jb rfl q92 rfl (z7y (E.mono ((F.trans p).trans q)) aJ) fun ai a7 w aK=>?_;refine zi ai (qw (zi vs0 (z8 ?_)));obtain⟨H,e,u⟩:=zq u
 refine qm (γ:=(List Int)×Value×Frag) (rs [6,10,16,51]) (fun g=>[(6,g.2.1)]) (fun g=>[g.2.2]++A) (fun g R=>H=g.1∧ORep (zw .i64) R g.2.2 g.2.1 g.1∧True) ?_ ?_;refine zn (zi (vi 0) (z8 (zy (z2m ?_))))
 refine ja (γ:=Nat×(List Int)×Int×Value×Frag) (rs [6,10,16,51]) (fun g=>[(6,g.2.2.2.1),(7,(vi g.2.2.1))]) (fun g=>[g.2.2.2.2]++A) (fun g R=>oo N C k b g.1 g.2.1 g.2.2.1=some H∧ORep (zw .i64) R g.2.2.2.2 g.2.2.2.1 g.2.1∧True) (fun g=>g.1) (N,[],0,vs0,emp) prm ⟨e,(ru (T:=(zw .i64))),trivial⟩ ?_
 clear e;rintro⟨L,M,a,aj,O⟩ aR a8 s ⟨e,ak,_⟩;rcases L with _|L;exact qp e;replace e:oo N C k b (L+1) M a=some H:=e;rw [oo] at e
 refine qa (zn (zg (vi a) (zg v8 (zt (qj rfl underlying33 rfl (j3 (h9.mono ((q.trans w).trans s)))) (zt (j5 rfl rfl) (z8 (zu rfl e (fun e=>?_) (fun e=>?_))))))));refine q9 (qa (zy (zn (zi (vi (-1)) (z8 ?_)))));obtain⟨t,f,e⟩:=zq e
 refine qm (γ:=Int) (rs [8,10,22,47]) (fun g=>[(8,(vi g))]) (fun g=>[O]++A) (fun g R=>t=g∧True) ?_ ?_
 refine zn (zi (vi 0) (z8 (zy (ja (γ:=Nat×Int×Int) (rs [8,10,22,47]) (fun g=>[(8,(vi g.2.1)),(9,(vi g.2.2))]) (fun g=>[O]++A) (fun g R=>af N C k b a g.1 g.2.1 g.2.2=some t∧True) (fun g=>g.1) (N,(-1),0) prm ⟨f,trivial⟩ ?_))));clear f;rintro⟨P,ab,c⟩ aS a9 x ⟨f,_⟩
 rcases P with _|P;exact qp f;replace f:af N C k b a (P+1) ab c=some t:=f;rw [af] at f;refine qa (zn (zg (vi c) (zg K (zt (qj rfl underlying33 rfl (j3 (ah.mono ((w.trans s).trans x)))) (zt (j5 rfl rfl) (z8 (zu rfl f (fun f=>?_) (fun f=>?_))))))))
 refine q9 ?_;obtain⟨ac,G,f⟩:=zq f;refine qm (γ:=Int) (rs [8,9,28,47]) (fun g=>[(8,(vi g))]) (fun g=>[O]++A) (fun g R=>ac=g∧True) ?_ ?_;refine zy (qa ?_);obtain⟨al,am,an,ao,G⟩:=q0b G
 refine cu 18 [] [phX ai,phX (vi a),phP jl (ix b a),phX (.bool (ix b a)),phX (.bool (ix b a)),phG (true&&((ix b a)==true)) (phX v8),phG (true&&((ix b a)==true)) (phX K),phG (true&&((ix b a)==true)) (phX (vi c)),phG (true&&((ix b a)==true)) (phP (zw .i64) (ix k c)),phG (true&&((ix b a)==true)) (phX (vi (ix k c))),phG (true&&((ix b a)==true)) (phP (zw .i64) (ix C (ix k c))),phG (true&&((ix b a)==true)) (phX (vi (ix C (ix k c)))),phG (true&&((ix b a)==true)) (phX v8),phG (true&&((ix b a)==true)) (phX (vi a)),phG (true&&((ix b a)==true)) (phP (zw .i64) (ix C a)),phG (true&&((ix b a)==true)) (phX (vi (ix C a))),phG (true&&((ix b a)==true)) (phX (.bool (decide ((ix C (ix k c))=(ix C a))))),phX (.bool ((ix b a)&&(decide ((ix C (ix k c))=(ix C a)))))] mixed (by kernel_rfl) (ym ⟨zk,zk,yl,zk,zk,(qi zk),(qi zk),(qi zk),(qi yl),(qi zk),(qi yl),(qi zk),(qi zk),(qi zk),(qi yl),(qi zk),(qi zk),zk,trivial⟩) ⟨?_,?_,?_,?_,?_,?_,?_,?_,?_,?_,?_,?_,?_,?_,?_,?_,?_,?_,trivial⟩ fun ba U=>?_
 intro l bb d o hd;exact za rfl rfl rfl (zo (zb (o 5 rfl)));intro l be d o hd;exact za rfl rfl rfl (zo (zb (o 7 rfl)));rintro l bf d o ⟨j,y,_⟩;have ap:=j rfl;exact za rfl rfl rfl (wz (i:=a.toNat) z5h ap (j3 ((aK.mono (s.trans x)).mono d)) (zf (y rfl) al.1) (zz al));rintro l bg d o ⟨j,_⟩
 exact za rfl rfl rfl (uo (u7 ty4 rfl (j rfl)) (fun _ _ h=>uj.1 h));rintro l bh d o ⟨j,_⟩;exact za rfl rfl rfl (zo (zb (j rfl)));rintro l bi d o ⟨j,_⟩;exact zl (Gj:=true) (Bj:=(ix b a)) rfl rfl rfl (jc (j rfl)) rfl (fun z n=>zo (zb (o 3 rfl)));rintro l bj d o ⟨j,_⟩
 exact zl (Gj:=true) (Bj:=(ix b a)) rfl rfl rfl (jc (j rfl)) rfl (fun z n=>zo (zb (o 4 rfl)));rintro l bk d o ⟨j,_⟩;exact zl (Gj:=true) (Bj:=(ix b a)) rfl rfl rfl (jc (j rfl)) rfl (fun z n=>zo (zb (o 9 rfl)));rintro l bl d o ⟨j,y,d2,_⟩
 exact zl (Gj:=true) (Bj:=(ix b a)) rfl rfl rfl (jc (d2 rfl)) rfl (fun z n=>wz (i:=c.toNat) tu (show l 34=K from(j rfl).1 (zm rfl n)) (j3 ((ah.mono ((w.trans s).trans x)).mono d)) (zf (show l 35=(vi c) from(y rfl).1 (zm rfl n)) (am (zm z n)).1) (zz (am (zm z n))));rintro l bm d o ⟨j,y,_⟩
 exact zl (Gj:=true) (Bj:=(ix b a)) rfl rfl rfl (jc (y rfl)) rfl (fun z n=>uo (u7 ty3 rfl ((j rfl).1 (zm rfl n))) (fun _ _ h=>j6.1 h));rintro l aT d o ⟨j,y,d2,_⟩
 exact zl (Gj:=true) (Bj:=(ix b a)) rfl rfl rfl (jc (d2 rfl)) rfl (fun z n=>wz (i:=(ix k c).toNat) tu (show l 33=v8 from(j rfl).1 (zm rfl n)) (j3 ((h9.mono (((q.trans w).trans s).trans x)).mono d)) (zf (show l 37=(vi (ix k c)) from(y rfl).1 (zm rfl n)) (an (zm z n)).1) (zz (an (zm z n))))
 rintro l aU d o ⟨j,y,_⟩;exact zl (Gj:=true) (Bj:=(ix b a)) rfl rfl rfl (jc (y rfl)) rfl (fun z n=>uo (u7 ty3 rfl ((j rfl).1 (zm rfl n))) (fun _ _ h=>j6.1 h));rintro l aV d o ⟨j,_⟩;exact zl (Gj:=true) (Bj:=(ix b a)) rfl rfl rfl (jc (j rfl)) rfl (fun z n=>zo (zb (o 3 rfl)))
 rintro l aW d o ⟨j,_⟩;exact zl (Gj:=true) (Bj:=(ix b a)) rfl rfl rfl (jc (j rfl)) rfl (fun z n=>zo (zb (o 7 rfl)));rintro l aX d o ⟨j,y,d2,_⟩
 exact zl (Gj:=true) (Bj:=(ix b a)) rfl rfl rfl (jc (d2 rfl)) rfl (fun z n=>wz (i:=a.toNat) tu (show l 40=v8 from(j rfl).1 (zm rfl n)) (j3 ((h9.mono (((q.trans w).trans s).trans x)).mono d)) (zf (show l 41=(vi a) from(y rfl).1 (zm rfl n)) (ao (zm z n)).1) (zz (ao (zm z n))))
 rintro l aY d o ⟨j,y,_⟩;exact zl (Gj:=true) (Bj:=(ix b a)) rfl rfl rfl (jc (y rfl)) rfl (fun z n=>uo (u7 ty3 rfl ((j rfl).1 (zm rfl n))) (fun _ _ h=>j6.1 h));rintro l aZ d o ⟨j,y,d2,_⟩
 exact zl (Gj:=true) (Bj:=(ix b a)) rfl rfl rfl (jc (d2 rfl)) rfl (fun z n=>zo (xy (show l 39=(vi (ix C (ix k c))) from(j rfl).1 (zm rfl n)) (show l 43=(vi (ix C a)) from(y rfl).1 (zm rfl n))));rintro l a0 d o ⟨j,y,_⟩
 exact za rfl rfl rfl (zo (wu (j rfl) (fun hb=>(show l 44=(.bool (decide ((ix C (ix k c))=(ix C a)))) from(y rfl).1 (zm rfl hb))) rfl));intro bo aL bp aM bq br bs aN bt aO bu bv bw bx bz bA bB bC bD bE bF bG bH bI bJ bK bL bM bN bO bP bQ bR bS bT aP;obtain rfl:=Eq.symm aL;obtain rfl:=Eq.symm aM;obtain rfl:=Eq.symm aN
 obtain rfl:=Eq.symm aO;obtain rfl:=Eq.symm aP;refine z8 (zu rfl G (fun G=>?_) (fun G=>?_));refine zx (zg (vi c) (zi (vi c) (z8 ?_)));exact⟨dkt,U,jd,c,⟨rfl,trivial⟩,prm,(Option.some.inj G).symm,trivial⟩;refine q9 ?_;exact⟨dkt,U,jd,ab,⟨rfl,trivial⟩,prm,(Option.some.inj G).symm,trivial⟩
 rintro ac bU bV aq ⟨rfl,_⟩;refine zx (zg (vi c) ?_);obtain⟨ar,f⟩:=ze f;refine zt (qz rfl rfl ar) (zi (vi (c+1)) (z8 ?_));exact⟨dkt,aq,jd,(P,ac,c+1),Nat.lt_succ_self _,⟨rfl,rfl,trivial⟩,prm,f,trivial⟩;refine jf ?_;exact⟨dkt,x,jd,ab,⟨rfl,trivial⟩,prm,(Option.some.inj f).symm,trivial⟩
 rintro t a1 bW V ⟨rfl,_⟩;refine zx (zg aj (zg (vi t) (nk (T:=(zw .i64)) (X:=([t]:List Int)) (ps:=[(0,(vi t))]) (css:=[[(vi t)]]) rfl underlying33 zo3 rfl rfl (kw ⟨rfl,trivial⟩) rfl rfl (by decide) fun au a2 Q av=>?_)));refine ug (i:=0) rfl av fun aw I ax=>?_
 have ay:VRep (tSl true (zw .i64)) aw au ([t]:List Int):=(z1s ax Q);obtain⟨W,e⟩:=ze e;refine wh (i:=0) (X:=M) (Y:=([t]:List Int)) rfl underlying33 zo3 rfl rfl rfl (ak.mono (V.trans I)) (j3 (Sub.v (B:=(tSl false (zw .i64))) (kv Sub.refl (fun _=>rfl)) ay)) W.1 W.2 fun Z az aA=>?_
 refine zi Z (z8 (zx (zg (vi a) ?_)));obtain⟨aB,e⟩:=ze e;refine zt (qz rfl rfl aB) (zi (vi (a+1)) (z8 ?_));exact⟨dkt,(V.trans I),jd,(L,(M++([t]:List Int)),a+1,Z,az),Nat.lt_succ_self _,⟨rfl,rfl,trivial⟩,prm,e,aA,trivial⟩;refine jf ?_
 exact⟨dkt,s,jd,(M,aj,O),⟨rfl,trivial⟩,prm,(Option.some.inj e).symm,ak,trivial⟩;rintro⟨H,S,ap⟩ a3 bX aC ⟨rfl,aQ,_⟩;refine zn (zg S (zi S (z8 (vo (i:=0) rfl aQ fun aD ae aE=>?_))));have aF:VRep (tSl false (zw .i64)) aD S H:=(z4s aE);refine qx ?_;obtain rfl:=Option.some.inj u
 refine qc (D:=[]) (J:=[]) (rs:=[.tmp 2]) (vs:=[S]) (((((F.trans p).trans q).trans w).trans aC).trans ae) rfl rfl ⟨rfl,trivial⟩ ?_;exact⟨rfl,aF⟩
theorem qbw:Enters prog 70:=enters_of func70 rfl (by kernel_rfl)
theorem sz3: ∀ w,(sizeOf 3).run prog w= .ok 1 w:=fun w=>by kernel_rfl
theorem zcu{N:Nat}{R:RH}{m:Mach}{ak:Value}(E:VRep (je false false) R ak m){r:Mach}(q:z1y N m=some r):CallP prog 45 #[ak] R (fun v R'=>VRep (je false false) R' v r):=by
 refine qf (args:=[ak]) func45 rfl rfl fun A=>?_;rw [z1y] at q;refine zn (jy (T:=(je false false)) rfl rfl rfl E fun v1 R3 F h5 h2=>?_);refine uq rfl zn5 fun b6=>?_;refine qw (zt (jh fe rfl rfl h5 (E.mono F)) ?_);obtain⟨k,c9,q⟩:=zq q
 refine jb rfl q9m rfl (z8m (E.mono F) c9) fun al bx f ao=>?_;refine zi al (qw (zt (jh fe rfl rfl (h5.mono f) (E.mono (F.trans f))) ?_));obtain⟨x,a3,q⟩:=zq q;refine jb rfl qbw rfl (zg9 (E.mono (F.trans f)) a3) fun ap bz j a4=>?_
 refine zi ap (qw (jg rfl ll lh rfl (h2.mono (f.trans j)) fun bA a5=>?_));refine qo rfl ty3 rfl a5 fun bB a6=>?_;obtain rfl:=j6.1 a6;refine jg rfl zf9 zbf rfl (h2.mono (f.trans j)) fun bC a7=>?_;refine qo rfl ty3 rfl a7 fun bD a8=>?_;obtain rfl:=j6.1 a8
 refine zt (yw (ps:=[(0,(vi m.inputs)),(1,(vi m.outputs))]) (v:=(.agg #[(vi m.inputs),(vi m.outputs),vs0])) rfl (fun w=>by kernel_rfl)) (uq rfl zn5 fun y=>?_)
 refine jo (i:=0) (vs:=[(vi m.inputs),(vi m.outputs),vs0]) z6y rfl rfl rfl rfl rfl rfl (qg rfl (qg rfl (qg rfl kg))) ?_;refine z8 ?_;obtain⟨z,d,q⟩:=zq q
 refine qm (γ:=(List (List Edge))×Value×Frag) (rs [6,10,19,61]) (fun g=>[]) (fun g=>[box b6 [(vi 0),(vi 0),vs0] 32,box y [(vi m.inputs),(vi m.outputs),g.2.1] 32,g.2.2]++A) (fun g R=>z=g.1∧ORep (tSl false kEdge) R g.2.2 g.2.1 g.1∧True) ?_ ?_;refine zn (zi (vi 0) (z8 (zy (z2m ?_))))
 refine ja (γ:=Nat×Int×(List (List Edge))×Value×Frag) (rs [6,10,19,61]) (fun g=>[(6,(vi g.2.1))]) (fun g=>[box b6 [(vi 0),(vi 0),vs0] 32,box y [(vi m.inputs),(vi m.outputs),g.2.2.2.1] 32,g.2.2.2.2]++A) (fun g R=>xq N m k x g.1 g.2.1 g.2.2.1=some z∧ORep (tSl false kEdge) R g.2.2.2.2 g.2.2.2.1 g.2.2.1∧True) (fun g=>g.1) (N,0,[],vs0,emp) ⟨[],(pk 2 rfl (pk 1 rfl (pk 0 rfl (List.Perm.refl _))))⟩ ⟨d,(ru (T:=(tSl false kEdge))),trivial⟩ ?_
 clear d;rintro⟨P,a,Q,S,U⟩ bk bE n ⟨d,aq,_⟩;rcases P with _|P;exact qp d;replace d:xq N m k x (P+1) a Q=some z:=d;rw [xq] at d
 refine qa (zn (zg (vi a) (zg al (zt (qj rfl underlying33 rfl (j3 (ao.mono (j.trans n)))) (zt (j5 rfl rfl) (z8 (zu rfl d (fun d=>?_) (fun d=>?_))))))));refine q9 (qa (zy (zn (zi vs0 (z8 ?_)))));obtain⟨p,b,d⟩:=zq d
 refine qm (γ:=(List Edge)×Value×Frag) (rs [7,10,25,55]) (fun g=>[(7,g.2.1)]) (fun g=>[box b6 [(vi 0),(vi 0),vs0] 32,box y [(vi m.inputs),(vi m.outputs),S] 32,U,g.2.2]++A) (fun g R=>p=g.1∧ORep kEdge R g.2.2 g.2.1 g.1∧True) ?_ ?_;refine zn (zi (vi 0) (z8 (zy (z2m ?_))))
 refine ja (γ:=Nat×(List Edge)×Int×Value×Frag) (rs [7,10,25,55]) (fun g=>[(7,g.2.2.2.1),(8,(vi g.2.2.1))]) (fun g=>[box b6 [(vi 0),(vi 0),vs0] 32,box y [(vi m.inputs),(vi m.outputs),S] 32,U,g.2.2.2.2]++A) (fun g R=>xc N m k x a g.1 g.2.1 g.2.2.1=some p∧ORep kEdge R g.2.2.2.2 g.2.2.2.1 g.2.1∧True) (fun g=>g.1) (N,[],0,vs0,emp) ⟨[],(pk 1 rfl (pk 1 rfl (pk 1 rfl (pk 0 rfl (List.Perm.refl _)))))⟩ ⟨b,(ru (T:=kEdge)),trivial⟩ ?_
 clear b;rintro⟨V,W,c,ar,au⟩ bl bF s ⟨b,av,_⟩;rcases V with _|V;exact qp b;replace b:xc N m k x a (V+1) W c=some p:=b;rw [xc] at b;refine qa (zn (zg (vi c) (jg rfl ll lh rfl (h2.mono (((f.trans j).trans n).trans s)) fun bG a9=>?_)))
 refine qo rfl ty3 rfl a9 fun bH ba=>?_;obtain rfl:=j6.1 ba;refine zt (j5 rfl rfl) (z8 (zu rfl b (fun b=>?_) (fun b=>?_)));refine q9 (qa (zy (qa ?_)));obtain⟨aw,ax,ay,b⟩:=q20 b
 refine cu 12 [⟨11,[.int .i64 0,.int .i64 0],100⟩] [phP (tSl false (tSl false kEdge)) m.rows,phR (tSl false (tSl false kEdge)) m.rows,phX al,phX (vi a),phP (zw .i64) (ix k a),phX (vi (ix k a)),phP (tSl false kEdge) (ix m.rows (ix k a)),phR (tSl false kEdge) (ix m.rows (ix k a)),phX (vi c),phP kEdge (ix (ix m.rows (ix k a)) c),phX (z2o (ix (ix m.rows (ix k a)) c)),phB] mixed (by kernel_rfl) (ym ⟨yl,pq,zk,zk,yl,zk,yl,pq,zk,yl,zk,q1p,trivial⟩) ⟨?_,?_,?_,?_,?_,?_,?_,?_,?_,?_,?_,?_,trivial⟩ fun bI G=>?_
 intro l bJ e t hd;exact za rfl rfl rfl (si uy u6 (t 1 rfl) ((h2.mono (((f.trans j).trans n).trans s)).mono e));rintro l bK e t ⟨C,_⟩;exact za rfl rfl rfl (u7 z1z rfl (C rfl));intro l bL e t hd;exact za rfl rfl rfl (zo (zb (t 3 rfl)));intro l bM e t hd
 exact za rfl rfl rfl (zo (zb (t 6 rfl)));rintro l bN e t ⟨C,d1,_⟩;have aA:=d1 rfl;exact za rfl rfl rfl (wz (i:=a.toNat) tu (C rfl) (j3 ((ao.mono ((j.trans n).trans s)).mono e)) (zf aA aw.1) (zz aw));rintro l bO e t ⟨C,_⟩
 exact za rfl rfl rfl (uo (u7 ty3 rfl (C rfl)) (fun _ _ h=>j6.1 h));rintro l bP e t ⟨C,d1,_⟩;exact za rfl rfl rfl (wz (i:=(ix k a).toNat) za6 rfl (j3 (C rfl)) (zf (d1 rfl) ax.1) (zz ax));rintro l bQ e t ⟨C,_⟩;exact za rfl rfl rfl (u7 z97 rfl (C rfl));intro l bR e t hd
 exact za rfl rfl rfl (zo (zb (t 8 rfl)));rintro l bS e t ⟨C,d1,_⟩;exact za rfl rfl rfl (wz (i:=c.toNat) zaf rfl (j3 (C rfl)) (zf (d1 rfl) ay.1) (zz ay));rintro l bm e t ⟨C,_⟩;exact za rfl rfl rfl (uo (u7 zai rfl (C rfl)) (fun _ _ h=>z0c.1 h));intro l bn e t hd
 exact zob rfl rfl rfl rfl za1;intro bT bU bV bW bX bb bY bc bZ b0 b1 be b2 b3 b4 b5 b7 bf b8 b9 ca bg cb bh;obtain rfl:=Eq.symm bb;obtain rfl:=Eq.symm bc;obtain rfl:=Eq.symm be;obtain rfl:=Eq.symm bf;obtain rfl:=Eq.symm bg;obtain⟨aB,rfl⟩:=bh
 refine jo (i:=0) (vs:=[(vi ((ix (ix m.rows (ix k a)) c).to)),(vi ((ix (ix m.rows (ix k a)) c).out))]) z6j rfl rfl rfl rfl rfl rfl (qg rfl (qg rfl kg)) ?_;refine z8 ?_;obtain⟨o,u,b⟩:=zq b
 refine qm (γ:=Int) (rs [42,51]) (fun g=>[]) (fun g=>[box b6 [(vi 0),(vi 0),vs0] 32,box y [(vi m.inputs),(vi m.outputs),S] 32,U,au,box aB [(vi g),(vi ((ix (ix m.rows (ix k a)) c).out))] 100]++A) (fun g R=>o=g∧True) ?_ ?_
 refine zn (zt (qb o8 rfl) (zt (qd (i:=0) ag3 rfl rfl rfl) (zt (z2z rfl rfl) (z8 (zu rfl u (fun u=>?_) (fun u=>?_))))));refine zx (zg ap (zt (qb o8 rfl) (zt (qd (i:=0) ag3 rfl rfl rfl) ?_)));obtain⟨ac,u⟩:=ze u
 refine ko (i:=((ix (ix m.rows (ix k a)) c).to).toNat) rfl tu rfl (j3 (a4.mono ((n.trans s).trans G))) (zf rfl ac.1) (zz ac) fun bo aC=>?_;refine qo rfl ty3 rfl aC fun bp aD=>?_;obtain rfl:=j6.1 aD
 refine zt (qb o8 rfl) (jo (i:=0) (vs:=[(vi (ix x ((ix (ix m.rows (ix k a)) c).to)))]) sz3 rfl rfl rfl rfl rfl rfl (qg rfl kg) ?_);refine z8 ?_
 exact⟨dkt,(RH.le.refl _),jd,(ix x ((ix (ix m.rows (ix k a)) c).to)),trivial,⟨[],(pk 1 rfl (pk 1 rfl (pk 1 rfl (pk 1 rfl (pk 0 rfl (List.Perm.refl _))))))⟩,(Option.some.inj u).symm,trivial⟩;refine q9 ?_
 exact⟨dkt,(RH.le.refl _),jd,(ix (ix m.rows (ix k a)) c).to,trivial,⟨[],(pk 1 rfl (pk 1 rfl (pk 1 rfl (pk 1 rfl (pk 0 rfl (List.Perm.refl _))))))⟩,(Option.some.inj u).symm,trivial⟩;rintro o bq br H ⟨rfl,_⟩;refine zx (zg ar (zt (yg (i:=4) zpf z6j rfl rfl rfl rfl) ?_))
 let G1:=([(⟨o,(ix (ix m.rows (ix k a)) c).out⟩:Edge)]:List Edge)
 refine nk (T:=kEdge) (X:=G1) (ps:=[(0,(.agg #[(vi o),(vi ((ix (ix m.rows (ix k a)) c).out))]))]) (css:=[[(vi o),(vi ((ix (ix m.rows (ix k a)) c).out))]]) rfl underlying97 zp9 rfl rfl (kw ⟨⟨_,_,rfl,rfl,rfl⟩,trivial⟩) rfl rfl (by decide) fun aE bs Z aF=>?_
 refine ug (i:=0) rfl aF fun aG I aH=>?_;have aI:VRep (tSl true kEdge) aG aE G1:=(z1s aH Z);obtain⟨ad,b⟩:=ze b
 refine wh (i:=3) (X:=W) (Y:=G1) rfl underlying97 zp9 rfl rfl rfl (av.mono ((G.trans H).trans I)) (j3 (Sub.v (B:=(tSl false kEdge)) (kv Sub.refl (fun _=>rfl)) aI)) ad.1 ad.2 fun ae aJ aK=>?_;refine zi ae (z8 (zx (zg (vi c) ?_)));obtain⟨aL,b⟩:=ze b
 refine zt (qz rfl rfl aL) (zi (vi (c+1)) (z8 ?_));exact⟨dkt,((G.trans H).trans I),jd,(V,(W++G1),c+1,ae,aJ),Nat.lt_succ_self _,⟨rfl,rfl,trivial⟩,⟨[box aB [(vi o),(vi ((ix (ix m.rows (ix k a)) c).out))] 100],(pk 4 rfl (pk 0 rfl (pk 0 rfl (pk 0 rfl (pk 0 rfl (List.Perm.refl _))))))⟩,b,aK,trivial⟩
 refine jf ?_;exact⟨dkt,s,jd,(W,ar,au),⟨rfl,trivial⟩,prm,(Option.some.inj b).symm,av,trivial⟩;rintro⟨p,aa,cc⟩ bt cd af ⟨rfl,bi,_⟩;refine zx (zt (qb uy rfl) (zt (qd (i:=1) zqh rfl rfl rfl) (zg aa (ug (i:=3) rfl bi fun aM K aN=>?_))));have ag:VRep (tSl false kEdge) aM aa p:=(z4s aN)
 refine nk (T:=(tSl false kEdge)) (X:=([p]:List (List Edge))) (ps:=[(0,aa)]) (css:=[[aa]]) rfl underlying30 q6p rfl (by simp only [List.map_cons,List.map_nil,z04 ag];rfl) (kw ⟨(ku rfl ag),trivial⟩) rfl rfl (by decide) fun aO bu ab aP=>?_;refine ug (i:=0) rfl aP fun aQ L aR=>?_
 have aS:VRep (tSl true (tSl false kEdge)) aQ aO ([p]:List (List Edge)):=(z1s aR ab);obtain⟨ah,d⟩:=ze d
 refine wh (i:=2) (X:=Q) (Y:=([p]:List (List Edge))) rfl underlying30 q6p rfl rfl rfl (aq.mono ((af.trans K).trans L)) (j3 (Sub.v (B:=(tSl false (tSl false kEdge))) (kv Sub.refl (fun _=>rfl)) aS)) ah.1 ah.2 fun ai aT M=>?_
 refine zt (qb uy rfl) (jo (i:=1) (vs:=[ai]) q7v rfl rfl (aj M) rfl rfl rfl (qg (yj M) kg) ?_);refine z8 (zx (zg (vi a) ?_));obtain⟨aU,d⟩:=ze d;refine zt (qz rfl rfl aU) (zi (vi (a+1)) (z8 ?_))
 exact⟨dkt,((af.trans K).trans L),jd,(P,a+1,(Q++([p]:List (List Edge))),ai,aT),Nat.lt_succ_self _,⟨rfl,trivial⟩,prm,d,M,trivial⟩;refine jf ?_;exact⟨dkt,n,jd,(Q,S,U),trivial,prm,(Option.some.inj d).symm,aq,trivial⟩;rintro⟨z,O,aA⟩ bv ce aV ⟨rfl,aW,_⟩
 refine zn (zt (yg (i:=1) zbg z6y rfl rfl rfl rfl) (jo (i:=0) (vs:=[(vi m.inputs),(vi m.outputs),O]) z6y rfl rfl rfl rfl rfl rfl (qg rfl (qg rfl (qg (yj aW) kg))) ?_));refine z8 (vo (i:=2) rfl aW fun aX am aY=>?_);have aZ:VRep (tSl false (tSl false kEdge)) aX O z:=(z4s aY)
 refine qx ?_;obtain rfl:=Option.some.inj q
 refine qc (D:=[]) (J:=[box b6 [(vi m.inputs),(vi m.outputs),O] 32,box y [(vi m.inputs),(vi m.outputs),O] 32]) (rs:=[.cell 2 32]) (vs:=[(.agg #[(vi m.inputs),(vi m.outputs),O])]) ((((F.trans f).trans j).trans aV).trans am) rfl rfl ⟨⟨_,rfl,fun w hh=>z3v (i:=0) hh rfl rfl zbg z6y rfl rfl⟩,trivial⟩ ?_
 exact⟨rfl,(⟨_,⟨_,_,rfl,rfl,⟨_,_,rfl,rfl,(ku rfl aZ)⟩⟩,rfl⟩:VRep (je false false) _ _ (⟨m.inputs,m.outputs,z⟩:Mach))⟩
end GV
end Go.Proofs.YtplgbkaollfmkaaGreat
