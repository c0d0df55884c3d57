import Derived.Test.YtncblcdhmcmkmaaShWd
import Derived.Test.YtncblcdhmcmkmaaShXa
import Derived.Test.YtncblcdhmcmkmaaRows
set_option linter.unusedVariables false
set_option linter.unusedSimpArgs false
namespace Go.Proofs.Ytncblcdhmcmkmaa
namespace GV
open _root_.Go.Proofs.Try
open Go.IntWalk
set_option maxRecDepth 100000
set_option maxHeartbeats 20000000
theorem z5g{N:Nat}{R:RH}{m:Mach}{b:Value}(f:VRep (qy false false) R b m){s:Int}{i:Int}{r:Edge}(a:z05 N m s i=some r):CallP prog 39 #[b,(vi s),(vi i)] R (fun v R'=>v=(uz r)):=by
 refine ql (args:=[b,(vi s),(vi i)]) func39 rfl rfl fun A=>?_;rw [z05] at a;refine zn (uj (T:=(qy false false)) rfl rfl rfl f fun B C c E q=>?_);refine vw rfl zgz fun p=>?_;refine za (q8 (zn (zl (vi s) (zq (jh rfl rfl) (za (zz rfl a (fun a=>?_) (fun a=>?_)))))))
 refine zn (zq (af (ps:=[(0,(vi (-1))),(1,(vi (-1)))]) (v:=(.agg #[(vi (-1)),(vi (-1))])) rfl (fun w=>by kernel_rfl)) (jv (i:=0) (vs:=[(vi (-1)),(vi (-1))]) zac rfl rfl rfl rfl rfl rfl (zy rfl (zy rfl uh)) ?_));refine za (qw ?_);obtain rfl:=Option.some.inj a
 refine qd (D:=[]) (J:=[box p [(vi (-1)),(vi (-1))] 49]) (rs:=[.cell 6 49]) (vs:=[(.agg #[(vi (-1)),(vi (-1))])]) c rfl rfl ⟨⟨_,rfl,fun w g=>z0l (i:=0) g rfl rfl zni zac rfl rfl⟩,trivial⟩ ?_;exact⟨rfl,rfl⟩;refine qg (zn (jy rfl uw uq rfl q fun F h=>?_));refine qp rfl z1j rfl h fun t j=>?_
 refine zl (vi s) ?_;obtain⟨d,a⟩:=ze a;refine ky (i:=s.toNat) rfl z5p rfl (j4 j) (zg rfl d.1) (qb d) fun u k=>?_;refine qp rfl z5d rfl k fun x l=>?_;refine zl (vi i) ?_;obtain⟨e,a⟩:=ze a;refine ky (i:=i.toNat) rfl z92 rfl (j4 l) (zg rfl e.1) (qb e) fun y n=>?_
 refine qp rfl zc0 rfl n fun z o=>?_;obtain rfl:=rq.1 o;refine jv (i:=0) (vs:=[(vi ((ix (ix m.rows s) i).to)),(vi ((ix (ix m.rows s) i).out))]) zac rfl rfl rfl rfl rfl rfl (zy rfl (zy rfl uh)) ?_;refine za (qw ?_);obtain rfl:=Option.some.inj a
 refine qd (D:=[]) (J:=[box p [(vi ((ix (ix m.rows s) i).to)),(vi ((ix (ix m.rows s) i).out))] 49]) (rs:=[.cell 6 49]) (vs:=[(.agg #[(vi ((ix (ix m.rows s) i).to)),(vi ((ix (ix m.rows s) i).out))])]) c rfl rfl ⟨⟨_,rfl,fun w g=>z0l (i:=0) g rfl rfl zni zac rfl rfl⟩,trivial⟩ ?_;exact⟨rfl,rfl⟩
theorem zv6:Enters prog 39:=enters_of func39 rfl (by kernel_rfl)
theorem zro:Enters prog 15:=enters_of func15 rfl (by kernel_rfl)
theorem z6t{N:Nat}(F:Nat): ∀ {R:RH} {m:Mach} {d:Value} (j:VRep (qy false false) R d m) {s:Int} {n:(List Int)} {c:Value} (g:VRep (tSl false (zw .i64)) R c n) {r:Int} (b:gq N F m s n=some r),CallP prog 15 #[d,(vi s),c] R (fun v R'=>v=(vi r)):=by
  induction F with
  |zero=>intros;rename_i b;exact jf b
  |succ F ih=>
    intro R m d j s n c g r b
    refine ql (args:=[d,(vi s),c]) func15 rfl rfl fun A=>?_
    rw [gq] at b
    refine q8 ?_
    refine qf ?_
    refine uj (T:=(qy false false)) rfl rfl rfl j fun v1 R3 e h5 h2=>?_
    refine zi (vi 0) ?_
    refine za ?_
    refine q8 ?_
    refine q8 ?_
    refine qf ?_
    refine zl c ?_
    refine zq (qh rfl underlying36 rfl (j4 (g.mono e))) ?_
    refine zq (lq rfl rfl) ?_
    refine za ?_
    refine zz rfl b (fun b=>?_) (fun b=>?_)
    · refine q8 ?_
      refine qf ?_
      refine zl (vi s) ?_
      refine zi (vi s) ?_
      refine za ?_
      refine qw ?_
      obtain rfl:=Option.some.inj b
      refine qd (D:=[]) (J:=[]) (rs:=[.tmp 6]) (vs:=[(vi s)]) e rfl rfl ⟨rfl,trivial⟩ ?_
      exact⟨rfl,rfl⟩
    · refine qg ?_
      refine q8 ?_
      obtain⟨g7,b⟩:=ze b
      obtain⟨q,c9,b⟩:=zk b
      obtain⟨o,b⟩:=ze b
      obtain⟨p,B,b⟩:=zk b
      refine tq 12 [] [phX d,phX d,phX (vi s),phX c,phP (zw .i64) (ix n 0),phX (vi (ix n 0)),phX (uz q),phX (vi q.to),phX c,phR (tSl false (zw .i64)) (cut n 1 (↑n.length:Int)),phX (vi p),phX (vi p)] mixed (by kernel_rfl) (di ⟨zm,zm,zm,zm,ik,zm,zm,zm,zm,gz,zm,zm,trivial⟩) ⟨?_,?_,?_,?_,?_,?_,?_,?_,?_,?_,?_,?_,trivial⟩ fun al t=>?_
      · intro l am a f x
        have C:l 3=v1:=f 3 rfl
        exact zb rfl rfl rfl (zt (jr z1x rfl C (h5.mono a) ((j.mono e).mono a)))
      · intro l an a f x
        have C:l 3=v1:=f 3 rfl
        exact zb rfl rfl rfl (zt (jr z1x rfl C (h5.mono a) ((j.mono e).mono a)))
      · intro l ao a f x
        have a1:l 1=(vi s):=f 1 rfl
        exact zb rfl rfl rfl (zt (z8 a1))
      · intro l aq a f x
        have E:l 2=c:=f 2 rfl
        exact zb rfl rfl rfl (zt (z8 E))
      · rintro l ar a f ⟨k,_⟩
        have G:=k rfl
        exact zb rfl rfl rfl (ig (i:=(0:Int).toNat) z0k G (j4 ((g.mono e).mono a)) (zg rfl g7.1) (qb g7))
      · rintro l au a f ⟨k,_⟩
        have H:=k rfl
        exact zb rfl rfl rfl (mq (xn ty3 rfl H) (fun _ _ h=>jc.1 h))
      · rintro l av a f ⟨k,y,z,_⟩
        have I:l 12=d:=k rfl
        have K:l 13=(vi s):=y rfl
        have L:l 16=(vi (ix n 0)):=z rfl
        exact zb rfl rfl rfl (ja (vs:=[d,(vi s),(vi (ix n 0))]) zv6 (by simp only [List.map,ev,I,K,L]<;>rfl) (z5g ((j.mono e).mono a) c9) (fun _ _ h=>h))
      · rintro l aw a f ⟨k,_⟩
        have M:=k rfl
        exact zb rfl rfl rfl (zt (zo6 (v:=(uz q)) (u:=(vi q.to)) M (fun w=>by kernel_rfl)))
      · intro l ax a f x
        have E:l 2=c:=f 2 rfl
        exact zb rfl rfl rfl (zt (z8 E))
      · rintro l ay a f ⟨k,_⟩
        have O:=k rfl
        exact zb rfl rfl rfl (zct (lo:=(1:Int).toNat) (hi:=(↑n.length:Int).toNat) (mx:=(capOf c)) (X':=(cut n 1 (↑n.length:Int))) z0k O (j4 ((g.mono e).mono a)) (.inr ⟨_,congrArg some (zg rfl o.1)⟩) (.inl ⟨rfl,rfl,rfl⟩) (.inl ⟨rfl,rfl⟩) (z9d o) (z4o o) (fun h=>Nat.le_trans (z4o o) h) (fun _=>Nat.le_refl _) rfl)
      · rintro l ai a f ⟨k,y,z,d3,_⟩
        have P:l 11=d:=k rfl
        have Q:l 18=(vi q.to):=y rfl
        have S:=z rfl
        exact zb rfl rfl rfl (ja (vs:=[d,(vi q.to),(l 20)]) zro (by simp only [List.map,ev,P,Q]<;>rfl) (ih ((j.mono e).mono a) S B) (fun _ _ h=>h))
      · rintro l aj a f ⟨k,y,z,d3,d4,d5,d6,d7,d8,d9,aA,aB,aC,_⟩
        have U:=k rfl
        exact zb rfl rfl rfl (zt (um U))
      intro aD V
      intro aE W
      intro aF X
      intro aG Y
      intro aH aI
      intro aJ Z
      intro aK aa
      intro aL ab
      intro aM ac
      intro aN aO
      intro aP ad
      intro aQ ae
      obtain rfl:=Eq.symm V
      obtain rfl:=Eq.symm W
      obtain rfl:=Eq.symm X
      obtain rfl:=Eq.symm Y
      obtain rfl:=Eq.symm Z
      obtain rfl:=Eq.symm aa
      obtain rfl:=Eq.symm ab
      obtain rfl:=Eq.symm ac
      obtain rfl:=Eq.symm ad
      obtain rfl:=Eq.symm ae
      refine za ?_
      refine qw ?_
      obtain rfl:=Option.some.inj b
      refine qd (D:=[]) (J:=[]) (rs:=[.tmp 6]) (vs:=[(vi p)]) (e.trans t) rfl rfl ⟨rfl,trivial⟩ ?_
      exact⟨rfl,rfl⟩
theorem z2m{N:Nat}{R:RH}{m:Mach}{b:Value}(d:VRep (qy false false) R b m){s:Int}{f:(List Int)}{a:Value}(c:VRep (tSl false (zw .i64)) R a f){r:Int}(e:gq N N m s f=some r):CallP prog 15 #[b,(vi s),a] R (fun v R'=>v=(vi r)):=z6t N d c e
theorem z9u{N:Nat}{R:RH}{w:(List Int)}{e:Value}(x:VRep (tSl false (zw .i64)) R e w){inputs:Int}{r:(List Int)}(c:z09 N w inputs=some r):CallP prog 46 #[e,(vi inputs)] R (fun v R'=>VRep (tSl false (zw .i64)) R' v r):=by
 refine ql (args:=[e,(vi inputs)]) func46 rfl rfl fun A=>?_;rw [z09] at c;refine zn (zi vs0 (jd (ax (T:=(zw .i64)) (X:=([]:List Int)) (ps:=[]) (css:=[]) rfl underlying36 zo3 rfl rfl (kg trivial) rfl rfl (by decide) fun v1 f2 an h4=>?_)));refine zl e ?_;obtain⟨g6,c⟩:=ze c
 refine dw (i:=0) (X:=([]:List Int)) (Y:=w) rfl underlying36 zo3 rfl rfl rfl h4 (j4 x) g6.1 g6.2 fun f f8 h9=>?_;refine zi f (za ?_);obtain⟨n,a,c⟩:=zk c;refine je (γ:=(List Int)×Frag) (rs [4,5,6,7,10,34]) (fun g=>[]) (fun g=>[g.2]++A) (fun g R=>n=Ex.go g.1∧ORep (zw .i64) R g.2 f g.1∧True) ?_ ?_
 refine zn (zl f (zq (z6k rfl underlying36 rfl h9) ?_));obtain⟨G,a⟩:=ze a
 refine zq (z7h rfl rfl G) (zi (vi ((↑(([]:List Int)++w).length:Int)-1)) (za (qc (jq (γ:=Nat×Int×(List Int)×Frag) (rs [4,5,6,7,13,34]) (fun g=>[(6,(vi g.2.1))]) (fun g=>[g.2.2.2]++A) (fun g R=>gm N inputs g.1 g.2.1 g.2.2.1=some n∧ORep (zw .i64) R g.2.2.2 f g.2.2.1∧True) (fun g=>g.1) (N,(↑(([]:List Int)++w).length:Int)-1,(([]:List Int)++w),f8) prm ⟨a,h9,trivial⟩ ?_))))
 clear a;rintro⟨k,b,h,H⟩ au av l ⟨a,d,_⟩;rcases k with _|k;exact jf a;replace a:gm N inputs (k+1) b h=some n:=a;rw [gm] at a;refine q8 (zn (zl (vi b) (zq (z3c rfl rfl) (za (zz rfl a (fun a=>?_) (fun a=>?_))))))
 refine qg (q8 (qc (q8 (zn (zl f (zl (vi b) ?_))))));obtain⟨o,a⟩:=ze a;refine l7 (i:=b.toNat) rfl z0k rfl d (zg rfl o.1) (qb o) fun aw I=>?_;refine z9c (i:=b.toNat) (j:=0) rfl ty3 d rfl rfl I (qb o) fun ay K=>?_;obtain rfl:=jc.1 K;obtain⟨L,a⟩:=ze a
 refine zq (jl rfl rfl L) (zl (vi inputs) (zq (jh rfl rfl) (za (zz rfl a (fun a=>?_) (fun a=>?_)))));refine zn (zl f (zl (vi b) ?_));obtain⟨p,a⟩:=ze a;refine l7 (i:=b.toNat) rfl z0k rfl d (zg rfl p.1) (qb p) fun az M=>?_
 refine z9c (i:=b.toNat) (j:=0) rfl ty3 d rfl rfl M (qb p) fun aA O=>?_;obtain rfl:=jc.1 O;obtain⟨P,a⟩:=ze a;refine zq (jl rfl rfl P) ?_;obtain⟨q,a⟩:=ze a;refine l7 (i:=b.toNat) rfl z0k rfl d (zg rfl q.1) (qb q) fun aB Q=>?_
 refine z15 (i:=b.toNat) (j:=0) ty3 d rfl rfl Q (qb q) rfl (jc.2 rfl) fun aC S=>?_;refine jd (zl f (zi f (za (lh (i:=0) rfl S fun U y V=>?_))));have W:VRep (tSl false (zw .i64)) U f (up h b ((ix h b)+1)):=(z3l V);refine qw ?_;replace c:=z0o a c;obtain rfl:=Option.some.inj c
 refine qd (D:=[]) (J:=[]) (rs:=[.tmp 4]) (vs:=[f]) (l.trans y) rfl rfl ⟨rfl,trivial⟩ ?_;exact⟨rfl,W⟩;refine qg (qf (zl f (zl (vi b) ?_)));obtain⟨s,a⟩:=ze a;refine l7 (i:=b.toNat) rfl z0k rfl d (zg rfl s.1) (qb s) fun aD Z=>?_
 refine z15 (i:=b.toNat) (j:=0) ty3 d rfl rfl Z (qb s) rfl (jc.2 rfl) fun aa ab=>?_;refine za (qf (zl (vi b) ?_));obtain⟨ac,a⟩:=ze a;refine zq (z7h rfl rfl ac) (zi (vi (b-1)) (za ?_))
 exact⟨dkt,(RH.le.refl _),uf,(k,b-1,(up h b 0),aa),Nat.lt_succ_self _,⟨rfl,trivial⟩,prm,a,ab,trivial⟩;refine kv ?_;exact⟨dkt,l,uf,(h,H),trivial,prm,(Option.some.inj a).symm,d,trivial⟩;rintro⟨z,aE⟩ aF aG C ⟨rfl,ad,_⟩;replace c:=z2s c
 refine zn (zl f (ax (T:=(zw .i64)) (X:=([0]:List Int)) (ps:=[(0,(vi 0))]) (css:=[[(vi 0)]]) rfl underlying36 zo3 rfl rfl (kg ⟨rfl,trivial⟩) rfl rfl (by decide) fun ae aH t af=>?_));refine ww (i:=0) rfl af fun ag m ah=>?_;have ai:VRep (tSl true (zw .i64)) ag ae ([0]:List Int):=(z1b ah t)
 obtain⟨E,c⟩:=ze c;refine dw (i:=0) (X:=z) (Y:=([0]:List Int)) rfl underlying36 zo3 rfl rfl rfl (ad.mono m) (j4 (Sub.v (B:=(tSl false (zw .i64))) (jk Sub.refl (fun _=>rfl)) ai)) E.1 E.2 fun u aI aj=>?_;refine zi u (za (lh (i:=0) rfl aj fun ak F al=>?_))
 have am:VRep (tSl false (zw .i64)) ak u (z++([0]:List Int)):=(z3l al);refine qw ?_;obtain rfl:=Option.some.inj c;refine qd (D:=[]) (J:=[]) (rs:=[.tmp 4]) (vs:=[u]) ((C.trans m).trans F) rfl rfl ⟨rfl,trivial⟩ ?_;exact⟨rfl,am⟩
theorem zw8:Enters prog 46:=enters_of func46 rfl (by kernel_rfl)
theorem z4n{N:Nat}{R:RH}{m:Mach}{Q:Value}(S:VRep (qy false false) R Q m){f:Int}{r:(List (List Int))×(List Bool)}(o:su N m f=some r):CallP prog 21 #[Q,(vi f)] R (fun v R'=> ∃ u0 u1,v= .tuple #[u0,u1]∧VRep (tSl true (tSl false (zw .i64))) R' u0 r.1∧VRep (tSl true bn) R' u1 r.2):=by
 refine ql (args:=[Q,(vi f)]) func21 rfl rfl fun A=>?_;rw [su] at o;refine zn (uj (T:=(qy false false)) rfl rfl rfl S fun v1 R3 U h5 h2=>?_);refine zi vs0 (zi vs0 (jd (jy rfl uw uq rfl h2 fun v6 h7=>?_)));refine qp rfl z1j rfl h7 fun v8 h9=>?_
 refine zq (qh rfl underlying25 rfl (j4 h9)) ?_;obtain⟨E,o⟩:=ze o;refine za3 (T:=(tSl false (zw .i64))) (m:=(↑m.rows.length:Int).toNat) (c:=(↑m.rows.length:Int).toNat) rfl underlying29 zhl (zg rfl E.1) (zg rfl E.1) (Nat.le_refl _) (z1s E) (z1t E) fun h aF V aG=>?_
 refine zi h (jd (jy rfl uw uq rfl h2 fun bh aH=>?_));refine qp rfl z1j rfl aH fun bi aI=>?_;refine zq (qh rfl underlying25 rfl (j4 aI)) ?_;obtain⟨F,o⟩:=ze o
 refine za3 (T:=bn) (m:=(↑m.rows.length:Int).toNat) (c:=(↑m.rows.length:Int).toNat) rfl underlying30 zo4 (zg rfl F.1) (zg rfl F.1) (Nat.le_refl _) (z1s F) (z1t F) fun d aJ W aK=>?_;refine zi d (za ?_);obtain⟨q,b,o⟩:=zk o
 refine je (γ:=(List (List Int)×List Bool)×Frag×Frag) (rs [8,10,18,49]) (fun g=>[]) (fun g=>[g.2.1,g.2.2]++A) (fun g R=>q=g.1∧ORep (tSl false (zw .i64)) R g.2.1 h g.1.1∧capOf h=g.1.1.length∧ORep bn R g.2.2 d g.1.2∧capOf d=g.1.2.length∧True) ?_ ?_
 refine zn (ax (T:=(zw .i64)) (X:=([]:List Int)) (ps:=[]) (css:=[]) rfl underlying36 zo3 rfl rfl (kg trivial) rfl rfl (by decide) fun Y bj Z aL=>?_);refine zi Y (za (qc (lh (i:=0) rfl aL fun aM l aN=>?_)));have aO:VRep (tSl true (zw .i64)) aM Y ([]:List Int):=(z1b aN Z)
 refine jq (γ:=Nat×((List Int))×(List (List Int))×(List Bool)×Value×Frag×Frag) (rs [8,10,19,49]) (fun g=>[(8,g.2.2.2.2.1)]) (fun g=>[g.2.2.2.2.2.1,g.2.2.2.2.2.2]++A) (fun g R=>yj N m f g.1 g.2.1 g.2.2.1 g.2.2.2.1=some q∧VRep (tSl false (zw .i64)) R g.2.2.2.2.1 g.2.1∧ORep (tSl false (zw .i64)) R g.2.2.2.2.2.1 h g.2.2.1∧capOf h=g.2.2.1.length∧ORep bn R g.2.2.2.2.2.2 d g.2.2.2.1∧capOf d=g.2.2.2.1.length∧True) (fun g=>g.1) (N,[],(mk (↑m.rows.length:Int) ([]:List Int)),(mk (↑m.rows.length:Int) false),Y,aF,aJ) ⟨[],(pk 1 rfl (pk 0 rfl (List.Perm.refl _)))⟩ ⟨b,(Sub.v (B:=(tSl false (zw .i64))) (jk Sub.refl (fun _=>rfl)) aO),(aG.mono l),(V.trans List.length_replicate.symm),(aK.mono l),(W.trans List.length_replicate.symm),trivial⟩ ?_
 clear b;rintro⟨G,ac,H,I,K,ad,ae⟩ a6 bk n ⟨b,L,M,t,s,u,_⟩;rcases G with _|G;exact jf b;replace b:yj N m f (G+1) ac H I=some q:=b;rw [yj] at b
 refine q8 (zn (zl K (zq (qh rfl underlying36 rfl (j4 L)) (jy rfl uw uq rfl (h2.mono (l.trans n)) fun bl aP=>?_))));refine qp rfl z1j rfl aP fun bm aQ=>?_;refine zq (qh rfl underlying25 rfl (j4 aQ)) (zq (jh rfl rfl) (za (zz rfl b (fun b=>?_) (fun b=>?_))));refine qg ?_
 obtain⟨O,k,b⟩:=zk b;refine je (γ:=(List (List Int)×List Bool)×Frag×Frag) (rs [9,10,29,49]) (fun g=>[]) (fun g=>[g.2.1,g.2.2]++A) (fun g R=>O=g.1∧ORep (tSl false (zw .i64)) R g.2.1 h g.1.1∧capOf h=g.1.1.length∧ORep bn R g.2.2 d g.1.2∧capOf d=g.1.2.length∧True) ?_ ?_
 refine qc (zn (zq (jr z1x rfl rfl (h5.mono (l.trans n)) (S.mono ((U.trans l).trans n))) (zl (vi f) (zl K ?_))));obtain⟨e,aR,k⟩:=zk k;refine qx rfl zro rfl (z2m (S.mono ((U.trans l).trans n)) L aR) fun bo bp a aS=>?_;obtain rfl:=aS
 refine zi (vi e) (jd (qi (v:=(vi e)) rfl (z8 rfl) (qi rfl (z3c rfl rfl) (qi (v:=(.bool (decide (0≤e)))) rfl (z8 rfl) (zu rfl rfl rfl rfl (fun w=>zo (v:=d) (z8 rfl)) fun bq aT=>?_)))));refine zu rfl rfl rfl rfl (fun w=>zo (v:=(vi e)) (z8 rfl)) fun br aU=>?_;obtain⟨aa,k⟩:=ze k
 refine zu rfl rfl rfl rfl (fun w=>z7v (i:=e.toNat) z5w (aT.1 (zf rfl w)) (s.mono a) (zg (aU.1 (zf rfl w)) (aa (zf rfl w)).1) (qb (aa (zf rfl w)))) fun bs aV=>?_
 refine zu rfl rfl rfl rfl (fun w=>zo (z5a (zeb (i:=e.toNat) (j:=1) ty4 (s.mono a) rfl rfl (aV.1 (zf rfl w)) (qb (aa (zf rfl w)))))) fun bt aW=>?_;refine zu rfl rfl rfl rfl (fun w=>zo (dn (aW.1 (zf rfl w)))) fun bu aX=>?_
 refine qi rfl (vk rfl (fun hb=>(aX.1 (zf rfl hb))) rfl) (za (zz rfl k (fun k=>?_) (fun k=>?_)));refine zn (zl d (zl (vi e) ?_));obtain⟨ab,k⟩:=ze k;refine l7 (i:=e.toNat) rfl z5w rfl (s.mono a) (zg rfl ab.1) (qb ab) fun bw af=>?_
 refine z15 (i:=e.toNat) (j:=1) ty4 (s.mono a) rfl rfl af (qb ab) rfl (o7.2 rfl) fun ag ah=>?_;refine za (qf (zl h (zl (vi e) (zl K ?_))));obtain⟨x,k⟩:=ze k;refine l7 (i:=e.toNat) rfl z7y rfl (M.mono a) (zg rfl x.1) (qb x) fun a7 ai=>?_
 refine z15 (i:=e.toNat) (j:=0) z6v (M.mono a) rfl rfl ai (qb x) rfl (L.mono a) fun aj ak=>?_;refine za ?_;exact⟨dkt,a,uf,(((up H e ac),(up I e true)),aj,ag),trivial,prm,(Option.some.inj k).symm,ak,(t.trans List.length_set.symm),ah,(u.trans List.length_set.symm),trivial⟩;refine qg ?_
 exact⟨dkt,a,uf,((H,I),ad,ae),trivial,prm,(Option.some.inj k).symm,(M.mono a),t,(s.mono a),u,trivial⟩;rintro⟨O,aY,aZ⟩ a8 bx y ⟨rfl,a0,al,a1,am,_⟩;refine qf (zl K (jy rfl sj lv rfl (h2.mono ((l.trans n).trans y)) fun a9 an=>?_));refine qp rfl ty3 rfl an fun ba ao=>?_
 obtain rfl:=jc.1 ao;obtain⟨ap,aq,b⟩:=zk b;refine qx rfl zw8 rfl (z9u (L.mono y) aq) fun P bb p ar=>?_;refine zi P (za ?_);exact⟨dkt,(y.trans p),uf,(G,ap,O.1,O.2,P,aY,aZ),Nat.lt_succ_self _,⟨rfl,trivial⟩,prm,b,ar,(a0.mono p),al,(a1.mono p),am,trivial⟩
 refine kv ?_;exact⟨dkt,(l.trans n),uf,((H,I),ad,ae),trivial,prm,(Option.some.inj b).symm,M,t,s,u,trivial⟩;rintro⟨q,bz,bA⟩ bc bB au ⟨rfl,a2,av,a3,aw,_⟩;refine zn (zl h (zl d (zi h (zi d (za (lh (i:=0) rfl a2 fun ay z az=>?_))))))
 have aA:VRep (tSl true (tSl false (zw .i64))) ay h q.1:=(z1b az av);refine lh (i:=0) rfl (a3.mono z) fun aB C aC=>?_;have aD:VRep (tSl true bn) aB d q.2:=(z1b aC aw);refine qw ?_;obtain rfl:=Option.some.inj o
 refine qd (D:=[]) (J:=[]) (rs:=[.tmp 4,.tmp 5]) (vs:=[h,d]) (((U.trans au).trans z).trans C) rfl rfl ⟨rfl,rfl,trivial⟩ ?_;exact⟨rfl,⟨h,d,rfl,(aA.mono C),aD⟩⟩
theorem zun:Enters prog 21:=enters_of func21 rfl (by kernel_rfl)
end GV
end Go.Proofs.Ytncblcdhmcmkmaa
