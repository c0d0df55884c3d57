import Derived.Test.YtdhccodneoebpaaShWe
import Derived.Test.YtdhccodneoebpaaShXa
import Derived.Test.YtdhccodneoebpaaRows
set_option linter.unusedVariables false
set_option linter.unusedSimpArgs false
set_option linter.unusedSectionVars false
namespace Go.Proofs.Ytdhccodneoebpaa
namespace GV
open _root_.Go.Proofs.Try
open Go.IntWalk
set_option maxRecDepth 100000
set_option maxHeartbeats 20000000
theorem ty5:TyOk prog 5 (zy .u8):=by
 obtain⟨i,hi,a⟩: ∃ i,prog.info? 5=some i∧i.size=1:=jf (by kernel_rfl);exact ib underlying5 hi rfl a
theorem zcv{N:Nat}{R:RH}{m:Mach}{b:Value}(f:VRep (jg false false) R b m){s:Int}{i:Int}{r:Edge}(a:z18 N m s i=some r):CallP prog 87 #[b,(vi s),(vi i)] R (fun v R'=>v=(z3h r)):=by
 refine qp (args:=[b,(vi s),(vi i)]) func87 rfl rfl fun A=>?_;rw [z18] at a;refine zo (y5 (T:=(jg false false)) rfl rfl rfl f fun B C c E q=>?_);refine jc rfl zta fun p=>?_;refine z8 (q9 (zo (zl (vi s) (zi (jk rfl rfl) (z8 (qa rfl a (fun a=>?_) (fun a=>?_)))))))
 refine zo (zi (jy (ps:=[(0,(vi (-1))),(1,(vi (-1)))]) (v:=(.agg #[(vi (-1)),(vi (-1))])) rfl (fun w=>by kernel_rfl)) (ql (i:=0) (vs:=[(vi (-1)),(vi (-1))]) zh0 rfl rfl rfl rfl rfl rfl (qb rfl (qb rfl qy)) ?_));refine z8 (qw ?_);obtain rfl:=Option.some.inj a
 refine qh (D:=[]) (J:=[box p [(vi (-1)),(vi (-1))] 53]) (rs:=[.cell 6 53]) (vs:=[(.agg #[(vi (-1)),(vi (-1))])]) c rfl rfl ⟨⟨_,rfl,fun w g=>z3i (i:=0) g rfl rfl zzy zh0 rfl rfl⟩,trivial⟩ ?_;exact⟨rfl,rfl⟩;refine qc (zo (jq rfl dx vw rfl q fun F h=>?_));refine j3 rfl z4r rfl h fun t j=>?_
 refine zl (vi s) ?_;obtain⟨d,a⟩:=za a;refine yj (i:=s.toNat) rfl zmy rfl (je j) (zb rfl d.1) (zn d) fun u k=>?_;refine j3 rfl zk8 rfl k fun x l=>?_;refine zl (vi i) ?_;obtain⟨e,a⟩:=za a;refine yj (i:=i.toNat) rfl zmj rfl (je l) (zb rfl e.1) (zn e) fun y n=>?_
 refine j3 rfl zp7 rfl n fun z o=>?_;obtain rfl:=z2t.1 o;refine ql (i:=0) (vs:=[(vi ((ix (ix m.rows s) i).to)),(vi ((ix (ix m.rows s) i).out))]) zh0 rfl rfl rfl rfl rfl rfl (qb rfl (qb rfl qy)) ?_;refine z8 (qw ?_);obtain rfl:=Option.some.inj a
 refine qh (D:=[]) (J:=[box p [(vi ((ix (ix m.rows s) i).to)),(vi ((ix (ix m.rows s) i).out))] 53]) (rs:=[.cell 6 53]) (vs:=[(.agg #[(vi ((ix (ix m.rows s) i).to)),(vi ((ix (ix m.rows s) i).out))])]) c rfl rfl ⟨⟨_,rfl,fun w g=>z3i (i:=0) g rfl rfl zzy zh0 rfl rfl⟩,trivial⟩ ?_;exact⟨rfl,rfl⟩
theorem q5i:Enters prog 87:=enters_of func87 rfl (by kernel_rfl)
theorem q2i:Enters prog 81:=enters_of func81 rfl (by kernel_rfl)
theorem z9c{N:Nat}(F:Nat): ∀ {R:RH} {m:Mach} {d:Value} (j:VRep (jg false false) R d m) {s:Int} {n:(List Int)} {c:Value} (g:VRep (tSl false (zy .i64)) R c n) {r:Int} (b:nz N F m s n=some r),CallP prog 81 #[d,(vi s),c] R (fun v R'=>v=(vi r)):=by
  induction F with
  |zero=>intros;rename_i b;exact j6 b
  |succ F ih=>
    intro R m d j s n c g r b
    refine qp (args:=[d,(vi s),c]) func81 rfl rfl fun A=>?_
    rw [nz] at b
    refine q9 ?_
    refine zt ?_
    refine y5 (T:=(jg false false)) rfl rfl rfl j fun v1 R3 e h5 h2=>?_
    refine zm (vi 0) ?_
    refine z8 ?_
    refine q9 ?_
    refine q9 ?_
    refine zt ?_
    refine zl c ?_
    refine zi (qx rfl underlying36 rfl (je (g.mono e))) ?_
    refine zi (uu rfl rfl) ?_
    refine z8 ?_
    refine qa rfl b (fun b=>?_) (fun b=>?_)
    · refine q9 ?_
      refine zt ?_
      refine zl (vi s) ?_
      refine zm (vi s) ?_
      refine z8 ?_
      refine qw ?_
      obtain rfl:=Option.some.inj b
      refine qh (D:=[]) (J:=[]) (rs:=[.tmp 6]) (vs:=[(vi s)]) e rfl rfl ⟨rfl,trivial⟩ ?_
      exact⟨rfl,rfl⟩
    · refine qc ?_
      refine q9 ?_
      obtain⟨g7,b⟩:=za b
      obtain⟨q,c9,b⟩:=zu b
      obtain⟨o,b⟩:=za b
      obtain⟨p,B,b⟩:=zu b
      refine ou 12 [] [phX d,phX d,phX (vi s),phX c,phP (zy .i64) (ix n 0),phX (vi (ix n 0)),phX (z3h q),phX (vi q.to),phX c,phR (tSl false (zy .i64)) (cut n 1 (↑n.length:Int)),phX (vi p),phX (vi p)] mixed (by kernel_rfl) (ng ⟨zq,zq,zq,zq,oh,zq,zq,zq,zq,l9,zq,zq,trivial⟩) ⟨?_,?_,?_,?_,?_,?_,?_,?_,?_,?_,?_,?_,trivial⟩ fun al t=>?_
      · intro l am a f x
        have C:l 3=v1:=f 3 rfl
        exact ze rfl rfl rfl (zx (ko z1i rfl C (h5.mono a) ((j.mono e).mono a)))
      · intro l an a f x
        have C:l 3=v1:=f 3 rfl
        exact ze rfl rfl rfl (zx (ko z1i rfl C (h5.mono a) ((j.mono e).mono a)))
      · intro l ao a f x
        have a1:l 1=(vi s):=f 1 rfl
        exact ze rfl rfl rfl (zx (zg a1))
      · intro l aq a f x
        have E:l 2=c:=f 2 rfl
        exact ze rfl rfl rfl (zx (zg E))
      · rintro l ar a f ⟨k,_⟩
        have G:=k rfl
        exact ze rfl rfl rfl (fu (i:=(0:Int).toNat) dz G (je ((g.mono e).mono a)) (zb rfl g7.1) (zn g7))
      · rintro l au a f ⟨k,_⟩
        have H:=k rfl
        exact ze rfl rfl rfl (uj (uw ty3 rfl H) (fun _ _ h=>qj.1 h))
      · rintro l av a f ⟨k,y,z,_⟩
        have I:l 12=d:=k rfl
        have K:l 13=(vi s):=y rfl
        have L:l 16=(vi (ix n 0)):=z rfl
        exact ze rfl rfl rfl (yh (vs:=[d,(vi s),(vi (ix n 0))]) q5i (by simp only [List.map,ev,I,K,L]<;>rfl) (zcv ((j.mono e).mono a) c9) (fun _ _ h=>h))
      · rintro l aw a f ⟨k,_⟩
        have M:=k rfl
        exact ze rfl rfl rfl (zx (zu8 (v:=(z3h q)) (u:=(vi q.to)) M (fun w=>by kernel_rfl)))
      · intro l ax a f x
        have E:l 2=c:=f 2 rfl
        exact ze rfl rfl rfl (zx (zg E))
      · rintro l ay a f ⟨k,_⟩
        have O:=k rfl
        exact ze rfl rfl rfl (zts (lo:=(1:Int).toNat) (hi:=(↑n.length:Int).toNat) (mx:=(capOf c)) (X':=(cut n 1 (↑n.length:Int))) dz O (je ((g.mono e).mono a)) (.inr ⟨_,congrArg some (zb rfl o.1)⟩) (.inl ⟨rfl,rfl,rfl⟩) (.inl ⟨rfl,rfl⟩) (zgm o) (z8c o) (fun h=>Nat.le_trans (z8c o) h) (fun _=>Nat.le_refl _) rfl)
      · rintro l ai a f ⟨k,y,z,d3,_⟩
        have P:l 11=d:=k rfl
        have Q:l 18=(vi q.to):=y rfl
        have S:=z rfl
        exact ze rfl rfl rfl (yh (vs:=[d,(vi q.to),(l 20)]) q2i (by simp only [List.map,ev,P,Q]<;>rfl) (ih ((j.mono e).mono a) S B) (fun _ _ h=>h))
      · rintro l aj a f ⟨k,y,z,d3,d4,d5,d6,d7,d8,d9,aA,aB,aC,_⟩
        have U:=k rfl
        exact ze rfl rfl rfl (zx (iq U))
      intro aD V
      intro aE W
      intro aF X
      intro aG Y
      intro aH aI
      intro aJ Z
      intro aK aa
      intro aL ab
      intro aM ac
      intro aN aO
      intro aP ad
      intro aQ ae
      obtain rfl:=Eq.symm V
      obtain rfl:=Eq.symm W
      obtain rfl:=Eq.symm X
      obtain rfl:=Eq.symm Y
      obtain rfl:=Eq.symm Z
      obtain rfl:=Eq.symm aa
      obtain rfl:=Eq.symm ab
      obtain rfl:=Eq.symm ac
      obtain rfl:=Eq.symm ad
      obtain rfl:=Eq.symm ae
      refine z8 ?_
      refine qw ?_
      obtain rfl:=Option.some.inj b
      refine qh (D:=[]) (J:=[]) (rs:=[.tmp 6]) (vs:=[(vi p)]) (e.trans t) rfl rfl ⟨rfl,trivial⟩ ?_
      exact⟨rfl,rfl⟩
theorem zbt{N:Nat}{R:RH}{m:Mach}{b:Value}(d:VRep (jg false false) R b m){s:Int}{f:(List Int)}{a:Value}(c:VRep (tSl false (zy .i64)) R a f){r:Int}(e:nz N N m s f=some r):CallP prog 81 #[b,(vi s),a] R (fun v R'=>v=(vi r)):=z9c N d c e
theorem zby{N:Nat}{R:RH}{w:(List Int)}{e:Value}(x:VRep (tSl false (zy .i64)) R e w){inputs:Int}{r:(List Int)}(c:lv N w inputs=some r):CallP prog 80 #[e,(vi inputs)] R (fun v R'=>VRep (tSl false (zy .i64)) R' v r):=by
 refine qp (args:=[e,(vi inputs)]) func80 rfl rfl fun A=>?_;rw [lv] at c;refine zo (zm vs0 (j4 (bv (T:=(zy .i64)) (X:=([]:List Int)) (ps:=[]) (css:=[]) rfl underlying36 zo3 rfl rfl (jv trivial) rfl rfl (by decide) fun v1 f2 an h4=>?_)));refine zl e ?_;obtain⟨g6,c⟩:=za c
 refine gq (i:=0) (X:=([]:List Int)) (Y:=w) rfl underlying36 zo3 rfl rfl rfl h4 (je x) g6.1 g6.2 fun f f8 h9=>?_;refine zm f (z8 ?_);obtain⟨n,a,c⟩:=zu c;refine jb (γ:=(List Int)×Frag) (rs [4,5,6,7,10,34]) (fun g=>[]) (fun g=>[g.2]++A) (fun g R=>n=Ex.go g.1∧ORep (zy .i64) R g.2 f g.1∧True) ?_ ?_
 refine zo (zl f (zi (ow rfl underlying36 rfl h9) ?_));obtain⟨G,a⟩:=za a
 refine zi (z1g rfl rfl G) (zm (vi ((↑(([]:List Int)++w).length:Int)-1)) (z8 (zz (ky (γ:=Nat×Int×(List Int)×Frag) (rs [4,5,6,7,13,34]) (fun g=>[(6,(vi g.2.1))]) (fun g=>[g.2.2.2]++A) (fun g R=>yc N inputs g.1 g.2.1 g.2.2.1=some n∧ORep (zy .i64) R g.2.2.2 f g.2.2.1∧True) (fun g=>g.1) (N,(↑(([]:List Int)++w).length:Int)-1,(([]:List Int)++w),f8) prm ⟨a,h9,trivial⟩ ?_))))
 clear a;rintro⟨k,b,h,H⟩ au av l ⟨a,d,_⟩;rcases k with _|k;exact j6 a;replace a:yc N inputs (k+1) b h=some n:=a;rw [yc] at a;refine q9 (zo (zl (vi b) (zi (z7f rfl rfl) (z8 (qa rfl a (fun a=>?_) (fun a=>?_))))))
 refine qc (q9 (zz (q9 (zo (zl f (zl (vi b) ?_))))));obtain⟨o,a⟩:=za a;refine ku (i:=b.toNat) rfl dz rfl d (zb rfl o.1) (zn o) fun aw I=>?_;refine lg (i:=b.toNat) (j:=0) rfl ty3 d rfl rfl I (zn o) fun ax K=>?_;obtain rfl:=qj.1 K;obtain⟨L,a⟩:=za a
 refine zi (ji rfl rfl L) (zl (vi inputs) (zi (jk rfl rfl) (z8 (qa rfl a (fun a=>?_) (fun a=>?_)))));refine zo (zl f (zl (vi b) ?_));obtain⟨p,a⟩:=za a;refine ku (i:=b.toNat) rfl dz rfl d (zb rfl p.1) (zn p) fun ay M=>?_
 refine lg (i:=b.toNat) (j:=0) rfl ty3 d rfl rfl M (zn p) fun az O=>?_;obtain rfl:=qj.1 O;obtain⟨P,a⟩:=za a;refine zi (ji rfl rfl P) ?_;obtain⟨q,a⟩:=za a;refine ku (i:=b.toNat) rfl dz rfl d (zb rfl q.1) (zn q) fun aA Q=>?_
 refine p8 (i:=b.toNat) (j:=0) ty3 d rfl rfl Q (zn q) rfl (qj.2 rfl) fun aB S=>?_;refine j4 (zl f (zm f (z8 (tq (i:=0) rfl S fun U y V=>?_))));have W:VRep (tSl false (zy .i64)) U f (up h b ((ix h b)+1)):=(z6h V);refine qw ?_;replace c:=z3x a c;obtain rfl:=Option.some.inj c
 refine qh (D:=[]) (J:=[]) (rs:=[.tmp 4]) (vs:=[f]) (l.trans y) rfl rfl ⟨rfl,trivial⟩ ?_;exact⟨rfl,W⟩;refine qc (zt (zl f (zl (vi b) ?_)));obtain⟨s,a⟩:=za a;refine ku (i:=b.toNat) rfl dz rfl d (zb rfl s.1) (zn s) fun aC Z=>?_
 refine p8 (i:=b.toNat) (j:=0) ty3 d rfl rfl Z (zn s) rfl (qj.2 rfl) fun aa ab=>?_;refine z8 (zt (zl (vi b) ?_));obtain⟨ac,a⟩:=za a;refine zi (z1g rfl rfl ac) (zm (vi (b-1)) (z8 ?_))
 exact⟨dkt,(RH.le.refl _),jr,(k,b-1,(up h b 0),aa),Nat.lt_succ_self _,⟨rfl,trivial⟩,prm,a,ab,trivial⟩;refine jm ?_;exact⟨dkt,l,jr,(h,H),trivial,prm,(Option.some.inj a).symm,d,trivial⟩;rintro⟨z,aD⟩ aE aF C ⟨rfl,ad,_⟩;replace c:=z1n c
 refine zo (zl f (bv (T:=(zy .i64)) (X:=([0]:List Int)) (ps:=[(0,(vi 0))]) (css:=[[(vi 0)]]) rfl underlying36 zo3 rfl rfl (jv ⟨rfl,trivial⟩) rfl rfl (by decide) fun ae aG t af=>?_));refine u7 (i:=0) rfl af fun ag m ah=>?_;have ai:VRep (tSl true (zy .i64)) ag ae ([0]:List Int):=(z0d ah t)
 obtain⟨E,c⟩:=za c;refine gq (i:=0) (X:=z) (Y:=([0]:List Int)) rfl underlying36 zo3 rfl rfl rfl (ad.mono m) (je (Sub.v (B:=(tSl false (zy .i64))) (uh Sub.refl (fun _=>rfl)) ai)) E.1 E.2 fun u aH aj=>?_;refine zm u (z8 (tq (i:=0) rfl aj fun ak F al=>?_))
 have am:VRep (tSl false (zy .i64)) ak u (z++([0]:List Int)):=(z6h al);refine qw ?_;obtain rfl:=Option.some.inj c;refine qh (D:=[]) (J:=[]) (rs:=[.tmp 4]) (vs:=[u]) ((C.trans m).trans F) rfl rfl ⟨rfl,trivial⟩ ?_;exact⟨rfl,am⟩
theorem q4s:Enters prog 80:=enters_of func80 rfl (by kernel_rfl)
theorem zbs{N:Nat}{R:RH}{m:Mach}{Q:Value}(S:VRep (jg false false) R Q m){f:Int}{r:(List (List Int))×(List Bool)}(o:fw N m f=some r):CallP prog 74 #[Q,(vi f)] R (fun v R'=> ∃ u0 u1,v= .tuple #[u0,u1]∧VRep (tSl true (tSl false (zy .i64))) R' u0 r.1∧VRep (tSl true ww) R' u1 r.2):=by
 refine qp (args:=[Q,(vi f)]) func74 rfl rfl fun A=>?_;rw [fw] at o;refine zo (y5 (T:=(jg false false)) rfl rfl rfl S fun v1 R3 U h5 h2=>?_);refine zm vs0 (zm vs0 (j4 (jq rfl dx vw rfl h2 fun v6 h7=>?_)));refine j3 rfl z4r rfl h7 fun v8 h9=>?_
 refine zi (qx rfl underlying25 rfl (je h9)) ?_;obtain⟨E,o⟩:=za o;refine z2m (T:=(tSl false (zy .i64))) (m:=(↑m.rows.length:Int).toNat) (c:=(↑m.rows.length:Int).toNat) rfl underlying30 zr4 (zb rfl E.1) (zb rfl E.1) (Nat.le_refl _) (z3v E) (z3u E) fun h aE V aF=>?_
 refine zm h (j4 (jq rfl dx vw rfl h2 fun bg aG=>?_));refine j3 rfl z4r rfl aG fun bh aH=>?_;refine zi (qx rfl underlying25 rfl (je aH)) ?_;obtain⟨F,o⟩:=za o
 refine z2m (T:=ww) (m:=(↑m.rows.length:Int).toNat) (c:=(↑m.rows.length:Int).toNat) rfl underlying88 zo4 (zb rfl F.1) (zb rfl F.1) (Nat.le_refl _) (z3v F) (z3u F) fun d aI W aJ=>?_;refine zm d (z8 ?_);obtain⟨q,b,o⟩:=zu o
 refine jb (γ:=(List (List Int)×List Bool)×Frag×Frag) (rs [8,10,18,49]) (fun g=>[]) (fun g=>[g.2.1,g.2.2]++A) (fun g R=>q=g.1∧ORep (tSl false (zy .i64)) R g.2.1 h g.1.1∧capOf h=g.1.1.length∧ORep ww R g.2.2 d g.1.2∧capOf d=g.1.2.length∧True) ?_ ?_
 refine zo (bv (T:=(zy .i64)) (X:=([]:List Int)) (ps:=[]) (css:=[]) rfl underlying36 zo3 rfl rfl (jv trivial) rfl rfl (by decide) fun Y bi Z aK=>?_);refine zm Y (z8 (zz (tq (i:=0) rfl aK fun aL l aM=>?_)));have aN:VRep (tSl true (zy .i64)) aL Y ([]:List Int):=(z0d aM Z)
 refine ky (γ:=Nat×((List Int))×(List (List Int))×(List Bool)×Value×Frag×Frag) (rs [8,10,19,49]) (fun g=>[(8,g.2.2.2.2.1)]) (fun g=>[g.2.2.2.2.2.1,g.2.2.2.2.2.2]++A) (fun g R=>uy N m f g.1 g.2.1 g.2.2.1 g.2.2.2.1=some q∧VRep (tSl false (zy .i64)) R g.2.2.2.2.1 g.2.1∧ORep (tSl false (zy .i64)) R g.2.2.2.2.2.1 h g.2.2.1∧capOf h=g.2.2.1.length∧ORep ww R g.2.2.2.2.2.2 d g.2.2.2.1∧capOf d=g.2.2.2.1.length∧True) (fun g=>g.1) (N,[],(mk (↑m.rows.length:Int) ([]:List Int)),(mk (↑m.rows.length:Int) false),Y,aE,aI) ⟨[],(pk 1 rfl (pk 0 rfl (List.Perm.refl _)))⟩ ⟨b,(Sub.v (B:=(tSl false (zy .i64))) (uh Sub.refl (fun _=>rfl)) aN),(aF.mono l),(V.trans List.length_replicate.symm),(aJ.mono l),(W.trans List.length_replicate.symm),trivial⟩ ?_
 clear b;rintro⟨G,ac,H,I,K,ad,ae⟩ a5 bj n ⟨b,L,M,t,s,u,_⟩;rcases G with _|G;exact j6 b;replace b:uy N m f (G+1) ac H I=some q:=b;rw [uy] at b
 refine q9 (zo (zl K (zi (qx rfl underlying36 rfl (je L)) (jq rfl dx vw rfl (h2.mono (l.trans n)) fun bk aO=>?_))));refine j3 rfl z4r rfl aO fun bl aP=>?_;refine zi (qx rfl underlying25 rfl (je aP)) (zi (jk rfl rfl) (z8 (qa rfl b (fun b=>?_) (fun b=>?_))));refine qc ?_
 obtain⟨O,k,b⟩:=zu b;refine jb (γ:=(List (List Int)×List Bool)×Frag×Frag) (rs [9,10,29,49]) (fun g=>[]) (fun g=>[g.2.1,g.2.2]++A) (fun g R=>O=g.1∧ORep (tSl false (zy .i64)) R g.2.1 h g.1.1∧capOf h=g.1.1.length∧ORep ww R g.2.2 d g.1.2∧capOf d=g.1.2.length∧True) ?_ ?_
 refine zz (zo (zi (ko z1i rfl rfl (h5.mono (l.trans n)) (S.mono ((U.trans l).trans n))) (zl (vi f) (zl K ?_))));obtain⟨e,aQ,k⟩:=zu k;refine jl rfl q2i rfl (zbt (S.mono ((U.trans l).trans n)) L aQ) fun bm bn a aR=>?_;obtain rfl:=aR
 refine zm (vi e) (j4 (jd (v:=(vi e)) rfl (zg rfl) (jd rfl (z7f rfl rfl) (jd (v:=(.bool (decide (0≤e)))) rfl (zg rfl) (j5 rfl rfl rfl rfl (fun w=>qi (v:=d) (zg rfl)) fun bo aS=>?_)))));refine j5 rfl rfl rfl rfl (fun w=>qi (v:=(vi e)) (zg rfl)) fun bp aT=>?_;obtain⟨aa,k⟩:=za k
 refine j5 rfl rfl rfl rfl (fun w=>z1r (i:=e.toNat) z88 (aS.1 (zk rfl w)) (s.mono a) (zb (aT.1 (zk rfl w)) (aa (zk rfl w)).1) (zn (aa (zk rfl w)))) fun bq aU=>?_
 refine j5 rfl rfl rfl rfl (fun w=>qi (zh7 (zax (i:=e.toNat) (j:=1) ty4 (s.mono a) rfl rfl (aU.1 (zk rfl w)) (zn (aa (zk rfl w)))))) fun br aV=>?_;refine j5 rfl rfl rfl rfl (fun w=>qi (tu (aV.1 (zk rfl w)))) fun bs aW=>?_
 refine jd rfl (uk rfl (fun hb=>(aW.1 (zk rfl hb))) rfl) (z8 (qa rfl k (fun k=>?_) (fun k=>?_)));refine zo (zl d (zl (vi e) ?_));obtain⟨ab,k⟩:=za k;refine ku (i:=e.toNat) rfl z88 rfl (s.mono a) (zb rfl ab.1) (zn ab) fun bu af=>?_
 refine p8 (i:=e.toNat) (j:=1) ty4 (s.mono a) rfl rfl af (zn ab) rfl (yl.2 rfl) fun ag ah=>?_;refine z8 (zt (zl h (zl (vi e) (zl K ?_))));obtain⟨x,k⟩:=za k;refine ku (i:=e.toNat) rfl z8a rfl (M.mono a) (zb rfl x.1) (zn x) fun a6 ai=>?_
 refine p8 (i:=e.toNat) (j:=0) z8b (M.mono a) rfl rfl ai (zn x) rfl (L.mono a) fun aj ak=>?_;refine z8 ?_;exact⟨dkt,a,jr,(((up H e ac),(up I e true)),aj,ag),trivial,prm,(Option.some.inj k).symm,ak,(t.trans List.length_set.symm),ah,(u.trans List.length_set.symm),trivial⟩;refine qc ?_
 exact⟨dkt,a,jr,((H,I),ad,ae),trivial,prm,(Option.some.inj k).symm,(M.mono a),t,(s.mono a),u,trivial⟩;rintro⟨O,aX,aY⟩ a7 bw y ⟨rfl,aZ,al,a0,am,_⟩;refine zt (zl K (jq rfl z3q z1s rfl (h2.mono ((l.trans n).trans y)) fun a8 an=>?_));refine j3 rfl ty3 rfl an fun a9 ao=>?_
 obtain rfl:=qj.1 ao;obtain⟨ap,aq,b⟩:=zu b;refine jl rfl q4s rfl (zby (L.mono y) aq) fun P ba p ar=>?_;refine zm P (z8 ?_);exact⟨dkt,(y.trans p),jr,(G,ap,O.1,O.2,P,aX,aY),Nat.lt_succ_self _,⟨rfl,trivial⟩,prm,b,ar,(aZ.mono p),al,(a0.mono p),am,trivial⟩
 refine jm ?_;exact⟨dkt,(l.trans n),jr,((H,I),ad,ae),trivial,prm,(Option.some.inj b).symm,M,t,s,u,trivial⟩;rintro⟨q,bx,bz⟩ bb bA au ⟨rfl,a1,av,a2,aw,_⟩;refine zo (zl h (zl d (zm h (zm d (z8 (tq (i:=0) rfl a1 fun ax z ay=>?_))))))
 have az:VRep (tSl true (tSl false (zy .i64))) ax h q.1:=(z0d ay av);refine tq (i:=0) rfl (a2.mono z) fun aA C aB=>?_;have aC:VRep (tSl true ww) aA d q.2:=(z0d aB aw);refine qw ?_;obtain rfl:=Option.some.inj o
 refine qh (D:=[]) (J:=[]) (rs:=[.tmp 4,.tmp 5]) (vs:=[h,d]) (((U.trans au).trans z).trans C) rfl rfl ⟨rfl,rfl,trivial⟩ ?_;exact⟨rfl,⟨h,d,rfl,(az.mono C),aC⟩⟩
theorem q5h:Enters prog 74:=enters_of func74 rfl (by kernel_rfl)
theorem zb8{N:Nat}{R:RH}{m:Mach}{b:Value}(c:VRep (jg false false) R b m){r:(List (List Int))×(List Bool)}(a:z0i N m=some r):CallP prog 61 #[b] R (fun v R'=> ∃ j k,v= .tuple #[j,k]∧VRep (tSl true (tSl false (zy .i64))) R' j r.1∧VRep (tSl true ww) R' k r.2):=by
 refine qp (args:=[b]) func61 rfl rfl fun A=>?_;rw [z0i] at a;refine zo (y5 (T:=(jg false false)) rfl rfl rfl c fun q s d l t=>?_);refine zm vs0 (zm vs0 (j4 (zi (ko z1i rfl rfl l (c.mono d)) ?_)));obtain⟨u,n,a⟩:=zu a
 refine jl rfl q5h rfl (zbs (c.mono d) n) fun w o g p=>?_;obtain⟨e,f,rfl,h,i⟩:=p;refine zi (jo rfl rfl) (zi (jo rfl rfl) (zm e (zm f (z8 (qw ?_)))));obtain rfl:=Option.some.inj a
 refine qh (D:=[]) (J:=[]) (rs:=[.tmp 2,.tmp 3]) (vs:=[e,f]) (d.trans g) rfl rfl ⟨rfl,rfl,trivial⟩ ?_;exact⟨rfl,⟨e,f,rfl,h,i⟩⟩
theorem q4w:Enters prog 61:=enters_of func61 rfl (by kernel_rfl)
theorem zcd{N:Nat}{R:RH}{a:(List Int)}{f:Value}(l:VRep (tSl false (zy .i64)) R f a){b:(List Int)}{j:Value}(m:VRep (tSl false (zy .i64)) R j b){r:Int}(d:il N a b=some r):CallP prog 62 #[f,j] R (fun v R'=>v=(vi r)):=by
 refine qp (args:=[f,j]) func62 rfl rfl fun A=>?_;rw [il] at d;refine zo (zm (vi 0) (z8 (q9 (zo (zl f (zi (qx rfl underlying36 rfl (je l)) (zl j (zi (qx rfl underlying36 rfl (je m)) (zi (ai rfl rfl) (z8 (qa rfl d (fun d=>?_) (fun d=>?_))))))))))))
 refine q9 (zo (zl f (zi (qx rfl underlying36 rfl (je l)) (zl j (zi (qx rfl underlying36 rfl (je m)) (zi (jk rfl rfl) (z8 (qa rfl d (fun d=>?_) (fun d=>?_)))))))));refine zo (zm (vi 1) (z8 (qw ?_)));obtain rfl:=Option.some.inj d
 refine qh (D:=[]) (J:=[]) (rs:=[.tmp 4]) (vs:=[(vi 1)]) (RH.le.refl _) rfl rfl ⟨rfl,trivial⟩ ?_;exact⟨rfl,rfl⟩;refine qc (zo (zm (vi 0) (z8 (qw ?_))));obtain rfl:=Option.some.inj d;refine qh (D:=[]) (J:=[]) (rs:=[.tmp 4]) (vs:=[(vi 0)]) (RH.le.refl _) rfl rfl ⟨rfl,trivial⟩ ?_;exact⟨rfl,rfl⟩;refine qc ?_
 obtain⟨u,c,d⟩:=zu d;refine jb (γ:=Unit) (rs [4,6,16,40]) (fun g=>[]) (fun g=>[]++A) (fun g R=>u=Ex.go g∧True) ?_ ?_
 refine zo (zm (vi 0) (z8 (zz (ky (γ:=Nat×Int) (rs [4,6,16,40]) (fun g=>[(5,(vi g.2))]) (fun g=>[]++A) (fun g R=>xu N a b g.1 g.2=some u∧True) (fun g=>g.1) (N,0) prm ⟨c,trivial⟩ ?_))));clear c;rintro⟨t,k⟩ E O e ⟨c,_⟩;rcases t with _|t;exact j6 c
 replace c:xu N a b (t+1) k=some u:=c;rw [xu] at c;refine q9 (zo (zl (vi k) (zl f (zi (qx rfl underlying36 rfl (je (l.mono e))) (zi (jk rfl rfl) (z8 (qa rfl c (fun c=>?_) (fun c=>?_))))))))
 refine qc (q9 (zz (q9 (z10 9 mixed (by kernel_rfl) (by kernel_rfl) ?_))));refine kv (v:=f) (zg rfl) ?_;refine kv (v:=(vi k)) (zg rfl) ?_;obtain⟨o,c⟩:=za c;refine eu (wz (i:=k.toNat) dz rfl (je (l.mono e)) (zb rfl o.1) (zn o)) fun F w=>?_;refine kv (pg (u6 ty3 rfl w)) ?_
 refine kv (v:=j) (zg rfl) ?_;refine kv (v:=(vi k)) (zg rfl) ?_;obtain⟨p,c⟩:=za c;refine eu (wz (i:=k.toNat) dz rfl (je (m.mono e)) (zb rfl p.1) (zn p)) fun G x=>?_;refine kv (pg (u6 ty3 rfl x)) ?_;refine kv (ai rfl rfl) ?_;intro H h
 refine z8 (qa rfl c (fun c=>?_) (fun c=>?_));refine q9 (q9 (z10 9 mixed (by kernel_rfl) (by kernel_rfl) ?_));refine kv (v:=f) (zg rfl) ?_;refine kv (v:=(vi k)) (zg rfl) ?_;obtain⟨q,c⟩:=za c
 refine eu (wz (i:=k.toNat) dz rfl (je (l.mono (e.trans h))) (zb rfl q.1) (zn q)) fun I y=>?_;refine kv (pg (u6 ty3 rfl y)) ?_;refine kv (v:=j) (zg rfl) ?_;refine kv (v:=(vi k)) (zg rfl) ?_;obtain⟨s,c⟩:=za c
 refine eu (wz (i:=k.toNat) dz rfl (je (m.mono (e.trans h))) (zb rfl s.1) (zn s)) fun K z=>?_;refine kv (pg (u6 ty3 rfl z)) ?_;refine kv (jk rfl rfl) ?_;intro L n;refine z8 (qa rfl c (fun c=>?_) (fun c=>?_));refine zo (zm (vi 1) (z8 (qw ?_)));replace d:=z3x c d
 obtain rfl:=Option.some.inj d;refine qh (D:=[]) (J:=[]) (rs:=[.tmp 4]) (vs:=[(vi 1)]) ((e.trans h).trans n) rfl rfl ⟨rfl,trivial⟩ ?_;exact⟨rfl,rfl⟩;refine qc (zo (zm (vi 0) (z8 (qw ?_))));replace d:=z3x c d;obtain rfl:=Option.some.inj d
 refine qh (D:=[]) (J:=[]) (rs:=[.tmp 4]) (vs:=[(vi 0)]) ((e.trans h).trans n) rfl rfl ⟨rfl,trivial⟩ ?_;exact⟨rfl,rfl⟩;refine qc (zt (zl (vi k) ?_));obtain⟨B,c⟩:=za c;refine zi (ji rfl rfl B) (zm (vi (k+1)) (z8 ?_))
 exact⟨dkt,h,jr,(t,k+1),Nat.lt_succ_self _,⟨rfl,trivial⟩,prm,c,trivial⟩;refine jm ?_;exact⟨dkt,e,jr,(),trivial,prm,(Option.some.inj c).symm,trivial⟩;rintro P M Q C ⟨rfl,_⟩;replace d:=z1n d;refine zo (zm (vi 0) (z8 (qw ?_)));obtain rfl:=Option.some.inj d
 refine qh (D:=[]) (J:=[]) (rs:=[.tmp 4]) (vs:=[(vi 0)]) C rfl rfl ⟨rfl,trivial⟩ ?_;exact⟨rfl,rfl⟩
theorem q4h:Enters prog 62:=enters_of func62 rfl (by kernel_rfl)
theorem zbr{N:Nat}{R:RH}{m:Mach}{ah:Value}(ai:VRep (jg false false) R ah m){r:(List Int)}(H:z0z N m=some r):CallP prog 34 #[ah] R (fun v R'=>VRep (tSl false (zy .i64)) R' v r):=by
 refine qp (args:=[ah]) func34 rfl rfl fun A=>?_;rw [z0z] at H;refine zo (y5 (T:=(jg false false)) rfl rfl rfl ai fun v1 R3 aj h5 h2=>?_);refine zm vs0 (j4 (zi (ko z1i rfl rfl h5 (ai.mono aj)) ?_));obtain⟨U,c7,H⟩:=zu H
 refine jl rfl q4w rfl (zb8 (ai.mono aj) c7) fun v8 bu ar h9=>?_;obtain⟨C,ak,rfl,al,aV⟩:=h9;refine zl (.tuple #[C,ak]) (zi (jo rfl rfl) (zi (jo rfl rfl) (zm C (zm ak (j4 (zm vs0 (z8 ?_)))))));obtain⟨K,n,H⟩:=zu H
 refine jb (γ:=(List Int)×Value×Frag) (rs [5,9,14,60]) (fun g=>[(5,g.2.1)]) (fun g=>[g.2.2]++A) (fun g R=>K=g.1∧ORep (zy .i64) R g.2.2 g.2.1 g.1∧True) ?_ ?_;refine zo (zm (vi 0) (z8 (zz (z4z ?_))))
 refine ky (γ:=Nat×(List Int)×Int×Value×Frag) (rs [5,9,14,60]) (fun g=>[(5,g.2.2.2.1),(6,(vi g.2.2.1))]) (fun g=>[g.2.2.2.2]++A) (fun g R=>yo N U g.1 g.2.1 g.2.2.1=some K∧ORep (zy .i64) R g.2.2.2.2 g.2.2.2.1 g.2.1∧True) (fun g=>g.1) (N,[],0,vs0,emp) prm ⟨n,(z0y (T:=(zy .i64))),trivial⟩ ?_;clear n
 rintro⟨M,a,d,q,O⟩ ba bx z ⟨n,I,_⟩;rcases M with _|M;exact j6 n;replace n:yo N U (M+1) a d=some K:=n;rw [yo] at n
 refine q9 (zo (zl (vi d) (zl C (zi (qx rfl underlying30 rfl (je (al.mono z))) (zi (jk rfl rfl) (z8 (qa rfl n (fun n=>?_) (fun n=>?_))))))));refine qc ?_;obtain⟨am,e,n⟩:=zu n
 refine jb (γ:=(List Int)×Value×Frag) (rs [5,6,7,9,20,60]) (fun g=>[(5,g.2.1)]) (fun g=>[g.2.2]++A) (fun g R=>am=g.1∧ORep (zy .i64) R g.2.2 g.2.1 g.1∧True) ?_ ?_;refine zz (q9 (zo (zl ak (zl (vi d) ?_))));obtain⟨au,e⟩:=za e
 refine yj (i:=d.toNat) rfl z88 rfl (je (aV.mono z)) (zb rfl au.1) (zn au) fun bz aW=>?_;refine j3 rfl ty4 rfl aW fun bA aX=>?_;obtain rfl:=yl.1 aX;refine zi (tu rfl) (z8 (qa rfl e (fun e=>?_) (fun e=>?_)));refine jm ?_
 exact⟨dkt,(RH.le.refl _),jr,(a,q,O),⟨rfl,trivial⟩,prm,(Option.some.inj e).symm,I,trivial⟩;refine qc (zo (zm (vi 0) (z8 ?_)));obtain⟨f,k,e⟩:=zu e;refine jb (γ:=Int) (rs [7,8,25,46]) (fun g=>[(7,(vi g))]) (fun g=>[O]++A) (fun g R=>f=g∧True) ?_ ?_
 refine zz (ky (γ:=Nat×Int) (rs [7,8,25,46]) (fun g=>[(7,(vi g.2))]) (fun g=>[O]++A) (fun g R=>yt N U a d g.1 g.2=some f∧True) (fun g=>g.1) (N,0) prm ⟨k,trivial⟩ ?_);clear k;rintro⟨P,b⟩ bb bB t ⟨k,_⟩;rcases P with _|P;exact j6 k
 replace k:yt N U a d (P+1) b=some f:=k;rw [yt] at k;refine q9 (q9 ?_);obtain⟨an,av,aw,k⟩:=zvq k;obtain⟨L,aY,k⟩:=zu k
 refine ou 19 [] [phX (vi b),phX q,phX (vi (↑a.length:Int)),phX (.bool (decide (b<(↑a.length:Int)))),phX (.bool (decide (b<(↑a.length:Int)))),phG (true&&((decide (b<(↑a.length:Int)))==true)) (phX C),phG (true&&((decide (b<(↑a.length:Int)))==true)) (phX q),phG (true&&((decide (b<(↑a.length:Int)))==true)) (phX (vi b)),phG (true&&((decide (b<(↑a.length:Int)))==true)) ((fun u _=>z0v (zy .i64) q a u b.toNat)),phG (true&&((decide (b<(↑a.length:Int)))==true)) (phX (vi (ix a b))),phG (true&&((decide (b<(↑a.length:Int)))==true)) (phP (tSl false (zy .i64)) (ix U.1 (ix a b))),phG (true&&((decide (b<(↑a.length:Int)))==true)) (phR (tSl false (zy .i64)) (ix U.1 (ix a b))),phG (true&&((decide (b<(↑a.length:Int)))==true)) (phX C),phG (true&&((decide (b<(↑a.length:Int)))==true)) (phX (vi d)),phG (true&&((decide (b<(↑a.length:Int)))==true)) (phP (tSl false (zy .i64)) (ix U.1 d)),phG (true&&((decide (b<(↑a.length:Int)))==true)) (phR (tSl false (zy .i64)) (ix U.1 d)),phG (true&&((decide (b<(↑a.length:Int)))==true)) (phX (vi (L.getD default))),phG (true&&((decide (b<(↑a.length:Int)))==true)) (phX (.bool (decide ((L.getD default)=1)))),phX (.bool ((decide (b<(↑a.length:Int)))&&(decide ((L.getD default)=1))))] mixed (by kernel_rfl) (ng ⟨zq,zq,zq,zq,zq,(qz zq),(qz zq),(qz zq),(qz (fun _ _ _ _ h=>h)),(qz zq),(qz oh),(qz l9),(qz zq),(qz zq),(qz oh),(qz l9),(qz zq),(qz zq),zq,trivial⟩) ⟨?_,?_,?_,?_,?_,?_,?_,?_,?_,?_,?_,?_,?_,?_,?_,?_,?_,?_,?_,trivial⟩ fun bC V=>?_
 intro l bD c s hd;exact ze rfl rfl rfl (zx (zg (s 7 rfl)));intro l bF c s hd;exact ze rfl rfl rfl (zx (zg (s 5 rfl)));rintro l bG c s ⟨o,_⟩;exact ze rfl rfl rfl (zx (ow rfl underlying36 (o rfl) ((I.mono t).mono c)));rintro l bH c s ⟨o,x,_⟩;exact ze rfl rfl rfl (zx (jk (o rfl) (x rfl)))
 rintro l bI c s ⟨o,_⟩;exact ze rfl rfl rfl (zx (zg (o rfl)));rintro l bJ c s ⟨o,_⟩;exact zw (Gj:=true) (Bj:=decide (b<(↑a.length:Int))) rfl rfl rfl (ul (o rfl)) rfl (fun w p=>zx (zg (s 3 rfl)));rintro l bK c s ⟨o,_⟩
 exact zw (Gj:=true) (Bj:=decide (b<(↑a.length:Int))) rfl rfl rfl (ul (o rfl)) rfl (fun w p=>zx (zg (s 5 rfl)));rintro l bL c s ⟨o,_⟩;exact zw (Gj:=true) (Bj:=decide (b<(↑a.length:Int))) rfl rfl rfl (ul (o rfl)) rfl (fun w p=>zx (zg (s 7 rfl)));rintro l bM c s ⟨o,x,d2,_⟩
 exact zw (Gj:=true) (Bj:=decide (b<(↑a.length:Int))) rfl rfl rfl (ul (d2 rfl)) rfl (fun w p=>z04 (i:=b.toNat) dz (show l 31=q from(o rfl).1 (zk rfl p)) ((I.mono t).mono c) (zb (show l 32=(vi b) from(x rfl).1 (zk rfl p)) (an (zk w p)).1) (zn (an (zk w p))));rintro l bN c s ⟨o,x,_⟩
 exact zw (Gj:=true) (Bj:=decide (b<(↑a.length:Int))) rfl rfl rfl (ul (x rfl)) rfl (fun w p=>uj (z8p (i:=b.toNat) (j:=0) ty3 ((I.mono t).mono c) rfl rfl ((o rfl).1 (zk rfl p)) (zn (an (zk w p)))) (fun _ _ h=>qj.1 h));rintro l bc c s ⟨o,x,d2,_⟩
 exact zw (Gj:=true) (Bj:=decide (b<(↑a.length:Int))) rfl rfl rfl (ul (d2 rfl)) rfl (fun w p=>fu (i:=(ix a b).toNat) z8a (show l 30=C from(o rfl).1 (zk rfl p)) (je ((al.mono (z.trans t)).mono c)) (zb (show l 34=(vi (ix a b)) from(x rfl).1 (zk rfl p)) (av (zk w p)).1) (zn (av (zk w p))))
 rintro l be c s ⟨o,x,_⟩;exact zw (Gj:=true) (Bj:=decide (b<(↑a.length:Int))) rfl rfl rfl (ul (x rfl)) rfl (fun w p=>uw z8b rfl ((o rfl).1 (zk rfl p)));rintro l bf c s ⟨o,_⟩;exact zw (Gj:=true) (Bj:=decide (b<(↑a.length:Int))) rfl rfl rfl (ul (o rfl)) rfl (fun w p=>zx (zg (s 3 rfl)))
 rintro l bg c s ⟨o,_⟩;exact zw (Gj:=true) (Bj:=decide (b<(↑a.length:Int))) rfl rfl rfl (ul (o rfl)) rfl (fun w p=>zx (zg (s 6 rfl)));rintro l bh c s ⟨o,x,d2,_⟩
 exact zw (Gj:=true) (Bj:=decide (b<(↑a.length:Int))) rfl rfl rfl (ul (d2 rfl)) rfl (fun w p=>fu (i:=d.toNat) z8a (show l 37=C from(o rfl).1 (zk rfl p)) (je ((al.mono (z.trans t)).mono c)) (zb (show l 38=(vi d) from(x rfl).1 (zk rfl p)) (aw (zk w p)).1) (zn (aw (zk w p))))
 rintro l bi c s ⟨o,x,_⟩;exact zw (Gj:=true) (Bj:=decide (b<(↑a.length:Int))) rfl rfl rfl (ul (x rfl)) rfl (fun w p=>uw z8b rfl ((o rfl).1 (zk rfl p)));rintro l bj c s ⟨o,x,d2,d3,_⟩
 exact zw (Gj:=true) (Bj:=decide (b<(↑a.length:Int))) rfl rfl rfl (ul (d2 rfl)) rfl (fun w p=>yh (vs:=[(l 36),(l 40)]) q4h rfl ((by have aZ:=(rf aY (zk w p));exact zcd ((o rfl).1 (zk rfl p)) ((x rfl).1 (zk rfl p)) aZ)) (fun _ _ h=>h));rintro l bk c s ⟨o,x,_⟩
 exact zw (Gj:=true) (Bj:=decide (b<(↑a.length:Int))) rfl rfl rfl (ul (x rfl)) rfl (fun w p=>zx (uu (show l 41=(vi (L.getD default)) from(o rfl).1 (zk rfl p)) rfl));rintro l bl c s ⟨o,x,_⟩
 exact ze rfl rfl rfl (zx (uk (o rfl) (fun hb=>(show l 42=(.bool (decide ((L.getD default)=1))) from(x rfl).1 (zk rfl hb))) rfl));intro bP a0 bQ a1 bR a2 bS a3 bT a4 bU bV bW bX bY bZ b0 b1 b2 b3 b4 b5 b6 b7 b8 b9 ca cb cc cd ce cf cg ch ci cj ck a5;obtain rfl:=Eq.symm a0;obtain rfl:=Eq.symm a1;obtain rfl:=Eq.symm a2
 obtain rfl:=Eq.symm a3;obtain rfl:=Eq.symm a4;obtain rfl:=Eq.symm a5;refine z8 (qa rfl k (fun k=>?_) (fun k=>?_));refine qc (zz (zt (zl (vi b) ?_)));obtain⟨ax,k⟩:=za k;refine zi (ji rfl rfl ax) (zm (vi (b+1)) (z8 ?_))
 exact⟨dkt,V,jr,(P,b+1),Nat.lt_succ_self _,⟨rfl,trivial⟩,prm,k,trivial⟩;refine jm ?_;exact⟨dkt,(t.trans V),jr,b,⟨rfl,trivial⟩,prm,(Option.some.inj k).symm,trivial⟩;rintro f bm cl W ⟨rfl,_⟩
 refine zo (zm vs0 (j4 (zl vs0 (zl q (zl (vi f) (u7 (i:=0) rfl (I.mono W) fun Z ap ay=>?_))))));have E:VRep (tSl false (zy .i64)) Z q a:=(z6h ay);obtain⟨F,e⟩:=za e
 refine zdg (v:=q) (lo:=(0:Int).toNat) (hi:=f.toNat) (mx:=(capOf q)) rfl dz rfl (je E) (.inl ⟨rfl,rfl⟩) (.inr ⟨_,congrArg some (zb rfl (zgo F))⟩) (.inl ⟨rfl,rfl⟩) (zgm F) (z8c F) (Nat.le_trans (z8c F) (ztl (je E))) (Nat.le_refl _) (X':=(cut a 0 f)) rfl fun az aA aT=>?_
 have aB:VRep (tSl false (zy .i64)) Z az (cut a 0 f):=z6h aA;refine q0g ?_;obtain⟨aa,e⟩:=za e;refine gq (i:=0) (X:=([]:List Int)) (Y:=(cut a 0 f)) rfl underlying36 zo3 rfl rfl rfl (z0y (T:=(zy .i64))) (je aB) aa.1 aa.2 fun ab bn aC=>?_
 refine zm ab (j4 (zl ab (zl (vi d) (bv (T:=(zy .i64)) (X:=([d]:List Int)) (ps:=[(0,(vi d))]) (css:=[[(vi d)]]) rfl underlying36 zo3 rfl rfl (jv ⟨rfl,trivial⟩) rfl rfl (by decide) fun aD bo Q aE=>?_))));refine u7 (i:=0) rfl aE fun ac y aF=>?_
 have aG:VRep (tSl true (zy .i64)) ac aD ([d]:List Int):=(z0d aF Q);obtain⟨ad,e⟩:=za e;refine gq (i:=0) (X:=(([]:List Int)++(cut a 0 f))) (Y:=([d]:List Int)) rfl underlying36 zo3 rfl rfl rfl (aC.mono y) (je (Sub.v (B:=(tSl false (zy .i64))) (uh Sub.refl (fun _=>rfl)) aG)) ad.1 ad.2 fun ae bp aH=>?_
 refine zm ae (z8 (zt (zl ae (zl q (zl (vi f) ?_)))));obtain⟨G,e⟩:=za e
 refine zdg (v:=q) (lo:=f.toNat) (hi:=(↑a.length:Int).toNat) (mx:=(capOf q)) rfl dz rfl (je (E.mono y)) (.inr ⟨_,congrArg some (zb rfl G.1)⟩) (.inl ⟨rfl,rfl,rfl⟩) (.inl ⟨rfl,rfl⟩) (zgm G) (z8c G) (Nat.le_trans (z8c G) (ztl (je (E.mono y)))) (Nat.le_refl _) (X':=(cut a f (↑a.length:Int))) rfl fun aI aJ aU=>?_
 have aK:VRep (tSl false (zy .i64)) ac aI (cut a f (↑a.length:Int)):=z6h aJ;obtain⟨af,e⟩:=za e;refine gq (i:=0) (X:=((([]:List Int)++(cut a 0 f))++([d]:List Int))) (Y:=(cut a f (↑a.length:Int))) rfl underlying36 zo3 rfl rfl rfl aH (je aK) af.1 af.2 fun ag aL aM=>?_;refine zm ag (z8 ?_)
 exact⟨dkt,((W.trans ap).trans y),jr,((((([]:List Int)++(cut a 0 f))++([d]:List Int))++(cut a f (↑a.length:Int))),ag,aL),⟨rfl,trivial⟩,prm,(Option.some.inj e).symm,aM,trivial⟩;rintro⟨am,a6,a7⟩ bq cm aN ⟨rfl,a8,_⟩;refine zt (zl (vi d) ?_);obtain⟨aO,n⟩:=za n
 refine zi (ji rfl rfl aO) (zm (vi (d+1)) (z8 ?_));exact⟨dkt,aN,jr,(M,am,d+1,a6,a7),Nat.lt_succ_self _,⟨rfl,rfl,trivial⟩,prm,n,a8,trivial⟩;refine jm ?_;exact⟨dkt,z,jr,(a,q,O),⟨rfl,trivial⟩,prm,(Option.some.inj n).symm,I,trivial⟩;rintro⟨K,S,cn⟩ br co aP ⟨rfl,a9,_⟩
 refine zo (zl S (zm S (z8 (tq (i:=0) rfl a9 fun aQ aq aR=>?_))));have aS:VRep (tSl false (zy .i64)) aQ S K:=(z6h aR);refine qw ?_;obtain rfl:=Option.some.inj H;refine qh (D:=[]) (J:=[]) (rs:=[.tmp 2]) (vs:=[S]) (((aj.trans ar).trans aP).trans aq) rfl rfl ⟨rfl,trivial⟩ ?_;exact⟨rfl,aS⟩
theorem zc7{N:Nat}{R:RH}{m:Mach}{ap:Value}(a4:VRep (jg false false) R ap m){f:(List Int)}{k:Value}(z:VRep (tSl false (zy .i64)) R k f){r:Mach}(U:lq N m f=some r):CallP prog 33 #[ap,k] R (fun v R'=>VRep (jg false false) R' v r):=by
 refine qp (args:=[ap,k]) func33 rfl rfl fun A=>?_;rw [lq] at U;refine zo (y5 (T:=(jg false false)) rfl rfl rfl a4 fun v1 R3 H h5 h2=>?_);refine jc rfl zg0 fun b6=>?_;refine j4 (jq rfl z3q z1s rfl h2 fun v8 h9=>?_);refine j3 rfl ty3 rfl h9 fun bx a5=>?_;obtain rfl:=qj.1 a5
 refine jq rfl zk0 zeh rfl h2 fun bz a6=>?_;refine j3 rfl ty3 rfl a6 fun bA a7=>?_;obtain rfl:=qj.1 a7;refine zi (jy (ps:=[(0,(vi m.inputs)),(1,(vi m.outputs))]) (v:=(.agg #[(vi m.inputs),(vi m.outputs),vs0])) rfl (fun w=>by kernel_rfl)) (jc rfl zg0 fun t=>?_)
 refine ql (i:=0) (vs:=[(vi m.inputs),(vi m.outputs),vs0]) z3d rfl rfl rfl rfl rfl rfl (qb rfl (qb rfl (qb rfl qy))) ?_;refine z8 ?_;obtain⟨E,d,U⟩:=zu U
 refine jb (γ:=(List (List Edge))×Value×Frag) (rs [6,12,17,67]) (fun g=>[]) (fun g=>[box b6 [(vi 0),(vi 0),vs0] 27,box t [(vi m.inputs),(vi m.outputs),g.2.1] 27,g.2.2]++A) (fun g R=>E=g.1∧ORep (tSl false kEdge) R g.2.2 g.2.1 g.1∧True) ?_ ?_;refine zo (zm (vi 0) (z8 (zz (z4z ?_))))
 refine ky (γ:=Nat×Int×(List (List Edge))×Value×Frag) (rs [6,12,17,67]) (fun g=>[(6,(vi g.2.1))]) (fun g=>[box b6 [(vi 0),(vi 0),vs0] 27,box t [(vi m.inputs),(vi m.outputs),g.2.2.2.1] 27,g.2.2.2.2]++A) (fun g R=>xq N m f g.1 g.2.1 g.2.2.1=some E∧ORep (tSl false kEdge) R g.2.2.2.2 g.2.2.2.1 g.2.2.1∧True) (fun g=>g.1) (N,0,[],vs0,emp) ⟨[],(pk 2 rfl (pk 1 rfl (pk 0 rfl (List.Perm.refl _))))⟩ ⟨d,(z0y (T:=(tSl false kEdge))),trivial⟩ ?_
 clear d;rintro⟨V,a,W,F,u⟩ bi bB n ⟨d,aw,_⟩;rcases V with _|V;exact j6 d;replace d:xq N m f (V+1) a W=some E:=d;rw [xq] at d
 refine q9 (zo (zl (vi a) (zl k (zi (qx rfl underlying36 rfl (je (z.mono (H.trans n)))) (zi (jk rfl rfl) (z8 (qa rfl d (fun d=>?_) (fun d=>?_))))))));refine qc (q9 (zz (zo (zm vs0 (z8 ?_)))));obtain⟨s,c,d⟩:=zu d
 refine jb (γ:=(List Edge)×Value×Frag) (rs [7,12,23,61]) (fun g=>[(7,g.2.1)]) (fun g=>[box b6 [(vi 0),(vi 0),vs0] 27,box t [(vi m.inputs),(vi m.outputs),F] 27,u,g.2.2]++A) (fun g R=>s=g.1∧ORep kEdge R g.2.2 g.2.1 g.1∧True) ?_ ?_;refine zo (zm (vi 0) (z8 (zz (z4z ?_))))
 refine ky (γ:=Nat×(List Edge)×Int×Value×Frag) (rs [7,12,23,61]) (fun g=>[(7,g.2.2.2.1),(8,(vi g.2.2.1))]) (fun g=>[box b6 [(vi 0),(vi 0),vs0] 27,box t [(vi m.inputs),(vi m.outputs),F] 27,u,g.2.2.2.2]++A) (fun g R=>xn N m f a g.1 g.2.1 g.2.2.1=some s∧ORep kEdge R g.2.2.2.2 g.2.2.2.1 g.2.1∧True) (fun g=>g.1) (N,[],0,vs0,emp) ⟨[],(pk 1 rfl (pk 1 rfl (pk 1 rfl (pk 0 rfl (List.Perm.refl _)))))⟩ ⟨c,(z0y (T:=kEdge)),trivial⟩ ?_
 clear c;rintro⟨Z,aa,b,ax,ab⟩ bj bC q ⟨c,ay,_⟩;rcases Z with _|Z;exact j6 c;replace c:xn N m f a (Z+1) aa b=some s:=c;rw [xn] at c;refine q9 (zo (zl (vi b) (jq rfl z3q z1s rfl (h2.mono (n.trans q)) fun bD a8=>?_)))
 refine j3 rfl ty3 rfl a8 fun bE a9=>?_;obtain rfl:=qj.1 a9;refine zi (jk rfl rfl) (z8 (qa rfl c (fun c=>?_) (fun c=>?_)));refine qc (q9 (zz (q9 ?_)));obtain⟨az,aA,aB,c⟩:=zvq c
 refine ou 12 [⟨11,[.int .i64 0,.int .i64 0],53⟩] [phP (tSl false (tSl false kEdge)) m.rows,phR (tSl false (tSl false kEdge)) m.rows,phX k,phX (vi a),phP (zy .i64) (ix f a),phX (vi (ix f a)),phP (tSl false kEdge) (ix m.rows (ix f a)),phR (tSl false kEdge) (ix m.rows (ix f a)),phX (vi b),phP kEdge (ix (ix m.rows (ix f a)) b),phX (z3h (ix (ix m.rows (ix f a)) b)),phB] mixed (by kernel_rfl) (ng ⟨oh,l9,zq,zq,oh,zq,oh,l9,zq,oh,zq,zv8,trivial⟩) ⟨?_,?_,?_,?_,?_,?_,?_,?_,?_,?_,?_,?_,trivial⟩ fun bF C=>?_
 intro l bG j x hd;exact ze rfl rfl rfl (r9 dx vw (x 2 rfl) ((h2.mono (n.trans q)).mono j));rintro l bH j x ⟨G,_⟩;exact ze rfl rfl rfl (uw z4r rfl (G rfl));intro l bI j x hd;exact ze rfl rfl rfl (zx (zg (x 1 rfl)));intro l bJ j x hd;exact ze rfl rfl rfl (zx (zg (x 6 rfl)))
 rintro l bK j x ⟨G,d1,_⟩;have u:=d1 rfl;exact ze rfl rfl rfl (fu (i:=a.toNat) dz (G rfl) (je ((z.mono ((H.trans n).trans q)).mono j)) (zb u az.1) (zn az));rintro l bL j x ⟨G,_⟩;exact ze rfl rfl rfl (uj (uw ty3 rfl (G rfl)) (fun _ _ h=>qj.1 h));rintro l bM j x ⟨G,d1,_⟩
 exact ze rfl rfl rfl (fu (i:=(ix f a).toNat) zmy rfl (je (G rfl)) (zb (d1 rfl) aA.1) (zn aA));rintro l bN j x ⟨G,_⟩;exact ze rfl rfl rfl (uw zk8 rfl (G rfl));intro l bO j x hd;exact ze rfl rfl rfl (zx (zg (x 8 rfl)));rintro l bP j x ⟨G,d1,_⟩
 exact ze rfl rfl rfl (fu (i:=b.toNat) zmj rfl (je (G rfl)) (zb (d1 rfl) aB.1) (zn aB));rintro l bk j x ⟨G,_⟩;exact ze rfl rfl rfl (uj (uw zp7 rfl (G rfl)) (fun _ _ h=>z2t.1 h));intro l bl j x hd;exact zkj rfl rfl rfl rfl zta
 intro bQ bR bS bT bU ba bV bb bW bX bY bc bZ b0 b1 b2 b3 be b4 b5 b7 bf b8 bg;obtain rfl:=Eq.symm ba;obtain rfl:=Eq.symm bb;obtain rfl:=Eq.symm bc;obtain rfl:=Eq.symm be;obtain rfl:=Eq.symm bf;obtain⟨I,rfl⟩:=bg
 refine ql (i:=0) (vs:=[(vi ((ix (ix m.rows (ix f a)) b).to)),(vi ((ix (ix m.rows (ix f a)) b).out))]) zh0 rfl rfl rfl rfl rfl rfl (qb rfl (qb rfl qy)) ?_;refine j4 (zm (vi (-1)) (z8 ?_));obtain⟨o,e,c⟩:=zu c
 refine jb (γ:=Int) (rs [10,12,40,54]) (fun g=>[(10,(vi g))]) (fun g=>[box b6 [(vi 0),(vi 0),vs0] 27,box t [(vi m.inputs),(vi m.outputs),F] 27,u,ab,box I [(vi ((ix (ix m.rows (ix f a)) b).to)),(vi ((ix (ix m.rows (ix f a)) b).out))] 53]++A) (fun g R=>o=g∧True) ?_ ?_
 refine zo (zm (vi 0) (z8 (zz (ky (γ:=Nat×Int×Int) (rs [10,12,40,54]) (fun g=>[(10,(vi g.2.1)),(11,(vi g.2.2))]) (fun g=>[box b6 [(vi 0),(vi 0),vs0] 27,box t [(vi m.inputs),(vi m.outputs),F] 27,u,ab,box I [(vi ((ix (ix m.rows (ix f a)) b).to)),(vi ((ix (ix m.rows (ix f a)) b).out))] 53]++A) (fun g R=>xm N m f a b g.1 g.2.1 g.2.2=some o∧True) (fun g=>g.1) (N,(-1),0) ⟨[],(pk 1 rfl (pk 1 rfl (pk 1 rfl (pk 1 rfl (pk 0 rfl (List.Perm.refl _))))))⟩ ⟨e,trivial⟩ ?_))))
 clear e;rintro⟨ac,aq,p⟩ bm b9 K ⟨e,_⟩;rcases ac with _|ac;exact j6 e;replace e:xm N m f a b (ac+1) aq p=some o:=e;rw [xm] at e
 refine q9 (zo (zl (vi p) (zl k (zi (qx rfl underlying36 rfl (je (z.mono ((((H.trans n).trans q).trans C).trans K)))) (zi (jk rfl rfl) (z8 (qa rfl e (fun e=>?_) (fun e=>?_))))))));refine qc ?_;obtain⟨ar,y,e⟩:=zu e
 refine jb (γ:=Int) (rs [10,11,46,54]) (fun g=>[(10,(vi g))]) (fun g=>[box b6 [(vi 0),(vi 0),vs0] 27,box t [(vi m.inputs),(vi m.outputs),F] 27,u,ab,box I [(vi ((ix (ix m.rows (ix f a)) b).to)),(vi ((ix (ix m.rows (ix f a)) b).out))] 53]++A) (fun g R=>ar=g∧True) ?_ ?_
 refine zz (q9 (z10 7 mixed (by kernel_rfl) (by kernel_rfl) ?_));refine kv (v:=k) (zg rfl) ?_;refine kv (v:=(vi p)) (zg rfl) ?_;obtain⟨ah,y⟩:=za y;refine eu (wz (i:=p.toNat) dz rfl (je (z.mono ((((H.trans n).trans q).trans C).trans K))) (zb rfl ah.1) (zn ah)) fun bn aD=>?_
 refine kv (pg (u6 ty3 rfl aD)) ?_;refine kv (v:=(.pointer (some ⟨I,0,none⟩))) (qd za6 rfl) ?_;refine kv (v:=(vi ((ix (ix m.rows (ix f a)) b).to))) (zf (i:=4) ag3 rfl rfl rfl) ?_;refine kv (uu rfl rfl) ?_;intro bo L;refine z8 (qa rfl y (fun y=>?_) (fun y=>?_))
 refine zt (zl (vi p) (zm (vi p) (z8 ?_)));exact⟨dkt,L,jr,p,⟨rfl,trivial⟩,prm,(Option.some.inj y).symm,trivial⟩;refine qc ?_;exact⟨dkt,L,jr,aq,⟨rfl,trivial⟩,prm,(Option.some.inj y).symm,trivial⟩;rintro ar bp ca au ⟨rfl,_⟩;refine zt (zl (vi p) ?_);obtain⟨aE,e⟩:=za e
 refine zi (ji rfl rfl aE) (zm (vi (p+1)) (z8 ?_));exact⟨dkt,au,jr,(ac,ar,p+1),Nat.lt_succ_self _,⟨rfl,rfl,trivial⟩,prm,e,trivial⟩;refine jm ?_;exact⟨dkt,K,jr,aq,⟨rfl,trivial⟩,prm,(Option.some.inj e).symm,trivial⟩;rintro o bq cb ai ⟨rfl,_⟩
 refine zt (zl ax (zl (vi o) (zi (qd zr8 rfl) (zi (zf (i:=4) ag3 rfl rfl rfl) (zi (jy (ps:=[(0,(vi o)),(1,(vi ((ix (ix m.rows (ix f a)) b).out)))]) (v:=(.agg #[(vi o),(vi ((ix (ix m.rows (ix f a)) b).out))])) rfl (fun w=>by kernel_rfl)) ?_)))))
 let G1:=([(⟨o,(ix (ix m.rows (ix f a)) b).out⟩:Edge)]:List Edge)
 refine bv (T:=kEdge) (X:=G1) (ps:=[(0,(.agg #[(vi o),(vi ((ix (ix m.rows (ix f a)) b).out))]))]) (css:=[[(vi o),(vi ((ix (ix m.rows (ix f a)) b).out))]]) rfl underlying54 ze1 rfl rfl (jv ⟨⟨_,_,rfl,rfl,rfl⟩,trivial⟩) rfl rfl (by decide) fun aF br ad aG=>?_;refine u7 (i:=0) rfl aG fun aH M aI=>?_
 have aJ:VRep (tSl true kEdge) aH aF G1:=(z0d aI ad);obtain⟨aj,c⟩:=za c;refine gq (i:=3) (X:=aa) (Y:=G1) rfl underlying54 ze1 rfl rfl rfl (ay.mono ((C.trans ai).trans M)) (je (Sub.v (B:=(tSl false kEdge)) (uh Sub.refl (fun _=>rfl)) aJ)) aj.1 aj.2 fun ak aK aL=>?_
 refine zm ak (z8 (zt (zl (vi b) ?_)));obtain⟨aM,c⟩:=za c;refine zi (ji rfl rfl aM) (zm (vi (b+1)) (z8 ?_))
 exact⟨dkt,((C.trans ai).trans M),jr,(Z,(aa++G1),b+1,ak,aK),Nat.lt_succ_self _,⟨rfl,rfl,trivial⟩,⟨[box I [(vi ((ix (ix m.rows (ix f a)) b).to)),(vi ((ix (ix m.rows (ix f a)) b).out))] 53],(pk 4 rfl (pk 0 rfl (pk 0 rfl (pk 0 rfl (pk 0 rfl (List.Perm.refl _))))))⟩,c,aL,trivial⟩;refine jm ?_
 exact⟨dkt,q,jr,(aa,ax,ab),⟨rfl,trivial⟩,prm,(Option.some.inj c).symm,ay,trivial⟩;rintro⟨s,ae,cc⟩ bs cd al ⟨rfl,bh,_⟩;refine zt (zi (qd dx rfl) (zi (zf (i:=1) q2b rfl rfl rfl) (zl ae (u7 (i:=3) rfl bh fun aN O aO=>?_))));have am:VRep (tSl false kEdge) aN ae s:=(z6h aO)
 refine bv (T:=(tSl false kEdge)) (X:=([s]:List (List Edge))) (ps:=[(0,ae)]) (css:=[[ae]]) rfl underlying25 zke rfl (by simp only [List.map_cons,List.map_nil,z0s am];rfl) (jv ⟨(kw rfl am),trivial⟩) rfl rfl (by decide) fun aP bt af aQ=>?_;refine u7 (i:=0) rfl aQ fun aR P aS=>?_
 have aT:VRep (tSl true (tSl false kEdge)) aR aP ([s]:List (List Edge)):=(z0d aS af);obtain⟨an,d⟩:=za d
 refine gq (i:=2) (X:=W) (Y:=([s]:List (List Edge))) rfl underlying25 zke rfl rfl rfl (aw.mono ((al.trans O).trans P)) (je (Sub.v (B:=(tSl false (tSl false kEdge))) (uh Sub.refl (fun _=>rfl)) aT)) an.1 an.2 fun ao aU Q=>?_
 refine zi (qd dx rfl) (ql (i:=1) (vs:=[ao]) q1t rfl rfl (ui Q) rfl rfl rfl (qb (uq Q) qy) ?_);refine z8 (zt (zl (vi a) ?_));obtain⟨aV,d⟩:=za d;refine zi (ji rfl rfl aV) (zm (vi (a+1)) (z8 ?_))
 exact⟨dkt,((al.trans O).trans P),jr,(V,a+1,(W++([s]:List (List Edge))),ao,aU),Nat.lt_succ_self _,⟨rfl,trivial⟩,prm,d,Q,trivial⟩;refine jm ?_;exact⟨dkt,n,jr,(W,F,u),trivial,prm,(Option.some.inj d).symm,aw,trivial⟩;rintro⟨E,S,ce⟩ bu cf aW ⟨rfl,aX,_⟩
 refine zo (zi (xg (i:=1) z7w z3d rfl rfl rfl rfl) (ql (i:=0) (vs:=[(vi m.inputs),(vi m.outputs),S]) z3d rfl rfl rfl rfl rfl rfl (qb rfl (qb rfl (qb (uq aX) qy))) ?_));refine z8 (tq (i:=2) rfl aX fun aY av aZ=>?_);have a0:VRep (tSl false (tSl false kEdge)) aY S E:=(z6h aZ)
 refine qw ?_;obtain rfl:=Option.some.inj U
 refine qh (D:=[]) (J:=[box b6 [(vi m.inputs),(vi m.outputs),S] 27,box t [(vi m.inputs),(vi m.outputs),S] 27]) (rs:=[.cell 4 27]) (vs:=[(.agg #[(vi m.inputs),(vi m.outputs),S])]) ((H.trans aW).trans av) rfl rfl ⟨⟨_,rfl,fun w hh=>z3i (i:=0) hh rfl rfl z7w z3d rfl rfl⟩,trivial⟩ ?_
 exact⟨rfl,(⟨_,⟨_,_,rfl,rfl,⟨_,_,rfl,rfl,(kw rfl a0)⟩⟩,rfl⟩:VRep (jg false false) _ _ (⟨m.inputs,m.outputs,E⟩:Mach))⟩
theorem q5n:Enters prog 34:=enters_of func34 rfl (by kernel_rfl)
theorem q4m:Enters prog 33:=enters_of func33 rfl (by kernel_rfl)
theorem z4x{N:Nat}{R:RH}{m:Mach}{b:Value}(e:VRep (jg false false) R b m){r:Mach}(d:mr N m=some r):CallP prog 11 #[b] R (fun v R'=>VRep (jg false false) R' v r):=by
 refine qp (args:=[b]) func11 rfl rfl fun A=>?_;rw [mr] at d;refine zo (y5 (T:=(jg false false)) rfl rfl rfl e fun V W f u X=>?_);refine jc rfl zg0 fun x=>?_;refine z8 (q9 ?_);obtain⟨y,z,d⟩:=zu d;obtain⟨a,o,d⟩:=zu d
 refine ou 4 [] [phX b,phX b,phR (tSl false (zy .i64)) y,phR (jg false false) a] mixed (by kernel_rfl) (ng ⟨zq,zq,l9,l9,trivial⟩) ⟨?_,?_,?_,?_,trivial⟩ fun B j=>?_;intro l C c k E;exact ze rfl rfl rfl (zx (ko z1i rfl (k 1 rfl) (u.mono c) ((e.mono f).mono c)));intro l F c k E
 exact ze rfl rfl rfl (zx (ko z1i rfl (k 1 rfl) (u.mono c) ((e.mono f).mono c)));rintro l G c k ⟨p,_⟩;have H:l 4=b:=p rfl;exact ze rfl rfl rfl (yh (vs:=[b]) q5n (by simp only [List.map,ev,H]<;>rfl) (zbr ((e.mono f).mono c) z) (fun _ _ h=>h));rintro l I c k ⟨p,K,Y,_⟩
 have L:l 3=b:=p rfl;exact ze rfl rfl rfl (yh (vs:=[b,(l 5)]) q4m (by simp only [List.map,ev,L]<;>rfl) (zc7 ((e.mono f).mono c) (K rfl) o) (fun _ _ h=>h));intro M q O s P Q S t;obtain rfl:=Eq.symm q;obtain rfl:=Eq.symm s;obtain⟨g,rfl,n⟩:=z6q t
 refine ql (i:=0) (vs:=[(vi a.inputs),(vi a.outputs),g]) z3d rfl rfl rfl rfl rfl rfl (qb rfl (qb rfl (qb (zhq n) qy))) ?_;refine z8 (qw ?_);obtain rfl:=Option.some.inj d
 refine qh (D:=[]) (J:=[box x [(vi a.inputs),(vi a.outputs),g] 27]) (rs:=[.cell 2 27]) (vs:=[(.agg #[(vi a.inputs),(vi a.outputs),g])]) (f.trans j) rfl rfl ⟨⟨_,rfl,fun w U=>z3i (i:=0) U rfl rfl z7w z3d rfl rfl⟩,trivial⟩ ?_
 exact⟨rfl,(⟨_,⟨_,_,rfl,rfl,⟨_,_,rfl,rfl,(kw rfl n)⟩⟩,rfl⟩:VRep (jg false false) _ _ (⟨a.inputs,a.outputs,a.rows⟩:Mach))⟩
theorem q3j:Enters prog 11:=enters_of func11 rfl (by kernel_rfl)
end GV
end Go.Proofs.Ytdhccodneoebpaa
