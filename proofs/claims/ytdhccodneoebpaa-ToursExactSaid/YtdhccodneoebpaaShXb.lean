import Derived.Test.YtdhccodneoebpaaShWe
import Derived.Test.YtdhccodneoebpaaShXa
import Derived.Test.YtdhccodneoebpaaRows
set_option linter.unusedVariables false
set_option linter.unusedSimpArgs false
set_option linter.unusedSectionVars false
namespace Go.Proofs.Ytdhccodneoebpaa
namespace GV
open _root_.Go.Proofs.Try
open Go.IntWalk
set_option maxRecDepth 100000
set_option maxHeartbeats 20000000
theorem ty5:TyOk prog 5 (zz .u8):=by
 obtain⟨i,hi,a⟩: ∃ i,prog.info? 5=some i∧i.size=1:=jr (by kernel_rfl);exact rz underlying5 hi rfl a
theorem zci{N:Nat}{R:RH}{m:Mach}{b:Value}(f:VRep (jf false false) R b m){s:Int}{i:Int}{r:Edge}(a:z1a N m s i=some r):CallP prog 87 #[b,(vi s),(vi i)] R (fun v R'=>v=(z2r r)):=by
 refine qo (args:=[b,(vi s),(vi i)]) func87 rfl rfl fun A=>?_;rw [z1a] at a;refine zt (vo (T:=(jf false false)) rfl rfl rfl f fun B C c E q=>?_);refine jc rfl zst fun p=>?_;refine z8 (zy (zt (zl (vi s) (zi (jh rfl rfl) (z8 (qa rfl a (fun a=>?_) (fun a=>?_)))))))
 refine zt (zi (kw (ps:=[(0,(vi (-1))),(1,(vi (-1)))]) (v:=(.agg #[(vi (-1)),(vi (-1))])) rfl (fun w=>by kernel_rfl)) (qm (i:=0) (vs:=[(vi (-1)),(vi (-1))]) zgr rfl rfl rfl rfl rfl rfl (qb rfl (qb rfl j3)) ?_));refine z8 (qw ?_);obtain rfl:=Option.some.inj a
 refine qg (D:=[]) (J:=[box p [(vi (-1)),(vi (-1))] 53]) (rs:=[.cell 6 53]) (vs:=[(.agg #[(vi (-1)),(vi (-1))])]) c rfl rfl ⟨⟨_,rfl,fun w g=>z4b (i:=0) g rfl rfl zx8 zgr rfl rfl⟩,trivial⟩ ?_;exact⟨rfl,rfl⟩;refine qc (zt (ku rfl pg vv rfl q fun F h=>?_));refine j4 rfl z3k rfl h fun t j=>?_
 refine zl (vi s) ?_;obtain⟨d,a⟩:=ze a;refine yj (i:=s.toNat) rfl zic rfl (jd j) (zb rfl d.1) (zm d) fun u k=>?_;refine j4 rfl zgo rfl k fun x l=>?_;refine zl (vi i) ?_;obtain⟨e,a⟩:=ze a;refine yj (i:=i.toNat) rfl zj7 rfl (jd l) (zb rfl e.1) (zm e) fun y n=>?_
 refine j4 rfl zmp rfl n fun z o=>?_;obtain rfl:=z2e.1 o;refine qm (i:=0) (vs:=[(vi ((ix (ix m.rows s) i).to)),(vi ((ix (ix m.rows s) i).out))]) zgr rfl rfl rfl rfl rfl rfl (qb rfl (qb rfl j3)) ?_;refine z8 (qw ?_);obtain rfl:=Option.some.inj a
 refine qg (D:=[]) (J:=[box p [(vi ((ix (ix m.rows s) i).to)),(vi ((ix (ix m.rows s) i).out))] 53]) (rs:=[.cell 6 53]) (vs:=[(.agg #[(vi ((ix (ix m.rows s) i).to)),(vi ((ix (ix m.rows s) i).out))])]) c rfl rfl ⟨⟨_,rfl,fun w g=>z4b (i:=0) g rfl rfl zx8 zgr rfl rfl⟩,trivial⟩ ?_;exact⟨rfl,rfl⟩
theorem q33:Enters prog 87:=enters_of func87 rfl (by kernel_rfl)
theorem q29:Enters prog 81:=enters_of func81 rfl (by kernel_rfl)
theorem z8y{N:Nat}(F:Nat): ∀ {R:RH} {m:Mach} {d:Value} (j:VRep (jf false false) R d m) {s:Int} {n:(List Int)} {c:Value} (g:VRep (tSl false (zz .i64)) R c n) {r:Int} (b:cz N F m s n=some r),CallP prog 81 #[d,(vi s),c] R (fun v R'=>v=(vi r)):=by
  induction F with
  |zero=>intros;rename_i b;exact qy b
  |succ F ih=>
    intro R m d j s n c g r b
    refine qo (args:=[d,(vi s),c]) func81 rfl rfl fun A=>?_
    rw [cz] at b
    refine zy ?_
    refine zq ?_
    refine vo (T:=(jf false false)) rfl rfl rfl j fun v1 R3 e h5 h2=>?_
    refine zn (vi 0) ?_
    refine z8 ?_
    refine zy ?_
    refine zy ?_
    refine zq ?_
    refine zl c ?_
    refine zi (qz rfl underlying36 rfl (jd (g.mono e))) ?_
    refine zi (xe rfl rfl) ?_
    refine z8 ?_
    refine qa rfl b (fun b=>?_) (fun b=>?_)
    · refine zy ?_
      refine zq ?_
      refine zl (vi s) ?_
      refine zn (vi s) ?_
      refine z8 ?_
      refine qw ?_
      obtain rfl:=Option.some.inj b
      refine qg (D:=[]) (J:=[]) (rs:=[.tmp 6]) (vs:=[(vi s)]) e rfl rfl ⟨rfl,trivial⟩ ?_
      exact⟨rfl,rfl⟩
    · refine qc ?_
      refine zy ?_
      obtain⟨g7,b⟩:=ze b
      obtain⟨q,c9,b⟩:=zu b
      obtain⟨o,b⟩:=ze b
      obtain⟨p,B,b⟩:=zu b
      refine mh 12 [] [phX d,phX d,phX (vi s),phX c,phP (zz .i64) (ix n 0),phX (vi (ix n 0)),phX (z2r q),phX (vi q.to),phX c,phR (tSl false (zz .i64)) (cut n 1 (↑n.length:Int)),phX (vi p),phX (vi p)] mixed (by kernel_rfl) (pq ⟨zo,zo,zo,zo,dw,zo,zo,zo,zo,o5,zo,zo,trivial⟩) ⟨?_,?_,?_,?_,?_,?_,?_,?_,?_,?_,?_,?_,trivial⟩ fun al t=>?_
      · intro l am a f x
        have C:l 3=v1:=f 3 rfl
        exact za rfl rfl rfl (zw (jo z0z rfl C (h5.mono a) ((j.mono e).mono a)))
      · intro l an a f x
        have C:l 3=v1:=f 3 rfl
        exact za rfl rfl rfl (zw (jo z0z rfl C (h5.mono a) ((j.mono e).mono a)))
      · intro l ao a f x
        have a1:l 1=(vi s):=f 1 rfl
        exact za rfl rfl rfl (zw (zf a1))
      · intro l aq a f x
        have E:l 2=c:=f 2 rfl
        exact za rfl rfl rfl (zw (zf E))
      · rintro l ar a f ⟨k,_⟩
        have G:=k rfl
        exact za rfl rfl rfl (ou (i:=(0:Int).toNat) bu G (jd ((g.mono e).mono a)) (zb rfl g7.1) (zm g7))
      · rintro l au a f ⟨k,_⟩
        have H:=k rfl
        exact za rfl rfl rfl (uf (ul ty3 rfl H) (fun _ _ h=>qh.1 h))
      · rintro l av a f ⟨k,y,z,_⟩
        have I:l 12=d:=k rfl
        have K:l 13=(vi s):=y rfl
        have L:l 16=(vi (ix n 0)):=z rfl
        exact za rfl rfl rfl (vk (vs:=[d,(vi s),(vi (ix n 0))]) q33 (by simp only [List.map,ev,I,K,L]<;>rfl) (zci ((j.mono e).mono a) c9) (fun _ _ h=>h))
      · rintro l aw a f ⟨k,_⟩
        have M:=k rfl
        exact za rfl rfl rfl (zw (zt7 (v:=(z2r q)) (u:=(vi q.to)) M (fun w=>by kernel_rfl)))
      · intro l ax a f x
        have E:l 2=c:=f 2 rfl
        exact za rfl rfl rfl (zw (zf E))
      · rintro l ay a f ⟨k,_⟩
        have O:=k rfl
        exact za rfl rfl rfl (ztf (lo:=(1:Int).toNat) (hi:=(↑n.length:Int).toNat) (mx:=(capOf c)) (X':=(cut n 1 (↑n.length:Int))) bu O (jd ((g.mono e).mono a)) (.inr ⟨_,congrArg some (zb rfl o.1)⟩) (.inl ⟨rfl,rfl,rfl⟩) (.inl ⟨rfl,rfl⟩) (zgf o) (z7q o) (fun h=>Nat.le_trans (z7q o) h) (fun _=>Nat.le_refl _) rfl)
      · rintro l ai a f ⟨k,y,z,d3,_⟩
        have P:l 11=d:=k rfl
        have Q:l 18=(vi q.to):=y rfl
        have S:=z rfl
        exact za rfl rfl rfl (vk (vs:=[d,(vi q.to),(l 20)]) q29 (by simp only [List.map,ev,P,Q]<;>rfl) (ih ((j.mono e).mono a) S B) (fun _ _ h=>h))
      · rintro l aj a f ⟨k,y,z,d3,d4,d5,d6,d7,d8,d9,aA,aB,aC,_⟩
        have U:=k rfl
        exact za rfl rfl rfl (zw (ni U))
      intro aD V
      intro aE W
      intro aF X
      intro aG Y
      intro aH aI
      intro aJ Z
      intro aK aa
      intro aL ab
      intro aM ac
      intro aN aO
      intro aP ad
      intro aQ ae
      obtain rfl:=Eq.symm V
      obtain rfl:=Eq.symm W
      obtain rfl:=Eq.symm X
      obtain rfl:=Eq.symm Y
      obtain rfl:=Eq.symm Z
      obtain rfl:=Eq.symm aa
      obtain rfl:=Eq.symm ab
      obtain rfl:=Eq.symm ac
      obtain rfl:=Eq.symm ad
      obtain rfl:=Eq.symm ae
      refine z8 ?_
      refine qw ?_
      obtain rfl:=Option.some.inj b
      refine qg (D:=[]) (J:=[]) (rs:=[.tmp 6]) (vs:=[(vi p)]) (e.trans t) rfl rfl ⟨rfl,trivial⟩ ?_
      exact⟨rfl,rfl⟩
theorem zbj{N:Nat}{R:RH}{m:Mach}{b:Value}(d:VRep (jf false false) R b m){s:Int}{f:(List Int)}{a:Value}(c:VRep (tSl false (zz .i64)) R a f){r:Int}(e:cz N N m s f=some r):CallP prog 81 #[b,(vi s),a] R (fun v R'=>v=(vi r)):=z8y N d c e
theorem zcl{N:Nat}{R:RH}{w:(List Int)}{e:Value}(x:VRep (tSl false (zz .i64)) R e w){inputs:Int}{r:(List Int)}(c:lc N w inputs=some r):CallP prog 80 #[e,(vi inputs)] R (fun v R'=>VRep (tSl false (zz .i64)) R' v r):=by
 refine qo (args:=[e,(vi inputs)]) func80 rfl rfl fun A=>?_;rw [lc] at c;refine zt (zn vs0 (j5 (bq (T:=(zz .i64)) (X:=([]:List Int)) (ps:=[]) (css:=[]) rfl underlying36 zo3 rfl rfl (ko trivial) rfl rfl (by decide) fun v1 f2 an h4=>?_)));refine zl e ?_;obtain⟨g6,c⟩:=ze c
 refine pz (i:=0) (X:=([]:List Int)) (Y:=w) rfl underlying36 zo3 rfl rfl rfl h4 (jd x) g6.1 g6.2 fun f f8 h9=>?_;refine zn f (z8 ?_);obtain⟨n,a,c⟩:=zu c;refine jb (γ:=(List Int)×Frag) (rs [4,5,6,7,10,34]) (fun g=>[]) (fun g=>[g.2]++A) (fun g R=>n=Ex.go g.1∧ORep (zz .i64) R g.2 f g.1∧True) ?_ ?_
 refine zt (zl f (zi (mq rfl underlying36 rfl h9) ?_));obtain⟨G,a⟩:=ze a
 refine zi (z0i rfl rfl G) (zn (vi ((↑(([]:List Int)++w).length:Int)-1)) (z8 (q9 (kv (γ:=Nat×Int×(List Int)×Frag) (rs [4,5,6,7,13,34]) (fun g=>[(6,(vi g.2.1))]) (fun g=>[g.2.2.2]++A) (fun g R=>yg N inputs g.1 g.2.1 g.2.2.1=some n∧ORep (zz .i64) R g.2.2.2 f g.2.2.1∧True) (fun g=>g.1) (N,(↑(([]:List Int)++w).length:Int)-1,(([]:List Int)++w),f8) prm ⟨a,h9,trivial⟩ ?_))))
 clear a;rintro⟨k,b,h,H⟩ au av l ⟨a,d,_⟩;rcases k with _|k;exact qy a;replace a:yg N inputs (k+1) b h=some n:=a;rw [yg] at a;refine zy (zt (zl (vi b) (zi (z6p rfl rfl) (z8 (qa rfl a (fun a=>?_) (fun a=>?_))))))
 refine qc (zy (q9 (zy (zt (zl f (zl (vi b) ?_))))));obtain⟨o,a⟩:=ze a;refine kg (i:=b.toNat) rfl bu rfl d (zb rfl o.1) (zm o) fun aw I=>?_;refine ig (i:=b.toNat) (j:=0) rfl ty3 d rfl rfl I (zm o) fun ax K=>?_;obtain rfl:=qh.1 K;obtain⟨L,a⟩:=ze a
 refine zi (jg rfl rfl L) (zl (vi inputs) (zi (jh rfl rfl) (z8 (qa rfl a (fun a=>?_) (fun a=>?_)))));refine zt (zl f (zl (vi b) ?_));obtain⟨p,a⟩:=ze a;refine kg (i:=b.toNat) rfl bu rfl d (zb rfl p.1) (zm p) fun ay M=>?_
 refine ig (i:=b.toNat) (j:=0) rfl ty3 d rfl rfl M (zm p) fun az O=>?_;obtain rfl:=qh.1 O;obtain⟨P,a⟩:=ze a;refine zi (jg rfl rfl P) ?_;obtain⟨q,a⟩:=ze a;refine kg (i:=b.toNat) rfl bu rfl d (zb rfl q.1) (zm q) fun aA Q=>?_
 refine gm (i:=b.toNat) (j:=0) ty3 d rfl rfl Q (zm q) rfl (qh.2 rfl) fun aB S=>?_;refine j5 (zl f (zn f (z8 (mg (i:=0) rfl S fun U y V=>?_))));have W:VRep (tSl false (zz .i64)) U f (up h b ((ix h b)+1)):=(z5z V);refine qw ?_;replace c:=z2h a c;obtain rfl:=Option.some.inj c
 refine qg (D:=[]) (J:=[]) (rs:=[.tmp 4]) (vs:=[f]) (l.trans y) rfl rfl ⟨rfl,trivial⟩ ?_;exact⟨rfl,W⟩;refine qc (zq (zl f (zl (vi b) ?_)));obtain⟨s,a⟩:=ze a;refine kg (i:=b.toNat) rfl bu rfl d (zb rfl s.1) (zm s) fun aC Z=>?_
 refine gm (i:=b.toNat) (j:=0) ty3 d rfl rfl Z (zm s) rfl (qh.2 rfl) fun aa ab=>?_;refine z8 (zq (zl (vi b) ?_));obtain⟨ac,a⟩:=ze a;refine zi (z0i rfl rfl ac) (zn (vi (b-1)) (z8 ?_))
 exact⟨dkt,(RH.le.refl _),jm,(k,b-1,(up h b 0),aa),Nat.lt_succ_self _,⟨rfl,trivial⟩,prm,a,ab,trivial⟩;refine jk ?_;exact⟨dkt,l,jm,(h,H),trivial,prm,(Option.some.inj a).symm,d,trivial⟩;rintro⟨z,aD⟩ aE aF C ⟨rfl,ad,_⟩;replace c:=z10 c
 refine zt (zl f (bq (T:=(zz .i64)) (X:=([0]:List Int)) (ps:=[(0,(vi 0))]) (css:=[[(vi 0)]]) rfl underlying36 zo3 rfl rfl (ko ⟨rfl,trivial⟩) rfl rfl (by decide) fun ae aG t af=>?_));refine uk (i:=0) rfl af fun ag m ah=>?_;have ai:VRep (tSl true (zz .i64)) ag ae ([0]:List Int):=(z0l ah t)
 obtain⟨E,c⟩:=ze c;refine pz (i:=0) (X:=z) (Y:=([0]:List Int)) rfl underlying36 zo3 rfl rfl rfl (ad.mono m) (jd (Sub.v (B:=(tSl false (zz .i64))) (uh Sub.refl (fun _=>rfl)) ai)) E.1 E.2 fun u aH aj=>?_;refine zn u (z8 (mg (i:=0) rfl aj fun ak F al=>?_))
 have am:VRep (tSl false (zz .i64)) ak u (z++([0]:List Int)):=(z5z al);refine qw ?_;obtain rfl:=Option.some.inj c;refine qg (D:=[]) (J:=[]) (rs:=[.tmp 4]) (vs:=[u]) ((C.trans m).trans F) rfl rfl ⟨rfl,trivial⟩ ?_;exact⟨rfl,am⟩
theorem q2l:Enters prog 80:=enters_of func80 rfl (by kernel_rfl)
theorem zbl{N:Nat}{R:RH}{m:Mach}{Q:Value}(S:VRep (jf false false) R Q m){f:Int}{r:(List (List Int))×(List Bool)}(o:sw N m f=some r):CallP prog 74 #[Q,(vi f)] R (fun v R'=> ∃ u0 u1,v= .tuple #[u0,u1]∧VRep (tSl true (tSl false (zz .i64))) R' u0 r.1∧VRep (tSl true x9) R' u1 r.2):=by
 refine qo (args:=[Q,(vi f)]) func74 rfl rfl fun A=>?_;rw [sw] at o;refine zt (vo (T:=(jf false false)) rfl rfl rfl S fun v1 R3 U h5 h2=>?_);refine zn vs0 (zn vs0 (j5 (ku rfl pg vv rfl h2 fun v6 h7=>?_)));refine j4 rfl z3k rfl h7 fun v8 h9=>?_
 refine zi (qz rfl underlying25 rfl (jd h9)) ?_;obtain⟨E,o⟩:=ze o;refine z1r (T:=(tSl false (zz .i64))) (m:=(↑m.rows.length:Int).toNat) (c:=(↑m.rows.length:Int).toNat) rfl underlying30 zp1 (zb rfl E.1) (zb rfl E.1) (Nat.le_refl _) (z2w E) (z2v E) fun h aE V aF=>?_
 refine zn h (j5 (ku rfl pg vv rfl h2 fun bg aG=>?_));refine j4 rfl z3k rfl aG fun bh aH=>?_;refine zi (qz rfl underlying25 rfl (jd aH)) ?_;obtain⟨F,o⟩:=ze o
 refine z1r (T:=x9) (m:=(↑m.rows.length:Int).toNat) (c:=(↑m.rows.length:Int).toNat) rfl underlying88 zo4 (zb rfl F.1) (zb rfl F.1) (Nat.le_refl _) (z2w F) (z2v F) fun d aI W aJ=>?_;refine zn d (z8 ?_);obtain⟨q,b,o⟩:=zu o
 refine jb (γ:=(List (List Int)×List Bool)×Frag×Frag) (rs [8,10,18,49]) (fun g=>[]) (fun g=>[g.2.1,g.2.2]++A) (fun g R=>q=g.1∧ORep (tSl false (zz .i64)) R g.2.1 h g.1.1∧capOf h=g.1.1.length∧ORep x9 R g.2.2 d g.1.2∧capOf d=g.1.2.length∧True) ?_ ?_
 refine zt (bq (T:=(zz .i64)) (X:=([]:List Int)) (ps:=[]) (css:=[]) rfl underlying36 zo3 rfl rfl (ko trivial) rfl rfl (by decide) fun Y bi Z aK=>?_);refine zn Y (z8 (q9 (mg (i:=0) rfl aK fun aL l aM=>?_)));have aN:VRep (tSl true (zz .i64)) aL Y ([]:List Int):=(z0l aM Z)
 refine kv (γ:=Nat×((List Int))×(List (List Int))×(List Bool)×Value×Frag×Frag) (rs [8,10,19,49]) (fun g=>[(8,g.2.2.2.2.1)]) (fun g=>[g.2.2.2.2.2.1,g.2.2.2.2.2.2]++A) (fun g R=>w9 N m f g.1 g.2.1 g.2.2.1 g.2.2.2.1=some q∧VRep (tSl false (zz .i64)) R g.2.2.2.2.1 g.2.1∧ORep (tSl false (zz .i64)) R g.2.2.2.2.2.1 h g.2.2.1∧capOf h=g.2.2.1.length∧ORep x9 R g.2.2.2.2.2.2 d g.2.2.2.1∧capOf d=g.2.2.2.1.length∧True) (fun g=>g.1) (N,[],(mk (↑m.rows.length:Int) ([]:List Int)),(mk (↑m.rows.length:Int) false),Y,aE,aI) ⟨[],(pk 1 rfl (pk 0 rfl (List.Perm.refl _)))⟩ ⟨b,(Sub.v (B:=(tSl false (zz .i64))) (uh Sub.refl (fun _=>rfl)) aN),(aF.mono l),(V.trans List.length_replicate.symm),(aJ.mono l),(W.trans List.length_replicate.symm),trivial⟩ ?_
 clear b;rintro⟨G,ac,H,I,K,ad,ae⟩ a5 bj n ⟨b,L,M,t,s,u,_⟩;rcases G with _|G;exact qy b;replace b:w9 N m f (G+1) ac H I=some q:=b;rw [w9] at b
 refine zy (zt (zl K (zi (qz rfl underlying36 rfl (jd L)) (ku rfl pg vv rfl (h2.mono (l.trans n)) fun bk aO=>?_))));refine j4 rfl z3k rfl aO fun bl aP=>?_;refine zi (qz rfl underlying25 rfl (jd aP)) (zi (jh rfl rfl) (z8 (qa rfl b (fun b=>?_) (fun b=>?_))));refine qc ?_
 obtain⟨O,k,b⟩:=zu b;refine jb (γ:=(List (List Int)×List Bool)×Frag×Frag) (rs [9,10,29,49]) (fun g=>[]) (fun g=>[g.2.1,g.2.2]++A) (fun g R=>O=g.1∧ORep (tSl false (zz .i64)) R g.2.1 h g.1.1∧capOf h=g.1.1.length∧ORep x9 R g.2.2 d g.1.2∧capOf d=g.1.2.length∧True) ?_ ?_
 refine q9 (zt (zi (jo z0z rfl rfl (h5.mono (l.trans n)) (S.mono ((U.trans l).trans n))) (zl (vi f) (zl K ?_))));obtain⟨e,aQ,k⟩:=zu k;refine jl rfl q29 rfl (zbj (S.mono ((U.trans l).trans n)) L aQ) fun bm bn a aR=>?_;obtain rfl:=aR
 refine zn (vi e) (j5 (ji (v:=(vi e)) rfl (zf rfl) (ji rfl (z6p rfl rfl) (ji (v:=(.bool (decide (0≤e)))) rfl (zf rfl) (j6 rfl rfl rfl rfl (fun w=>qi (v:=d) (zf rfl)) fun bo aS=>?_)))));refine j6 rfl rfl rfl rfl (fun w=>qi (v:=(vi e)) (zf rfl)) fun bp aT=>?_;obtain⟨aa,k⟩:=ze k
 refine j6 rfl rfl rfl rfl (fun w=>lg (i:=e.toNat) z7k (aS.1 (zk rfl w)) (s.mono a) (zb (aT.1 (zk rfl w)) (aa (zk rfl w)).1) (zm (aa (zk rfl w)))) fun br aU=>?_
 refine j6 rfl rfl rfl rfl (fun w=>qi (zll (z7h (i:=e.toNat) (j:=1) ty4 (s.mono a) rfl rfl (aU.1 (zk rfl w)) (zm (aa (zk rfl w)))))) fun bs aV=>?_;refine j6 rfl rfl rfl rfl (fun w=>qi (p9 (aV.1 (zk rfl w)))) fun bt aW=>?_
 refine ji rfl (y5 rfl (fun hb=>(aW.1 (zk rfl hb))) rfl) (z8 (qa rfl k (fun k=>?_) (fun k=>?_)));refine zt (zl d (zl (vi e) ?_));obtain⟨ab,k⟩:=ze k;refine kg (i:=e.toNat) rfl z7k rfl (s.mono a) (zb rfl ab.1) (zm ab) fun bv af=>?_
 refine gm (i:=e.toNat) (j:=1) ty4 (s.mono a) rfl rfl af (zm ab) rfl (yl.2 rfl) fun ag ah=>?_;refine z8 (zq (zl h (zl (vi e) (zl K ?_))));obtain⟨x,k⟩:=ze k;refine kg (i:=e.toNat) rfl z7i rfl (M.mono a) (zb rfl x.1) (zm x) fun a6 ai=>?_
 refine gm (i:=e.toNat) (j:=0) z7l (M.mono a) rfl rfl ai (zm x) rfl (L.mono a) fun aj ak=>?_;refine z8 ?_;exact⟨dkt,a,jm,(((up H e ac),(up I e true)),aj,ag),trivial,prm,(Option.some.inj k).symm,ak,(t.trans List.length_set.symm),ah,(u.trans List.length_set.symm),trivial⟩;refine qc ?_
 exact⟨dkt,a,jm,((H,I),ad,ae),trivial,prm,(Option.some.inj k).symm,(M.mono a),t,(s.mono a),u,trivial⟩;rintro⟨O,aX,aY⟩ a7 bw y ⟨rfl,aZ,al,a0,am,_⟩;refine zq (zl K (ku rfl z3l z1d rfl (h2.mono ((l.trans n).trans y)) fun a8 an=>?_));refine j4 rfl ty3 rfl an fun a9 ao=>?_
 obtain rfl:=qh.1 ao;obtain⟨ap,aq,b⟩:=zu b;refine jl rfl q2l rfl (zcl (L.mono y) aq) fun P ba p ar=>?_;refine zn P (z8 ?_);exact⟨dkt,(y.trans p),jm,(G,ap,O.1,O.2,P,aX,aY),Nat.lt_succ_self _,⟨rfl,trivial⟩,prm,b,ar,(aZ.mono p),al,(a0.mono p),am,trivial⟩
 refine jk ?_;exact⟨dkt,(l.trans n),jm,((H,I),ad,ae),trivial,prm,(Option.some.inj b).symm,M,t,s,u,trivial⟩;rintro⟨q,bx,bz⟩ bb bA au ⟨rfl,a1,av,a2,aw,_⟩;refine zt (zl h (zl d (zn h (zn d (z8 (mg (i:=0) rfl a1 fun ax z ay=>?_))))))
 have az:VRep (tSl true (tSl false (zz .i64))) ax h q.1:=(z0l ay av);refine mg (i:=0) rfl (a2.mono z) fun aA C aB=>?_;have aC:VRep (tSl true x9) aA d q.2:=(z0l aB aw);refine qw ?_;obtain rfl:=Option.some.inj o
 refine qg (D:=[]) (J:=[]) (rs:=[.tmp 4,.tmp 5]) (vs:=[h,d]) (((U.trans au).trans z).trans C) rfl rfl ⟨rfl,rfl,trivial⟩ ?_;exact⟨rfl,⟨h,d,rfl,(az.mono C),aC⟩⟩
theorem q3p:Enters prog 74:=enters_of func74 rfl (by kernel_rfl)
theorem zax{N:Nat}{R:RH}{m:Mach}{b:Value}(c:VRep (jf false false) R b m){r:(List (List Int))×(List Bool)}(a:z0e N m=some r):CallP prog 61 #[b] R (fun v R'=> ∃ j k,v= .tuple #[j,k]∧VRep (tSl true (tSl false (zz .i64))) R' j r.1∧VRep (tSl true x9) R' k r.2):=by
 refine qo (args:=[b]) func61 rfl rfl fun A=>?_;rw [z0e] at a;refine zt (vo (T:=(jf false false)) rfl rfl rfl c fun q s d l t=>?_);refine zn vs0 (zn vs0 (j5 (zi (jo z0z rfl rfl l (c.mono d)) ?_)));obtain⟨u,n,a⟩:=zu a
 refine jl rfl q3p rfl (zbl (c.mono d) n) fun w o g p=>?_;obtain⟨e,f,rfl,h,i⟩:=p;refine zi (jv rfl rfl) (zi (jv rfl rfl) (zn e (zn f (z8 (qw ?_)))));obtain rfl:=Option.some.inj a
 refine qg (D:=[]) (J:=[]) (rs:=[.tmp 2,.tmp 3]) (vs:=[e,f]) (d.trans g) rfl rfl ⟨rfl,rfl,trivial⟩ ?_;exact⟨rfl,⟨e,f,rfl,h,i⟩⟩
theorem q3o:Enters prog 61:=enters_of func61 rfl (by kernel_rfl)
theorem zc9{N:Nat}{R:RH}{a:(List Int)}{f:Value}(l:VRep (tSl false (zz .i64)) R f a){b:(List Int)}{j:Value}(m:VRep (tSl false (zz .i64)) R j b){r:Int}(d:ah N a b=some r):CallP prog 62 #[f,j] R (fun v R'=>v=(vi r)):=by
 refine qo (args:=[f,j]) func62 rfl rfl fun A=>?_;rw [ah] at d;refine zt (zn (vi 0) (z8 (zy (zt (zl f (zi (qz rfl underlying36 rfl (jd l)) (zl j (zi (qz rfl underlying36 rfl (jd m)) (zi (tu rfl rfl) (z8 (qa rfl d (fun d=>?_) (fun d=>?_))))))))))))
 refine zy (zt (zl f (zi (qz rfl underlying36 rfl (jd l)) (zl j (zi (qz rfl underlying36 rfl (jd m)) (zi (jh rfl rfl) (z8 (qa rfl d (fun d=>?_) (fun d=>?_)))))))));refine zt (zn (vi 1) (z8 (qw ?_)));obtain rfl:=Option.some.inj d
 refine qg (D:=[]) (J:=[]) (rs:=[.tmp 4]) (vs:=[(vi 1)]) (RH.le.refl _) rfl rfl ⟨rfl,trivial⟩ ?_;exact⟨rfl,rfl⟩;refine qc (zt (zn (vi 0) (z8 (qw ?_))));obtain rfl:=Option.some.inj d;refine qg (D:=[]) (J:=[]) (rs:=[.tmp 4]) (vs:=[(vi 0)]) (RH.le.refl _) rfl rfl ⟨rfl,trivial⟩ ?_;exact⟨rfl,rfl⟩;refine qc ?_
 obtain⟨u,c,d⟩:=zu d;refine jb (γ:=Unit) (rs [4,6,16,40]) (fun g=>[]) (fun g=>[]++A) (fun g R=>u=Ex.go g∧True) ?_ ?_
 refine zt (zn (vi 0) (z8 (q9 (kv (γ:=Nat×Int) (rs [4,6,16,40]) (fun g=>[(5,(vi g.2))]) (fun g=>[]++A) (fun g R=>xq N a b g.1 g.2=some u∧True) (fun g=>g.1) (N,0) prm ⟨c,trivial⟩ ?_))));clear c;rintro⟨t,k⟩ E O e ⟨c,_⟩;rcases t with _|t;exact qy c
 replace c:xq N a b (t+1) k=some u:=c;rw [xq] at c;refine zy (zt (zl (vi k) (zl f (zi (qz rfl underlying36 rfl (jd (l.mono e))) (zi (jh rfl rfl) (z8 (qa rfl c (fun c=>?_) (fun c=>?_))))))))
 refine qc (zy (q9 (zy (z0h 9 mixed (by kernel_rfl) (by kernel_rfl) ?_))));refine jq (v:=f) (zf rfl) ?_;refine jq (v:=(vi k)) (zf rfl) ?_;obtain⟨o,c⟩:=ze c;refine dx (ut (i:=k.toNat) bu rfl (jd (l.mono e)) (zb rfl o.1) (zm o)) fun F w=>?_;refine jq (xg (kz ty3 rfl w)) ?_
 refine jq (v:=j) (zf rfl) ?_;refine jq (v:=(vi k)) (zf rfl) ?_;obtain⟨p,c⟩:=ze c;refine dx (ut (i:=k.toNat) bu rfl (jd (m.mono e)) (zb rfl p.1) (zm p)) fun G x=>?_;refine jq (xg (kz ty3 rfl x)) ?_;refine jq (tu rfl rfl) ?_;intro H h
 refine z8 (qa rfl c (fun c=>?_) (fun c=>?_));refine zy (zy (z0h 9 mixed (by kernel_rfl) (by kernel_rfl) ?_));refine jq (v:=f) (zf rfl) ?_;refine jq (v:=(vi k)) (zf rfl) ?_;obtain⟨q,c⟩:=ze c
 refine dx (ut (i:=k.toNat) bu rfl (jd (l.mono (e.trans h))) (zb rfl q.1) (zm q)) fun I y=>?_;refine jq (xg (kz ty3 rfl y)) ?_;refine jq (v:=j) (zf rfl) ?_;refine jq (v:=(vi k)) (zf rfl) ?_;obtain⟨s,c⟩:=ze c
 refine dx (ut (i:=k.toNat) bu rfl (jd (m.mono (e.trans h))) (zb rfl s.1) (zm s)) fun K z=>?_;refine jq (xg (kz ty3 rfl z)) ?_;refine jq (jh rfl rfl) ?_;intro L n;refine z8 (qa rfl c (fun c=>?_) (fun c=>?_));refine zt (zn (vi 1) (z8 (qw ?_)));replace d:=z2h c d
 obtain rfl:=Option.some.inj d;refine qg (D:=[]) (J:=[]) (rs:=[.tmp 4]) (vs:=[(vi 1)]) ((e.trans h).trans n) rfl rfl ⟨rfl,trivial⟩ ?_;exact⟨rfl,rfl⟩;refine qc (zt (zn (vi 0) (z8 (qw ?_))));replace d:=z2h c d;obtain rfl:=Option.some.inj d
 refine qg (D:=[]) (J:=[]) (rs:=[.tmp 4]) (vs:=[(vi 0)]) ((e.trans h).trans n) rfl rfl ⟨rfl,trivial⟩ ?_;exact⟨rfl,rfl⟩;refine qc (zq (zl (vi k) ?_));obtain⟨B,c⟩:=ze c;refine zi (jg rfl rfl B) (zn (vi (k+1)) (z8 ?_))
 exact⟨dkt,h,jm,(t,k+1),Nat.lt_succ_self _,⟨rfl,trivial⟩,prm,c,trivial⟩;refine jk ?_;exact⟨dkt,e,jm,(),trivial,prm,(Option.some.inj c).symm,trivial⟩;rintro P M Q C ⟨rfl,_⟩;replace d:=z10 d;refine zt (zn (vi 0) (z8 (qw ?_)));obtain rfl:=Option.some.inj d
 refine qg (D:=[]) (J:=[]) (rs:=[.tmp 4]) (vs:=[(vi 0)]) C rfl rfl ⟨rfl,trivial⟩ ?_;exact⟨rfl,rfl⟩
theorem q2m:Enters prog 62:=enters_of func62 rfl (by kernel_rfl)
theorem zbm{N:Nat}{R:RH}{m:Mach}{ah:Value}(ai:VRep (jf false false) R ah m){r:(List Int)}(H:z0r N m=some r):CallP prog 34 #[ah] R (fun v R'=>VRep (tSl false (zz .i64)) R' v r):=by
 refine qo (args:=[ah]) func34 rfl rfl fun A=>?_;rw [z0r] at H;refine zt (vo (T:=(jf false false)) rfl rfl rfl ai fun v1 R3 aj h5 h2=>?_);refine zn vs0 (j5 (zi (jo z0z rfl rfl h5 (ai.mono aj)) ?_));obtain⟨U,c7,H⟩:=zu H
 refine jl rfl q3o rfl (zax (ai.mono aj) c7) fun v8 bw ar h9=>?_;obtain⟨C,ak,rfl,al,aV⟩:=h9;refine zl (.tuple #[C,ak]) (zi (jv rfl rfl) (zi (jv rfl rfl) (zn C (zn ak (j5 (zn vs0 (z8 ?_)))))));obtain⟨K,n,H⟩:=zu H
 refine jb (γ:=(List Int)×Value×Frag) (rs [5,9,14,60]) (fun g=>[(5,g.2.1)]) (fun g=>[g.2.2]++A) (fun g R=>K=g.1∧ORep (zz .i64) R g.2.2 g.2.1 g.1∧True) ?_ ?_;refine zt (zn (vi 0) (z8 (q9 (z5j ?_))))
 refine kv (γ:=Nat×(List Int)×Int×Value×Frag) (rs [5,9,14,60]) (fun g=>[(5,g.2.2.2.1),(6,(vi g.2.2.1))]) (fun g=>[g.2.2.2.2]++A) (fun g R=>yn N U g.1 g.2.1 g.2.2.1=some K∧ORep (zz .i64) R g.2.2.2.2 g.2.2.2.1 g.2.1∧True) (fun g=>g.1) (N,[],0,vs0,emp) prm ⟨n,(z1w (T:=(zz .i64))),trivial⟩ ?_;clear n
 rintro⟨M,a,d,q,O⟩ ba bz z ⟨n,I,_⟩;rcases M with _|M;exact qy n;replace n:yn N U (M+1) a d=some K:=n;rw [yn] at n
 refine zy (zt (zl (vi d) (zl C (zi (qz rfl underlying30 rfl (jd (al.mono z))) (zi (jh rfl rfl) (z8 (qa rfl n (fun n=>?_) (fun n=>?_))))))));refine qc ?_;obtain⟨am,e,n⟩:=zu n
 refine jb (γ:=(List Int)×Value×Frag) (rs [5,6,7,9,20,60]) (fun g=>[(5,g.2.1)]) (fun g=>[g.2.2]++A) (fun g R=>am=g.1∧ORep (zz .i64) R g.2.2 g.2.1 g.1∧True) ?_ ?_;refine q9 (zy (zt (zl ak (zl (vi d) ?_))));obtain⟨au,e⟩:=ze e
 refine yj (i:=d.toNat) rfl z7k rfl (jd (aV.mono z)) (zb rfl au.1) (zm au) fun bA aW=>?_;refine j4 rfl ty4 rfl aW fun bB aX=>?_;obtain rfl:=yl.1 aX;refine zi (p9 rfl) (z8 (qa rfl e (fun e=>?_) (fun e=>?_)));refine jk ?_
 exact⟨dkt,(RH.le.refl _),jm,(a,q,O),⟨rfl,trivial⟩,prm,(Option.some.inj e).symm,I,trivial⟩;refine qc (zt (zn (vi 0) (z8 ?_)));obtain⟨f,k,e⟩:=zu e;refine jb (γ:=Int) (rs [7,8,25,46]) (fun g=>[(7,(vi g))]) (fun g=>[O]++A) (fun g R=>f=g∧True) ?_ ?_
 refine q9 (kv (γ:=Nat×Int) (rs [7,8,25,46]) (fun g=>[(7,(vi g.2))]) (fun g=>[O]++A) (fun g R=>yo N U a d g.1 g.2=some f∧True) (fun g=>g.1) (N,0) prm ⟨k,trivial⟩ ?_);clear k;rintro⟨P,b⟩ bb bC t ⟨k,_⟩;rcases P with _|P;exact qy k
 replace k:yo N U a d (P+1) b=some f:=k;rw [yo] at k;refine zy (zy ?_);obtain⟨an,av,aw,k⟩:=zva k;obtain⟨L,aY,k⟩:=zu k
 refine mh 19 [] [phX (vi b),phX q,phX (vi (↑a.length:Int)),phX (.bool (decide (b<(↑a.length:Int)))),phX (.bool (decide (b<(↑a.length:Int)))),phG (true&&((decide (b<(↑a.length:Int)))==true)) (phX C),phG (true&&((decide (b<(↑a.length:Int)))==true)) (phX q),phG (true&&((decide (b<(↑a.length:Int)))==true)) (phX (vi b)),phG (true&&((decide (b<(↑a.length:Int)))==true)) ((fun u _=>z0w (zz .i64) q a u b.toNat)),phG (true&&((decide (b<(↑a.length:Int)))==true)) (phX (vi (ix a b))),phG (true&&((decide (b<(↑a.length:Int)))==true)) (phP (tSl false (zz .i64)) (ix U.1 (ix a b))),phG (true&&((decide (b<(↑a.length:Int)))==true)) (phR (tSl false (zz .i64)) (ix U.1 (ix a b))),phG (true&&((decide (b<(↑a.length:Int)))==true)) (phX C),phG (true&&((decide (b<(↑a.length:Int)))==true)) (phX (vi d)),phG (true&&((decide (b<(↑a.length:Int)))==true)) (phP (tSl false (zz .i64)) (ix U.1 d)),phG (true&&((decide (b<(↑a.length:Int)))==true)) (phR (tSl false (zz .i64)) (ix U.1 d)),phG (true&&((decide (b<(↑a.length:Int)))==true)) (phX (vi (L.getD default))),phG (true&&((decide (b<(↑a.length:Int)))==true)) (phX (.bool (decide ((L.getD default)=1)))),phX (.bool ((decide (b<(↑a.length:Int)))&&(decide ((L.getD default)=1))))] mixed (by kernel_rfl) (pq ⟨zo,zo,zo,zo,zo,(qp zo),(qp zo),(qp zo),(qp (fun _ _ _ _ h=>h)),(qp zo),(qp dw),(qp o5),(qp zo),(qp zo),(qp dw),(qp o5),(qp zo),(qp zo),zo,trivial⟩) ⟨?_,?_,?_,?_,?_,?_,?_,?_,?_,?_,?_,?_,?_,?_,?_,?_,?_,?_,?_,trivial⟩ fun bD V=>?_
 intro l bE c s hd;exact za rfl rfl rfl (zw (zf (s 7 rfl)));intro l bG c s hd;exact za rfl rfl rfl (zw (zf (s 5 rfl)));rintro l bH c s ⟨o,_⟩;exact za rfl rfl rfl (zw (mq rfl underlying36 (o rfl) ((I.mono t).mono c)));rintro l bI c s ⟨o,x,_⟩;exact za rfl rfl rfl (zw (jh (o rfl) (x rfl)))
 rintro l bJ c s ⟨o,_⟩;exact za rfl rfl rfl (zw (zf (o rfl)));rintro l bK c s ⟨o,_⟩;exact zx (Gj:=true) (Bj:=decide (b<(↑a.length:Int))) rfl rfl rfl (uj (o rfl)) rfl (fun w p=>zw (zf (s 3 rfl)));rintro l bL c s ⟨o,_⟩
 exact zx (Gj:=true) (Bj:=decide (b<(↑a.length:Int))) rfl rfl rfl (uj (o rfl)) rfl (fun w p=>zw (zf (s 5 rfl)));rintro l bM c s ⟨o,_⟩;exact zx (Gj:=true) (Bj:=decide (b<(↑a.length:Int))) rfl rfl rfl (uj (o rfl)) rfl (fun w p=>zw (zf (s 7 rfl)));rintro l bN c s ⟨o,x,d2,_⟩
 exact zx (Gj:=true) (Bj:=decide (b<(↑a.length:Int))) rfl rfl rfl (uj (d2 rfl)) rfl (fun w p=>fw (i:=b.toNat) bu (show l 31=q from(o rfl).1 (zk rfl p)) ((I.mono t).mono c) (zb (show l 32=(vi b) from(x rfl).1 (zk rfl p)) (an (zk w p)).1) (zm (an (zk w p))));rintro l bO c s ⟨o,x,_⟩
 exact zx (Gj:=true) (Bj:=decide (b<(↑a.length:Int))) rfl rfl rfl (uj (x rfl)) rfl (fun w p=>uf (z8f (i:=b.toNat) (j:=0) ty3 ((I.mono t).mono c) rfl rfl ((o rfl).1 (zk rfl p)) (zm (an (zk w p)))) (fun _ _ h=>qh.1 h));rintro l bc c s ⟨o,x,d2,_⟩
 exact zx (Gj:=true) (Bj:=decide (b<(↑a.length:Int))) rfl rfl rfl (uj (d2 rfl)) rfl (fun w p=>ou (i:=(ix a b).toNat) z7i (show l 30=C from(o rfl).1 (zk rfl p)) (jd ((al.mono (z.trans t)).mono c)) (zb (show l 34=(vi (ix a b)) from(x rfl).1 (zk rfl p)) (av (zk w p)).1) (zm (av (zk w p))))
 rintro l be c s ⟨o,x,_⟩;exact zx (Gj:=true) (Bj:=decide (b<(↑a.length:Int))) rfl rfl rfl (uj (x rfl)) rfl (fun w p=>ul z7l rfl ((o rfl).1 (zk rfl p)));rintro l bf c s ⟨o,_⟩;exact zx (Gj:=true) (Bj:=decide (b<(↑a.length:Int))) rfl rfl rfl (uj (o rfl)) rfl (fun w p=>zw (zf (s 3 rfl)))
 rintro l bg c s ⟨o,_⟩;exact zx (Gj:=true) (Bj:=decide (b<(↑a.length:Int))) rfl rfl rfl (uj (o rfl)) rfl (fun w p=>zw (zf (s 6 rfl)));rintro l bh c s ⟨o,x,d2,_⟩
 exact zx (Gj:=true) (Bj:=decide (b<(↑a.length:Int))) rfl rfl rfl (uj (d2 rfl)) rfl (fun w p=>ou (i:=d.toNat) z7i (show l 37=C from(o rfl).1 (zk rfl p)) (jd ((al.mono (z.trans t)).mono c)) (zb (show l 38=(vi d) from(x rfl).1 (zk rfl p)) (aw (zk w p)).1) (zm (aw (zk w p))))
 rintro l bi c s ⟨o,x,_⟩;exact zx (Gj:=true) (Bj:=decide (b<(↑a.length:Int))) rfl rfl rfl (uj (x rfl)) rfl (fun w p=>ul z7l rfl ((o rfl).1 (zk rfl p)));rintro l bj c s ⟨o,x,d2,d3,_⟩
 exact zx (Gj:=true) (Bj:=decide (b<(↑a.length:Int))) rfl rfl rfl (uj (d2 rfl)) rfl (fun w p=>vk (vs:=[(l 36),(l 40)]) q2m rfl ((by have aZ:=(sj aY (zk w p));exact zc9 ((o rfl).1 (zk rfl p)) ((x rfl).1 (zk rfl p)) aZ)) (fun _ _ h=>h));rintro l bk c s ⟨o,x,_⟩
 exact zx (Gj:=true) (Bj:=decide (b<(↑a.length:Int))) rfl rfl rfl (uj (x rfl)) rfl (fun w p=>zw (xe (show l 41=(vi (L.getD default)) from(o rfl).1 (zk rfl p)) rfl));rintro l bl c s ⟨o,x,_⟩
 exact za rfl rfl rfl (zw (y5 (o rfl) (fun hb=>(show l 42=(.bool (decide ((L.getD default)=1))) from(x rfl).1 (zk rfl hb))) rfl));intro bQ a0 bR a1 bS a2 bT a3 bU a4 bV bW bX bY bZ b0 b1 b2 b3 b4 b5 b6 b7 b8 b9 ca cb cc cd ce cf cg ch ci cj ck cl a5;obtain rfl:=Eq.symm a0;obtain rfl:=Eq.symm a1;obtain rfl:=Eq.symm a2
 obtain rfl:=Eq.symm a3;obtain rfl:=Eq.symm a4;obtain rfl:=Eq.symm a5;refine z8 (qa rfl k (fun k=>?_) (fun k=>?_));refine qc (q9 (zq (zl (vi b) ?_)));obtain⟨ax,k⟩:=ze k;refine zi (jg rfl rfl ax) (zn (vi (b+1)) (z8 ?_))
 exact⟨dkt,V,jm,(P,b+1),Nat.lt_succ_self _,⟨rfl,trivial⟩,prm,k,trivial⟩;refine jk ?_;exact⟨dkt,(t.trans V),jm,b,⟨rfl,trivial⟩,prm,(Option.some.inj k).symm,trivial⟩;rintro f bm cm W ⟨rfl,_⟩
 refine zt (zn vs0 (j5 (zl vs0 (zl q (zl (vi f) (uk (i:=0) rfl (I.mono W) fun Z ap ay=>?_))))));have E:VRep (tSl false (zz .i64)) Z q a:=(z5z ay);obtain⟨F,e⟩:=ze e
 refine zcs (v:=q) (lo:=(0:Int).toNat) (hi:=f.toNat) (mx:=(capOf q)) rfl bu rfl (jd E) (.inl ⟨rfl,rfl⟩) (.inr ⟨_,congrArg some (zb rfl (zgj F))⟩) (.inl ⟨rfl,rfl⟩) (zgf F) (z7q F) (Nat.le_trans (z7q F) (zs3 (jd E))) (Nat.le_refl _) (X':=(cut a 0 f)) rfl fun az aA aT=>?_
 have aB:VRep (tSl false (zz .i64)) Z az (cut a 0 f):=z5z aA;refine q0b ?_;obtain⟨aa,e⟩:=ze e;refine pz (i:=0) (X:=([]:List Int)) (Y:=(cut a 0 f)) rfl underlying36 zo3 rfl rfl rfl (z1w (T:=(zz .i64))) (jd aB) aa.1 aa.2 fun ab bn aC=>?_
 refine zn ab (j5 (zl ab (zl (vi d) (bq (T:=(zz .i64)) (X:=([d]:List Int)) (ps:=[(0,(vi d))]) (css:=[[(vi d)]]) rfl underlying36 zo3 rfl rfl (ko ⟨rfl,trivial⟩) rfl rfl (by decide) fun aD bo Q aE=>?_))));refine uk (i:=0) rfl aE fun ac y aF=>?_
 have aG:VRep (tSl true (zz .i64)) ac aD ([d]:List Int):=(z0l aF Q);obtain⟨ad,e⟩:=ze e;refine pz (i:=0) (X:=(([]:List Int)++(cut a 0 f))) (Y:=([d]:List Int)) rfl underlying36 zo3 rfl rfl rfl (aC.mono y) (jd (Sub.v (B:=(tSl false (zz .i64))) (uh Sub.refl (fun _=>rfl)) aG)) ad.1 ad.2 fun ae bp aH=>?_
 refine zn ae (z8 (zq (zl ae (zl q (zl (vi f) ?_)))));obtain⟨G,e⟩:=ze e
 refine zcs (v:=q) (lo:=f.toNat) (hi:=(↑a.length:Int).toNat) (mx:=(capOf q)) rfl bu rfl (jd (E.mono y)) (.inr ⟨_,congrArg some (zb rfl G.1)⟩) (.inl ⟨rfl,rfl,rfl⟩) (.inl ⟨rfl,rfl⟩) (zgf G) (z7q G) (Nat.le_trans (z7q G) (zs3 (jd (E.mono y)))) (Nat.le_refl _) (X':=(cut a f (↑a.length:Int))) rfl fun aI aJ aU=>?_
 have aK:VRep (tSl false (zz .i64)) ac aI (cut a f (↑a.length:Int)):=z5z aJ;obtain⟨af,e⟩:=ze e;refine pz (i:=0) (X:=((([]:List Int)++(cut a 0 f))++([d]:List Int))) (Y:=(cut a f (↑a.length:Int))) rfl underlying36 zo3 rfl rfl rfl aH (jd aK) af.1 af.2 fun ag aL aM=>?_;refine zn ag (z8 ?_)
 exact⟨dkt,((W.trans ap).trans y),jm,((((([]:List Int)++(cut a 0 f))++([d]:List Int))++(cut a f (↑a.length:Int))),ag,aL),⟨rfl,trivial⟩,prm,(Option.some.inj e).symm,aM,trivial⟩;rintro⟨am,a6,a7⟩ br cn aN ⟨rfl,a8,_⟩;refine zq (zl (vi d) ?_);obtain⟨aO,n⟩:=ze n
 refine zi (jg rfl rfl aO) (zn (vi (d+1)) (z8 ?_));exact⟨dkt,aN,jm,(M,am,d+1,a6,a7),Nat.lt_succ_self _,⟨rfl,rfl,trivial⟩,prm,n,a8,trivial⟩;refine jk ?_;exact⟨dkt,z,jm,(a,q,O),⟨rfl,trivial⟩,prm,(Option.some.inj n).symm,I,trivial⟩;rintro⟨K,S,co⟩ bs cp aP ⟨rfl,a9,_⟩
 refine zt (zl S (zn S (z8 (mg (i:=0) rfl a9 fun aQ aq aR=>?_))));have aS:VRep (tSl false (zz .i64)) aQ S K:=(z5z aR);refine qw ?_;obtain rfl:=Option.some.inj H;refine qg (D:=[]) (J:=[]) (rs:=[.tmp 2]) (vs:=[S]) (((aj.trans ar).trans aP).trans aq) rfl rfl ⟨rfl,trivial⟩ ?_;exact⟨rfl,aS⟩
theorem zc7{N:Nat}{R:RH}{m:Mach}{ap:Value}(a4:VRep (jf false false) R ap m){f:(List Int)}{k:Value}(z:VRep (tSl false (zz .i64)) R k f){r:Mach}(U:lh N m f=some r):CallP prog 33 #[ap,k] R (fun v R'=>VRep (jf false false) R' v r):=by
 refine qo (args:=[ap,k]) func33 rfl rfl fun A=>?_;rw [lh] at U;refine zt (vo (T:=(jf false false)) rfl rfl rfl a4 fun v1 R3 H h5 h2=>?_);refine jc rfl zid fun b6=>?_;refine j5 (ku rfl z3l z1d rfl h2 fun v8 h9=>?_);refine j4 rfl ty3 rfl h9 fun bz a5=>?_;obtain rfl:=qh.1 a5
 refine ku rfl zlm zez rfl h2 fun bA a6=>?_;refine j4 rfl ty3 rfl a6 fun bB a7=>?_;obtain rfl:=qh.1 a7;refine zi (kw (ps:=[(0,(vi m.inputs)),(1,(vi m.outputs))]) (v:=(.agg #[(vi m.inputs),(vi m.outputs),vs0])) rfl (fun w=>by kernel_rfl)) (jc rfl zid fun t=>?_)
 refine qm (i:=0) (vs:=[(vi m.inputs),(vi m.outputs),vs0]) z5h rfl rfl rfl rfl rfl rfl (qb rfl (qb rfl (qb rfl j3))) ?_;refine z8 ?_;obtain⟨E,d,U⟩:=zu U
 refine jb (γ:=(List (List Edge))×Value×Frag) (rs [6,12,17,67]) (fun g=>[]) (fun g=>[box b6 [(vi 0),(vi 0),vs0] 27,box t [(vi m.inputs),(vi m.outputs),g.2.1] 27,g.2.2]++A) (fun g R=>E=g.1∧ORep (tSl false kEdge) R g.2.2 g.2.1 g.1∧True) ?_ ?_;refine zt (zn (vi 0) (z8 (q9 (z5j ?_))))
 refine kv (γ:=Nat×Int×(List (List Edge))×Value×Frag) (rs [6,12,17,67]) (fun g=>[(6,(vi g.2.1))]) (fun g=>[box b6 [(vi 0),(vi 0),vs0] 27,box t [(vi m.inputs),(vi m.outputs),g.2.2.2.1] 27,g.2.2.2.2]++A) (fun g R=>xx N m f g.1 g.2.1 g.2.2.1=some E∧ORep (tSl false kEdge) R g.2.2.2.2 g.2.2.2.1 g.2.2.1∧True) (fun g=>g.1) (N,0,[],vs0,emp) ⟨[],(pk 2 rfl (pk 1 rfl (pk 0 rfl (List.Perm.refl _))))⟩ ⟨d,(z1w (T:=(tSl false kEdge))),trivial⟩ ?_
 clear d;rintro⟨V,a,W,F,u⟩ bi bC n ⟨d,aw,_⟩;rcases V with _|V;exact qy d;replace d:xx N m f (V+1) a W=some E:=d;rw [xx] at d
 refine zy (zt (zl (vi a) (zl k (zi (qz rfl underlying36 rfl (jd (z.mono (H.trans n)))) (zi (jh rfl rfl) (z8 (qa rfl d (fun d=>?_) (fun d=>?_))))))));refine qc (zy (q9 (zt (zn vs0 (z8 ?_)))));obtain⟨s,c,d⟩:=zu d
 refine jb (γ:=(List Edge)×Value×Frag) (rs [7,12,23,61]) (fun g=>[(7,g.2.1)]) (fun g=>[box b6 [(vi 0),(vi 0),vs0] 27,box t [(vi m.inputs),(vi m.outputs),F] 27,u,g.2.2]++A) (fun g R=>s=g.1∧ORep kEdge R g.2.2 g.2.1 g.1∧True) ?_ ?_;refine zt (zn (vi 0) (z8 (q9 (z5j ?_))))
 refine kv (γ:=Nat×(List Edge)×Int×Value×Frag) (rs [7,12,23,61]) (fun g=>[(7,g.2.2.2.1),(8,(vi g.2.2.1))]) (fun g=>[box b6 [(vi 0),(vi 0),vs0] 27,box t [(vi m.inputs),(vi m.outputs),F] 27,u,g.2.2.2.2]++A) (fun g R=>xm N m f a g.1 g.2.1 g.2.2.1=some s∧ORep kEdge R g.2.2.2.2 g.2.2.2.1 g.2.1∧True) (fun g=>g.1) (N,[],0,vs0,emp) ⟨[],(pk 1 rfl (pk 1 rfl (pk 1 rfl (pk 0 rfl (List.Perm.refl _)))))⟩ ⟨c,(z1w (T:=kEdge)),trivial⟩ ?_
 clear c;rintro⟨Z,aa,b,ax,ab⟩ bj bD q ⟨c,ay,_⟩;rcases Z with _|Z;exact qy c;replace c:xm N m f a (Z+1) aa b=some s:=c;rw [xm] at c;refine zy (zt (zl (vi b) (ku rfl z3l z1d rfl (h2.mono (n.trans q)) fun bE a8=>?_)))
 refine j4 rfl ty3 rfl a8 fun bF a9=>?_;obtain rfl:=qh.1 a9;refine zi (jh rfl rfl) (z8 (qa rfl c (fun c=>?_) (fun c=>?_)));refine qc (zy (q9 (zy ?_)));obtain⟨az,aA,aB,c⟩:=zva c
 refine mh 12 [⟨11,[.int .i64 0,.int .i64 0],53⟩] [phP (tSl false (tSl false kEdge)) m.rows,phR (tSl false (tSl false kEdge)) m.rows,phX k,phX (vi a),phP (zz .i64) (ix f a),phX (vi (ix f a)),phP (tSl false kEdge) (ix m.rows (ix f a)),phR (tSl false kEdge) (ix m.rows (ix f a)),phX (vi b),phP kEdge (ix (ix m.rows (ix f a)) b),phX (z2r (ix (ix m.rows (ix f a)) b)),phB] mixed (by kernel_rfl) (pq ⟨dw,o5,zo,zo,dw,zo,dw,o5,zo,dw,zo,zwg,trivial⟩) ⟨?_,?_,?_,?_,?_,?_,?_,?_,?_,?_,?_,?_,trivial⟩ fun bG C=>?_
 intro l bH j x hd;exact za rfl rfl rfl (tq pg vv (x 2 rfl) ((h2.mono (n.trans q)).mono j));rintro l bI j x ⟨G,_⟩;exact za rfl rfl rfl (ul z3k rfl (G rfl));intro l bJ j x hd;exact za rfl rfl rfl (zw (zf (x 1 rfl)));intro l bK j x hd;exact za rfl rfl rfl (zw (zf (x 6 rfl)))
 rintro l bL j x ⟨G,d1,_⟩;have u:=d1 rfl;exact za rfl rfl rfl (ou (i:=a.toNat) bu (G rfl) (jd ((z.mono ((H.trans n).trans q)).mono j)) (zb u az.1) (zm az));rintro l bM j x ⟨G,_⟩;exact za rfl rfl rfl (uf (ul ty3 rfl (G rfl)) (fun _ _ h=>qh.1 h));rintro l bN j x ⟨G,d1,_⟩
 exact za rfl rfl rfl (ou (i:=(ix f a).toNat) zic rfl (jd (G rfl)) (zb (d1 rfl) aA.1) (zm aA));rintro l bO j x ⟨G,_⟩;exact za rfl rfl rfl (ul zgo rfl (G rfl));intro l bP j x hd;exact za rfl rfl rfl (zw (zf (x 8 rfl)));rintro l bQ j x ⟨G,d1,_⟩
 exact za rfl rfl rfl (ou (i:=b.toNat) zj7 rfl (jd (G rfl)) (zb (d1 rfl) aB.1) (zm aB));rintro l bk j x ⟨G,_⟩;exact za rfl rfl rfl (uf (ul zmp rfl (G rfl)) (fun _ _ h=>z2e.1 h));intro l bl j x hd;exact zju rfl rfl rfl rfl zst
 intro bR bS bT bU bV ba bW bb bX bY bZ bc b0 b1 b2 b3 b4 be b5 b7 b8 bf b9 bg;obtain rfl:=Eq.symm ba;obtain rfl:=Eq.symm bb;obtain rfl:=Eq.symm bc;obtain rfl:=Eq.symm be;obtain rfl:=Eq.symm bf;obtain⟨I,rfl⟩:=bg
 refine qm (i:=0) (vs:=[(vi ((ix (ix m.rows (ix f a)) b).to)),(vi ((ix (ix m.rows (ix f a)) b).out))]) zgr rfl rfl rfl rfl rfl rfl (qb rfl (qb rfl j3)) ?_;refine j5 (zn (vi (-1)) (z8 ?_));obtain⟨o,e,c⟩:=zu c
 refine jb (γ:=Int) (rs [10,12,40,54]) (fun g=>[(10,(vi g))]) (fun g=>[box b6 [(vi 0),(vi 0),vs0] 27,box t [(vi m.inputs),(vi m.outputs),F] 27,u,ab,box I [(vi ((ix (ix m.rows (ix f a)) b).to)),(vi ((ix (ix m.rows (ix f a)) b).out))] 53]++A) (fun g R=>o=g∧True) ?_ ?_
 refine zt (zn (vi 0) (z8 (q9 (kv (γ:=Nat×Int×Int) (rs [10,12,40,54]) (fun g=>[(10,(vi g.2.1)),(11,(vi g.2.2))]) (fun g=>[box b6 [(vi 0),(vi 0),vs0] 27,box t [(vi m.inputs),(vi m.outputs),F] 27,u,ab,box I [(vi ((ix (ix m.rows (ix f a)) b).to)),(vi ((ix (ix m.rows (ix f a)) b).out))] 53]++A) (fun g R=>xw N m f a b g.1 g.2.1 g.2.2=some o∧True) (fun g=>g.1) (N,(-1),0) ⟨[],(pk 1 rfl (pk 1 rfl (pk 1 rfl (pk 1 rfl (pk 0 rfl (List.Perm.refl _))))))⟩ ⟨e,trivial⟩ ?_))))
 clear e;rintro⟨ac,aq,p⟩ bm ca K ⟨e,_⟩;rcases ac with _|ac;exact qy e;replace e:xw N m f a b (ac+1) aq p=some o:=e;rw [xw] at e
 refine zy (zt (zl (vi p) (zl k (zi (qz rfl underlying36 rfl (jd (z.mono ((((H.trans n).trans q).trans C).trans K)))) (zi (jh rfl rfl) (z8 (qa rfl e (fun e=>?_) (fun e=>?_))))))));refine qc ?_;obtain⟨ar,y,e⟩:=zu e
 refine jb (γ:=Int) (rs [10,11,46,54]) (fun g=>[(10,(vi g))]) (fun g=>[box b6 [(vi 0),(vi 0),vs0] 27,box t [(vi m.inputs),(vi m.outputs),F] 27,u,ab,box I [(vi ((ix (ix m.rows (ix f a)) b).to)),(vi ((ix (ix m.rows (ix f a)) b).out))] 53]++A) (fun g R=>ar=g∧True) ?_ ?_
 refine q9 (zy (z0h 7 mixed (by kernel_rfl) (by kernel_rfl) ?_));refine jq (v:=k) (zf rfl) ?_;refine jq (v:=(vi p)) (zf rfl) ?_;obtain⟨ah,y⟩:=ze y;refine dx (ut (i:=p.toNat) bu rfl (jd (z.mono ((((H.trans n).trans q).trans C).trans K))) (zb rfl ah.1) (zm ah)) fun bn aD=>?_
 refine jq (xg (kz ty3 rfl aD)) ?_;refine jq (v:=(.pointer (some ⟨I,0,none⟩))) (qd z7j rfl) ?_;refine jq (v:=(vi ((ix (ix m.rows (ix f a)) b).to))) (zg (i:=4) ag3 rfl rfl rfl) ?_;refine jq (xe rfl rfl) ?_;intro bo L;refine z8 (qa rfl y (fun y=>?_) (fun y=>?_))
 refine zq (zl (vi p) (zn (vi p) (z8 ?_)));exact⟨dkt,L,jm,p,⟨rfl,trivial⟩,prm,(Option.some.inj y).symm,trivial⟩;refine qc ?_;exact⟨dkt,L,jm,aq,⟨rfl,trivial⟩,prm,(Option.some.inj y).symm,trivial⟩;rintro ar bp cb au ⟨rfl,_⟩;refine zq (zl (vi p) ?_);obtain⟨aE,e⟩:=ze e
 refine zi (jg rfl rfl aE) (zn (vi (p+1)) (z8 ?_));exact⟨dkt,au,jm,(ac,ar,p+1),Nat.lt_succ_self _,⟨rfl,rfl,trivial⟩,prm,e,trivial⟩;refine jk ?_;exact⟨dkt,K,jm,aq,⟨rfl,trivial⟩,prm,(Option.some.inj e).symm,trivial⟩;rintro o br cc ai ⟨rfl,_⟩
 refine zq (zl ax (zl (vi o) (zi (qd zp5 rfl) (zi (zg (i:=4) ag3 rfl rfl rfl) (zi (kw (ps:=[(0,(vi o)),(1,(vi ((ix (ix m.rows (ix f a)) b).out)))]) (v:=(.agg #[(vi o),(vi ((ix (ix m.rows (ix f a)) b).out))])) rfl (fun w=>by kernel_rfl)) ?_)))))
 let G1:=([(⟨o,(ix (ix m.rows (ix f a)) b).out⟩:Edge)]:List Edge)
 refine bq (T:=kEdge) (X:=G1) (ps:=[(0,(.agg #[(vi o),(vi ((ix (ix m.rows (ix f a)) b).out))]))]) (css:=[[(vi o),(vi ((ix (ix m.rows (ix f a)) b).out))]]) rfl underlying54 zj1 rfl rfl (ko ⟨⟨_,_,rfl,rfl,rfl⟩,trivial⟩) rfl rfl (by decide) fun aF bs ad aG=>?_;refine uk (i:=0) rfl aG fun aH M aI=>?_
 have aJ:VRep (tSl true kEdge) aH aF G1:=(z0l aI ad);obtain⟨aj,c⟩:=ze c;refine pz (i:=3) (X:=aa) (Y:=G1) rfl underlying54 zj1 rfl rfl rfl (ay.mono ((C.trans ai).trans M)) (jd (Sub.v (B:=(tSl false kEdge)) (uh Sub.refl (fun _=>rfl)) aJ)) aj.1 aj.2 fun ak aK aL=>?_
 refine zn ak (z8 (zq (zl (vi b) ?_)));obtain⟨aM,c⟩:=ze c;refine zi (jg rfl rfl aM) (zn (vi (b+1)) (z8 ?_))
 exact⟨dkt,((C.trans ai).trans M),jm,(Z,(aa++G1),b+1,ak,aK),Nat.lt_succ_self _,⟨rfl,rfl,trivial⟩,⟨[box I [(vi ((ix (ix m.rows (ix f a)) b).to)),(vi ((ix (ix m.rows (ix f a)) b).out))] 53],(pk 4 rfl (pk 0 rfl (pk 0 rfl (pk 0 rfl (pk 0 rfl (List.Perm.refl _))))))⟩,c,aL,trivial⟩;refine jk ?_
 exact⟨dkt,q,jm,(aa,ax,ab),⟨rfl,trivial⟩,prm,(Option.some.inj c).symm,ay,trivial⟩;rintro⟨s,ae,cd⟩ bt ce al ⟨rfl,bh,_⟩;refine zq (zi (qd pg rfl) (zi (zg (i:=1) zye rfl rfl rfl) (zl ae (uk (i:=3) rfl bh fun aN O aO=>?_))));have am:VRep (tSl false kEdge) aN ae s:=(z5z aO)
 refine bq (T:=(tSl false kEdge)) (X:=([s]:List (List Edge))) (ps:=[(0,ae)]) (css:=[[ae]]) rfl underlying25 zok rfl (by simp only [List.map_cons,List.map_nil,z13 am];rfl) (ko ⟨(u7 rfl am),trivial⟩) rfl rfl (by decide) fun aP bv af aQ=>?_;refine uk (i:=0) rfl aQ fun aR P aS=>?_
 have aT:VRep (tSl true (tSl false kEdge)) aR aP ([s]:List (List Edge)):=(z0l aS af);obtain⟨an,d⟩:=ze d
 refine pz (i:=2) (X:=W) (Y:=([s]:List (List Edge))) rfl underlying25 zok rfl rfl rfl (aw.mono ((al.trans O).trans P)) (jd (Sub.v (B:=(tSl false (tSl false kEdge))) (uh Sub.refl (fun _=>rfl)) aT)) an.1 an.2 fun ao aU Q=>?_
 refine zi (qd pg rfl) (qm (i:=1) (vs:=[ao]) q0s rfl rfl (ui Q) rfl rfl rfl (qb (uy Q) j3) ?_);refine z8 (zq (zl (vi a) ?_));obtain⟨aV,d⟩:=ze d;refine zi (jg rfl rfl aV) (zn (vi (a+1)) (z8 ?_))
 exact⟨dkt,((al.trans O).trans P),jm,(V,a+1,(W++([s]:List (List Edge))),ao,aU),Nat.lt_succ_self _,⟨rfl,trivial⟩,prm,d,Q,trivial⟩;refine jk ?_;exact⟨dkt,n,jm,(W,F,u),trivial,prm,(Option.some.inj d).symm,aw,trivial⟩;rintro⟨E,S,cf⟩ bw cg aW ⟨rfl,aX,_⟩
 refine zt (zi (nk (i:=1) zba z5h rfl rfl rfl rfl) (qm (i:=0) (vs:=[(vi m.inputs),(vi m.outputs),S]) z5h rfl rfl rfl rfl rfl rfl (qb rfl (qb rfl (qb (uy aX) j3))) ?_));refine z8 (mg (i:=2) rfl aX fun aY av aZ=>?_);have a0:VRep (tSl false (tSl false kEdge)) aY S E:=(z5z aZ)
 refine qw ?_;obtain rfl:=Option.some.inj U
 refine qg (D:=[]) (J:=[box b6 [(vi m.inputs),(vi m.outputs),S] 27,box t [(vi m.inputs),(vi m.outputs),S] 27]) (rs:=[.cell 4 27]) (vs:=[(.agg #[(vi m.inputs),(vi m.outputs),S])]) ((H.trans aW).trans av) rfl rfl ⟨⟨_,rfl,fun w hh=>z4b (i:=0) hh rfl rfl zba z5h rfl rfl⟩,trivial⟩ ?_
 exact⟨rfl,(⟨_,⟨_,_,rfl,rfl,⟨_,_,rfl,rfl,(u7 rfl a0)⟩⟩,rfl⟩:VRep (jf false false) _ _ (⟨m.inputs,m.outputs,E⟩:Mach))⟩
theorem q3a:Enters prog 34:=enters_of func34 rfl (by kernel_rfl)
theorem q3s:Enters prog 33:=enters_of func33 rfl (by kernel_rfl)
theorem z8w{N:Nat}{R:RH}{m:Mach}{b:Value}(e:VRep (jf false false) R b m){r:Mach}(d:au N m=some r):CallP prog 11 #[b] R (fun v R'=>VRep (jf false false) R' v r):=by
 refine qo (args:=[b]) func11 rfl rfl fun A=>?_;rw [au] at d;refine zt (vo (T:=(jf false false)) rfl rfl rfl e fun V W f u X=>?_);refine jc rfl zid fun x=>?_;refine z8 (zy ?_);obtain⟨y,z,d⟩:=zu d;obtain⟨a,o,d⟩:=zu d
 refine mh 4 [] [phX b,phX b,phR (tSl false (zz .i64)) y,phR (jf false false) a] mixed (by kernel_rfl) (pq ⟨zo,zo,o5,o5,trivial⟩) ⟨?_,?_,?_,?_,trivial⟩ fun B j=>?_;intro l C c k E;exact za rfl rfl rfl (zw (jo z0z rfl (k 1 rfl) (u.mono c) ((e.mono f).mono c)));intro l F c k E
 exact za rfl rfl rfl (zw (jo z0z rfl (k 1 rfl) (u.mono c) ((e.mono f).mono c)));rintro l G c k ⟨p,_⟩;have H:l 4=b:=p rfl;exact za rfl rfl rfl (vk (vs:=[b]) q3a (by simp only [List.map,ev,H]<;>rfl) (zbm ((e.mono f).mono c) z) (fun _ _ h=>h));rintro l I c k ⟨p,K,Y,_⟩
 have L:l 3=b:=p rfl;exact za rfl rfl rfl (vk (vs:=[b,(l 5)]) q3s (by simp only [List.map,ev,L]<;>rfl) (zc7 ((e.mono f).mono c) (K rfl) o) (fun _ _ h=>h));intro M q O s P Q S t;obtain rfl:=Eq.symm q;obtain rfl:=Eq.symm s;obtain⟨g,rfl,n⟩:=z6h t
 refine qm (i:=0) (vs:=[(vi a.inputs),(vi a.outputs),g]) z5h rfl rfl rfl rfl rfl rfl (qb rfl (qb rfl (qb (zhv n) j3))) ?_;refine z8 (qw ?_);obtain rfl:=Option.some.inj d
 refine qg (D:=[]) (J:=[box x [(vi a.inputs),(vi a.outputs),g] 27]) (rs:=[.cell 2 27]) (vs:=[(.agg #[(vi a.inputs),(vi a.outputs),g])]) (f.trans j) rfl rfl ⟨⟨_,rfl,fun w U=>z4b (i:=0) U rfl rfl zba z5h rfl rfl⟩,trivial⟩ ?_
 exact⟨rfl,(⟨_,⟨_,_,rfl,rfl,⟨_,_,rfl,rfl,(u7 rfl n)⟩⟩,rfl⟩:VRep (jf false false) _ _ (⟨a.inputs,a.outputs,a.rows⟩:Mach))⟩
theorem q3f:Enters prog 11:=enters_of func11 rfl (by kernel_rfl)
end GV
end Go.Proofs.Ytdhccodneoebpaa
