import Derived.Test.YtdhccodneoebpaaShWe
import Derived.Test.YtdhccodneoebpaaShXa
import Derived.Test.YtdhccodneoebpaaRows
set_option linter.unusedVariables false
set_option linter.unusedSimpArgs false
set_option linter.unusedSectionVars false
namespace Go.Proofs.Ytdhccodneoebpaa
namespace GV
open _root_.Go.Proofs.Try
open Go.IntWalk
set_option maxRecDepth 100000
set_option maxHeartbeats 20000000
theorem ty5:TyOk prog 5 (q9 .u8):=by
 obtain⟨i,hi,a⟩: ∃ i,prog.info? 5=some i∧i.size=1:=jv (by kernel_rfl);exact ai underlying5 hi rfl a
theorem zb2{N:Nat}{R:RH}{m:Mach}{b:Value}(f:VRep (jl false false) R b m){s:Int}{i:Int}{r:Edge}(a:z0y N m s i=some r):CallP prog 87 #[b,(vi s),(vi i)] R (fun v R'=>v=(z2k r)):=by
 refine qo (args:=[b,(vi s),(vi i)]) func87 rfl rfl fun A=>?_;rw [z0y] at a;refine zl (uz (T:=(jl false false)) rfl rfl rfl f fun B C c E q=>?_);refine jb rfl zmq fun p=>?_;refine z8 (zx (zl (zm (vi s) (zi (jd rfl rfl) (z8 (zw rfl a (fun a=>?_) (fun a=>?_)))))))
 refine zl (zi (kw (ps:=[(0,(vi (-1))),(1,(vi (-1)))]) (v:=(.agg #[(vi (-1)),(vi (-1))])) rfl (fun w=>by kernel_rfl)) (qj (i:=0) (vs:=[(vi (-1)),(vi (-1))]) ze6 rfl rfl rfl rfl rfl rfl (qa rfl (qa rfl qw)) ?_));refine z8 (ql ?_);obtain rfl:=Option.some.inj a
 refine qd (D:=[]) (J:=[box p [(vi (-1)),(vi (-1))] 53]) (rs:=[.cell 6 53]) (vs:=[(.agg #[(vi (-1)),(vi (-1))])]) c rfl rfl ⟨⟨_,rfl,fun w g=>z2s (i:=0) g rfl rfl zsf ze6 rfl rfl⟩,trivial⟩ ?_;exact⟨rfl,rfl⟩;refine qc (zl (jg rfl vz ug rfl q fun F h=>?_));refine qp rfl z11 rfl h fun t j=>?_
 refine zm (vi s) ?_;obtain⟨d,a⟩:=zb a;refine ww (i:=s.toNat) rfl zf2 rfl (jc j) (ze rfl d.1) (zo d) fun u k=>?_;refine qp rfl zdp rfl k fun x l=>?_;refine zm (vi i) ?_;obtain⟨e,a⟩:=zb a;refine ww (i:=i.toNat) rfl zhb rfl (jc l) (ze rfl e.1) (zo e) fun y n=>?_
 refine qp rfl zj5 rfl n fun z o=>?_;obtain rfl:=z16.1 o;refine qj (i:=0) (vs:=[(vi ((ix (ix m.rows s) i).to)),(vi ((ix (ix m.rows s) i).out))]) ze6 rfl rfl rfl rfl rfl rfl (qa rfl (qa rfl qw)) ?_;refine z8 (ql ?_);obtain rfl:=Option.some.inj a
 refine qd (D:=[]) (J:=[box p [(vi ((ix (ix m.rows s) i).to)),(vi ((ix (ix m.rows s) i).out))] 53]) (rs:=[.cell 6 53]) (vs:=[(.agg #[(vi ((ix (ix m.rows s) i).to)),(vi ((ix (ix m.rows s) i).out))])]) c rfl rfl ⟨⟨_,rfl,fun w g=>z2s (i:=0) g rfl rfl zsf ze6 rfl rfl⟩,trivial⟩ ?_;exact⟨rfl,rfl⟩
theorem zxu:Enters prog 87:=enters_of func87 rfl (by kernel_rfl)
theorem zx7:Enters prog 81:=enters_of func81 rfl (by kernel_rfl)
theorem z8h{N:Nat}(F:Nat): ∀ {R:RH} {m:Mach} {d:Value} (j:VRep (jl false false) R d m) {s:Int} {n:(List Int)} {c:Value} (g:VRep (tSl false (q9 .i64)) R c n) {r:Int} (b:dm N F m s n=some r),CallP prog 81 #[d,(vi s),c] R (fun v R'=>v=(vi r)):=by
  induction F with
  |zero=>intros;rename_i b;exact qy b
  |succ F ih=>
    intro R m d j s n c g r b
    refine qo (args:=[d,(vi s),c]) func81 rfl rfl fun A=>?_
    rw [dm] at b
    refine zx ?_
    refine zq ?_
    refine uz (T:=(jl false false)) rfl rfl rfl j fun v1 R3 e h5 h2=>?_
    refine zk (vi 0) ?_
    refine z8 ?_
    refine zx ?_
    refine zx ?_
    refine zq ?_
    refine zm c ?_
    refine zi (qm rfl underlying36 rfl (jc (g.mono e))) ?_
    refine zi (ul rfl rfl) ?_
    refine z8 ?_
    refine zw rfl b (fun b=>?_) (fun b=>?_)
    · refine zx ?_
      refine zq ?_
      refine zm (vi s) ?_
      refine zk (vi s) ?_
      refine z8 ?_
      refine ql ?_
      obtain rfl:=Option.some.inj b
      refine qd (D:=[]) (J:=[]) (rs:=[.tmp 6]) (vs:=[(vi s)]) e rfl rfl ⟨rfl,trivial⟩ ?_
      exact⟨rfl,rfl⟩
    · refine qc ?_
      refine zx ?_
      obtain⟨g7,b⟩:=zb b
      obtain⟨q,c9,b⟩:=zn b
      obtain⟨o,b⟩:=zb b
      obtain⟨p,B,b⟩:=zn b
      refine ma 12 [] [phX d,phX d,phX (vi s),phX c,phP (q9 .i64) (ix n 0),phX (vi (ix n 0)),phX (z2k q),phX (vi q.to),phX c,phR (tSl false (q9 .i64)) (cut n 1 (↑n.length:Int)),phX (vi p),phX (vi p)] mixed (by kernel_rfl) (pq ⟨zt,zt,zt,zt,dx,zt,zt,zt,zt,rf,zt,zt,trivial⟩) ⟨?_,?_,?_,?_,?_,?_,?_,?_,?_,?_,?_,?_,trivial⟩ fun al t=>?_
      · intro l am a f x
        have C:l 3=v1:=f 3 rfl
        exact zf rfl rfl rfl (zz (ji au rfl C (h5.mono a) ((j.mono e).mono a)))
      · intro l an a f x
        have C:l 3=v1:=f 3 rfl
        exact zf rfl rfl rfl (zz (ji au rfl C (h5.mono a) ((j.mono e).mono a)))
      · intro l ao a f x
        have a1:l 1=(vi s):=f 1 rfl
        exact zf rfl rfl rfl (zz (za a1))
      · intro l aq a f x
        have E:l 2=c:=f 2 rfl
        exact zf rfl rfl rfl (zz (za E))
      · rintro l ar a f ⟨k,_⟩
        have G:=k rfl
        exact zf rfl rfl rfl (tq (i:=(0:Int).toNat) bg G (jc ((g.mono e).mono a)) (ze rfl g7.1) (zo g7))
      · rintro l av a f ⟨k,_⟩
        have H:=k rfl
        exact zf rfl rfl rfl (ui (ut ty3 rfl H) (fun _ _ h=>qh.1 h))
      · rintro l aw a f ⟨k,y,z,_⟩
        have I:l 12=d:=k rfl
        have K:l 13=(vi s):=y rfl
        have L:l 16=(vi (ix n 0)):=z rfl
        exact zf rfl rfl rfl (yh (vs:=[d,(vi s),(vi (ix n 0))]) zxu (by simp only [List.map,ev,I,K,L]<;>rfl) (zb2 ((j.mono e).mono a) c9) (fun _ _ h=>h))
      · rintro l ax a f ⟨k,_⟩
        have M:=k rfl
        exact zf rfl rfl rfl (zz (zoa (v:=(z2k q)) (u:=(vi q.to)) M (fun w=>by kernel_rfl)))
      · intro l ay a f x
        have E:l 2=c:=f 2 rfl
        exact zf rfl rfl rfl (zz (za E))
      · rintro l az a f ⟨k,_⟩
        have O:=k rfl
        exact zf rfl rfl rfl (zpg (lo:=(1:Int).toNat) (hi:=(↑n.length:Int).toNat) (mx:=(capOf c)) (X':=(cut n 1 (↑n.length:Int))) bg O (jc ((g.mono e).mono a)) (.inr ⟨_,congrArg some (ze rfl o.1)⟩) (.inl ⟨rfl,rfl,rfl⟩) (.inl ⟨rfl,rfl⟩) (zes o) (z7a o) (fun h=>Nat.le_trans (z7a o) h) (fun _=>Nat.le_refl _) rfl)
      · rintro l ai a f ⟨k,y,z,d3,_⟩
        have P:l 11=d:=k rfl
        have Q:l 18=(vi q.to):=y rfl
        have S:=z rfl
        exact zf rfl rfl rfl (yh (vs:=[d,(vi q.to),(l 20)]) zx7 (by simp only [List.map,ev,P,Q]<;>rfl) (ih ((j.mono e).mono a) S B) (fun _ _ h=>h))
      · rintro l aj a f ⟨k,y,z,d3,d4,d5,d6,d7,d8,d9,aB,aC,aD,_⟩
        have U:=k rfl
        exact zf rfl rfl rfl (zz (ou U))
      intro aE V
      intro aF W
      intro aG X
      intro aH Y
      intro aI aJ
      intro aK Z
      intro aL aa
      intro aM ab
      intro aN ac
      intro aO aP
      intro aQ ad
      intro aR ae
      obtain rfl:=Eq.symm V
      obtain rfl:=Eq.symm W
      obtain rfl:=Eq.symm X
      obtain rfl:=Eq.symm Y
      obtain rfl:=Eq.symm Z
      obtain rfl:=Eq.symm aa
      obtain rfl:=Eq.symm ab
      obtain rfl:=Eq.symm ac
      obtain rfl:=Eq.symm ad
      obtain rfl:=Eq.symm ae
      refine z8 ?_
      refine ql ?_
      obtain rfl:=Option.some.inj b
      refine qd (D:=[]) (J:=[]) (rs:=[.tmp 6]) (vs:=[(vi p)]) (e.trans t) rfl rfl ⟨rfl,trivial⟩ ?_
      exact⟨rfl,rfl⟩
theorem zai{N:Nat}{R:RH}{m:Mach}{b:Value}(d:VRep (jl false false) R b m){s:Int}{f:(List Int)}{a:Value}(c:VRep (tSl false (q9 .i64)) R a f){r:Int}(e:dm N N m s f=some r):CallP prog 81 #[b,(vi s),a] R (fun v R'=>v=(vi r)):=z8h N d c e
theorem zaz{N:Nat}{R:RH}{w:(List Int)}{e:Value}(x:VRep (tSl false (q9 .i64)) R e w){inputs:Int}{r:(List Int)}(c:l6 N w inputs=some r):CallP prog 80 #[e,(vi inputs)] R (fun v R'=>VRep (tSl false (q9 .i64)) R' v r):=by
 refine qo (args:=[e,(vi inputs)]) func80 rfl rfl fun A=>?_;rw [l6] at c;refine zl (zk vs0 (j4 (p8 (T:=(q9 .i64)) (X:=([]:List Int)) (ps:=[]) (css:=[]) rfl underlying36 zo3 rfl rfl (kv trivial) rfl rfl (by decide) fun v1 f2 an h4=>?_)));refine zm e ?_;obtain⟨g6,c⟩:=zb c
 refine bv (i:=0) (X:=([]:List Int)) (Y:=w) rfl underlying36 zo3 rfl rfl rfl h4 (jc x) g6.1 g6.2 fun f f8 h9=>?_;refine zk f (z8 ?_);obtain⟨n,a,c⟩:=zn c;refine j6 (γ:=(List Int)×Frag) (rs [4,5,6,7,10,34]) (fun g=>[]) (fun g=>[g.2]++A) (fun g R=>n=Ex.go g.1∧ORep (q9 .i64) R g.2 f g.1∧True) ?_ ?_
 refine zl (zm f (zi (o5 rfl underlying36 rfl h9) ?_));obtain⟨G,a⟩:=zb a
 refine zi (z1i rfl rfl G) (zk (vi ((↑(([]:List Int)++w).length:Int)-1)) (z8 (zy (kg (γ:=Nat×Int×(List Int)×Frag) (rs [4,5,6,7,13,34]) (fun g=>[(6,(vi g.2.1))]) (fun g=>[g.2.2.2]++A) (fun g R=>yl N inputs g.1 g.2.1 g.2.2.1=some n∧ORep (q9 .i64) R g.2.2.2 f g.2.2.1∧True) (fun g=>g.1) (N,(↑(([]:List Int)++w).length:Int)-1,(([]:List Int)++w),f8) prm ⟨a,h9,trivial⟩ ?_))))
 clear a;rintro⟨k,b,h,H⟩ au av l ⟨a,d,_⟩;rcases k with _|k;exact qy a;replace a:yl N inputs (k+1) b h=some n:=a;rw [yl] at a;refine zx (zl (zm (vi b) (zi (z2z rfl rfl) (z8 (zw rfl a (fun a=>?_) (fun a=>?_))))))
 refine qc (zx (zy (zx (zl (zm f (zm (vi b) ?_))))));obtain⟨o,a⟩:=zb a;refine uj (i:=b.toNat) rfl bg rfl d (ze rfl o.1) (zo o) fun aw I=>?_;refine z0g (i:=b.toNat) (j:=0) rfl ty3 d rfl rfl I (zo o) fun ax K=>?_;obtain rfl:=qh.1 K;obtain⟨L,a⟩:=zb a
 refine zi (je rfl rfl L) (zm (vi inputs) (zi (jd rfl rfl) (z8 (zw rfl a (fun a=>?_) (fun a=>?_)))));refine zl (zm f (zm (vi b) ?_));obtain⟨p,a⟩:=zb a;refine uj (i:=b.toNat) rfl bg rfl d (ze rfl p.1) (zo p) fun ay M=>?_
 refine z0g (i:=b.toNat) (j:=0) rfl ty3 d rfl rfl M (zo p) fun az O=>?_;obtain rfl:=qh.1 O;obtain⟨P,a⟩:=zb a;refine zi (je rfl rfl P) ?_;obtain⟨q,a⟩:=zb a;refine uj (i:=b.toNat) rfl bg rfl d (ze rfl q.1) (zo q) fun aA Q=>?_
 refine pg (i:=b.toNat) (j:=0) ty3 d rfl rfl Q (zo q) rfl (qh.2 rfl) fun aB S=>?_;refine j4 (zm f (zk f (z8 (nz (i:=0) rfl S fun U y V=>?_))));have W:VRep (tSl false (q9 .i64)) U f (up h b ((ix h b)+1)):=(z6a V);refine ql ?_;replace c:=z0k a c;obtain rfl:=Option.some.inj c
 refine qd (D:=[]) (J:=[]) (rs:=[.tmp 4]) (vs:=[f]) (l.trans y) rfl rfl ⟨rfl,trivial⟩ ?_;exact⟨rfl,W⟩;refine qc (zq (zm f (zm (vi b) ?_)));obtain⟨s,a⟩:=zb a;refine uj (i:=b.toNat) rfl bg rfl d (ze rfl s.1) (zo s) fun aC Z=>?_
 refine pg (i:=b.toNat) (j:=0) ty3 d rfl rfl Z (zo s) rfl (qh.2 rfl) fun aa ab=>?_;refine z8 (zq (zm (vi b) ?_));obtain⟨ac,a⟩:=zb a;refine zi (z1i rfl rfl ac) (zk (vi (b-1)) (z8 ?_))
 exact⟨dkt,(RH.le.refl _),jr,(k,b-1,(up h b 0),aa),Nat.lt_succ_self _,⟨rfl,trivial⟩,prm,a,ab,trivial⟩;refine jq ?_;exact⟨dkt,l,jr,(h,H),trivial,prm,(Option.some.inj a).symm,d,trivial⟩;rintro⟨z,aD⟩ aE aF C ⟨rfl,ad,_⟩;replace c:=sw c
 refine zl (zm f (p8 (T:=(q9 .i64)) (X:=([0]:List Int)) (ps:=[(0,(vi 0))]) (css:=[[(vi 0)]]) rfl underlying36 zo3 rfl rfl (kv ⟨rfl,trivial⟩) rfl rfl (by decide) fun ae aG t af=>?_));refine uk (i:=0) rfl af fun ag m ah=>?_;have ai:VRep (tSl true (q9 .i64)) ag ae ([0]:List Int):=(z01 ah t)
 obtain⟨E,c⟩:=zb c;refine bv (i:=0) (X:=z) (Y:=([0]:List Int)) rfl underlying36 zo3 rfl rfl rfl (ad.mono m) (jc (Sub.v (B:=(tSl false (q9 .i64))) (kz Sub.refl (fun _=>rfl)) ai)) E.1 E.2 fun u aH aj=>?_;refine zk u (z8 (nz (i:=0) rfl aj fun ak F al=>?_))
 have am:VRep (tSl false (q9 .i64)) ak u (z++([0]:List Int)):=(z6a al);refine ql ?_;obtain rfl:=Option.some.inj c;refine qd (D:=[]) (J:=[]) (rs:=[.tmp 4]) (vs:=[u]) ((C.trans m).trans F) rfl rfl ⟨rfl,trivial⟩ ?_;exact⟨rfl,am⟩
theorem zyc:Enters prog 80:=enters_of func80 rfl (by kernel_rfl)
theorem zae{N:Nat}{R:RH}{m:Mach}{Q:Value}(S:VRep (jl false false) R Q m){f:Int}{r:(List (List Int))×(List Bool)}(o:iy N m f=some r):CallP prog 74 #[Q,(vi f)] R (fun v R'=> ∃ u0 u1,v= .tuple #[u0,u1]∧VRep (tSl true (tSl false (q9 .i64))) R' u0 r.1∧VRep (tSl true vw) R' u1 r.2):=by
 refine qo (args:=[Q,(vi f)]) func74 rfl rfl fun A=>?_;rw [iy] at o;refine zl (uz (T:=(jl false false)) rfl rfl rfl S fun v1 R3 U h5 h2=>?_);refine zk vs0 (zk vs0 (j4 (jg rfl vz ug rfl h2 fun v6 h7=>?_)));refine qp rfl z11 rfl h7 fun v8 h9=>?_
 refine zi (qm rfl underlying25 rfl (jc h9)) ?_;obtain⟨E,o⟩:=zb o;refine z1r (T:=(tSl false (q9 .i64))) (m:=(↑m.rows.length:Int).toNat) (c:=(↑m.rows.length:Int).toNat) rfl underlying30 zm7 (ze rfl E.1) (ze rfl E.1) (Nat.le_refl _) (z2i E) (z2l E) fun h aF V aG=>?_
 refine zk h (j4 (jg rfl vz ug rfl h2 fun bh aH=>?_));refine qp rfl z11 rfl aH fun bi aI=>?_;refine zi (qm rfl underlying25 rfl (jc aI)) ?_;obtain⟨F,o⟩:=zb o
 refine z1r (T:=vw) (m:=(↑m.rows.length:Int).toNat) (c:=(↑m.rows.length:Int).toNat) rfl underlying88 zo4 (ze rfl F.1) (ze rfl F.1) (Nat.le_refl _) (z2i F) (z2l F) fun d aJ W aK=>?_;refine zk d (z8 ?_);obtain⟨q,b,o⟩:=zn o
 refine j6 (γ:=(List (List Int)×List Bool)×Frag×Frag) (rs [8,10,18,49]) (fun g=>[]) (fun g=>[g.2.1,g.2.2]++A) (fun g R=>q=g.1∧ORep (tSl false (q9 .i64)) R g.2.1 h g.1.1∧capOf h=g.1.1.length∧ORep vw R g.2.2 d g.1.2∧capOf d=g.1.2.length∧True) ?_ ?_
 refine zl (p8 (T:=(q9 .i64)) (X:=([]:List Int)) (ps:=[]) (css:=[]) rfl underlying36 zo3 rfl rfl (kv trivial) rfl rfl (by decide) fun Y bj Z aL=>?_);refine zk Y (z8 (zy (nz (i:=0) rfl aL fun aM l aN=>?_)));have aO:VRep (tSl true (q9 .i64)) aM Y ([]:List Int):=(z01 aN Z)
 refine kg (γ:=Nat×((List Int))×(List (List Int))×(List Bool)×Value×Frag×Frag) (rs [8,10,19,49]) (fun g=>[(8,g.2.2.2.2.1)]) (fun g=>[g.2.2.2.2.2.1,g.2.2.2.2.2.2]++A) (fun g R=>w9 N m f g.1 g.2.1 g.2.2.1 g.2.2.2.1=some q∧VRep (tSl false (q9 .i64)) R g.2.2.2.2.1 g.2.1∧ORep (tSl false (q9 .i64)) R g.2.2.2.2.2.1 h g.2.2.1∧capOf h=g.2.2.1.length∧ORep vw R g.2.2.2.2.2.2 d g.2.2.2.1∧capOf d=g.2.2.2.1.length∧True) (fun g=>g.1) (N,[],(mk (↑m.rows.length:Int) ([]:List Int)),(mk (↑m.rows.length:Int) false),Y,aF,aJ) ⟨[],(pk 1 rfl (pk 0 rfl (List.Perm.refl _)))⟩ ⟨b,(Sub.v (B:=(tSl false (q9 .i64))) (kz Sub.refl (fun _=>rfl)) aO),(aG.mono l),(V.trans List.length_replicate.symm),(aK.mono l),(W.trans List.length_replicate.symm),trivial⟩ ?_
 clear b;rintro⟨G,ac,H,I,K,ad,ae⟩ a6 bk n ⟨b,L,M,t,s,u,_⟩;rcases G with _|G;exact qy b;replace b:w9 N m f (G+1) ac H I=some q:=b;rw [w9] at b
 refine zx (zl (zm K (zi (qm rfl underlying36 rfl (jc L)) (jg rfl vz ug rfl (h2.mono (l.trans n)) fun bl aP=>?_))));refine qp rfl z11 rfl aP fun bm aQ=>?_;refine zi (qm rfl underlying25 rfl (jc aQ)) (zi (jd rfl rfl) (z8 (zw rfl b (fun b=>?_) (fun b=>?_))));refine qc ?_
 obtain⟨O,k,b⟩:=zn b;refine j6 (γ:=(List (List Int)×List Bool)×Frag×Frag) (rs [9,10,29,49]) (fun g=>[]) (fun g=>[g.2.1,g.2.2]++A) (fun g R=>O=g.1∧ORep (tSl false (q9 .i64)) R g.2.1 h g.1.1∧capOf h=g.1.1.length∧ORep vw R g.2.2 d g.1.2∧capOf d=g.1.2.length∧True) ?_ ?_
 refine zy (zl (zi (ji au rfl rfl (h5.mono (l.trans n)) (S.mono ((U.trans l).trans n))) (zm (vi f) (zm K ?_))));obtain⟨e,aR,k⟩:=zn k;refine ja rfl zx7 rfl (zai (S.mono ((U.trans l).trans n)) L aR) fun bn bo a aS=>?_;obtain rfl:=aS
 refine zk (vi e) (j4 (j5 (v:=(vi e)) rfl (za rfl) (j5 rfl (z2z rfl rfl) (j5 (v:=(.bool (decide (0≤e)))) rfl (za rfl) (qi rfl rfl rfl rfl (fun w=>qf (v:=d) (za rfl)) fun bp aT=>?_)))));refine qi rfl rfl rfl rfl (fun w=>qf (v:=(vi e)) (za rfl)) fun bq aU=>?_;obtain⟨aa,k⟩:=zb k
 refine qi rfl rfl rfl rfl (fun w=>z15 (i:=e.toNat) z8f (aT.1 (zh rfl w)) (s.mono a) (ze (aU.1 (zh rfl w)) (aa (zh rfl w)).1) (zo (aa (zh rfl w)))) fun br aV=>?_
 refine qi rfl rfl rfl rfl (fun w=>qf (zfa (z9b (i:=e.toNat) (j:=1) ty4 (s.mono a) rfl rfl (aV.1 (zh rfl w)) (zo (aa (zh rfl w)))))) fun bs aW=>?_;refine qi rfl rfl rfl rfl (fun w=>qf (cz (aW.1 (zh rfl w)))) fun bt aX=>?_
 refine j5 rfl (u6 rfl (fun hb=>(aX.1 (zh rfl hb))) rfl) (z8 (zw rfl k (fun k=>?_) (fun k=>?_)));refine zl (zm d (zm (vi e) ?_));obtain⟨ab,k⟩:=zb k;refine uj (i:=e.toNat) rfl z8f rfl (s.mono a) (ze rfl ab.1) (zo ab) fun bv af=>?_
 refine pg (i:=e.toNat) (j:=1) ty4 (s.mono a) rfl rfl af (zo ab) rfl (xc.2 rfl) fun ag ah=>?_;refine z8 (zq (zm h (zm (vi e) (zm K ?_))));obtain⟨x,k⟩:=zb k;refine uj (i:=e.toNat) rfl z5e rfl (M.mono a) (ze rfl x.1) (zo x) fun a7 ai=>?_
 refine pg (i:=e.toNat) (j:=0) z5g (M.mono a) rfl rfl ai (zo x) rfl (L.mono a) fun aj ak=>?_;refine z8 ?_;exact⟨dkt,a,jr,(((up H e ac),(up I e true)),aj,ag),trivial,prm,(Option.some.inj k).symm,ak,(t.trans List.length_set.symm),ah,(u.trans List.length_set.symm),trivial⟩;refine qc ?_
 exact⟨dkt,a,jr,((H,I),ad,ae),trivial,prm,(Option.some.inj k).symm,(M.mono a),t,(s.mono a),u,trivial⟩;rintro⟨O,aY,aZ⟩ a8 bw y ⟨rfl,a0,al,a1,am,_⟩;refine zq (zm K (jg rfl z06 eu rfl (h2.mono ((l.trans n).trans y)) fun a9 an=>?_));refine qp rfl ty3 rfl an fun ba ao=>?_
 obtain rfl:=qh.1 ao;obtain⟨ap,aq,b⟩:=zn b;refine ja rfl zyc rfl (zaz (L.mono y) aq) fun P bb p ar=>?_;refine zk P (z8 ?_);exact⟨dkt,(y.trans p),jr,(G,ap,O.1,O.2,P,aY,aZ),Nat.lt_succ_self _,⟨rfl,trivial⟩,prm,b,ar,(a0.mono p),al,(a1.mono p),am,trivial⟩
 refine jq ?_;exact⟨dkt,(l.trans n),jr,((H,I),ad,ae),trivial,prm,(Option.some.inj b).symm,M,t,s,u,trivial⟩;rintro⟨q,bx,bz⟩ bc bA av ⟨rfl,a2,aw,a3,ax,_⟩;refine zl (zm h (zm d (zk h (zk d (z8 (nz (i:=0) rfl a2 fun ay z az=>?_))))))
 have aA:VRep (tSl true (tSl false (q9 .i64))) ay h q.1:=(z01 az aw);refine nz (i:=0) rfl (a3.mono z) fun aB C aC=>?_;have aD:VRep (tSl true vw) aB d q.2:=(z01 aC ax);refine ql ?_;obtain rfl:=Option.some.inj o
 refine qd (D:=[]) (J:=[]) (rs:=[.tmp 4,.tmp 5]) (vs:=[h,d]) (((U.trans av).trans z).trans C) rfl rfl ⟨rfl,rfl,trivial⟩ ?_;exact⟨rfl,⟨h,d,rfl,(aA.mono C),aD⟩⟩
theorem zye:Enters prog 74:=enters_of func74 rfl (by kernel_rfl)
theorem z9z{N:Nat}{R:RH}{m:Mach}{b:Value}(c:VRep (jl false false) R b m){r:(List (List Int))×(List Bool)}(a:lh N m=some r):CallP prog 61 #[b] R (fun v R'=> ∃ j k,v= .tuple #[j,k]∧VRep (tSl true (tSl false (q9 .i64))) R' j r.1∧VRep (tSl true vw) R' k r.2):=by
 refine qo (args:=[b]) func61 rfl rfl fun A=>?_;rw [lh] at a;refine zl (uz (T:=(jl false false)) rfl rfl rfl c fun q s d l t=>?_);refine zk vs0 (zk vs0 (j4 (zi (ji au rfl rfl l (c.mono d)) ?_)));obtain⟨u,n,a⟩:=zn a
 refine ja rfl zye rfl (zae (c.mono d) n) fun w o g p=>?_;obtain⟨e,f,rfl,h,i⟩:=p;refine zi (j3 rfl rfl) (zi (j3 rfl rfl) (zk e (zk f (z8 (ql ?_)))));obtain rfl:=Option.some.inj a
 refine qd (D:=[]) (J:=[]) (rs:=[.tmp 2,.tmp 3]) (vs:=[e,f]) (d.trans g) rfl rfl ⟨rfl,rfl,trivial⟩ ?_;exact⟨rfl,⟨e,f,rfl,h,i⟩⟩
theorem zyb:Enters prog 61:=enters_of func61 rfl (by kernel_rfl)
theorem zb4{N:Nat}{R:RH}{a:(List Int)}{f:Value}(l:VRep (tSl false (q9 .i64)) R f a){b:(List Int)}{j:Value}(m:VRep (tSl false (q9 .i64)) R j b){r:Int}(d:ow N a b=some r):CallP prog 62 #[f,j] R (fun v R'=>v=(vi r)):=by
 refine qo (args:=[f,j]) func62 rfl rfl fun A=>?_;rw [ow] at d;refine zl (zk (vi 0) (z8 (zx (zl (zm f (zi (qm rfl underlying36 rfl (jc l)) (zm j (zi (qm rfl underlying36 rfl (jc m)) (zi (gy rfl rfl) (z8 (zw rfl d (fun d=>?_) (fun d=>?_))))))))))))
 refine zx (zl (zm f (zi (qm rfl underlying36 rfl (jc l)) (zm j (zi (qm rfl underlying36 rfl (jc m)) (zi (jd rfl rfl) (z8 (zw rfl d (fun d=>?_) (fun d=>?_)))))))));refine zl (zk (vi 1) (z8 (ql ?_)));obtain rfl:=Option.some.inj d
 refine qd (D:=[]) (J:=[]) (rs:=[.tmp 4]) (vs:=[(vi 1)]) (RH.le.refl _) rfl rfl ⟨rfl,trivial⟩ ?_;exact⟨rfl,rfl⟩;refine qc (zl (zk (vi 0) (z8 (ql ?_))));obtain rfl:=Option.some.inj d;refine qd (D:=[]) (J:=[]) (rs:=[.tmp 4]) (vs:=[(vi 0)]) (RH.le.refl _) rfl rfl ⟨rfl,trivial⟩ ?_;exact⟨rfl,rfl⟩;refine qc ?_
 obtain⟨u,c,d⟩:=zn d;refine j6 (γ:=Unit) (rs [4,6,16,40]) (fun g=>[]) (fun g=>[]++A) (fun g R=>u=Ex.go g∧True) ?_ ?_
 refine zl (zk (vi 0) (z8 (zy (kg (γ:=Nat×Int) (rs [4,6,16,40]) (fun g=>[(5,(vi g.2))]) (fun g=>[]++A) (fun g R=>xk N a b g.1 g.2=some u∧True) (fun g=>g.1) (N,0) prm ⟨c,trivial⟩ ?_))));clear c;rintro⟨t,k⟩ E O e ⟨c,_⟩;rcases t with _|t;exact qy c
 replace c:xk N a b (t+1) k=some u:=c;rw [xk] at c;refine zx (zl (zm (vi k) (zm f (zi (qm rfl underlying36 rfl (jc (l.mono e))) (zi (jd rfl rfl) (z8 (zw rfl c (fun c=>?_) (fun c=>?_))))))))
 refine qc (zx (zy (zx (rq 9 mixed (by kernel_rfl) (by kernel_rfl) ?_))));refine jy (v:=f) (za rfl) ?_;refine jy (v:=(vi k)) (za rfl) ?_;obtain⟨o,c⟩:=zb c;refine df (uq (i:=k.toNat) bg rfl (jc (l.mono e)) (ze rfl o.1) (zo o)) fun F w=>?_;refine jy (y5 (jm ty3 rfl w)) ?_
 refine jy (v:=j) (za rfl) ?_;refine jy (v:=(vi k)) (za rfl) ?_;obtain⟨p,c⟩:=zb c;refine df (uq (i:=k.toNat) bg rfl (jc (m.mono e)) (ze rfl p.1) (zo p)) fun G x=>?_;refine jy (y5 (jm ty3 rfl x)) ?_;refine jy (gy rfl rfl) ?_;intro H h
 refine z8 (zw rfl c (fun c=>?_) (fun c=>?_));refine zx (zx (rq 9 mixed (by kernel_rfl) (by kernel_rfl) ?_));refine jy (v:=f) (za rfl) ?_;refine jy (v:=(vi k)) (za rfl) ?_;obtain⟨q,c⟩:=zb c
 refine df (uq (i:=k.toNat) bg rfl (jc (l.mono (e.trans h))) (ze rfl q.1) (zo q)) fun I y=>?_;refine jy (y5 (jm ty3 rfl y)) ?_;refine jy (v:=j) (za rfl) ?_;refine jy (v:=(vi k)) (za rfl) ?_;obtain⟨s,c⟩:=zb c
 refine df (uq (i:=k.toNat) bg rfl (jc (m.mono (e.trans h))) (ze rfl s.1) (zo s)) fun K z=>?_;refine jy (y5 (jm ty3 rfl z)) ?_;refine jy (jd rfl rfl) ?_;intro L n;refine z8 (zw rfl c (fun c=>?_) (fun c=>?_));refine zl (zk (vi 1) (z8 (ql ?_)));replace d:=z0k c d
 obtain rfl:=Option.some.inj d;refine qd (D:=[]) (J:=[]) (rs:=[.tmp 4]) (vs:=[(vi 1)]) ((e.trans h).trans n) rfl rfl ⟨rfl,trivial⟩ ?_;exact⟨rfl,rfl⟩;refine qc (zl (zk (vi 0) (z8 (ql ?_))));replace d:=z0k c d;obtain rfl:=Option.some.inj d
 refine qd (D:=[]) (J:=[]) (rs:=[.tmp 4]) (vs:=[(vi 0)]) ((e.trans h).trans n) rfl rfl ⟨rfl,trivial⟩ ?_;exact⟨rfl,rfl⟩;refine qc (zq (zm (vi k) ?_));obtain⟨B,c⟩:=zb c;refine zi (je rfl rfl B) (zk (vi (k+1)) (z8 ?_))
 exact⟨dkt,h,jr,(t,k+1),Nat.lt_succ_self _,⟨rfl,trivial⟩,prm,c,trivial⟩;refine jq ?_;exact⟨dkt,e,jr,(),trivial,prm,(Option.some.inj c).symm,trivial⟩;rintro P M Q C ⟨rfl,_⟩;replace d:=sw d;refine zl (zk (vi 0) (z8 (ql ?_)));obtain rfl:=Option.some.inj d
 refine qd (D:=[]) (J:=[]) (rs:=[.tmp 4]) (vs:=[(vi 0)]) C rfl rfl ⟨rfl,trivial⟩ ?_;exact⟨rfl,rfl⟩
theorem zyq:Enters prog 62:=enters_of func62 rfl (by kernel_rfl)
theorem zak{N:Nat}{R:RH}{m:Mach}{ah:Value}(ai:VRep (jl false false) R ah m){r:(List Int)}(H:z0b N m=some r):CallP prog 34 #[ah] R (fun v R'=>VRep (tSl false (q9 .i64)) R' v r):=by
 refine qo (args:=[ah]) func34 rfl rfl fun A=>?_;rw [z0b] at H;refine zl (uz (T:=(jl false false)) rfl rfl rfl ai fun v1 R3 aj h5 h2=>?_);refine zk vs0 (j4 (zi (ji au rfl rfl h5 (ai.mono aj)) ?_));obtain⟨U,c7,H⟩:=zn H
 refine ja rfl zyb rfl (z9z (ai.mono aj) c7) fun v8 bx ar h9=>?_;obtain⟨C,ak,rfl,al,aW⟩:=h9;refine zm (.tuple #[C,ak]) (zi (j3 rfl rfl) (zi (j3 rfl rfl) (zk C (zk ak (j4 (zk vs0 (z8 ?_)))))));obtain⟨K,n,H⟩:=zn H
 refine j6 (γ:=(List Int)×Value×Frag) (rs [5,9,14,60]) (fun g=>[(5,g.2.1)]) (fun g=>[g.2.2]++A) (fun g R=>K=g.1∧ORep (q9 .i64) R g.2.2 g.2.1 g.1∧True) ?_ ?_;refine zl (zk (vi 0) (z8 (zy (z4n ?_))))
 refine kg (γ:=Nat×(List Int)×Int×Value×Frag) (rs [5,9,14,60]) (fun g=>[(5,g.2.2.2.1),(6,(vi g.2.2.1))]) (fun g=>[g.2.2.2.2]++A) (fun g R=>yz N U g.1 g.2.1 g.2.2.1=some K∧ORep (q9 .i64) R g.2.2.2.2 g.2.2.2.1 g.2.1∧True) (fun g=>g.1) (N,[],0,vs0,emp) prm ⟨n,(z0v (T:=(q9 .i64))),trivial⟩ ?_;clear n
 rintro⟨M,a,d,q,O⟩ bb bA z ⟨n,I,_⟩;rcases M with _|M;exact qy n;replace n:yz N U (M+1) a d=some K:=n;rw [yz] at n
 refine zx (zl (zm (vi d) (zm C (zi (qm rfl underlying30 rfl (jc (al.mono z))) (zi (jd rfl rfl) (z8 (zw rfl n (fun n=>?_) (fun n=>?_))))))));refine qc ?_;obtain⟨am,e,n⟩:=zn n
 refine j6 (γ:=(List Int)×Value×Frag) (rs [5,6,7,9,20,60]) (fun g=>[(5,g.2.1)]) (fun g=>[g.2.2]++A) (fun g R=>am=g.1∧ORep (q9 .i64) R g.2.2 g.2.1 g.1∧True) ?_ ?_;refine zy (zx (zl (zm ak (zm (vi d) ?_))));obtain⟨av,e⟩:=zb e
 refine ww (i:=d.toNat) rfl z8f rfl (jc (aW.mono z)) (ze rfl av.1) (zo av) fun bB aX=>?_;refine qp rfl ty4 rfl aX fun bC aY=>?_;obtain rfl:=xc.1 aY;refine zi (cz rfl) (z8 (zw rfl e (fun e=>?_) (fun e=>?_)));refine jq ?_
 exact⟨dkt,(RH.le.refl _),jr,(a,q,O),⟨rfl,trivial⟩,prm,(Option.some.inj e).symm,I,trivial⟩;refine qc (zl (zk (vi 0) (z8 ?_)));obtain⟨f,k,e⟩:=zn e;refine j6 (γ:=Int) (rs [7,8,25,46]) (fun g=>[(7,(vi g))]) (fun g=>[O]++A) (fun g R=>f=g∧True) ?_ ?_
 refine zy (kg (γ:=Nat×Int) (rs [7,8,25,46]) (fun g=>[(7,(vi g.2))]) (fun g=>[O]++A) (fun g R=>yo N U a d g.1 g.2=some f∧True) (fun g=>g.1) (N,0) prm ⟨k,trivial⟩ ?_);clear k;rintro⟨P,b⟩ bc bD t ⟨k,_⟩;rcases P with _|P;exact qy k
 replace k:yo N U a d (P+1) b=some f:=k;rw [yo] at k;refine zx (zx ?_);obtain⟨an,aw,ax,k⟩:=zqr k;obtain⟨L,aZ,k⟩:=zn k
 refine ma 19 [] [phX (vi b),phX q,phX (vi (↑a.length:Int)),phX (.bool (decide (b<(↑a.length:Int)))),phX (.bool (decide (b<(↑a.length:Int)))),phG (true&&((decide (b<(↑a.length:Int)))==true)) (phX C),phG (true&&((decide (b<(↑a.length:Int)))==true)) (phX q),phG (true&&((decide (b<(↑a.length:Int)))==true)) (phX (vi b)),phG (true&&((decide (b<(↑a.length:Int)))==true)) ((fun u _=>z0a (q9 .i64) q a u b.toNat)),phG (true&&((decide (b<(↑a.length:Int)))==true)) (phX (vi (ix a b))),phG (true&&((decide (b<(↑a.length:Int)))==true)) (phP (tSl false (q9 .i64)) (ix U.1 (ix a b))),phG (true&&((decide (b<(↑a.length:Int)))==true)) (phR (tSl false (q9 .i64)) (ix U.1 (ix a b))),phG (true&&((decide (b<(↑a.length:Int)))==true)) (phX C),phG (true&&((decide (b<(↑a.length:Int)))==true)) (phX (vi d)),phG (true&&((decide (b<(↑a.length:Int)))==true)) (phP (tSl false (q9 .i64)) (ix U.1 d)),phG (true&&((decide (b<(↑a.length:Int)))==true)) (phR (tSl false (q9 .i64)) (ix U.1 d)),phG (true&&((decide (b<(↑a.length:Int)))==true)) (phX (vi (L.getD default))),phG (true&&((decide (b<(↑a.length:Int)))==true)) (phX (.bool (decide ((L.getD default)=1)))),phX (.bool ((decide (b<(↑a.length:Int)))&&(decide ((L.getD default)=1))))] mixed (by kernel_rfl) (pq ⟨zt,zt,zt,zt,zt,(qx zt),(qx zt),(qx zt),(qx (fun _ _ _ _ h=>h)),(qx zt),(qx dx),(qx rf),(qx zt),(qx zt),(qx dx),(qx rf),(qx zt),(qx zt),zt,trivial⟩) ⟨?_,?_,?_,?_,?_,?_,?_,?_,?_,?_,?_,?_,?_,?_,?_,?_,?_,?_,?_,trivial⟩ fun bE V=>?_
 intro l bF c s hd;exact zf rfl rfl rfl (zz (za (s 7 rfl)));intro l bH c s hd;exact zf rfl rfl rfl (zz (za (s 5 rfl)));rintro l bI c s ⟨o,_⟩;exact zf rfl rfl rfl (zz (o5 rfl underlying36 (o rfl) ((I.mono t).mono c)));rintro l bJ c s ⟨o,x,_⟩;exact zf rfl rfl rfl (zz (jd (o rfl) (x rfl)))
 rintro l bK c s ⟨o,_⟩;exact zf rfl rfl rfl (zz (za (o rfl)));rintro l bL c s ⟨o,_⟩;exact zu (Gj:=true) (Bj:=decide (b<(↑a.length:Int))) rfl rfl rfl (uf (o rfl)) rfl (fun w p=>zz (za (s 3 rfl)));rintro l bM c s ⟨o,_⟩
 exact zu (Gj:=true) (Bj:=decide (b<(↑a.length:Int))) rfl rfl rfl (uf (o rfl)) rfl (fun w p=>zz (za (s 5 rfl)));rintro l bN c s ⟨o,_⟩;exact zu (Gj:=true) (Bj:=decide (b<(↑a.length:Int))) rfl rfl rfl (uf (o rfl)) rfl (fun w p=>zz (za (s 7 rfl)));rintro l bO c s ⟨o,x,d2,_⟩
 exact zu (Gj:=true) (Bj:=decide (b<(↑a.length:Int))) rfl rfl rfl (uf (d2 rfl)) rfl (fun w p=>l7 (i:=b.toNat) bg (show l 31=q from(o rfl).1 (zh rfl p)) ((I.mono t).mono c) (ze (show l 32=(vi b) from(x rfl).1 (zh rfl p)) (an (zh w p)).1) (zo (an (zh w p))));rintro l bP c s ⟨o,x,_⟩
 exact zu (Gj:=true) (Bj:=decide (b<(↑a.length:Int))) rfl rfl rfl (uf (x rfl)) rfl (fun w p=>ui (z88 (i:=b.toNat) (j:=0) ty3 ((I.mono t).mono c) rfl rfl ((o rfl).1 (zh rfl p)) (zo (an (zh w p)))) (fun _ _ h=>qh.1 h));rintro l be c s ⟨o,x,d2,_⟩
 exact zu (Gj:=true) (Bj:=decide (b<(↑a.length:Int))) rfl rfl rfl (uf (d2 rfl)) rfl (fun w p=>tq (i:=(ix a b).toNat) z5e (show l 30=C from(o rfl).1 (zh rfl p)) (jc ((al.mono (z.trans t)).mono c)) (ze (show l 34=(vi (ix a b)) from(x rfl).1 (zh rfl p)) (aw (zh w p)).1) (zo (aw (zh w p))))
 rintro l bf c s ⟨o,x,_⟩;exact zu (Gj:=true) (Bj:=decide (b<(↑a.length:Int))) rfl rfl rfl (uf (x rfl)) rfl (fun w p=>ut z5g rfl ((o rfl).1 (zh rfl p)));rintro l bh c s ⟨o,_⟩;exact zu (Gj:=true) (Bj:=decide (b<(↑a.length:Int))) rfl rfl rfl (uf (o rfl)) rfl (fun w p=>zz (za (s 3 rfl)))
 rintro l bi c s ⟨o,_⟩;exact zu (Gj:=true) (Bj:=decide (b<(↑a.length:Int))) rfl rfl rfl (uf (o rfl)) rfl (fun w p=>zz (za (s 6 rfl)));rintro l bj c s ⟨o,x,d2,_⟩
 exact zu (Gj:=true) (Bj:=decide (b<(↑a.length:Int))) rfl rfl rfl (uf (d2 rfl)) rfl (fun w p=>tq (i:=d.toNat) z5e (show l 37=C from(o rfl).1 (zh rfl p)) (jc ((al.mono (z.trans t)).mono c)) (ze (show l 38=(vi d) from(x rfl).1 (zh rfl p)) (ax (zh w p)).1) (zo (ax (zh w p))))
 rintro l bk c s ⟨o,x,_⟩;exact zu (Gj:=true) (Bj:=decide (b<(↑a.length:Int))) rfl rfl rfl (uf (x rfl)) rfl (fun w p=>ut z5g rfl ((o rfl).1 (zh rfl p)));rintro l bl c s ⟨o,x,d2,d3,_⟩
 exact zu (Gj:=true) (Bj:=decide (b<(↑a.length:Int))) rfl rfl rfl (uf (d2 rfl)) rfl (fun w p=>yh (vs:=[(l 36),(l 40)]) zyq rfl ((by have a0:=(mi aZ (zh w p));exact zb4 ((o rfl).1 (zh rfl p)) ((x rfl).1 (zh rfl p)) a0)) (fun _ _ h=>h));rintro l bm c s ⟨o,x,_⟩
 exact zu (Gj:=true) (Bj:=decide (b<(↑a.length:Int))) rfl rfl rfl (uf (x rfl)) rfl (fun w p=>zz (ul (show l 41=(vi (L.getD default)) from(o rfl).1 (zh rfl p)) rfl));rintro l bn c s ⟨o,x,_⟩
 exact zf rfl rfl rfl (zz (u6 (o rfl) (fun hb=>(show l 42=(.bool (decide ((L.getD default)=1))) from(x rfl).1 (zh rfl hb))) rfl));intro bR a1 bS a2 bT a3 bU a4 bV a5 bW bX bY bZ b0 b1 b2 b3 b4 b5 b6 b7 b8 b9 ca cb cc cd ce cf cg ch ci cj ck cl cm a6;obtain rfl:=Eq.symm a1;obtain rfl:=Eq.symm a2;obtain rfl:=Eq.symm a3
 obtain rfl:=Eq.symm a4;obtain rfl:=Eq.symm a5;obtain rfl:=Eq.symm a6;refine z8 (zw rfl k (fun k=>?_) (fun k=>?_));refine qc (zy (zq (zm (vi b) ?_)));obtain⟨ay,k⟩:=zb k;refine zi (je rfl rfl ay) (zk (vi (b+1)) (z8 ?_))
 exact⟨dkt,V,jr,(P,b+1),Nat.lt_succ_self _,⟨rfl,trivial⟩,prm,k,trivial⟩;refine jq ?_;exact⟨dkt,(t.trans V),jr,b,⟨rfl,trivial⟩,prm,(Option.some.inj k).symm,trivial⟩;rintro f bo cn W ⟨rfl,_⟩
 refine zl (zk vs0 (j4 (zm vs0 (zm q (zm (vi f) (uk (i:=0) rfl (I.mono W) fun Z ap az=>?_))))));have E:VRep (tSl false (q9 .i64)) Z q a:=(z6a az);obtain⟨F,e⟩:=zb e
 refine zbt (v:=q) (lo:=(0:Int).toNat) (hi:=f.toNat) (mx:=(capOf q)) rfl bg rfl (jc E) (.inl ⟨rfl,rfl⟩) (.inr ⟨_,congrArg some (ze rfl (zeo F))⟩) (.inl ⟨rfl,rfl⟩) (zes F) (z7a F) (Nat.le_trans (z7a F) (zoz (jc E))) (Nat.le_refl _) (X':=(cut a 0 f)) rfl fun aA aB aU=>?_
 have aC:VRep (tSl false (q9 .i64)) Z aA (cut a 0 f):=z6a aB;refine zva ?_;obtain⟨aa,e⟩:=zb e;refine bv (i:=0) (X:=([]:List Int)) (Y:=(cut a 0 f)) rfl underlying36 zo3 rfl rfl rfl (z0v (T:=(q9 .i64))) (jc aC) aa.1 aa.2 fun ab bp aD=>?_
 refine zk ab (j4 (zm ab (zm (vi d) (p8 (T:=(q9 .i64)) (X:=([d]:List Int)) (ps:=[(0,(vi d))]) (css:=[[(vi d)]]) rfl underlying36 zo3 rfl rfl (kv ⟨rfl,trivial⟩) rfl rfl (by decide) fun aE bq Q aF=>?_))));refine uk (i:=0) rfl aF fun ac y aG=>?_
 have aH:VRep (tSl true (q9 .i64)) ac aE ([d]:List Int):=(z01 aG Q);obtain⟨ad,e⟩:=zb e;refine bv (i:=0) (X:=(([]:List Int)++(cut a 0 f))) (Y:=([d]:List Int)) rfl underlying36 zo3 rfl rfl rfl (aD.mono y) (jc (Sub.v (B:=(tSl false (q9 .i64))) (kz Sub.refl (fun _=>rfl)) aH)) ad.1 ad.2 fun ae br aI=>?_
 refine zk ae (z8 (zq (zm ae (zm q (zm (vi f) ?_)))));obtain⟨G,e⟩:=zb e
 refine zbt (v:=q) (lo:=f.toNat) (hi:=(↑a.length:Int).toNat) (mx:=(capOf q)) rfl bg rfl (jc (E.mono y)) (.inr ⟨_,congrArg some (ze rfl G.1)⟩) (.inl ⟨rfl,rfl,rfl⟩) (.inl ⟨rfl,rfl⟩) (zes G) (z7a G) (Nat.le_trans (z7a G) (zoz (jc (E.mono y)))) (Nat.le_refl _) (X':=(cut a f (↑a.length:Int))) rfl fun aJ aK aV=>?_
 have aL:VRep (tSl false (q9 .i64)) ac aJ (cut a f (↑a.length:Int)):=z6a aK;obtain⟨af,e⟩:=zb e;refine bv (i:=0) (X:=((([]:List Int)++(cut a 0 f))++([d]:List Int))) (Y:=(cut a f (↑a.length:Int))) rfl underlying36 zo3 rfl rfl rfl aI (jc aL) af.1 af.2 fun ag aM aN=>?_;refine zk ag (z8 ?_)
 exact⟨dkt,((W.trans ap).trans y),jr,((((([]:List Int)++(cut a 0 f))++([d]:List Int))++(cut a f (↑a.length:Int))),ag,aM),⟨rfl,trivial⟩,prm,(Option.some.inj e).symm,aN,trivial⟩;rintro⟨am,a7,a8⟩ bs co aO ⟨rfl,a9,_⟩;refine zq (zm (vi d) ?_);obtain⟨aP,n⟩:=zb n
 refine zi (je rfl rfl aP) (zk (vi (d+1)) (z8 ?_));exact⟨dkt,aO,jr,(M,am,d+1,a7,a8),Nat.lt_succ_self _,⟨rfl,rfl,trivial⟩,prm,n,a9,trivial⟩;refine jq ?_;exact⟨dkt,z,jr,(a,q,O),⟨rfl,trivial⟩,prm,(Option.some.inj n).symm,I,trivial⟩;rintro⟨K,S,cp⟩ bt cq aQ ⟨rfl,ba,_⟩
 refine zl (zm S (zk S (z8 (nz (i:=0) rfl ba fun aR aq aS=>?_))));have aT:VRep (tSl false (q9 .i64)) aR S K:=(z6a aS);refine ql ?_;obtain rfl:=Option.some.inj H;refine qd (D:=[]) (J:=[]) (rs:=[.tmp 2]) (vs:=[S]) (((aj.trans ar).trans aQ).trans aq) rfl rfl ⟨rfl,trivial⟩ ?_;exact⟨rfl,aT⟩
theorem zbb{N:Nat}{R:RH}{m:Mach}{aq:Value}(a5:VRep (jl false false) R aq m){f:(List Int)}{k:Value}(z:VRep (tSl false (q9 .i64)) R k f){r:Mach}(U:fw N m f=some r):CallP prog 33 #[aq,k] R (fun v R'=>VRep (jl false false) R' v r):=by
 refine qo (args:=[aq,k]) func33 rfl rfl fun A=>?_;rw [fw] at U;refine zl (uz (T:=(jl false false)) rfl rfl rfl a5 fun v1 R3 H h5 h2=>?_);refine jb rfl zdu fun b6=>?_;refine j4 (jg rfl z06 eu rfl h2 fun v8 h9=>?_);refine qp rfl ty3 rfl h9 fun bA a6=>?_;obtain rfl:=qh.1 a6
 refine jg rfl zb7 z8a rfl h2 fun bB a7=>?_;refine qp rfl ty3 rfl a7 fun bC a8=>?_;obtain rfl:=qh.1 a8;refine zi (kw (ps:=[(0,(vi m.inputs)),(1,(vi m.outputs))]) (v:=(.agg #[(vi m.inputs),(vi m.outputs),vs0])) rfl (fun w=>by kernel_rfl)) (jb rfl zdu fun t=>?_)
 refine qj (i:=0) (vs:=[(vi m.inputs),(vi m.outputs),vs0]) z4c rfl rfl rfl rfl rfl rfl (qa rfl (qa rfl (qa rfl qw))) ?_;refine z8 ?_;obtain⟨E,d,U⟩:=zn U
 refine j6 (γ:=(List (List Edge))×Value×Frag) (rs [6,12,17,67]) (fun g=>[]) (fun g=>[box b6 [(vi 0),(vi 0),vs0] 27,box t [(vi m.inputs),(vi m.outputs),g.2.1] 27,g.2.2]++A) (fun g R=>E=g.1∧ORep (tSl false kEdge) R g.2.2 g.2.1 g.1∧True) ?_ ?_;refine zl (zk (vi 0) (z8 (zy (z4n ?_))))
 refine kg (γ:=Nat×Int×(List (List Edge))×Value×Frag) (rs [6,12,17,67]) (fun g=>[(6,(vi g.2.1))]) (fun g=>[box b6 [(vi 0),(vi 0),vs0] 27,box t [(vi m.inputs),(vi m.outputs),g.2.2.2.1] 27,g.2.2.2.2]++A) (fun g R=>xn N m f g.1 g.2.1 g.2.2.1=some E∧ORep (tSl false kEdge) R g.2.2.2.2 g.2.2.2.1 g.2.2.1∧True) (fun g=>g.1) (N,0,[],vs0,emp) ⟨[],(pk 2 rfl (pk 1 rfl (pk 0 rfl (List.Perm.refl _))))⟩ ⟨d,(z0v (T:=(tSl false kEdge))),trivial⟩ ?_
 clear d;rintro⟨V,a,W,F,u⟩ bk bD n ⟨d,ax,_⟩;rcases V with _|V;exact qy d;replace d:xn N m f (V+1) a W=some E:=d;rw [xn] at d
 refine zx (zl (zm (vi a) (zm k (zi (qm rfl underlying36 rfl (jc (z.mono (H.trans n)))) (zi (jd rfl rfl) (z8 (zw rfl d (fun d=>?_) (fun d=>?_))))))));refine qc (zx (zy (zl (zk vs0 (z8 ?_)))));obtain⟨s,c,d⟩:=zn d
 refine j6 (γ:=(List Edge)×Value×Frag) (rs [7,12,23,61]) (fun g=>[(7,g.2.1)]) (fun g=>[box b6 [(vi 0),(vi 0),vs0] 27,box t [(vi m.inputs),(vi m.outputs),F] 27,u,g.2.2]++A) (fun g R=>s=g.1∧ORep kEdge R g.2.2 g.2.1 g.1∧True) ?_ ?_;refine zl (zk (vi 0) (z8 (zy (z4n ?_))))
 refine kg (γ:=Nat×(List Edge)×Int×Value×Frag) (rs [7,12,23,61]) (fun g=>[(7,g.2.2.2.1),(8,(vi g.2.2.1))]) (fun g=>[box b6 [(vi 0),(vi 0),vs0] 27,box t [(vi m.inputs),(vi m.outputs),F] 27,u,g.2.2.2.2]++A) (fun g R=>xg N m f a g.1 g.2.1 g.2.2.1=some s∧ORep kEdge R g.2.2.2.2 g.2.2.2.1 g.2.1∧True) (fun g=>g.1) (N,[],0,vs0,emp) ⟨[],(pk 1 rfl (pk 1 rfl (pk 1 rfl (pk 0 rfl (List.Perm.refl _)))))⟩ ⟨c,(z0v (T:=kEdge)),trivial⟩ ?_
 clear c;rintro⟨Z,aa,b,ay,ab⟩ bl bE q ⟨c,az,_⟩;rcases Z with _|Z;exact qy c;replace c:xg N m f a (Z+1) aa b=some s:=c;rw [xg] at c;refine zx (zl (zm (vi b) (jg rfl z06 eu rfl (h2.mono (n.trans q)) fun bF a9=>?_)))
 refine qp rfl ty3 rfl a9 fun bG ba=>?_;obtain rfl:=qh.1 ba;refine zi (jd rfl rfl) (z8 (zw rfl c (fun c=>?_) (fun c=>?_)));refine qc (zx (zy (zx ?_)));obtain⟨aA,aB,aC,c⟩:=zqr c
 refine ma 12 [⟨11,[.int .i64 0,.int .i64 0],53⟩] [phP (tSl false (tSl false kEdge)) m.rows,phR (tSl false (tSl false kEdge)) m.rows,phX k,phX (vi a),phP (q9 .i64) (ix f a),phX (vi (ix f a)),phP (tSl false kEdge) (ix m.rows (ix f a)),phR (tSl false kEdge) (ix m.rows (ix f a)),phX (vi b),phP kEdge (ix (ix m.rows (ix f a)) b),phX (z2k (ix (ix m.rows (ix f a)) b)),phB] mixed (by kernel_rfl) (pq ⟨dx,rf,zt,zt,dx,zt,dx,rf,zt,dx,zt,zqh,trivial⟩) ⟨?_,?_,?_,?_,?_,?_,?_,?_,?_,?_,?_,?_,trivial⟩ fun bH C=>?_
 intro l bI j x hd;exact zf rfl rfl rfl (ae vz ug (x 2 rfl) ((h2.mono (n.trans q)).mono j));rintro l bJ j x ⟨G,_⟩;exact zf rfl rfl rfl (ut z11 rfl (G rfl));intro l bK j x hd;exact zf rfl rfl rfl (zz (za (x 1 rfl)));intro l bL j x hd;exact zf rfl rfl rfl (zz (za (x 6 rfl)))
 rintro l bM j x ⟨G,d1,_⟩;have u:=d1 rfl;exact zf rfl rfl rfl (tq (i:=a.toNat) bg (G rfl) (jc ((z.mono ((H.trans n).trans q)).mono j)) (ze u aA.1) (zo aA));rintro l bN j x ⟨G,_⟩;exact zf rfl rfl rfl (ui (ut ty3 rfl (G rfl)) (fun _ _ h=>qh.1 h));rintro l bO j x ⟨G,d1,_⟩
 exact zf rfl rfl rfl (tq (i:=(ix f a).toNat) zf2 rfl (jc (G rfl)) (ze (d1 rfl) aB.1) (zo aB));rintro l bP j x ⟨G,_⟩;exact zf rfl rfl rfl (ut zdp rfl (G rfl));intro l bQ j x hd;exact zf rfl rfl rfl (zz (za (x 8 rfl)));rintro l bR j x ⟨G,d1,_⟩
 exact zf rfl rfl rfl (tq (i:=b.toNat) zhb rfl (jc (G rfl)) (ze (d1 rfl) aC.1) (zo aC));rintro l bm j x ⟨G,_⟩;exact zf rfl rfl rfl (ui (ut zj5 rfl (G rfl)) (fun _ _ h=>z16.1 h));intro l bn j x hd;exact zhu rfl rfl rfl rfl zmq
 intro bS bT bU bV bW bb bX bc bY bZ b0 be b1 b2 b3 b4 b5 bf b7 b8 b9 bh ca bi;obtain rfl:=Eq.symm bb;obtain rfl:=Eq.symm bc;obtain rfl:=Eq.symm be;obtain rfl:=Eq.symm bf;obtain rfl:=Eq.symm bh;obtain⟨I,rfl⟩:=bi
 refine qj (i:=0) (vs:=[(vi ((ix (ix m.rows (ix f a)) b).to)),(vi ((ix (ix m.rows (ix f a)) b).out))]) ze6 rfl rfl rfl rfl rfl rfl (qa rfl (qa rfl qw)) ?_;refine j4 (zk (vi (-1)) (z8 ?_));obtain⟨o,e,c⟩:=zn c
 refine j6 (γ:=Int) (rs [10,12,40,54]) (fun g=>[(10,(vi g))]) (fun g=>[box b6 [(vi 0),(vi 0),vs0] 27,box t [(vi m.inputs),(vi m.outputs),F] 27,u,ab,box I [(vi ((ix (ix m.rows (ix f a)) b).to)),(vi ((ix (ix m.rows (ix f a)) b).out))] 53]++A) (fun g R=>o=g∧True) ?_ ?_
 refine zl (zk (vi 0) (z8 (zy (kg (γ:=Nat×Int×Int) (rs [10,12,40,54]) (fun g=>[(10,(vi g.2.1)),(11,(vi g.2.2))]) (fun g=>[box b6 [(vi 0),(vi 0),vs0] 27,box t [(vi m.inputs),(vi m.outputs),F] 27,u,ab,box I [(vi ((ix (ix m.rows (ix f a)) b).to)),(vi ((ix (ix m.rows (ix f a)) b).out))] 53]++A) (fun g R=>xq N m f a b g.1 g.2.1 g.2.2=some o∧True) (fun g=>g.1) (N,(-1),0) ⟨[],(pk 1 rfl (pk 1 rfl (pk 1 rfl (pk 1 rfl (pk 0 rfl (List.Perm.refl _))))))⟩ ⟨e,trivial⟩ ?_))))
 clear e;rintro⟨ac,ar,p⟩ bo cb K ⟨e,_⟩;rcases ac with _|ac;exact qy e;replace e:xq N m f a b (ac+1) ar p=some o:=e;rw [xq] at e
 refine zx (zl (zm (vi p) (zm k (zi (qm rfl underlying36 rfl (jc (z.mono ((((H.trans n).trans q).trans C).trans K)))) (zi (jd rfl rfl) (z8 (zw rfl e (fun e=>?_) (fun e=>?_))))))));refine qc ?_;obtain⟨au,y,e⟩:=zn e
 refine j6 (γ:=Int) (rs [10,11,46,54]) (fun g=>[(10,(vi g))]) (fun g=>[box b6 [(vi 0),(vi 0),vs0] 27,box t [(vi m.inputs),(vi m.outputs),F] 27,u,ab,box I [(vi ((ix (ix m.rows (ix f a)) b).to)),(vi ((ix (ix m.rows (ix f a)) b).out))] 53]++A) (fun g R=>au=g∧True) ?_ ?_
 refine zy (zx (rq 7 mixed (by kernel_rfl) (by kernel_rfl) ?_));refine jy (v:=k) (za rfl) ?_;refine jy (v:=(vi p)) (za rfl) ?_;obtain⟨ai,y⟩:=zb y;refine df (uq (i:=p.toNat) bg rfl (jc (z.mono ((((H.trans n).trans q).trans C).trans K))) (ze rfl ai.1) (zo ai)) fun bp aE=>?_
 refine jy (y5 (jm ty3 rfl aE)) ?_;refine jy (v:=(.pointer (some ⟨I,0,none⟩))) (qg z6j rfl) ?_;refine jy (v:=(vi ((ix (ix m.rows (ix f a)) b).to))) (zg (i:=4) ag3 rfl rfl rfl) ?_;refine jy (ul rfl rfl) ?_;intro bq L;refine z8 (zw rfl y (fun y=>?_) (fun y=>?_))
 refine zq (zm (vi p) (zk (vi p) (z8 ?_)));exact⟨dkt,L,jr,p,⟨rfl,trivial⟩,prm,(Option.some.inj y).symm,trivial⟩;refine qc ?_;exact⟨dkt,L,jr,ar,⟨rfl,trivial⟩,prm,(Option.some.inj y).symm,trivial⟩;rintro au br cc av ⟨rfl,_⟩;refine zq (zm (vi p) ?_);obtain⟨aF,e⟩:=zb e
 refine zi (je rfl rfl aF) (zk (vi (p+1)) (z8 ?_));exact⟨dkt,av,jr,(ac,au,p+1),Nat.lt_succ_self _,⟨rfl,rfl,trivial⟩,prm,e,trivial⟩;refine jq ?_;exact⟨dkt,K,jr,ar,⟨rfl,trivial⟩,prm,(Option.some.inj e).symm,trivial⟩;rintro o bs cd aj ⟨rfl,_⟩
 refine zq (zm ay (zm (vi o) (zi (qg zdq rfl) (zi (zg (i:=4) ag3 rfl rfl rfl) (zi (kw (ps:=[(0,(vi o)),(1,(vi ((ix (ix m.rows (ix f a)) b).out)))]) (v:=(.agg #[(vi o),(vi ((ix (ix m.rows (ix f a)) b).out))])) rfl (fun w=>by kernel_rfl)) ?_)))))
 let G1:=([(⟨o,(ix (ix m.rows (ix f a)) b).out⟩:Edge)]:List Edge)
 refine p8 (T:=kEdge) (X:=G1) (ps:=[(0,(.agg #[(vi o),(vi ((ix (ix m.rows (ix f a)) b).out))]))]) (css:=[[(vi o),(vi ((ix (ix m.rows (ix f a)) b).out))]]) rfl underlying54 zcs rfl rfl (kv ⟨⟨_,_,rfl,rfl,rfl⟩,trivial⟩) rfl rfl (by decide) fun aG bt ad aH=>?_;refine uk (i:=0) rfl aH fun aI M aJ=>?_
 have aK:VRep (tSl true kEdge) aI aG G1:=(z01 aJ ad);obtain⟨ak,c⟩:=zb c;refine bv (i:=3) (X:=aa) (Y:=G1) rfl underlying54 zcs rfl rfl rfl (az.mono ((C.trans aj).trans M)) (jc (Sub.v (B:=(tSl false kEdge)) (kz Sub.refl (fun _=>rfl)) aK)) ak.1 ak.2 fun al aL aM=>?_
 refine zk al (z8 (zq (zm (vi b) ?_)));obtain⟨aN,c⟩:=zb c;refine zi (je rfl rfl aN) (zk (vi (b+1)) (z8 ?_))
 exact⟨dkt,((C.trans aj).trans M),jr,(Z,(aa++G1),b+1,al,aL),Nat.lt_succ_self _,⟨rfl,rfl,trivial⟩,⟨[box I [(vi ((ix (ix m.rows (ix f a)) b).to)),(vi ((ix (ix m.rows (ix f a)) b).out))] 53],(pk 4 rfl (pk 0 rfl (pk 0 rfl (pk 0 rfl (pk 0 rfl (List.Perm.refl _))))))⟩,c,aM,trivial⟩;refine jq ?_
 exact⟨dkt,q,jr,(aa,ay,ab),⟨rfl,trivial⟩,prm,(Option.some.inj c).symm,az,trivial⟩;rintro⟨s,af,ce⟩ bu cf am ⟨rfl,bj,_⟩;refine zq (zi (qg vz rfl) (zi (zg (i:=1) zuh rfl rfl rfl) (zm af (uk (i:=3) rfl bj fun aO O aP=>?_))));have an:VRep (tSl false kEdge) aO af s:=(z6a aP)
 refine p8 (T:=(tSl false kEdge)) (X:=([s]:List (List Edge))) (ps:=[(0,af)]) (css:=[[af]]) rfl underlying25 zhf rfl (by simp only [List.map_cons,List.map_nil,lv an];rfl) (kv ⟨(u7 rfl an),trivial⟩) rfl rfl (by decide) fun aQ bw ag aR=>?_;refine uk (i:=0) rfl aR fun aS P aT=>?_
 have aU:VRep (tSl true (tSl false kEdge)) aS aQ ([s]:List (List Edge)):=(z01 aT ag);obtain⟨ao,d⟩:=zb d
 refine bv (i:=2) (X:=W) (Y:=([s]:List (List Edge))) rfl underlying25 zhf rfl rfl rfl (ax.mono ((am.trans O).trans P)) (jc (Sub.v (B:=(tSl false (tSl false kEdge))) (kz Sub.refl (fun _=>rfl)) aU)) ao.1 ao.2 fun ap aV Q=>?_
 refine zi (qg vz rfl) (qj (i:=1) (vs:=[ap]) zv3 rfl rfl (uh Q) rfl rfl rfl (qa (uu Q) qw) ?_);refine z8 (zq (zm (vi a) ?_));obtain⟨aW,d⟩:=zb d;refine zi (je rfl rfl aW) (zk (vi (a+1)) (z8 ?_))
 exact⟨dkt,((am.trans O).trans P),jr,(V,a+1,(W++([s]:List (List Edge))),ap,aV),Nat.lt_succ_self _,⟨rfl,trivial⟩,prm,d,Q,trivial⟩;refine jq ?_;exact⟨dkt,n,jr,(W,F,u),trivial,prm,(Option.some.inj d).symm,ax,trivial⟩;rintro⟨E,S,cg⟩ bx ch aX ⟨rfl,aY,_⟩
 refine zl (zi (nu (i:=1) z9v z4c rfl rfl rfl rfl) (qj (i:=0) (vs:=[(vi m.inputs),(vi m.outputs),S]) z4c rfl rfl rfl rfl rfl rfl (qa rfl (qa rfl (qa (uu aY) qw))) ?_));refine z8 (nz (i:=2) rfl aY fun aZ aw a0=>?_);have a1:VRep (tSl false (tSl false kEdge)) aZ S E:=(z6a a0)
 refine ql ?_;obtain rfl:=Option.some.inj U
 refine qd (D:=[]) (J:=[box b6 [(vi m.inputs),(vi m.outputs),S] 27,box t [(vi m.inputs),(vi m.outputs),S] 27]) (rs:=[.cell 4 27]) (vs:=[(.agg #[(vi m.inputs),(vi m.outputs),S])]) ((H.trans aX).trans aw) rfl rfl ⟨⟨_,rfl,fun w hh=>z2s (i:=0) hh rfl rfl z9v z4c rfl rfl⟩,trivial⟩ ?_
 exact⟨rfl,(⟨_,⟨_,_,rfl,rfl,⟨_,_,rfl,rfl,(u7 rfl a1)⟩⟩,rfl⟩:VRep (jl false false) _ _ (⟨m.inputs,m.outputs,E⟩:Mach))⟩
theorem zyv:Enters prog 34:=enters_of func34 rfl (by kernel_rfl)
theorem zyg:Enters prog 33:=enters_of func33 rfl (by kernel_rfl)
theorem z3y{N:Nat}{R:RH}{m:Mach}{b:Value}(e:VRep (jl false false) R b m){r:Mach}(d:ni N m=some r):CallP prog 11 #[b] R (fun v R'=>VRep (jl false false) R' v r):=by
 refine qo (args:=[b]) func11 rfl rfl fun A=>?_;rw [ni] at d;refine zl (uz (T:=(jl false false)) rfl rfl rfl e fun V W f u X=>?_);refine jb rfl zdu fun x=>?_;refine z8 (zx ?_);obtain⟨y,z,d⟩:=zn d;obtain⟨a,o,d⟩:=zn d
 refine ma 4 [] [phX b,phX b,phR (tSl false (q9 .i64)) y,phR (jl false false) a] mixed (by kernel_rfl) (pq ⟨zt,zt,rf,rf,trivial⟩) ⟨?_,?_,?_,?_,trivial⟩ fun B j=>?_;intro l C c k E;exact zf rfl rfl rfl (zz (ji au rfl (k 1 rfl) (u.mono c) ((e.mono f).mono c)));intro l F c k E
 exact zf rfl rfl rfl (zz (ji au rfl (k 1 rfl) (u.mono c) ((e.mono f).mono c)));rintro l G c k ⟨p,_⟩;have H:l 4=b:=p rfl;exact zf rfl rfl rfl (yh (vs:=[b]) zyv (by simp only [List.map,ev,H]<;>rfl) (zak ((e.mono f).mono c) z) (fun _ _ h=>h));rintro l I c k ⟨p,K,Y,_⟩
 have L:l 3=b:=p rfl;exact zf rfl rfl rfl (yh (vs:=[b,(l 5)]) zyg (by simp only [List.map,ev,L]<;>rfl) (zbb ((e.mono f).mono c) (K rfl) o) (fun _ _ h=>h));intro M q O s P Q S t;obtain rfl:=Eq.symm q;obtain rfl:=Eq.symm s;obtain⟨g,rfl,n⟩:=z5z t
 refine qj (i:=0) (vs:=[(vi a.inputs),(vi a.outputs),g]) z4c rfl rfl rfl rfl rfl rfl (qa rfl (qa rfl (qa (ze5 n) qw))) ?_;refine z8 (ql ?_);obtain rfl:=Option.some.inj d
 refine qd (D:=[]) (J:=[box x [(vi a.inputs),(vi a.outputs),g] 27]) (rs:=[.cell 2 27]) (vs:=[(.agg #[(vi a.inputs),(vi a.outputs),g])]) (f.trans j) rfl rfl ⟨⟨_,rfl,fun w U=>z2s (i:=0) U rfl rfl z9v z4c rfl rfl⟩,trivial⟩ ?_
 exact⟨rfl,(⟨_,⟨_,_,rfl,rfl,⟨_,_,rfl,rfl,(u7 rfl n)⟩⟩,rfl⟩:VRep (jl false false) _ _ (⟨a.inputs,a.outputs,a.rows⟩:Mach))⟩
theorem zwx:Enters prog 11:=enters_of func11 rfl (by kernel_rfl)
end GV
end Go.Proofs.Ytdhccodneoebpaa
