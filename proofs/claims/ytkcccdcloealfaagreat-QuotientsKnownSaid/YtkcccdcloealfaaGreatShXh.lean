import Derived.Test.YtkcccdcloealfaaGreatShWd
import Derived.Test.YtkcccdcloealfaaGreatShXb
import Derived.Test.YtkcccdcloealfaaGreatShXc
import Derived.Test.YtkcccdcloealfaaGreatShXe
import Derived.Test.YtkcccdcloealfaaGreatRows
set_option linter.unusedVariables false
set_option linter.unusedSimpArgs false
namespace Go.Proofs.YtkcccdcloealfaaGreat
namespace GV
open _root_.Go.Proofs.Tryz
open Go.IntWalk
set_option maxRecDepth 100000
set_option maxHeartbeats 20000000
theorem q8y{a:Bool}:ZeroOk prog 32 (tSl a (qc .i64)) ([]:List Int) 24:=by
 obtain⟨i,zv,hi,c,d,f,g⟩:=z4d (P:=prog) (e:=32) (zv:=vs0) (k:=1) (b:=24) (by kernel_rfl);exact⟨i,zv,hi,c,d,f,fun R=>by subst g;exact(je rfl z7x)⟩
theorem q4n:Enters prog 108:=enters_of func108 rfl (by kernel_rfl)
theorem zbc{N:Nat}(F:Nat): ∀ {R:RH} {m:Mach} {d:Value} (j:VRep (qz false false) R d m) {s:Int} {n:(List Int)} {c:Value} (g:VRep (tSl false (qc .i64)) R c n) {r:Int} (b:lu N F m s n=some r),CallP prog 108 #[d,(vi s),c] R (fun v R'=>v=(vi r)):=by
  induction F with
  |zero=>intros;rename_i b;exact j4 b
  |succ F ih=>
    intro R m d j s n c g r b
    refine qf (args:=[d,(vi s),c]) func108 rfl rfl fun A=>?_
    rw [lu] at b
    refine q8 ?_
    refine zz ?_
    refine ky (T:=(qz false false)) rfl rfl rfl j fun v1 R3 e h5 h2=>?_
    refine zf (vi 0) ?_
    refine z8 ?_
    refine q8 ?_
    refine q8 ?_
    refine zz ?_
    refine zh c ?_
    refine zq (qj rfl underlying32 rfl (ja (g.mono e))) ?_
    refine zq (x9 rfl rfl) ?_
    refine z8 ?_
    refine zw rfl b (fun b=>?_) (fun b=>?_)
    · refine q8 ?_
      refine zz ?_
      refine zh (vi s) ?_
      refine zf (vi s) ?_
      refine z8 ?_
      refine qp ?_
      obtain rfl:=Option.some.inj b
      refine q9 (D:=[]) (J:=[]) (rs:=[.tmp 6]) (vs:=[(vi s)]) e rfl rfl ⟨rfl,trivial⟩ ?_
      exact⟨rfl,rfl⟩
    · refine qa ?_
      refine q8 ?_
      obtain⟨g7,b⟩:=ze b
      obtain⟨q,c9,b⟩:=zm b
      obtain⟨o,b⟩:=ze b
      obtain⟨p,B,b⟩:=zm b
      refine dn 12 [] [phX d,phX d,phX (vi s),phX c,phP (qc .i64) (ix n 0),phX (vi (ix n 0)),phX (ut q),phX (vi q.to),phX c,phR (tSl false (qc .i64)) (cut n 1 (↑n.length:Int)),phX (vi p),phX (vi p)] mixed (by kernel_rfl) (yl ⟨zi,zi,zi,zi,xu,zi,zi,zi,zi,bz,zi,zi,trivial⟩) ⟨?_,?_,?_,?_,?_,?_,?_,?_,?_,?_,?_,?_,trivial⟩ fun al t=>?_
      · intro l am a f x
        have C:l 3=v1:=f 3 rfl
        exact za rfl rfl rfl (zt (jl z19 rfl C (h5.mono a) ((j.mono e).mono a)))
      · intro l an a f x
        have C:l 3=v1:=f 3 rfl
        exact za rfl rfl rfl (zt (jl z19 rfl C (h5.mono a) ((j.mono e).mono a)))
      · intro l ao a f x
        have a1:l 1=(vi s):=f 1 rfl
        exact za rfl rfl rfl (zt (zb a1))
      · intro l aq a f x
        have E:l 2=c:=f 2 rfl
        exact za rfl rfl rfl (zt (zb E))
      · rintro l ar a f ⟨k,_⟩
        have G:=k rfl
        exact za rfl rfl rfl (yj (i:=(0:Int).toNat) z02 G (ja ((g.mono e).mono a)) (zl rfl g7.1) (qb g7))
      · rintro l au a f ⟨k,_⟩
        have H:=k rfl
        exact za rfl rfl rfl (xc (ug ty3 rfl H) (fun _ _ h=>jb.1 h))
      · rintro l av a f ⟨k,y,z,_⟩
        have I:l 12=d:=k rfl
        have K:l 13=(vi s):=y rfl
        have L:l 16=(vi (ix n 0)):=z rfl
        exact za rfl rfl rfl (jy (vs:=[d,(vi s),(vi (ix n 0))]) q7n (by simp only [List.map,ev,I,K,L]<;>rfl) (z9h ((j.mono e).mono a) c9) (fun _ _ h=>h))
      · rintro l aw a f ⟨k,_⟩
        have M:=k rfl
        exact za rfl rfl rfl (zt (zw1 (v:=(ut q)) (u:=(vi q.to)) M (fun w=>by kernel_rfl)))
      · intro l ax a f x
        have E:l 2=c:=f 2 rfl
        exact za rfl rfl rfl (zt (zb E))
      · rintro l ay a f ⟨k,_⟩
        have O:=k rfl
        exact za rfl rfl rfl (zmn (lo:=(1:Int).toNat) (hi:=(↑n.length:Int).toNat) (mx:=(capOf c)) (X':=(cut n 1 (↑n.length:Int))) z02 O (ja ((g.mono e).mono a)) (.inr ⟨_,congrArg some (zl rfl o.1)⟩) (.inl ⟨rfl,rfl,rfl⟩) (.inl ⟨rfl,rfl⟩) (zdl o) (z7l o) (fun h=>Nat.le_trans (z7l o) h) (fun _=>Nat.le_refl _) rfl)
      · rintro l ai a f ⟨k,y,z,d3,_⟩
        have P:l 11=d:=k rfl
        have Q:l 18=(vi q.to):=y rfl
        have S:=z rfl
        exact za rfl rfl rfl (jy (vs:=[d,(vi q.to),(l 20)]) q4n (by simp only [List.map,ev,P,Q]<;>rfl) (ih ((j.mono e).mono a) S B) (fun _ _ h=>h))
      · rintro l aj a f ⟨k,y,z,d3,d4,d5,d6,d7,d8,d9,aA,aB,aC,_⟩
        have U:=k rfl
        exact za rfl rfl rfl (zt (ni U))
      intro aD V
      intro aE W
      intro aF X
      intro aG Y
      intro aH aI
      intro aJ Z
      intro aK aa
      intro aL ab
      intro aM ac
      intro aN aO
      intro aP ad
      intro aQ ae
      obtain rfl:=Eq.symm V
      obtain rfl:=Eq.symm W
      obtain rfl:=Eq.symm X
      obtain rfl:=Eq.symm Y
      obtain rfl:=Eq.symm Z
      obtain rfl:=Eq.symm aa
      obtain rfl:=Eq.symm ab
      obtain rfl:=Eq.symm ac
      obtain rfl:=Eq.symm ad
      obtain rfl:=Eq.symm ae
      refine z8 ?_
      refine qp ?_
      obtain rfl:=Option.some.inj b
      refine q9 (D:=[]) (J:=[]) (rs:=[.tmp 6]) (vs:=[(vi p)]) (e.trans t) rfl rfl ⟨rfl,trivial⟩ ?_
      exact⟨rfl,rfl⟩
theorem zdt{N:Nat}{R:RH}{m:Mach}{b:Value}(d:VRep (qz false false) R b m){s:Int}{f:(List Int)}{a:Value}(c:VRep (tSl false (qc .i64)) R a f){r:Int}(e:lu N N m s f=some r):CallP prog 108 #[b,(vi s),a] R (fun v R'=>v=(vi r)):=zbc N d c e
theorem q0o{a:Bool}:SlOk prog 116 32 (tSl a (qc .i64)):=⟨underlying116,q1j⟩
theorem zea{N:Nat}{R:RH}{w:(List Int)}{e:Value}(x:VRep (tSl false (qc .i64)) R e w){inputs:Int}{r:(List Int)}(c:z1x N w inputs=some r):CallP prog 107 #[e,(vi inputs)] R (fun v R'=>VRep (tSl false (qc .i64)) R' v r):=by
 refine qf (args:=[e,(vi inputs)]) func107 rfl rfl fun A=>?_;rw [z1x] at c;refine zn (zf vs0 (qw (rf (T:=(qc .i64)) (X:=([]:List Int)) (ps:=[]) (css:=[]) rfl underlying32 zo3 rfl rfl (uh trivial) rfl rfl (by decide) fun v1 f2 an h4=>?_)));refine zh e ?_;obtain⟨g6,c⟩:=ze c
 refine bu (i:=0) (X:=([]:List Int)) (Y:=w) rfl underlying32 zo3 rfl rfl rfl h4 (ja x) g6.1 g6.2 fun f f8 h9=>?_;refine zf f (z8 ?_);obtain⟨n,a,c⟩:=zm c;refine j6 (γ:=(List Int)×Frag) (rs [4,5,6,7,10,34]) (fun g=>[]) (fun g=>[g.2]++A) (fun g R=>n=Ex.go g.1∧ORep (qc .i64) R g.2 f g.1∧True) ?_ ?_
 refine zn (zh f (zq (zax rfl underlying32 rfl h9) ?_));obtain⟨G,a⟩:=ze a
 refine zq (zgx rfl rfl G) (zf (vi ((↑(([]:List Int)++w).length:Int)-1)) (z8 (zy (jg (γ:=Nat×Int×(List Int)×Frag) (rs [4,5,6,7,13,34]) (fun g=>[(6,(vi g.2.1))]) (fun g=>[g.2.2.2]++A) (fun g R=>cz N inputs g.1 g.2.1 g.2.2.1=some n∧ORep (qc .i64) R g.2.2.2 f g.2.2.1∧True) (fun g=>g.1) (N,(↑(([]:List Int)++w).length:Int)-1,(([]:List Int)++w),f8) prm ⟨a,h9,trivial⟩ ?_))))
 clear a;rintro⟨k,b,h,H⟩ au av l ⟨a,d,_⟩;rcases k with _|k;exact j4 a;replace a:cz N inputs (k+1) b h=some n:=a;rw [cz] at a;refine q8 (zn (zh (vi b) (zq (z3i rfl rfl) (z8 (zw rfl a (fun a=>?_) (fun a=>?_))))))
 refine qa (q8 (zy (q8 (zn (zh f (zh (vi b) ?_))))));obtain⟨o,a⟩:=ze a;refine lm (i:=b.toNat) rfl z02 rfl d (zl rfl o.1) (qb o) fun aw I=>?_;refine zb0 (i:=b.toNat) (j:=0) rfl ty3 d rfl rfl I (qb o) fun ax K=>?_;obtain rfl:=jb.1 K;obtain⟨L,a⟩:=ze a
 refine zq (jf rfl rfl L) (zh (vi inputs) (zq (jc rfl rfl) (z8 (zw rfl a (fun a=>?_) (fun a=>?_)))));refine zn (zh f (zh (vi b) ?_));obtain⟨p,a⟩:=ze a;refine lm (i:=b.toNat) rfl z02 rfl d (zl rfl p.1) (qb p) fun ay M=>?_
 refine zb0 (i:=b.toNat) (j:=0) rfl ty3 d rfl rfl M (qb p) fun az O=>?_;obtain rfl:=jb.1 O;obtain⟨P,a⟩:=ze a;refine zq (jf rfl rfl P) ?_;obtain⟨q,a⟩:=ze a;refine lm (i:=b.toNat) rfl z02 rfl d (zl rfl q.1) (qb q) fun aA Q=>?_
 refine z3n (i:=b.toNat) (j:=0) ty3 d rfl rfl Q (qb q) rfl (jb.2 rfl) fun aB S=>?_;refine qw (zh f (zf f (z8 (rz (i:=0) rfl S fun U y V=>?_))));have W:VRep (tSl false (qc .i64)) U f (up h b ((ix h b)+1)):=(z4u V);refine qp ?_;replace c:=z1z a c;obtain rfl:=Option.some.inj c
 refine q9 (D:=[]) (J:=[]) (rs:=[.tmp 4]) (vs:=[f]) (l.trans y) rfl rfl ⟨rfl,trivial⟩ ?_;exact⟨rfl,W⟩;refine qa (zz (zh f (zh (vi b) ?_)));obtain⟨s,a⟩:=ze a;refine lm (i:=b.toNat) rfl z02 rfl d (zl rfl s.1) (qb s) fun aC Z=>?_
 refine z3n (i:=b.toNat) (j:=0) ty3 d rfl rfl Z (qb s) rfl (jb.2 rfl) fun aa ab=>?_;refine z8 (zz (zh (vi b) ?_));obtain⟨ac,a⟩:=ze a;refine zq (zgx rfl rfl ac) (zf (vi (b-1)) (z8 ?_))
 exact⟨dkt,(RH.le.refl _),jq,(k,b-1,(up h b 0),aa),Nat.lt_succ_self _,⟨rfl,trivial⟩,prm,a,ab,trivial⟩;refine jm ?_;exact⟨dkt,l,jq,(h,H),trivial,prm,(Option.some.inj a).symm,d,trivial⟩;rintro⟨z,aD⟩ aE aF C ⟨rfl,ad,_⟩;replace c:=z4v c
 refine zn (zh f (rf (T:=(qc .i64)) (X:=([0]:List Int)) (ps:=[(0,(vi 0))]) (css:=[[(vi 0)]]) rfl underlying32 zo3 rfl rfl (uh ⟨rfl,trivial⟩) rfl rfl (by decide) fun ae aG t af=>?_));refine wu (i:=0) rfl af fun ag m ah=>?_;have ai:VRep (tSl true (qc .i64)) ag ae ([0]:List Int):=(z1b ah t)
 obtain⟨E,c⟩:=ze c;refine bu (i:=0) (X:=z) (Y:=([0]:List Int)) rfl underlying32 zo3 rfl rfl rfl (ad.mono m) (ja (Sub.v (B:=(tSl false (qc .i64))) (ku Sub.refl (fun _=>rfl)) ai)) E.1 E.2 fun u aH aj=>?_;refine zf u (z8 (rz (i:=0) rfl aj fun ak F al=>?_))
 have am:VRep (tSl false (qc .i64)) ak u (z++([0]:List Int)):=(z4u al);refine qp ?_;obtain rfl:=Option.some.inj c;refine q9 (D:=[]) (J:=[]) (rs:=[.tmp 4]) (vs:=[u]) ((C.trans m).trans F) rfl rfl ⟨rfl,trivial⟩ ?_;exact⟨rfl,am⟩
theorem q7b:Enters prog 107:=enters_of func107 rfl (by kernel_rfl)
theorem zds{N:Nat}{R:RH}{m:Mach}{Q:Value}(S:VRep (qz false false) R Q m){f:Int}{r:(List (List Int))×(List Bool)}(o:z1h N m f=some r):CallP prog 98 #[Q,(vi f)] R (fun v R'=> ∃ u0 u1,v= .tuple #[u0,u1]∧VRep (tSl true (tSl false (qc .i64))) R' u0 r.1∧VRep (tSl true yz) R' u1 r.2):=by
 refine qf (args:=[Q,(vi f)]) func98 rfl rfl fun A=>?_;rw [z1h] at o;refine zn (ky (T:=(qz false false)) rfl rfl rfl S fun v1 R3 U h5 h2=>?_);refine zf vs0 (zf vs0 (qw (jo rfl uf u6 rfl h2 fun v6 h7=>?_)));refine qh rfl z1g rfl h7 fun v8 h9=>?_
 refine zq (qj rfl underlying28 rfl (ja h9)) ?_;obtain⟨E,o⟩:=ze o;refine z8k (T:=(tSl false (qc .i64))) (m:=(↑m.rows.length:Int).toNat) (c:=(↑m.rows.length:Int).toNat) rfl underlying116 q8y (zl rfl E.1) (zl rfl E.1) (Nat.le_refl _) (zbo E) (zbn E) fun h aF V aG=>?_
 refine zf h (qw (jo rfl uf u6 rfl h2 fun bh aH=>?_));refine qh rfl z1g rfl aH fun bi aI=>?_;refine zq (qj rfl underlying28 rfl (ja aI)) ?_;obtain⟨F,o⟩:=ze o
 refine z8k (T:=yz) (m:=(↑m.rows.length:Int).toNat) (c:=(↑m.rows.length:Int).toNat) rfl underlying77 zo4 (zl rfl F.1) (zl rfl F.1) (Nat.le_refl _) (zbo F) (zbn F) fun d aJ W aK=>?_;refine zf d (z8 ?_);obtain⟨q,b,o⟩:=zm o
 refine j6 (γ:=(List (List Int)×List Bool)×Frag×Frag) (rs [8,10,18,49]) (fun g=>[]) (fun g=>[g.2.1,g.2.2]++A) (fun g R=>q=g.1∧ORep (tSl false (qc .i64)) R g.2.1 h g.1.1∧capOf h=g.1.1.length∧ORep yz R g.2.2 d g.1.2∧capOf d=g.1.2.length∧True) ?_ ?_
 refine zn (rf (T:=(qc .i64)) (X:=([]:List Int)) (ps:=[]) (css:=[]) rfl underlying32 zo3 rfl rfl (uh trivial) rfl rfl (by decide) fun Y bj Z aL=>?_);refine zf Y (z8 (zy (rz (i:=0) rfl aL fun aM l aN=>?_)));have aO:VRep (tSl true (qc .i64)) aM Y ([]:List Int):=(z1b aN Z)
 refine jg (γ:=Nat×((List Int))×(List (List Int))×(List Bool)×Value×Frag×Frag) (rs [8,10,19,49]) (fun g=>[(8,g.2.2.2.2.1)]) (fun g=>[g.2.2.2.2.2.1,g.2.2.2.2.2.2]++A) (fun g R=>yn N m f g.1 g.2.1 g.2.2.1 g.2.2.2.1=some q∧VRep (tSl false (qc .i64)) R g.2.2.2.2.1 g.2.1∧ORep (tSl false (qc .i64)) R g.2.2.2.2.2.1 h g.2.2.1∧capOf h=g.2.2.1.length∧ORep yz R g.2.2.2.2.2.2 d g.2.2.2.1∧capOf d=g.2.2.2.1.length∧True) (fun g=>g.1) (N,[],(mk (↑m.rows.length:Int) ([]:List Int)),(mk (↑m.rows.length:Int) false),Y,aF,aJ) ⟨[],(pk 1 rfl (pk 0 rfl (List.Perm.refl _)))⟩ ⟨b,(Sub.v (B:=(tSl false (qc .i64))) (ku Sub.refl (fun _=>rfl)) aO),(aG.mono l),(V.trans List.length_replicate.symm),(aK.mono l),(W.trans List.length_replicate.symm),trivial⟩ ?_
 clear b;rintro⟨G,ac,H,I,K,ad,ae⟩ a6 bk n ⟨b,L,M,t,s,u,_⟩;rcases G with _|G;exact j4 b;replace b:yn N m f (G+1) ac H I=some q:=b;rw [yn] at b
 refine q8 (zn (zh K (zq (qj rfl underlying32 rfl (ja L)) (jo rfl uf u6 rfl (h2.mono (l.trans n)) fun bl aP=>?_))));refine qh rfl z1g rfl aP fun bm aQ=>?_;refine zq (qj rfl underlying28 rfl (ja aQ)) (zq (jc rfl rfl) (z8 (zw rfl b (fun b=>?_) (fun b=>?_))));refine qa ?_
 obtain⟨O,k,b⟩:=zm b;refine j6 (γ:=(List (List Int)×List Bool)×Frag×Frag) (rs [9,10,29,49]) (fun g=>[]) (fun g=>[g.2.1,g.2.2]++A) (fun g R=>O=g.1∧ORep (tSl false (qc .i64)) R g.2.1 h g.1.1∧capOf h=g.1.1.length∧ORep yz R g.2.2 d g.1.2∧capOf d=g.1.2.length∧True) ?_ ?_
 refine zy (zn (zq (jl z19 rfl rfl (h5.mono (l.trans n)) (S.mono ((U.trans l).trans n))) (zh (vi f) (zh K ?_))));obtain⟨e,aR,k⟩:=zm k;refine j3 rfl q4n rfl (zdt (S.mono ((U.trans l).trans n)) L aR) fun bn bo a aS=>?_;obtain rfl:=aS
 refine zf (vi e) (qw (ji (v:=(vi e)) rfl (zb rfl) (ji rfl (z3i rfl rfl) (ji (v:=(.bool (decide (0≤e)))) rfl (zb rfl) (j5 rfl rfl rfl rfl (fun w=>qx (v:=d) (zb rfl)) fun bp aT=>?_)))));refine j5 rfl rfl rfl rfl (fun w=>qx (v:=(vi e)) (zb rfl)) fun bq aU=>?_;obtain⟨aa,k⟩:=ze k
 refine j5 rfl rfl rfl rfl (fun w=>zaf (i:=e.toNat) zdw (aT.1 (zo rfl w)) (s.mono a) (zl (aU.1 (zo rfl w)) (aa (zo rfl w)).1) (qb (aa (zo rfl w)))) fun br aV=>?_
 refine j5 rfl rfl rfl rfl (fun w=>qx (zh6 (zh3 (i:=e.toNat) (j:=1) ty4 (s.mono a) rfl rfl (aV.1 (zo rfl w)) (qb (aa (zo rfl w)))))) fun bs aW=>?_;refine j5 rfl rfl rfl rfl (fun w=>qx (ow (aW.1 (zo rfl w)))) fun bt aX=>?_
 refine ji rfl (uk rfl (fun hb=>(aX.1 (zo rfl hb))) rfl) (z8 (zw rfl k (fun k=>?_) (fun k=>?_)));refine zn (zh d (zh (vi e) ?_));obtain⟨ab,k⟩:=ze k;refine lm (i:=e.toNat) rfl zdw rfl (s.mono a) (zl rfl ab.1) (qb ab) fun bv af=>?_
 refine z3n (i:=e.toNat) (j:=1) ty4 (s.mono a) rfl rfl af (qb ab) rfl (ll.2 rfl) fun ag ah=>?_;refine z8 (zz (zh h (zh (vi e) (zh K ?_))));obtain⟨x,k⟩:=ze k;refine lm (i:=e.toNat) rfl q0o rfl (M.mono a) (zl rfl x.1) (qb x) fun a7 ai=>?_
 refine z3n (i:=e.toNat) (j:=0) q1j (M.mono a) rfl rfl ai (qb x) rfl (L.mono a) fun aj ak=>?_;refine z8 ?_;exact⟨dkt,a,jq,(((up H e ac),(up I e true)),aj,ag),trivial,prm,(Option.some.inj k).symm,ak,(t.trans List.length_set.symm),ah,(u.trans List.length_set.symm),trivial⟩;refine qa ?_
 exact⟨dkt,a,jq,((H,I),ad,ae),trivial,prm,(Option.some.inj k).symm,(M.mono a),t,(s.mono a),u,trivial⟩;rintro⟨O,aY,aZ⟩ a8 bw y ⟨rfl,a0,al,a1,am,_⟩;refine zz (zh K (jo rfl av lw rfl (h2.mono ((l.trans n).trans y)) fun a9 an=>?_));refine qh rfl ty3 rfl an fun ba ao=>?_
 obtain rfl:=jb.1 ao;obtain⟨ap,aq,b⟩:=zm b;refine j3 rfl q7b rfl (zea (L.mono y) aq) fun P bb p ar=>?_;refine zf P (z8 ?_);exact⟨dkt,(y.trans p),jq,(G,ap,O.1,O.2,P,aY,aZ),Nat.lt_succ_self _,⟨rfl,trivial⟩,prm,b,ar,(a0.mono p),al,(a1.mono p),am,trivial⟩
 refine jm ?_;exact⟨dkt,(l.trans n),jq,((H,I),ad,ae),trivial,prm,(Option.some.inj b).symm,M,t,s,u,trivial⟩;rintro⟨q,bx,bz⟩ bc bA au ⟨rfl,a2,aw,a3,ax,_⟩;refine zn (zh h (zh d (zf h (zf d (z8 (rz (i:=0) rfl a2 fun ay z az=>?_))))))
 have aA:VRep (tSl true (tSl false (qc .i64))) ay h q.1:=(z1b az aw);refine rz (i:=0) rfl (a3.mono z) fun aB C aC=>?_;have aD:VRep (tSl true yz) aB d q.2:=(z1b aC ax);refine qp ?_;obtain rfl:=Option.some.inj o
 refine q9 (D:=[]) (J:=[]) (rs:=[.tmp 4,.tmp 5]) (vs:=[h,d]) (((U.trans au).trans z).trans C) rfl rfl ⟨rfl,rfl,trivial⟩ ?_;exact⟨rfl,⟨h,d,rfl,(aA.mono C),aD⟩⟩
theorem q9v:Enters prog 98:=enters_of func98 rfl (by kernel_rfl)
theorem zdk{N:Nat}{R:RH}{m:Mach}{b:Value}(c:VRep (qz false false) R b m){r:(List (List Int))×(List Bool)}(a:z2i N m=some r):CallP prog 78 #[b] R (fun v R'=> ∃ j k,v= .tuple #[j,k]∧VRep (tSl true (tSl false (qc .i64))) R' j r.1∧VRep (tSl true yz) R' k r.2):=by
 refine qf (args:=[b]) func78 rfl rfl fun A=>?_;rw [z2i] at a;refine zn (ky (T:=(qz false false)) rfl rfl rfl c fun q s d l t=>?_);refine zf vs0 (zf vs0 (qw (zq (jl z19 rfl rfl l (c.mono d)) ?_)));obtain⟨u,n,a⟩:=zm a
 refine j3 rfl q9v rfl (zds (c.mono d) n) fun w o g p=>?_;obtain⟨e,f,rfl,h,i⟩:=p;refine zq (qm rfl rfl) (zq (qm rfl rfl) (zf e (zf f (z8 (qp ?_)))));obtain rfl:=Option.some.inj a
 refine q9 (D:=[]) (J:=[]) (rs:=[.tmp 2,.tmp 3]) (vs:=[e,f]) (d.trans g) rfl rfl ⟨rfl,rfl,trivial⟩ ?_;exact⟨rfl,⟨e,f,rfl,h,i⟩⟩
theorem qa8:Enters prog 78:=enters_of func78 rfl (by kernel_rfl)
theorem zei{N:Nat}{R:RH}{a:(List Int)}{f:Value}(l:VRep (tSl false (qc .i64)) R f a){b:(List Int)}{j:Value}(m:VRep (tSl false (qc .i64)) R j b){r:Int}(d:z0v N a b=some r):CallP prog 79 #[f,j] R (fun v R'=>v=(vi r)):=by
 refine qf (args:=[f,j]) func79 rfl rfl fun A=>?_;rw [z0v] at d;refine zn (zf (vi 0) (z8 (q8 (zn (zh f (zq (qj rfl underlying32 rfl (ja l)) (zh j (zq (qj rfl underlying32 rfl (ja m)) (zq (vk rfl rfl) (z8 (zw rfl d (fun d=>?_) (fun d=>?_))))))))))))
 refine q8 (zn (zh f (zq (qj rfl underlying32 rfl (ja l)) (zh j (zq (qj rfl underlying32 rfl (ja m)) (zq (jc rfl rfl) (z8 (zw rfl d (fun d=>?_) (fun d=>?_)))))))));refine zn (zf (vi 1) (z8 (qp ?_)));obtain rfl:=Option.some.inj d
 refine q9 (D:=[]) (J:=[]) (rs:=[.tmp 4]) (vs:=[(vi 1)]) (RH.le.refl _) rfl rfl ⟨rfl,trivial⟩ ?_;exact⟨rfl,rfl⟩;refine qa (zn (zf (vi 0) (z8 (qp ?_))));obtain rfl:=Option.some.inj d;refine q9 (D:=[]) (J:=[]) (rs:=[.tmp 4]) (vs:=[(vi 0)]) (RH.le.refl _) rfl rfl ⟨rfl,trivial⟩ ?_;exact⟨rfl,rfl⟩;refine qa ?_
 obtain⟨u,c,d⟩:=zm d;refine j6 (γ:=Unit) (rs [4,6,16,40]) (fun g=>[]) (fun g=>[]++A) (fun g R=>u=Ex.go g∧True) ?_ ?_
 refine zn (zf (vi 0) (z8 (zy (jg (γ:=Nat×Int) (rs [4,6,16,40]) (fun g=>[(5,(vi g.2))]) (fun g=>[]++A) (fun g R=>og N a b g.1 g.2=some u∧True) (fun g=>g.1) (N,0) prm ⟨c,trivial⟩ ?_))));clear c;rintro⟨t,k⟩ E O e ⟨c,_⟩;rcases t with _|t;exact j4 c
 replace c:og N a b (t+1) k=some u:=c;rw [og] at c;refine q8 (zn (zh (vi k) (zh f (zq (qj rfl underlying32 rfl (ja (l.mono e))) (zq (jc rfl rfl) (z8 (zw rfl c (fun c=>?_) (fun c=>?_))))))))
 refine qa (q8 (zy (q8 (z5k 9 mixed (by kernel_rfl) (by kernel_rfl) ?_))));refine xn (v:=f) (zb rfl) ?_;refine xn (v:=(vi k)) (zb rfl) ?_;obtain⟨o,c⟩:=ze c;refine z1r (bv (i:=k.toNat) z02 rfl (ja (l.mono e)) (zl rfl o.1) (qb o)) fun F w=>?_;refine xn (fw (jv ty3 rfl w)) ?_
 refine xn (v:=j) (zb rfl) ?_;refine xn (v:=(vi k)) (zb rfl) ?_;obtain⟨p,c⟩:=ze c;refine z1r (bv (i:=k.toNat) z02 rfl (ja (m.mono e)) (zl rfl p.1) (qb p)) fun G x=>?_;refine xn (fw (jv ty3 rfl x)) ?_;refine xn (vk rfl rfl) ?_;intro H h
 refine z8 (zw rfl c (fun c=>?_) (fun c=>?_));refine q8 (q8 (z5k 9 mixed (by kernel_rfl) (by kernel_rfl) ?_));refine xn (v:=f) (zb rfl) ?_;refine xn (v:=(vi k)) (zb rfl) ?_;obtain⟨q,c⟩:=ze c
 refine z1r (bv (i:=k.toNat) z02 rfl (ja (l.mono (e.trans h))) (zl rfl q.1) (qb q)) fun I y=>?_;refine xn (fw (jv ty3 rfl y)) ?_;refine xn (v:=j) (zb rfl) ?_;refine xn (v:=(vi k)) (zb rfl) ?_;obtain⟨s,c⟩:=ze c
 refine z1r (bv (i:=k.toNat) z02 rfl (ja (m.mono (e.trans h))) (zl rfl s.1) (qb s)) fun K z=>?_;refine xn (fw (jv ty3 rfl z)) ?_;refine xn (jc rfl rfl) ?_;intro L n;refine z8 (zw rfl c (fun c=>?_) (fun c=>?_));refine zn (zf (vi 1) (z8 (qp ?_)));replace d:=z1z c d
 obtain rfl:=Option.some.inj d;refine q9 (D:=[]) (J:=[]) (rs:=[.tmp 4]) (vs:=[(vi 1)]) ((e.trans h).trans n) rfl rfl ⟨rfl,trivial⟩ ?_;exact⟨rfl,rfl⟩;refine qa (zn (zf (vi 0) (z8 (qp ?_))));replace d:=z1z c d;obtain rfl:=Option.some.inj d
 refine q9 (D:=[]) (J:=[]) (rs:=[.tmp 4]) (vs:=[(vi 0)]) ((e.trans h).trans n) rfl rfl ⟨rfl,trivial⟩ ?_;exact⟨rfl,rfl⟩;refine qa (zz (zh (vi k) ?_));obtain⟨B,c⟩:=ze c;refine zq (jf rfl rfl B) (zf (vi (k+1)) (z8 ?_))
 exact⟨dkt,h,jq,(t,k+1),Nat.lt_succ_self _,⟨rfl,trivial⟩,prm,c,trivial⟩;refine jm ?_;exact⟨dkt,e,jq,(),trivial,prm,(Option.some.inj c).symm,trivial⟩;rintro P M Q C ⟨rfl,_⟩;replace d:=z4v d;refine zn (zf (vi 0) (z8 (qp ?_)));obtain rfl:=Option.some.inj d
 refine q9 (D:=[]) (J:=[]) (rs:=[.tmp 4]) (vs:=[(vi 0)]) C rfl rfl ⟨rfl,trivial⟩ ?_;exact⟨rfl,rfl⟩
theorem q99:Enters prog 79:=enters_of func79 rfl (by kernel_rfl)
theorem zdr{N:Nat}{R:RH}{m:Mach}{ah:Value}(ai:VRep (qz false false) R ah m){r:(List Int)}(H:z3e N m=some r):CallP prog 54 #[ah] R (fun v R'=>VRep (tSl false (qc .i64)) R' v r):=by
 refine qf (args:=[ah]) func54 rfl rfl fun A=>?_;rw [z3e] at H;refine zn (ky (T:=(qz false false)) rfl rfl rfl ai fun v1 R3 aj h5 h2=>?_);refine zf vs0 (qw (zq (jl z19 rfl rfl h5 (ai.mono aj)) ?_));obtain⟨U,c7,H⟩:=zm H
 refine j3 rfl qa8 rfl (zdk (ai.mono aj) c7) fun v8 bv ar h9=>?_;obtain⟨C,ak,rfl,al,aV⟩:=h9;refine zh (.tuple #[C,ak]) (zq (qm rfl rfl) (zq (qm rfl rfl) (zf C (zf ak (qw (zf vs0 (z8 ?_)))))));obtain⟨K,n,H⟩:=zm H
 refine j6 (γ:=(List Int)×Value×Frag) (rs [5,9,14,60]) (fun g=>[(5,g.2.1)]) (fun g=>[g.2.2]++A) (fun g R=>K=g.1∧ORep (qc .i64) R g.2.2 g.2.1 g.1∧True) ?_ ?_;refine zn (zf (vi 0) (z8 (zy (z2j ?_))))
 refine jg (γ:=Nat×(List Int)×Int×Value×Frag) (rs [5,9,14,60]) (fun g=>[(5,g.2.2.2.1),(6,(vi g.2.2.1))]) (fun g=>[g.2.2.2.2]++A) (fun g R=>ny N U g.1 g.2.1 g.2.2.1=some K∧ORep (qc .i64) R g.2.2.2.2 g.2.2.2.1 g.2.1∧True) (fun g=>g.1) (N,[],0,vs0,emp) prm ⟨n,(l9 (T:=(qc .i64))),trivial⟩ ?_;clear n
 rintro⟨M,a,d,q,O⟩ ba bx z ⟨n,I,_⟩;rcases M with _|M;exact j4 n;replace n:ny N U (M+1) a d=some K:=n;rw [ny] at n
 refine q8 (zn (zh (vi d) (zh C (zq (qj rfl underlying116 rfl (ja (al.mono z))) (zq (jc rfl rfl) (z8 (zw rfl n (fun n=>?_) (fun n=>?_))))))));refine qa ?_;obtain⟨am,e,n⟩:=zm n
 refine j6 (γ:=(List Int)×Value×Frag) (rs [5,6,7,9,20,60]) (fun g=>[(5,g.2.1)]) (fun g=>[g.2.2]++A) (fun g R=>am=g.1∧ORep (qc .i64) R g.2.2 g.2.1 g.1∧True) ?_ ?_;refine zy (q8 (zn (zh ak (zh (vi d) ?_))));obtain⟨au,e⟩:=ze e
 refine kw (i:=d.toNat) rfl zdw rfl (ja (aV.mono z)) (zl rfl au.1) (qb au) fun bA aW=>?_;refine qh rfl ty4 rfl aW fun bB aX=>?_;obtain rfl:=ll.1 aX;refine zq (ow rfl) (z8 (zw rfl e (fun e=>?_) (fun e=>?_)));refine jm ?_
 exact⟨dkt,(RH.le.refl _),jq,(a,q,O),⟨rfl,trivial⟩,prm,(Option.some.inj e).symm,I,trivial⟩;refine qa (zn (zf (vi 0) (z8 ?_)));obtain⟨f,k,e⟩:=zm e;refine j6 (γ:=Int) (rs [7,8,25,46]) (fun g=>[(7,(vi g))]) (fun g=>[O]++A) (fun g R=>f=g∧True) ?_ ?_
 refine zy (jg (γ:=Nat×Int) (rs [7,8,25,46]) (fun g=>[(7,(vi g.2))]) (fun g=>[O]++A) (fun g R=>nu N U a d g.1 g.2=some f∧True) (fun g=>g.1) (N,0) prm ⟨k,trivial⟩ ?_);clear k;rintro⟨P,b⟩ bb bC t ⟨k,_⟩;rcases P with _|P;exact j4 k
 replace k:nu N U a d (P+1) b=some f:=k;rw [nu] at k;refine q8 (q8 ?_);obtain⟨an,av,aw,k⟩:=zz7 k;obtain⟨L,aY,k⟩:=zm k
 refine dn 19 [] [phX (vi b),phX q,phX (vi (↑a.length:Int)),phX (.bool (decide (b<(↑a.length:Int)))),phX (.bool (decide (b<(↑a.length:Int)))),phG (true&&((decide (b<(↑a.length:Int)))==true)) (phX C),phG (true&&((decide (b<(↑a.length:Int)))==true)) (phX q),phG (true&&((decide (b<(↑a.length:Int)))==true)) (phX (vi b)),phG (true&&((decide (b<(↑a.length:Int)))==true)) ((fun u _=>z7f (qc .i64) q a u b.toNat)),phG (true&&((decide (b<(↑a.length:Int)))==true)) (phX (vi (ix a b))),phG (true&&((decide (b<(↑a.length:Int)))==true)) (phP (tSl false (qc .i64)) (ix U.1 (ix a b))),phG (true&&((decide (b<(↑a.length:Int)))==true)) (phR (tSl false (qc .i64)) (ix U.1 (ix a b))),phG (true&&((decide (b<(↑a.length:Int)))==true)) (phX C),phG (true&&((decide (b<(↑a.length:Int)))==true)) (phX (vi d)),phG (true&&((decide (b<(↑a.length:Int)))==true)) (phP (tSl false (qc .i64)) (ix U.1 d)),phG (true&&((decide (b<(↑a.length:Int)))==true)) (phR (tSl false (qc .i64)) (ix U.1 d)),phG (true&&((decide (b<(↑a.length:Int)))==true)) (phX (vi (L.getD default))),phG (true&&((decide (b<(↑a.length:Int)))==true)) (phX (.bool (decide ((L.getD default)=1)))),phX (.bool ((decide (b<(↑a.length:Int)))&&(decide ((L.getD default)=1))))] mixed (by kernel_rfl) (yl ⟨zi,zi,zi,zi,zi,(qg zi),(qg zi),(qg zi),(qg (fun _ _ _ _ h=>h)),(qg zi),(qg xu),(qg bz),(qg zi),(qg zi),(qg xu),(qg bz),(qg zi),(qg zi),zi,trivial⟩) ⟨?_,?_,?_,?_,?_,?_,?_,?_,?_,?_,?_,?_,?_,?_,?_,?_,?_,?_,?_,trivial⟩ fun bD V=>?_
 intro l bE c s hd;exact za rfl rfl rfl (zt (zb (s 7 rfl)));intro l bG c s hd;exact za rfl rfl rfl (zt (zb (s 5 rfl)));rintro l bH c s ⟨o,_⟩;exact za rfl rfl rfl (zt (zax rfl underlying32 (o rfl) ((I.mono t).mono c)));rintro l bI c s ⟨o,x,_⟩;exact za rfl rfl rfl (zt (jc (o rfl) (x rfl)))
 rintro l bJ c s ⟨o,_⟩;exact za rfl rfl rfl (zt (zb (o rfl)));rintro l bK c s ⟨o,_⟩;exact zg (Gj:=true) (Bj:=decide (b<(↑a.length:Int))) rfl rfl rfl (jk (o rfl)) rfl (fun w p=>zt (zb (s 3 rfl)));rintro l bL c s ⟨o,_⟩
 exact zg (Gj:=true) (Bj:=decide (b<(↑a.length:Int))) rfl rfl rfl (jk (o rfl)) rfl (fun w p=>zt (zb (s 5 rfl)));rintro l bM c s ⟨o,_⟩;exact zg (Gj:=true) (Bj:=decide (b<(↑a.length:Int))) rfl rfl rfl (jk (o rfl)) rfl (fun w p=>zt (zb (s 7 rfl)));rintro l bN c s ⟨o,x,d2,_⟩
 exact zg (Gj:=true) (Bj:=decide (b<(↑a.length:Int))) rfl rfl rfl (jk (d2 rfl)) rfl (fun w p=>zj1 (i:=b.toNat) z02 (show l 31=q from(o rfl).1 (zo rfl p)) ((I.mono t).mono c) (zl (show l 32=(vi b) from(x rfl).1 (zo rfl p)) (an (zo w p)).1) (qb (an (zo w p))));rintro l bO c s ⟨o,x,_⟩
 exact zg (Gj:=true) (Bj:=decide (b<(↑a.length:Int))) rfl rfl rfl (jk (x rfl)) rfl (fun w p=>xc (zyi (i:=b.toNat) (j:=0) ty3 ((I.mono t).mono c) rfl rfl ((o rfl).1 (zo rfl p)) (qb (an (zo w p)))) (fun _ _ h=>jb.1 h));rintro l bc c s ⟨o,x,d2,_⟩
 exact zg (Gj:=true) (Bj:=decide (b<(↑a.length:Int))) rfl rfl rfl (jk (d2 rfl)) rfl (fun w p=>yj (i:=(ix a b).toNat) q0o (show l 30=C from(o rfl).1 (zo rfl p)) (ja ((al.mono (z.trans t)).mono c)) (zl (show l 34=(vi (ix a b)) from(x rfl).1 (zo rfl p)) (av (zo w p)).1) (qb (av (zo w p))))
 rintro l be c s ⟨o,x,_⟩;exact zg (Gj:=true) (Bj:=decide (b<(↑a.length:Int))) rfl rfl rfl (jk (x rfl)) rfl (fun w p=>ug q1j rfl ((o rfl).1 (zo rfl p)));rintro l bf c s ⟨o,_⟩;exact zg (Gj:=true) (Bj:=decide (b<(↑a.length:Int))) rfl rfl rfl (jk (o rfl)) rfl (fun w p=>zt (zb (s 3 rfl)))
 rintro l bg c s ⟨o,_⟩;exact zg (Gj:=true) (Bj:=decide (b<(↑a.length:Int))) rfl rfl rfl (jk (o rfl)) rfl (fun w p=>zt (zb (s 6 rfl)));rintro l bh c s ⟨o,x,d2,_⟩
 exact zg (Gj:=true) (Bj:=decide (b<(↑a.length:Int))) rfl rfl rfl (jk (d2 rfl)) rfl (fun w p=>yj (i:=d.toNat) q0o (show l 37=C from(o rfl).1 (zo rfl p)) (ja ((al.mono (z.trans t)).mono c)) (zl (show l 38=(vi d) from(x rfl).1 (zo rfl p)) (aw (zo w p)).1) (qb (aw (zo w p))))
 rintro l bi c s ⟨o,x,_⟩;exact zg (Gj:=true) (Bj:=decide (b<(↑a.length:Int))) rfl rfl rfl (jk (x rfl)) rfl (fun w p=>ug q1j rfl ((o rfl).1 (zo rfl p)));rintro l bj c s ⟨o,x,d2,d3,_⟩
 exact zg (Gj:=true) (Bj:=decide (b<(↑a.length:Int))) rfl rfl rfl (jk (d2 rfl)) rfl (fun w p=>jy (vs:=[(l 36),(l 40)]) q99 rfl ((by have aZ:=(mq aY (zo w p));exact zei ((o rfl).1 (zo rfl p)) ((x rfl).1 (zo rfl p)) aZ)) (fun _ _ h=>h));rintro l bk c s ⟨o,x,_⟩
 exact zg (Gj:=true) (Bj:=decide (b<(↑a.length:Int))) rfl rfl rfl (jk (x rfl)) rfl (fun w p=>zt (x9 (show l 41=(vi (L.getD default)) from(o rfl).1 (zo rfl p)) rfl));rintro l bl c s ⟨o,x,_⟩
 exact za rfl rfl rfl (zt (uk (o rfl) (fun hb=>(show l 42=(.bool (decide ((L.getD default)=1))) from(x rfl).1 (zo rfl hb))) rfl));intro bQ a0 bR a1 bS a2 bT a3 bU a4 bV bW bX bY bZ b0 b1 b2 b3 b4 b5 b6 b7 b8 b9 ca cb cc cd ce cf cg ch ci cj ck cl a5;obtain rfl:=Eq.symm a0;obtain rfl:=Eq.symm a1;obtain rfl:=Eq.symm a2
 obtain rfl:=Eq.symm a3;obtain rfl:=Eq.symm a4;obtain rfl:=Eq.symm a5;refine z8 (zw rfl k (fun k=>?_) (fun k=>?_));refine qa (zy (zz (zh (vi b) ?_)));obtain⟨ax,k⟩:=ze k;refine zq (jf rfl rfl ax) (zf (vi (b+1)) (z8 ?_))
 exact⟨dkt,V,jq,(P,b+1),Nat.lt_succ_self _,⟨rfl,trivial⟩,prm,k,trivial⟩;refine jm ?_;exact⟨dkt,(t.trans V),jq,b,⟨rfl,trivial⟩,prm,(Option.some.inj k).symm,trivial⟩;rintro f bm cm W ⟨rfl,_⟩
 refine zn (zf vs0 (qw (zh vs0 (zh q (zh (vi f) (wu (i:=0) rfl (I.mono W) fun Z ap ay=>?_))))));have E:VRep (tSl false (qc .i64)) Z q a:=(z4u ay);obtain⟨F,e⟩:=ze e
 refine zc6 (v:=q) (lo:=(0:Int).toNat) (hi:=f.toNat) (mx:=(capOf q)) rfl z02 rfl (ja E) (.inl ⟨rfl,rfl⟩) (.inr ⟨_,congrArg some (zl rfl (zht F))⟩) (.inl ⟨rfl,rfl⟩) (zdl F) (z7l F) (Nat.le_trans (z7l F) (ztr (ja E))) (Nat.le_refl _) (X':=(cut a 0 f)) rfl fun az aA aT=>?_
 have aB:VRep (tSl false (qc .i64)) Z az (cut a 0 f):=z4u aA;refine q12 ?_;obtain⟨aa,e⟩:=ze e;refine bu (i:=0) (X:=([]:List Int)) (Y:=(cut a 0 f)) rfl underlying32 zo3 rfl rfl rfl (l9 (T:=(qc .i64))) (ja aB) aa.1 aa.2 fun ab bn aC=>?_
 refine zf ab (qw (zh ab (zh (vi d) (rf (T:=(qc .i64)) (X:=([d]:List Int)) (ps:=[(0,(vi d))]) (css:=[[(vi d)]]) rfl underlying32 zo3 rfl rfl (uh ⟨rfl,trivial⟩) rfl rfl (by decide) fun aD bo Q aE=>?_))));refine wu (i:=0) rfl aE fun ac y aF=>?_
 have aG:VRep (tSl true (qc .i64)) ac aD ([d]:List Int):=(z1b aF Q);obtain⟨ad,e⟩:=ze e;refine bu (i:=0) (X:=(([]:List Int)++(cut a 0 f))) (Y:=([d]:List Int)) rfl underlying32 zo3 rfl rfl rfl (aC.mono y) (ja (Sub.v (B:=(tSl false (qc .i64))) (ku Sub.refl (fun _=>rfl)) aG)) ad.1 ad.2 fun ae bp aH=>?_
 refine zf ae (z8 (zz (zh ae (zh q (zh (vi f) ?_)))));obtain⟨G,e⟩:=ze e
 refine zc6 (v:=q) (lo:=f.toNat) (hi:=(↑a.length:Int).toNat) (mx:=(capOf q)) rfl z02 rfl (ja (E.mono y)) (.inr ⟨_,congrArg some (zl rfl G.1)⟩) (.inl ⟨rfl,rfl,rfl⟩) (.inl ⟨rfl,rfl⟩) (zdl G) (z7l G) (Nat.le_trans (z7l G) (ztr (ja (E.mono y)))) (Nat.le_refl _) (X':=(cut a f (↑a.length:Int))) rfl fun aI aJ aU=>?_
 have aK:VRep (tSl false (qc .i64)) ac aI (cut a f (↑a.length:Int)):=z4u aJ;obtain⟨af,e⟩:=ze e;refine bu (i:=0) (X:=((([]:List Int)++(cut a 0 f))++([d]:List Int))) (Y:=(cut a f (↑a.length:Int))) rfl underlying32 zo3 rfl rfl rfl aH (ja aK) af.1 af.2 fun ag aL aM=>?_;refine zf ag (z8 ?_)
 exact⟨dkt,((W.trans ap).trans y),jq,((((([]:List Int)++(cut a 0 f))++([d]:List Int))++(cut a f (↑a.length:Int))),ag,aL),⟨rfl,trivial⟩,prm,(Option.some.inj e).symm,aM,trivial⟩;rintro⟨am,a6,a7⟩ bq cn aN ⟨rfl,a8,_⟩;refine zz (zh (vi d) ?_);obtain⟨aO,n⟩:=ze n
 refine zq (jf rfl rfl aO) (zf (vi (d+1)) (z8 ?_));exact⟨dkt,aN,jq,(M,am,d+1,a6,a7),Nat.lt_succ_self _,⟨rfl,rfl,trivial⟩,prm,n,a8,trivial⟩;refine jm ?_;exact⟨dkt,z,jq,(a,q,O),⟨rfl,trivial⟩,prm,(Option.some.inj n).symm,I,trivial⟩;rintro⟨K,S,co⟩ br cp aP ⟨rfl,a9,_⟩
 refine zn (zh S (zf S (z8 (rz (i:=0) rfl a9 fun aQ aq aR=>?_))));have aS:VRep (tSl false (qc .i64)) aQ S K:=(z4u aR);refine qp ?_;obtain rfl:=Option.some.inj H;refine q9 (D:=[]) (J:=[]) (rs:=[.tmp 2]) (vs:=[S]) (((aj.trans ar).trans aP).trans aq) rfl rfl ⟨rfl,trivial⟩ ?_;exact⟨rfl,aS⟩
theorem q91:Enters prog 54:=enters_of func54 rfl (by kernel_rfl)
theorem z8a{N:Nat}{R:RH}{m:Mach}{O:Value}(p:VRep (qz false false) R O m){r:(List Int)}(j:z10 N m=some r):CallP prog 34 #[O] R (fun v R'=>VRep (tSl false (qc .i64)) R' v r):=by
 refine qf (args:=[O]) func34 rfl rfl fun A=>?_;rw [z10] at j;refine zn (ky (T:=(qz false false)) rfl rfl rfl p fun v1 R3 q h5 h2=>?_);refine zf vs0 (qw (zq (jl z19 rfl rfl h5 (p.mono q)) ?_));obtain⟨y6,c7,j⟩:=zm j
 refine j3 rfl q3d rfl (z2q (p.mono q) c7) fun v8 aQ o h9=>?_;refine zf v8 (qw (zq (jl z19 rfl rfl (h5.mono o) (p.mono (q.trans o))) ?_));obtain⟨e,ax,j⟩:=zm j;refine j3 rfl q91 rfl (zdr (p.mono (q.trans o)) ax) fun s aR t C=>?_
 refine zf s (qw (zf vs0 (z8 ?_)));obtain⟨u,b,j⟩:=zm j;refine j6 (γ:=(List Int)×Value×Frag) (rs [5,9,13,48]) (fun g=>[(5,g.2.1)]) (fun g=>[g.2.2]++A) (fun g R=>u=g.1∧ORep (qc .i64) R g.2.2 g.2.1 g.1∧True) ?_ ?_;refine zn (zf (vi 0) (z8 (zy (z2j ?_))))
 refine jg (γ:=Nat×(List Int)×Int×Value×Frag) (rs [5,9,13,48]) (fun g=>[(5,g.2.2.2.1),(6,(vi g.2.2.1))]) (fun g=>[g.2.2.2.2]++A) (fun g R=>pg N y6 e g.1 g.2.1 g.2.2.1=some u∧ORep (qc .i64) R g.2.2.2.2 g.2.2.2.1 g.2.1∧True) (fun g=>g.1) (N,[],0,vs0,emp) prm ⟨b,(l9 (T:=(qc .i64))),trivial⟩ ?_
 clear b;rintro⟨E,w,a,P,x⟩ aJ aS f ⟨b,Q,_⟩;rcases E with _|E;exact j4 b;replace b:pg N y6 e (E+1) w a=some u:=b;rw [pg] at b
 refine q8 (zn (zh (vi a) (zh s (zq (qj rfl underlying32 rfl (ja (C.mono f))) (zq (jc rfl rfl) (z8 (zw rfl b (fun b=>?_) (fun b=>?_))))))));refine qa ?_;obtain⟨S,h,b⟩:=zm b
 refine j6 (γ:=(List Int)×Value×Frag) (rs [5,6,7,9,19,48]) (fun g=>[(5,g.2.1)]) (fun g=>[g.2.2]++A) (fun g R=>S=g.1∧ORep (qc .i64) R g.2.2 g.2.1 g.1∧True) ?_ ?_;refine zy (zn (zf (vi 0) (z8 ?_)));obtain⟨y,c,h⟩:=zm h
 refine j6 (γ:=Int) (rs [7,9,19,39]) (fun g=>[(7,(vi g))]) (fun g=>[x]++A) (fun g R=>y=g∧True) ?_ ?_
 refine zn (zf (vi 0) (z8 (zy (jg (γ:=Nat×Int×Int) (rs [7,9,19,39]) (fun g=>[(7,(vi g.2.1)),(8,(vi g.2.2))]) (fun g=>[x]++A) (fun g R=>di N y6 e a g.1 g.2.1 g.2.2=some y∧True) (fun g=>g.1) (N,0,0) prm ⟨c,trivial⟩ ?_))));clear c;rintro⟨F,U,k⟩ aT aU l ⟨c,_⟩;rcases F with _|F
 exact j4 c;replace c:di N y6 e a (F+1) U k=some y:=c;rw [di] at c;refine q8 (zn (zh (vi k) (zh (vi a) (zq (jc rfl rfl) (z8 (zw rfl c (fun c=>?_) (fun c=>?_)))))));refine qa ?_;obtain⟨V,d,c⟩:=zm c
 refine j6 (γ:=Int) (rs [7,8,24,39]) (fun g=>[(7,(vi g))]) (fun g=>[x]++A) (fun g R=>V=g∧True) ?_ ?_;refine zy (q8 (z5k 15 mixed (by kernel_rfl) (by kernel_rfl) ?_));refine xn (v:=v8) (zb rfl) ?_;refine xn (v:=s) (zb rfl) ?_;refine xn (v:=(vi k)) (zb rfl) ?_;obtain⟨Z,d⟩:=ze d
 refine z1r (bv (i:=k.toNat) z02 rfl (ja (C.mono (f.trans l))) (zl rfl Z.1) (qb Z)) fun aV ay=>?_;refine xn (fw (jv ty3 rfl ay)) ?_;obtain⟨aa,d⟩:=ze d;refine z1r (bv (i:=(ix e k).toNat) z02 rfl (ja (h9.mono ((t.trans f).trans l))) (zl rfl aa.1) (qb aa)) fun aW az=>?_
 refine xn (fw (jv ty3 rfl az)) ?_;refine xn (v:=v8) (zb rfl) ?_;refine xn (v:=s) (zb rfl) ?_;refine xn (v:=(vi a)) (zb rfl) ?_;obtain⟨ab,d⟩:=ze d;refine z1r (bv (i:=a.toNat) z02 rfl (ja (C.mono (f.trans l))) (zl rfl ab.1) (qb ab)) fun aX aA=>?_;refine xn (fw (jv ty3 rfl aA)) ?_
 obtain⟨ac,d⟩:=ze d;refine z1r (bv (i:=(ix e a).toNat) z02 rfl (ja (h9.mono ((t.trans f).trans l))) (zl rfl ac.1) (qb ac)) fun aY aB=>?_;refine xn (fw (jv ty3 rfl aB)) ?_;refine xn (x9 rfl rfl) ?_;intro aZ I;refine z8 (zw rfl d (fun d=>?_) (fun d=>?_))
 refine zz (zf (vi 1) (z8 ?_));exact⟨dkt,I,jq,1,⟨rfl,trivial⟩,prm,(Option.some.inj d).symm,trivial⟩;refine qa ?_;exact⟨dkt,I,jq,U,⟨rfl,trivial⟩,prm,(Option.some.inj d).symm,trivial⟩;rintro V a0 a1 ad ⟨rfl,_⟩;refine zz (zh (vi k) ?_);obtain⟨aC,c⟩:=ze c
 refine zq (jf rfl rfl aC) (zf (vi (k+1)) (z8 ?_));exact⟨dkt,ad,jq,(F,V,k+1),Nat.lt_succ_self _,⟨rfl,rfl,trivial⟩,prm,c,trivial⟩;refine jm ?_;exact⟨dkt,l,jq,U,⟨rfl,trivial⟩,prm,(Option.some.inj c).symm,trivial⟩;rintro y a2 a3 n ⟨rfl,_⟩
 refine zn (zh (vi y) (zq (x9 rfl rfl) (z8 (zw rfl h (fun h=>?_) (fun h=>?_)))));refine zz (zh P (zh s (zh (vi a) ?_)));obtain⟨K,h⟩:=ze h;refine kw (i:=a.toNat) rfl z02 rfl (ja (C.mono (f.trans n))) (zl rfl K.1) (qb K) fun aK ae=>?_
 refine qh rfl ty3 rfl ae fun aL af=>?_;obtain rfl:=jb.1 af;refine rf (T:=(qc .i64)) (X:=([(ix e a)]:List Int)) (ps:=[(0,(vi (ix e a)))]) (css:=[[(vi (ix e a))]]) rfl underlying32 zo3 rfl rfl (uh ⟨rfl,trivial⟩) rfl rfl (by decide) fun ag aM G ah=>?_;refine wu (i:=0) rfl ah fun ai z aj=>?_
 have ak:VRep (tSl true (qc .i64)) ai ag ([(ix e a)]:List Int):=(z1b aj G);obtain⟨L,h⟩:=ze h;refine bu (i:=0) (X:=w) (Y:=([(ix e a)]:List Int)) rfl underlying32 zo3 rfl rfl rfl (Q.mono (n.trans z)) (ja (Sub.v (B:=(tSl false (qc .i64))) (ku Sub.refl (fun _=>rfl)) ak)) L.1 L.2 fun M al am=>?_
 refine zf M (z8 ?_);exact⟨dkt,(n.trans z),jq,((w++([(ix e a)]:List Int)),M,al),⟨rfl,trivial⟩,prm,(Option.some.inj h).symm,am,trivial⟩;refine qa ?_;exact⟨dkt,n,jq,(w,P,x),⟨rfl,trivial⟩,prm,(Option.some.inj h).symm,(Q.mono n),trivial⟩;rintro⟨S,aD,aE⟩ aN a4 an ⟨rfl,aF,_⟩
 refine zz (zh (vi a) ?_);obtain⟨ao,b⟩:=ze b;refine zq (jf rfl rfl ao) (zf (vi (a+1)) (z8 ?_));exact⟨dkt,an,jq,(E,S,a+1,aD,aE),Nat.lt_succ_self _,⟨rfl,rfl,trivial⟩,prm,b,aF,trivial⟩;refine jm ?_;exact⟨dkt,f,jq,(w,P,x),⟨rfl,trivial⟩,prm,(Option.some.inj b).symm,Q,trivial⟩
 rintro⟨u,H,a5⟩ aO a6 ap ⟨rfl,aG,_⟩;refine zn (zh H (zf H (z8 (rz (i:=0) rfl aG fun aq W ar=>?_))));have au:VRep (tSl false (qc .i64)) aq H u:=(z4u ar);refine qp ?_;obtain rfl:=Option.some.inj j
 refine q9 (D:=[]) (J:=[]) (rs:=[.tmp 2]) (vs:=[H]) ((((q.trans o).trans t).trans ap).trans W) rfl rfl ⟨rfl,trivial⟩ ?_;exact⟨rfl,au⟩
theorem q7q:Enters prog 34:=enters_of func34 rfl (by kernel_rfl)
theorem za2{N:Nat}{R:RH}{m:Mach}{aa:Value}(E:VRep (qz false false) R aa m){r:(List Int)}(u:z1d N m=some r):CallP prog 20 #[aa] R (fun v R'=>VRep (tSl false (qc .i64)) R' v r):=by
 refine qf (args:=[aa]) func20 rfl rfl fun A=>?_;rw [z1d] at u;refine zn (ky (T:=(qz false false)) rfl rfl rfl E fun v1 R3 F h5 h2=>?_);refine zf vs0 (qw (zq (jl z19 rfl rfl h5 (E.mono F)) ?_));obtain⟨C,c7,u⟩:=zm u
 refine j3 rfl q3d rfl (z2q (E.mono F) c7) fun v8 a6 p h9=>?_;refine zf v8 (qw (zq (jl z19 rfl rfl (h5.mono p) (E.mono (F.trans p))) ?_));obtain⟨k,aJ,u⟩:=zm u;refine j3 rfl q7q rfl (z8a (E.mono (F.trans p)) aJ) fun K a7 q ag=>?_
 refine zf K (qw (zq (jl z19 rfl rfl (h5.mono (p.trans q)) (E.mono ((F.trans p).trans q))) ?_));obtain⟨b,aK,u⟩:=zm u;refine j3 rfl q7p rfl (z7m (E.mono ((F.trans p).trans q)) aK) fun ai a8 w aL=>?_;refine zf ai (qw (zf vs0 (z8 ?_)));obtain⟨H,e,u⟩:=zm u
 refine j6 (γ:=(List Int)×Value×Frag) (rs [6,10,16,51]) (fun g=>[(6,g.2.1)]) (fun g=>[g.2.2]++A) (fun g R=>H=g.1∧ORep (qc .i64) R g.2.2 g.2.1 g.1∧True) ?_ ?_;refine zn (zf (vi 0) (z8 (zy (z2j ?_))))
 refine jg (γ:=Nat×(List Int)×Int×Value×Frag) (rs [6,10,16,51]) (fun g=>[(6,g.2.2.2.1),(7,(vi g.2.2.1))]) (fun g=>[g.2.2.2.2]++A) (fun g R=>ah N C k b g.1 g.2.1 g.2.2.1=some H∧ORep (qc .i64) R g.2.2.2.2 g.2.2.2.1 g.2.1∧True) (fun g=>g.1) (N,[],0,vs0,emp) prm ⟨e,(l9 (T:=(qc .i64))),trivial⟩ ?_
 clear e;rintro⟨L,M,a,aj,O⟩ aS a9 s ⟨e,al,_⟩;rcases L with _|L;exact j4 e;replace e:ah N C k b (L+1) M a=some H:=e;rw [ah] at e
 refine q8 (zn (zh (vi a) (zh v8 (zq (qj rfl underlying32 rfl (ja (h9.mono ((q.trans w).trans s)))) (zq (jc rfl rfl) (z8 (zw rfl e (fun e=>?_) (fun e=>?_))))))));refine qa (q8 (zy (zn (zf (vi (-1)) (z8 ?_)))));obtain⟨t,f,e⟩:=zm e
 refine j6 (γ:=Int) (rs [8,10,22,47]) (fun g=>[(8,(vi g))]) (fun g=>[O]++A) (fun g R=>t=g∧True) ?_ ?_
 refine zn (zf (vi 0) (z8 (zy (jg (γ:=Nat×Int×Int) (rs [8,10,22,47]) (fun g=>[(8,(vi g.2.1)),(9,(vi g.2.2))]) (fun g=>[O]++A) (fun g R=>ak N C k b a g.1 g.2.1 g.2.2=some t∧True) (fun g=>g.1) (N,(-1),0) prm ⟨f,trivial⟩ ?_))));clear f;rintro⟨P,ab,c⟩ aT ba x ⟨f,_⟩
 rcases P with _|P;exact j4 f;replace f:ak N C k b a (P+1) ab c=some t:=f;rw [ak] at f;refine q8 (zn (zh (vi c) (zh K (zq (qj rfl underlying32 rfl (ja (ag.mono ((w.trans s).trans x)))) (zq (jc rfl rfl) (z8 (zw rfl f (fun f=>?_) (fun f=>?_))))))))
 refine qa ?_;obtain⟨ac,G,f⟩:=zm f;refine j6 (γ:=Int) (rs [8,9,28,47]) (fun g=>[(8,(vi g))]) (fun g=>[O]++A) (fun g R=>ac=g∧True) ?_ ?_;refine zy (q8 ?_);obtain⟨am,an,ao,ap,G⟩:=zza G
 refine dn 18 [] [phX ai,phX (vi a),phP yz (ix b a),phX (.bool (ix b a)),phX (.bool (ix b a)),phG (true&&((ix b a)==true)) (phX v8),phG (true&&((ix b a)==true)) (phX K),phG (true&&((ix b a)==true)) (phX (vi c)),phG (true&&((ix b a)==true)) (phP (qc .i64) (ix k c)),phG (true&&((ix b a)==true)) (phX (vi (ix k c))),phG (true&&((ix b a)==true)) (phP (qc .i64) (ix C (ix k c))),phG (true&&((ix b a)==true)) (phX (vi (ix C (ix k c)))),phG (true&&((ix b a)==true)) (phX v8),phG (true&&((ix b a)==true)) (phX (vi a)),phG (true&&((ix b a)==true)) (phP (qc .i64) (ix C a)),phG (true&&((ix b a)==true)) (phX (vi (ix C a))),phG (true&&((ix b a)==true)) (phX (.bool (decide ((ix C (ix k c))=(ix C a))))),phX (.bool ((ix b a)&&(decide ((ix C (ix k c))=(ix C a)))))] mixed (by kernel_rfl) (yl ⟨zi,zi,xu,zi,zi,(qg zi),(qg zi),(qg zi),(qg xu),(qg zi),(qg xu),(qg zi),(qg zi),(qg zi),(qg xu),(qg zi),(qg zi),zi,trivial⟩) ⟨?_,?_,?_,?_,?_,?_,?_,?_,?_,?_,?_,?_,?_,?_,?_,?_,?_,?_,trivial⟩ fun bb U=>?_
 intro l bc d o hd;exact za rfl rfl rfl (zt (zb (o 5 rfl)));intro l bf d o hd;exact za rfl rfl rfl (zt (zb (o 7 rfl)));rintro l bg d o ⟨j,y,_⟩;have aq:=j rfl;exact za rfl rfl rfl (yj (i:=a.toNat) zdw aq (ja ((aL.mono (s.trans x)).mono d)) (zl (y rfl) am.1) (qb am));rintro l bh d o ⟨j,_⟩
 exact za rfl rfl rfl (xc (ug ty4 rfl (j rfl)) (fun _ _ h=>ll.1 h));rintro l bi d o ⟨j,_⟩;exact za rfl rfl rfl (zt (zb (j rfl)));rintro l bj d o ⟨j,_⟩;exact zg (Gj:=true) (Bj:=(ix b a)) rfl rfl rfl (jk (j rfl)) rfl (fun z n=>zt (zb (o 3 rfl)));rintro l bk d o ⟨j,_⟩
 exact zg (Gj:=true) (Bj:=(ix b a)) rfl rfl rfl (jk (j rfl)) rfl (fun z n=>zt (zb (o 4 rfl)));rintro l bl d o ⟨j,_⟩;exact zg (Gj:=true) (Bj:=(ix b a)) rfl rfl rfl (jk (j rfl)) rfl (fun z n=>zt (zb (o 9 rfl)));rintro l bm d o ⟨j,y,d2,_⟩
 exact zg (Gj:=true) (Bj:=(ix b a)) rfl rfl rfl (jk (d2 rfl)) rfl (fun z n=>yj (i:=c.toNat) z02 (show l 34=K from(j rfl).1 (zo rfl n)) (ja ((ag.mono ((w.trans s).trans x)).mono d)) (zl (show l 35=(vi c) from(y rfl).1 (zo rfl n)) (an (zo z n)).1) (qb (an (zo z n))));rintro l bn d o ⟨j,y,_⟩
 exact zg (Gj:=true) (Bj:=(ix b a)) rfl rfl rfl (jk (y rfl)) rfl (fun z n=>xc (ug ty3 rfl ((j rfl).1 (zo rfl n))) (fun _ _ h=>jb.1 h));rintro l aU d o ⟨j,y,d2,_⟩
 exact zg (Gj:=true) (Bj:=(ix b a)) rfl rfl rfl (jk (d2 rfl)) rfl (fun z n=>yj (i:=(ix k c).toNat) z02 (show l 33=v8 from(j rfl).1 (zo rfl n)) (ja ((h9.mono (((q.trans w).trans s).trans x)).mono d)) (zl (show l 37=(vi (ix k c)) from(y rfl).1 (zo rfl n)) (ao (zo z n)).1) (qb (ao (zo z n))))
 rintro l aV d o ⟨j,y,_⟩;exact zg (Gj:=true) (Bj:=(ix b a)) rfl rfl rfl (jk (y rfl)) rfl (fun z n=>xc (ug ty3 rfl ((j rfl).1 (zo rfl n))) (fun _ _ h=>jb.1 h));rintro l aW d o ⟨j,_⟩;exact zg (Gj:=true) (Bj:=(ix b a)) rfl rfl rfl (jk (j rfl)) rfl (fun z n=>zt (zb (o 3 rfl)))
 rintro l aX d o ⟨j,_⟩;exact zg (Gj:=true) (Bj:=(ix b a)) rfl rfl rfl (jk (j rfl)) rfl (fun z n=>zt (zb (o 7 rfl)));rintro l aY d o ⟨j,y,d2,_⟩
 exact zg (Gj:=true) (Bj:=(ix b a)) rfl rfl rfl (jk (d2 rfl)) rfl (fun z n=>yj (i:=a.toNat) z02 (show l 40=v8 from(j rfl).1 (zo rfl n)) (ja ((h9.mono (((q.trans w).trans s).trans x)).mono d)) (zl (show l 41=(vi a) from(y rfl).1 (zo rfl n)) (ap (zo z n)).1) (qb (ap (zo z n))))
 rintro l aZ d o ⟨j,y,_⟩;exact zg (Gj:=true) (Bj:=(ix b a)) rfl rfl rfl (jk (y rfl)) rfl (fun z n=>xc (ug ty3 rfl ((j rfl).1 (zo rfl n))) (fun _ _ h=>jb.1 h));rintro l a0 d o ⟨j,y,d2,_⟩
 exact zg (Gj:=true) (Bj:=(ix b a)) rfl rfl rfl (jk (d2 rfl)) rfl (fun z n=>zt (x9 (show l 39=(vi (ix C (ix k c))) from(j rfl).1 (zo rfl n)) (show l 43=(vi (ix C a)) from(y rfl).1 (zo rfl n))));rintro l a1 d o ⟨j,y,_⟩
 exact za rfl rfl rfl (zt (uk (j rfl) (fun hb=>(show l 44=(.bool (decide ((ix C (ix k c))=(ix C a)))) from(y rfl).1 (zo rfl hb))) rfl));intro bp aM bq aN br bs bt aO bv aP bw bx bz bA bB bC bD bE bF bG bH bI bJ bK bL bM bN bO bP bQ bR bS bT bU bV aQ;obtain rfl:=Eq.symm aM;obtain rfl:=Eq.symm aN;obtain rfl:=Eq.symm aO
 obtain rfl:=Eq.symm aP;obtain rfl:=Eq.symm aQ;refine z8 (zw rfl G (fun G=>?_) (fun G=>?_));refine zz (zh (vi c) (zf (vi c) (z8 ?_)));exact⟨dkt,U,jq,c,⟨rfl,trivial⟩,prm,(Option.some.inj G).symm,trivial⟩;refine qa ?_;exact⟨dkt,U,jq,ab,⟨rfl,trivial⟩,prm,(Option.some.inj G).symm,trivial⟩
 rintro ac bW bX ar ⟨rfl,_⟩;refine zz (zh (vi c) ?_);obtain⟨au,f⟩:=ze f;refine zq (jf rfl rfl au) (zf (vi (c+1)) (z8 ?_));exact⟨dkt,ar,jq,(P,ac,c+1),Nat.lt_succ_self _,⟨rfl,rfl,trivial⟩,prm,f,trivial⟩;refine jm ?_;exact⟨dkt,x,jq,ab,⟨rfl,trivial⟩,prm,(Option.some.inj f).symm,trivial⟩
 rintro t a2 bY V ⟨rfl,_⟩;refine zz (zh aj (zh (vi t) (rf (T:=(qc .i64)) (X:=([t]:List Int)) (ps:=[(0,(vi t))]) (css:=[[(vi t)]]) rfl underlying32 zo3 rfl rfl (uh ⟨rfl,trivial⟩) rfl rfl (by decide) fun av a3 Q aw=>?_)));refine wu (i:=0) rfl aw fun ax I ay=>?_
 have az:VRep (tSl true (qc .i64)) ax av ([t]:List Int):=(z1b ay Q);obtain⟨W,e⟩:=ze e;refine bu (i:=0) (X:=M) (Y:=([t]:List Int)) rfl underlying32 zo3 rfl rfl rfl (al.mono (V.trans I)) (ja (Sub.v (B:=(tSl false (qc .i64))) (ku Sub.refl (fun _=>rfl)) az)) W.1 W.2 fun Z aA aB=>?_
 refine zf Z (z8 (zz (zh (vi a) ?_)));obtain⟨aC,e⟩:=ze e;refine zq (jf rfl rfl aC) (zf (vi (a+1)) (z8 ?_));exact⟨dkt,(V.trans I),jq,(L,(M++([t]:List Int)),a+1,Z,aA),Nat.lt_succ_self _,⟨rfl,rfl,trivial⟩,prm,e,aB,trivial⟩;refine jm ?_
 exact⟨dkt,s,jq,(M,aj,O),⟨rfl,trivial⟩,prm,(Option.some.inj e).symm,al,trivial⟩;rintro⟨H,S,aq⟩ a4 bZ aD ⟨rfl,aR,_⟩;refine zn (zh S (zf S (z8 (rz (i:=0) rfl aR fun aE ae aF=>?_))));have aG:VRep (tSl false (qc .i64)) aE S H:=(z4u aF);refine qp ?_;obtain rfl:=Option.some.inj u
 refine q9 (D:=[]) (J:=[]) (rs:=[.tmp 2]) (vs:=[S]) (((((F.trans p).trans q).trans w).trans aD).trans ae) rfl rfl ⟨rfl,trivial⟩ ?_;exact⟨rfl,aG⟩
theorem q7f:Enters prog 20:=enters_of func20 rfl (by kernel_rfl)
theorem z5b{N:Nat}{R:RH}{m:Mach}{aj:Value}(E:VRep (qz false false) R aj m){r:Mach}(q:o9 N m=some r):CallP prog 13 #[aj] R (fun v R'=>VRep (qz false false) R' v r):=by
 refine qf (args:=[aj]) func13 rfl rfl fun A=>?_;rw [o9] at q;refine zn (ky (T:=(qz false false)) rfl rfl rfl E fun v1 R3 F h5 h2=>?_);refine kv rfl z5j fun b6=>?_;refine qw (zq (jl z19 rfl rfl h5 (E.mono F)) ?_);obtain⟨k,c9,q⟩:=zm q
 refine j3 rfl q7q rfl (z8a (E.mono F) c9) fun ak bB f an=>?_;refine zf ak (qw (zq (jl z19 rfl rfl (h5.mono f) (E.mono (F.trans f))) ?_));obtain⟨x,a3,q⟩:=zm q;refine j3 rfl q7f rfl (za2 (E.mono (F.trans f)) a3) fun ao bC j a4=>?_
 refine zf ao (qw (jo rfl av lw rfl (h2.mono (f.trans j)) fun bD a5=>?_));refine qh rfl ty3 rfl a5 fun bE a6=>?_;obtain rfl:=jb.1 a6;refine jo rfl z6o z5d rfl (h2.mono (f.trans j)) fun bF a7=>?_;refine qh rfl ty3 rfl a7 fun bG a8=>?_;obtain rfl:=jb.1 a8
 refine zq (yt (ps:=[(0,(vi m.inputs)),(1,(vi m.outputs))]) (v:=(.agg #[(vi m.inputs),(vi m.outputs),vs0])) rfl (fun w=>by kernel_rfl)) (kv rfl z5j fun y=>?_)
 refine jd (i:=0) (vs:=[(vi m.inputs),(vi m.outputs),vs0]) yh rfl rfl rfl rfl rfl rfl (zu rfl (zu rfl (zu rfl jh))) ?_;refine z8 ?_;obtain⟨z,d,q⟩:=zm q
 refine j6 (γ:=(List (List Edge))×Value×Frag) (rs [6,10,19,61]) (fun g=>[]) (fun g=>[box b6 [(vi 0),(vi 0),vs0] 30,box y [(vi m.inputs),(vi m.outputs),g.2.1] 30,g.2.2]++A) (fun g R=>z=g.1∧ORep (tSl false kEdge) R g.2.2 g.2.1 g.1∧True) ?_ ?_;refine zn (zf (vi 0) (z8 (zy (z2j ?_))))
 refine jg (γ:=Nat×Int×(List (List Edge))×Value×Frag) (rs [6,10,19,61]) (fun g=>[(6,(vi g.2.1))]) (fun g=>[box b6 [(vi 0),(vi 0),vs0] 30,box y [(vi m.inputs),(vi m.outputs),g.2.2.2.1] 30,g.2.2.2.2]++A) (fun g R=>bf N m k x g.1 g.2.1 g.2.2.1=some z∧ORep (tSl false kEdge) R g.2.2.2.2 g.2.2.2.1 g.2.2.1∧True) (fun g=>g.1) (N,0,[],vs0,emp) ⟨[],(pk 2 rfl (pk 1 rfl (pk 0 rfl (List.Perm.refl _))))⟩ ⟨d,(l9 (T:=(tSl false kEdge))),trivial⟩ ?_
 clear d;rintro⟨P,a,Q,S,U⟩ bl bH n ⟨d,ap,_⟩;rcases P with _|P;exact j4 d;replace d:bf N m k x (P+1) a Q=some z:=d;rw [bf] at d
 refine q8 (zn (zh (vi a) (zh ak (zq (qj rfl underlying32 rfl (ja (an.mono (j.trans n)))) (zq (jc rfl rfl) (z8 (zw rfl d (fun d=>?_) (fun d=>?_))))))));refine qa (q8 (zy (zn (zf vs0 (z8 ?_)))));obtain⟨p,b,d⟩:=zm d
 refine j6 (γ:=(List Edge)×Value×Frag) (rs [7,10,25,55]) (fun g=>[(7,g.2.1)]) (fun g=>[box b6 [(vi 0),(vi 0),vs0] 30,box y [(vi m.inputs),(vi m.outputs),S] 30,U,g.2.2]++A) (fun g R=>p=g.1∧ORep kEdge R g.2.2 g.2.1 g.1∧True) ?_ ?_;refine zn (zf (vi 0) (z8 (zy (z2j ?_))))
 refine jg (γ:=Nat×(List Edge)×Int×Value×Frag) (rs [7,10,25,55]) (fun g=>[(7,g.2.2.2.1),(8,(vi g.2.2.1))]) (fun g=>[box b6 [(vi 0),(vi 0),vs0] 30,box y [(vi m.inputs),(vi m.outputs),S] 30,U,g.2.2.2.2]++A) (fun g R=>gq N m k x a g.1 g.2.1 g.2.2.1=some p∧ORep kEdge R g.2.2.2.2 g.2.2.2.1 g.2.1∧True) (fun g=>g.1) (N,[],0,vs0,emp) ⟨[],(pk 1 rfl (pk 1 rfl (pk 1 rfl (pk 0 rfl (List.Perm.refl _)))))⟩ ⟨b,(l9 (T:=kEdge)),trivial⟩ ?_
 clear b;rintro⟨V,W,c,aq,ar⟩ bm bI s ⟨b,au,_⟩;rcases V with _|V;exact j4 b;replace b:gq N m k x a (V+1) W c=some p:=b;rw [gq] at b;refine q8 (zn (zh (vi c) (jo rfl av lw rfl (h2.mono (((f.trans j).trans n).trans s)) fun bJ a9=>?_)))
 refine qh rfl ty3 rfl a9 fun bK ba=>?_;obtain rfl:=jb.1 ba;refine zq (jc rfl rfl) (z8 (zw rfl b (fun b=>?_) (fun b=>?_)));refine qa (q8 (zy (q8 ?_)));obtain⟨aw,ax,ay,b⟩:=zz7 b
 refine dn 12 [⟨11,[.int .i64 0,.int .i64 0],62⟩] [phP (tSl false (tSl false kEdge)) m.rows,phR (tSl false (tSl false kEdge)) m.rows,phX ak,phX (vi a),phP (qc .i64) (ix k a),phX (vi (ix k a)),phP (tSl false kEdge) (ix m.rows (ix k a)),phR (tSl false kEdge) (ix m.rows (ix k a)),phX (vi c),phP kEdge (ix (ix m.rows (ix k a)) c),phX (ut (ix (ix m.rows (ix k a)) c)),phB] mixed (by kernel_rfl) (yl ⟨xu,bz,zi,zi,xu,zi,xu,bz,zi,xu,zi,zfz,trivial⟩) ⟨?_,?_,?_,?_,?_,?_,?_,?_,?_,?_,?_,?_,trivial⟩ fun bL G=>?_
 intro l bM e t hd;exact za rfl rfl rfl (z0o uf u6 (t 1 rfl) ((h2.mono (((f.trans j).trans n).trans s)).mono e));rintro l bN e t ⟨C,_⟩;exact za rfl rfl rfl (ug z1g rfl (C rfl));intro l bO e t hd;exact za rfl rfl rfl (zt (zb (t 3 rfl)));intro l bP e t hd
 exact za rfl rfl rfl (zt (zb (t 6 rfl)));rintro l bQ e t ⟨C,d1,_⟩;have aA:=d1 rfl;exact za rfl rfl rfl (yj (i:=a.toNat) z02 (C rfl) (ja ((an.mono ((j.trans n).trans s)).mono e)) (zl aA aw.1) (qb aw));rintro l bR e t ⟨C,_⟩
 exact za rfl rfl rfl (xc (ug ty3 rfl (C rfl)) (fun _ _ h=>jb.1 h));rintro l bS e t ⟨C,d1,_⟩;exact za rfl rfl rfl (yj (i:=(ix k a).toNat) z5u rfl (ja (C rfl)) (zl (d1 rfl) ax.1) (qb ax));rintro l bT e t ⟨C,_⟩;exact za rfl rfl rfl (ug z5t rfl (C rfl));intro l bU e t hd
 exact za rfl rfl rfl (zt (zb (t 8 rfl)));rintro l bV e t ⟨C,d1,_⟩;exact za rfl rfl rfl (yj (i:=c.toNat) z7u rfl (ja (C rfl)) (zl (d1 rfl) ay.1) (qb ay));rintro l bn e t ⟨C,_⟩;exact za rfl rfl rfl (xc (ug za1 rfl (C rfl)) (fun _ _ h=>df.1 h));intro l bo e t hd
 exact z94 rfl rfl rfl rfl za8;intro bW bX bY bZ b0 bb b1 bc b2 b3 b4 be b5 b7 b8 b9 ca bg cb cc cd bh ce bi;obtain rfl:=Eq.symm bb;obtain rfl:=Eq.symm bc;obtain rfl:=Eq.symm be;obtain rfl:=Eq.symm bg;obtain rfl:=Eq.symm bh;obtain⟨aB,rfl⟩:=bi
 refine jd (i:=0) (vs:=[(vi ((ix (ix m.rows (ix k a)) c).to)),(vi ((ix (ix m.rows (ix k a)) c).out))]) z6s rfl rfl rfl rfl rfl rfl (zu rfl (zu rfl jh)) ?_;refine z8 ?_;obtain⟨o,u,b⟩:=zm b
 refine j6 (γ:=Int) (rs [42,51]) (fun g=>[]) (fun g=>[box b6 [(vi 0),(vi 0),vs0] 30,box y [(vi m.inputs),(vi m.outputs),S] 30,U,ar,box aB [(vi g),(vi ((ix (ix m.rows (ix k a)) c).out))] 62]++A) (fun g R=>o=g∧True) ?_ ?_
 refine zn (zq (qd l5 rfl) (zq (qi (i:=0) ag3 rfl rfl rfl) (zq (z3i rfl rfl) (z8 (zw rfl u (fun u=>?_) (fun u=>?_))))));refine zz (zh ao (zq (qd l5 rfl) (zq (qi (i:=0) ag3 rfl rfl rfl) ?_)));obtain⟨ac,u⟩:=ze u
 refine kw (i:=((ix (ix m.rows (ix k a)) c).to).toNat) rfl z02 rfl (ja (a4.mono ((n.trans s).trans G))) (zl rfl ac.1) (qb ac) fun bp aC=>?_;refine qh rfl ty3 rfl aC fun bq aD=>?_;obtain rfl:=jb.1 aD
 refine zq (qd l5 rfl) (jd (i:=0) (vs:=[(vi (ix x ((ix (ix m.rows (ix k a)) c).to)))]) sz3 rfl rfl rfl rfl rfl rfl (zu rfl jh) ?_);refine z8 ?_
 exact⟨dkt,(RH.le.refl _),jq,(ix x ((ix (ix m.rows (ix k a)) c).to)),trivial,⟨[],(pk 1 rfl (pk 1 rfl (pk 1 rfl (pk 1 rfl (pk 0 rfl (List.Perm.refl _))))))⟩,(Option.some.inj u).symm,trivial⟩;refine qa ?_
 exact⟨dkt,(RH.le.refl _),jq,(ix (ix m.rows (ix k a)) c).to,trivial,⟨[],(pk 1 rfl (pk 1 rfl (pk 1 rfl (pk 1 rfl (pk 0 rfl (List.Perm.refl _))))))⟩,(Option.some.inj u).symm,trivial⟩;rintro o br bs H ⟨rfl,_⟩;refine zz (zh aq (zq (ql (i:=4) zkt z6s rfl rfl rfl rfl) ?_));let G1:=([(⟨o,(ix (ix m.rows (ix k a)) c).out⟩:Edge)]:List Edge)
 refine rf (T:=kEdge) (X:=G1) (ps:=[(0,(.agg #[(vi o),(vi ((ix (ix m.rows (ix k a)) c).out))]))]) (css:=[[(vi o),(vi ((ix (ix m.rows (ix k a)) c).out))]]) rfl underlying56 zc1 rfl rfl (uh ⟨⟨_,_,rfl,rfl,rfl⟩,trivial⟩) rfl rfl (by decide) fun aE bt Z aF=>?_
 refine wu (i:=0) rfl aF fun aG I aH=>?_;have aI:VRep (tSl true kEdge) aG aE G1:=(z1b aH Z);obtain⟨ad,b⟩:=ze b
 refine bu (i:=3) (X:=W) (Y:=G1) rfl underlying56 zc1 rfl rfl rfl (au.mono ((G.trans H).trans I)) (ja (Sub.v (B:=(tSl false kEdge)) (ku Sub.refl (fun _=>rfl)) aI)) ad.1 ad.2 fun ae aJ aK=>?_;refine zf ae (z8 (zz (zh (vi c) ?_)));obtain⟨aL,b⟩:=ze b
 refine zq (jf rfl rfl aL) (zf (vi (c+1)) (z8 ?_));exact⟨dkt,((G.trans H).trans I),jq,(V,(W++G1),c+1,ae,aJ),Nat.lt_succ_self _,⟨rfl,rfl,trivial⟩,⟨[box aB [(vi o),(vi ((ix (ix m.rows (ix k a)) c).out))] 62],(pk 4 rfl (pk 0 rfl (pk 0 rfl (pk 0 rfl (pk 0 rfl (List.Perm.refl _))))))⟩,b,aK,trivial⟩
 refine jm ?_;exact⟨dkt,s,jq,(W,aq,ar),⟨rfl,trivial⟩,prm,(Option.some.inj b).symm,au,trivial⟩;rintro⟨p,aa,cf⟩ bv cg af ⟨rfl,bj,_⟩;refine zz (zq (qd uf rfl) (zq (qi (i:=1) zc2 rfl rfl rfl) (zh aa (wu (i:=3) rfl bj fun aM K aN=>?_))));have ag:VRep (tSl false kEdge) aM aa p:=(z4u aN)
 refine rf (T:=(tSl false kEdge)) (X:=([p]:List (List Edge))) (ps:=[(0,aa)]) (css:=[[aa]]) rfl underlying28 zjt rfl (by simp only [List.map_cons,List.map_nil,z4o ag];rfl) (uh ⟨(je rfl ag),trivial⟩) rfl rfl (by decide) fun aO bw ab aP=>?_;refine wu (i:=0) rfl aP fun aQ L aR=>?_
 have aS:VRep (tSl true (tSl false kEdge)) aQ aO ([p]:List (List Edge)):=(z1b aR ab);obtain⟨ah,d⟩:=ze d
 refine bu (i:=2) (X:=Q) (Y:=([p]:List (List Edge))) rfl underlying28 zjt rfl rfl rfl (ap.mono ((af.trans K).trans L)) (ja (Sub.v (B:=(tSl false (tSl false kEdge))) (ku Sub.refl (fun _=>rfl)) aS)) ah.1 ah.2 fun ai aT M=>?_
 refine zq (qd uf rfl) (jd (i:=1) (vs:=[ai]) zxp rfl rfl (r9 M) rfl rfl rfl (zu (z01 M) jh) ?_);refine z8 (zz (zh (vi a) ?_));obtain⟨aU,d⟩:=ze d;refine zq (jf rfl rfl aU) (zf (vi (a+1)) (z8 ?_))
 exact⟨dkt,((af.trans K).trans L),jq,(P,a+1,(Q++([p]:List (List Edge))),ai,aT),Nat.lt_succ_self _,⟨rfl,trivial⟩,prm,d,M,trivial⟩;refine jm ?_;exact⟨dkt,n,jq,(Q,S,U),trivial,prm,(Option.some.inj d).symm,ap,trivial⟩;rintro⟨z,O,aA⟩ bx ch aV ⟨rfl,aW,_⟩
 refine zn (zq (ql (i:=1) ry yh rfl rfl rfl rfl) (jd (i:=0) (vs:=[(vi m.inputs),(vi m.outputs),O]) yh rfl rfl rfl rfl rfl rfl (zu rfl (zu rfl (zu (z01 aW) jh))) ?_));refine z8 (rz (i:=2) rfl aW fun aX al aY=>?_);have aZ:VRep (tSl false (tSl false kEdge)) aX O z:=(z4u aY)
 refine qp ?_;obtain rfl:=Option.some.inj q
 refine q9 (D:=[]) (J:=[box b6 [(vi m.inputs),(vi m.outputs),O] 30,box y [(vi m.inputs),(vi m.outputs),O] 30]) (rs:=[.cell 2 30]) (vs:=[(.agg #[(vi m.inputs),(vi m.outputs),O])]) ((((F.trans f).trans j).trans aV).trans al) rfl rfl ⟨⟨_,rfl,fun w hh=>z05 (i:=0) hh rfl rfl ry yh rfl rfl⟩,trivial⟩ ?_
 exact⟨rfl,(⟨_,⟨_,_,rfl,rfl,⟨_,_,rfl,rfl,(je rfl aZ)⟩⟩,rfl⟩:VRep (qz false false) _ _ (⟨m.inputs,m.outputs,z⟩:Mach))⟩
theorem q6l:Enters prog 13:=enters_of func13 rfl (by kernel_rfl)
end GV
end Go.Proofs.YtkcccdcloealfaaGreat
