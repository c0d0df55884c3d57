import Derived.Test.YtplgbkaollfmkaaShWa
import Derived.Test.YtplgbkaollfmkaaShXa
import Derived.Test.YtplgbkaollfmkaaShXb
import Derived.Test.YtplgbkaollfmkaaShXc
import Derived.Test.YtplgbkaollfmkaaShXd
import Derived.Test.YtplgbkaollfmkaaShXe
import Derived.Test.YtplgbkaollfmkaaShXf
import Derived.Test.YtplgbkaollfmkaaShXg
import Derived.Test.YtplgbkaollfmkaaShXh
import Derived.Test.YtplgbkaollfmkaaShXi
import Derived.Test.YtplgbkaollfmkaaShXj
import Derived.Test.YtplgbkaollfmkaaShXk
import Derived.Test.YtplgbkaollfmkaaShXl
import Derived.Test.YtplgbkaollfmkaaRows
set_option linter.unusedVariables false
set_option linter.unusedSimpArgs false
namespace Go.Proofs.Ytplgbkaollfmkaa
namespace GV
open _root_.Go.Proofs.Try
open Go.IntWalk
set_option maxRecDepth 100000
set_option maxHeartbeats 20000000
theorem q6x{a b c:Bool}:TyOk prog 48 (fo a b c):=by
 obtain⟨i,hi,d⟩: ∃ i,prog.info? 48=some i∧i.size=6:=kv (by kernel_rfl);exact z3n underlying48 hi rfl d
theorem q31:FieldOk prog 48 0 0:=by
 obtain⟨i,hi,a⟩: ∃ i,prog.info? 46=some i∧i.size=5:=kv (by kernel_rfl);exact ut underlying48 rfl rfl hi (by rw [a];rfl)
theorem q6g{a b:Bool}:TyOk prog 46 (fq a b):=by
 obtain⟨i,hi,c⟩: ∃ i,prog.info? 46=some i∧i.size=5:=kv (by kernel_rfl);exact z3n underlying46 hi rfl c
theorem zra:FieldOk prog 46 0 0:=by
 obtain⟨i,hi,a⟩: ∃ i,prog.info? 44=some i∧i.size=5:=kv (by kernel_rfl);exact ut underlying46 rfl rfl hi (by rw [a];rfl)
theorem ag5: ∀ w,(isAgg 5).run prog w= .ok false w:=fun w=>by kernel_rfl
theorem sz5: ∀ w,(sizeOf 5).run prog w= .ok 1 w:=fun w=>by kernel_rfl
theorem q70: ∀ w,(isAgg 44).run prog w= .ok true w:=fun w=>by kernel_rfl
theorem q7k: ∀ w,(sizeOf 44).run prog w= .ok 5 w:=fun w=>by kernel_rfl
theorem q1s:Enters prog 110:=enters_of func110 rfl (by kernel_rfl)
theorem z9u{N:Nat}(F:Nat): ∀ {R:RH} {m:Mach} {d:Value} (j:VRep (je false false) R d m) {s:Int} {n:(List Int)} {c:Value} (g:VRep (tSl false (zx .i64)) R c n) {r:Int} (b:ah N F m s n=some r),CallP prog 110 #[d,(vi s),c] R (fun v R'=>v=(vi r)):=by
  induction F with
  |zero=>intros;rename_i b;exact qp b
  |succ F ih=>
    intro R m d j s n c g r b
    refine qd (args:=[d,(vi s),c]) func110 rfl rfl fun A=>?_
    rw [ah] at b
    refine q9 ?_
    refine zy ?_
    refine kg (T:=(je false false)) rfl rfl rfl j fun v1 R3 e h5 h2=>?_
    refine zh (vi 0) ?_
    refine z8 ?_
    refine q9 ?_
    refine q9 ?_
    refine zy ?_
    refine zg c ?_
    refine zo (qi rfl underlying25 rfl (qy (g.mono e))) ?_
    refine zo (mg rfl rfl) ?_
    refine z8 ?_
    refine zu rfl b (fun b=>?_) (fun b=>?_)
    · refine q9 ?_
      refine zy ?_
      refine zg (vi s) ?_
      refine zh (vi s) ?_
      refine z8 ?_
      refine qm ?_
      obtain rfl:=Option.some.inj b
      refine qa (D:=[]) (J:=[]) (rs:=[.tmp 6]) (vs:=[(vi s)]) e rfl rfl ⟨rfl,trivial⟩ ?_
      exact⟨rfl,rfl⟩
    · refine q8 ?_
      refine q9 ?_
      obtain⟨g7,b⟩:=zf b
      obtain⟨q,c9,b⟩:=zt b
      obtain⟨o,b⟩:=zf b
      obtain⟨p,B,b⟩:=zt b
      refine og 12 [] [phX d,phX d,phX (vi s),phX c,phP (zx .i64) (ix n 0),phX (vi (ix n 0)),phX (z15 q),phX (vi q.to),phX c,phR (tSl false (zx .i64)) (cut n 1 (↑n.length:Int)),phX (vi p),phX (vi p)] mixed (by kernel_rfl) (di ⟨zk,zk,zk,zk,yc,zk,zk,zk,zk,o5,zk,zk,trivial⟩) ⟨?_,?_,?_,?_,?_,?_,?_,?_,?_,?_,?_,?_,trivial⟩ fun am t=>?_
      · intro l an a f x
        have C:l 3=v1:=f 3 rfl
        exact za rfl rfl rfl (zq (jk fe rfl C (h5.mono a) ((j.mono e).mono a)))
      · intro l ao a f x
        have C:l 3=v1:=f 3 rfl
        exact za rfl rfl rfl (zq (jk fe rfl C (h5.mono a) ((j.mono e).mono a)))
      · intro l ap a f x
        have a1:l 1=(vi s):=f 1 rfl
        exact za rfl rfl rfl (zq (zb a1))
      · intro l ar a f x
        have E:l 2=c:=f 2 rfl
        exact za rfl rfl rfl (zq (zb E))
      · rintro l au a f ⟨k,_⟩
        have G:=k rfl
        exact za rfl rfl rfl (uw (i:=(0:Int).toNat) tu G (qy ((g.mono e).mono a)) (ze rfl g7.1) (zz g7))
      · rintro l av a f ⟨k,_⟩
        have H:=k rfl
        exact za rfl rfl rfl (uh (kz ty3 rfl H) (fun _ _ h=>j5.1 h))
      · rintro l aw a f ⟨k,y,z,_⟩
        have I:l 12=d:=k rfl
        have K:l 13=(vi s):=y rfl
        have L:l 16=(vi (ix n 0)):=z rfl
        exact za rfl rfl rfl (wz (vs:=[d,(vi s),(vi (ix n 0))]) q50 (by simp only [List.map,ev,I,K,L]<;>rfl) (z8c ((j.mono e).mono a) c9) (fun _ _ h=>h))
      · rintro l ax a f ⟨k,_⟩
        have M:=k rfl
        exact za rfl rfl rfl (zq (zuq (v:=(z15 q)) (u:=(vi q.to)) M (fun w=>by kernel_rfl)))
      · intro l ay a f x
        have E:l 2=c:=f 2 rfl
        exact za rfl rfl rfl (zq (zb E))
      · rintro l az a f ⟨k,_⟩
        have O:=k rfl
        exact za rfl rfl rfl (zdy (lo:=(1:Int).toNat) (hi:=(↑n.length:Int).toNat) (mx:=(capOf c)) (X':=(cut n 1 (↑n.length:Int))) tu O (qy ((g.mono e).mono a)) (.inr ⟨_,congrArg some (ze rfl o.1)⟩) (.inl ⟨rfl,rfl,rfl⟩) (.inl ⟨rfl,rfl⟩) (zcd o) (z5b o) (fun h=>Nat.le_trans (z5b o) h) (fun _=>Nat.le_refl _) rfl)
      · rintro l aj a f ⟨k,y,z,d3,_⟩
        have P:l 11=d:=k rfl
        have Q:l 18=(vi q.to):=y rfl
        have S:=z rfl
        exact za rfl rfl rfl (wz (vs:=[d,(vi q.to),(l 20)]) q1s (by simp only [List.map,ev,P,Q]<;>rfl) (ih ((j.mono e).mono a) S B) (fun _ _ h=>h))
      · rintro l ak a f ⟨k,y,z,d3,d4,d5,d6,d7,d8,d9,aB,aC,aD,_⟩
        have U:=k rfl
        exact za rfl rfl rfl (zq (z1e U))
      intro aE V
      intro aF W
      intro aG X
      intro aH Y
      intro aI aJ
      intro aK Z
      intro aL aa
      intro aM ab
      intro aN ac
      intro aO aP
      intro aQ ad
      intro aR ae
      obtain rfl:=Eq.symm V
      obtain rfl:=Eq.symm W
      obtain rfl:=Eq.symm X
      obtain rfl:=Eq.symm Y
      obtain rfl:=Eq.symm Z
      obtain rfl:=Eq.symm aa
      obtain rfl:=Eq.symm ab
      obtain rfl:=Eq.symm ac
      obtain rfl:=Eq.symm ad
      obtain rfl:=Eq.symm ae
      refine z8 ?_
      refine qm ?_
      obtain rfl:=Option.some.inj b
      refine qa (D:=[]) (J:=[]) (rs:=[.tmp 6]) (vs:=[(vi p)]) (e.trans t) rfl rfl ⟨rfl,trivial⟩ ?_
      exact⟨rfl,rfl⟩
theorem zch{N:Nat}{R:RH}{m:Mach}{b:Value}(d:VRep (je false false) R b m){s:Int}{f:(List Int)}{a:Value}(c:VRep (tSl false (zx .i64)) R a f){r:Int}(e:ah N N m s f=some r):CallP prog 110 #[b,(vi s),a] R (fun v R'=>v=(vi r)):=z9u N d c e
theorem zcy{N:Nat}{R:RH}{w:(List Int)}{e:Value}(x:VRep (tSl false (zx .i64)) R e w){inputs:Int}{r:(List Int)}(c:z0o N w inputs=some r):CallP prog 109 #[e,(vi inputs)] R (fun v R'=>VRep (tSl false (zx .i64)) R' v r):=by
 refine qd (args:=[e,(vi inputs)]) func109 rfl rfl fun A=>?_;rw [z0o] at c;refine zi (zh vs0 (qw (oq (T:=(zx .i64)) (X:=([]:List Int)) (ps:=[]) (css:=[]) rfl underlying25 zo3 rfl rfl (kw trivial) rfl rfl (by decide) fun v1 f2 an h4=>?_)));refine zg e ?_;obtain⟨g6,c⟩:=zf c
 refine yz (i:=0) (X:=([]:List Int)) (Y:=w) rfl underlying25 zo3 rfl rfl rfl h4 (qy x) g6.1 g6.2 fun f f8 h9=>?_;refine zh f (z8 ?_);obtain⟨n,a,c⟩:=zt c;refine ql (γ:=(List Int)×Frag) (rs [4,5,6,7,10,34]) (fun g=>[]) (fun g=>[g.2]++A) (fun g R=>n=Ex.go g.1∧ORep (zx .i64) R g.2 f g.1∧True) ?_ ?_
 refine zi (zg f (zo (z2m rfl underlying25 rfl h9) ?_));obtain⟨G,a⟩:=zf a
 refine zo (z8a rfl rfl G) (zh (vi ((↑(([]:List Int)++w).length:Int)-1)) (z8 (zw (ja (γ:=Nat×Int×(List Int)×Frag) (rs [4,5,6,7,13,34]) (fun g=>[(6,(vi g.2.1))]) (fun g=>[g.2.2.2]++A) (fun g R=>xz N inputs g.1 g.2.1 g.2.2.1=some n∧ORep (zx .i64) R g.2.2.2 f g.2.2.1∧True) (fun g=>g.1) (N,(↑(([]:List Int)++w).length:Int)-1,(([]:List Int)++w),f8) prm ⟨a,h9,trivial⟩ ?_))))
 clear a;rintro⟨k,b,h,H⟩ au av l ⟨a,d,_⟩;rcases k with _|k;exact qp a;replace a:xz N inputs (k+1) b h=some n:=a;rw [xz] at a;refine q9 (zi (zg (vi b) (zo (z18 rfl rfl) (z8 (zu rfl a (fun a=>?_) (fun a=>?_))))))
 refine q8 (q9 (zw (q9 (zi (zg f (zg (vi b) ?_))))));obtain⟨o,a⟩:=zf a;refine uz (i:=b.toNat) rfl tu rfl d (ze rfl o.1) (zz o) fun aw I=>?_;refine z3t (i:=b.toNat) (j:=0) rfl ty3 d rfl rfl I (zz o) fun ax K=>?_;obtain rfl:=j5.1 K;obtain⟨L,a⟩:=zf a
 refine zo (qz rfl rfl L) (zg (vi inputs) (zo (j3 rfl rfl) (z8 (zu rfl a (fun a=>?_) (fun a=>?_)))));refine zi (zg f (zg (vi b) ?_));obtain⟨p,a⟩:=zf a;refine uz (i:=b.toNat) rfl tu rfl d (ze rfl p.1) (zz p) fun ay M=>?_
 refine z3t (i:=b.toNat) (j:=0) rfl ty3 d rfl rfl M (zz p) fun az O=>?_;obtain rfl:=j5.1 O;obtain⟨P,a⟩:=zf a;refine zo (qz rfl rfl P) ?_;obtain⟨q,a⟩:=zf a;refine uz (i:=b.toNat) rfl tu rfl d (ze rfl q.1) (zz q) fun aA Q=>?_
 refine o8 (i:=b.toNat) (j:=0) ty3 d rfl rfl Q (zz q) rfl (j5.2 rfl) fun aB S=>?_;refine qw (zg f (zh f (z8 (yf (i:=0) rfl S fun U y V=>?_))));have W:VRep (tSl false (zx .i64)) U f (up h b ((ix h b)+1)):=(z5a V);refine qm ?_;replace c:=z2q a c;obtain rfl:=Option.some.inj c
 refine qa (D:=[]) (J:=[]) (rs:=[.tmp 4]) (vs:=[f]) (l.trans y) rfl rfl ⟨rfl,trivial⟩ ?_;exact⟨rfl,W⟩;refine q8 (zy (zg f (zg (vi b) ?_)));obtain⟨s,a⟩:=zf a;refine uz (i:=b.toNat) rfl tu rfl d (ze rfl s.1) (zz s) fun aC Z=>?_
 refine o8 (i:=b.toNat) (j:=0) ty3 d rfl rfl Z (zz s) rfl (j5.2 rfl) fun aa ab=>?_;refine z8 (zy (zg (vi b) ?_));obtain⟨ac,a⟩:=zf a;refine zo (z8a rfl rfl ac) (zh (vi (b-1)) (z8 ?_))
 exact⟨dkt,(RH.le.refl _),jd,(k,b-1,(up h b 0),aa),Nat.lt_succ_self _,⟨rfl,trivial⟩,prm,a,ab,trivial⟩;refine jf ?_;exact⟨dkt,l,jd,(h,H),trivial,prm,(Option.some.inj a).symm,d,trivial⟩;rintro⟨z,aD⟩ aE aF C ⟨rfl,ad,_⟩;replace c:=z3u c
 refine zi (zg f (oq (T:=(zx .i64)) (X:=([0]:List Int)) (ps:=[(0,(vi 0))]) (css:=[[(vi 0)]]) rfl underlying25 zo3 rfl rfl (kw ⟨rfl,trivial⟩) rfl rfl (by decide) fun ae aG t af=>?_));refine uj (i:=0) rfl af fun ag m ah=>?_;have ai:VRep (tSl true (zx .i64)) ag ae ([0]:List Int):=(z1d ah t)
 obtain⟨E,c⟩:=zf c;refine yz (i:=0) (X:=z) (Y:=([0]:List Int)) rfl underlying25 zo3 rfl rfl rfl (ad.mono m) (qy (Sub.v (B:=(tSl false (zx .i64))) (ku Sub.refl (fun _=>rfl)) ai)) E.1 E.2 fun u aH aj=>?_;refine zh u (z8 (yf (i:=0) rfl aj fun ak F al=>?_))
 have am:VRep (tSl false (zx .i64)) ak u (z++([0]:List Int)):=(z5a al);refine qm ?_;obtain rfl:=Option.some.inj c;refine qa (D:=[]) (J:=[]) (rs:=[.tmp 4]) (vs:=[u]) ((C.trans m).trans F) rfl rfl ⟨rfl,trivial⟩ ?_;exact⟨rfl,am⟩
theorem q5q:Enters prog 109:=enters_of func109 rfl (by kernel_rfl)
theorem zce{N:Nat}{R:RH}{m:Mach}{Q:Value}(S:VRep (je false false) R Q m){f:Int}{r:(List (List Int))×(List Bool)}(o:z0a N m f=some r):CallP prog 108 #[Q,(vi f)] R (fun v R'=> ∃ u0 u1,v= .tuple #[u0,u1]∧VRep (tSl true (tSl false (zx .i64))) R' u0 r.1∧VRep (tSl true jh) R' u1 r.2):=by
 refine qd (args:=[Q,(vi f)]) func108 rfl rfl fun A=>?_;rw [z0a] at o;refine zi (kg (T:=(je false false)) rfl rfl rfl S fun v1 R3 U h5 h2=>?_);refine zh vs0 (zh vs0 (qw (jg rfl um ky rfl h2 fun v6 h7=>?_)));refine qh rfl z0t rfl h7 fun v8 h9=>?_
 refine zo (qi rfl underlying22 rfl (qy h9)) ?_;obtain⟨E,o⟩:=zf o;refine z2t (T:=(tSl false (zx .i64))) (m:=(↑m.rows.length:Int).toNat) (c:=(↑m.rows.length:Int).toNat) rfl underlying63 zkx (ze rfl E.1) (ze rfl E.1) (Nat.le_refl _) (z2u E) (z2v E) fun h aE V aF=>?_
 refine zh h (qw (jg rfl um ky rfl h2 fun bg aG=>?_));refine qh rfl z0t rfl aG fun bh aH=>?_;refine zo (qi rfl underlying22 rfl (qy aH)) ?_;obtain⟨F,o⟩:=zf o
 refine z2t (T:=jh) (m:=(↑m.rows.length:Int).toNat) (c:=(↑m.rows.length:Int).toNat) rfl underlying78 zo4 (ze rfl F.1) (ze rfl F.1) (Nat.le_refl _) (z2u F) (z2v F) fun d aI W aJ=>?_;refine zh d (z8 ?_);obtain⟨q,b,o⟩:=zt o
 refine ql (γ:=(List (List Int)×List Bool)×Frag×Frag) (rs [8,10,18,49]) (fun g=>[]) (fun g=>[g.2.1,g.2.2]++A) (fun g R=>q=g.1∧ORep (tSl false (zx .i64)) R g.2.1 h g.1.1∧capOf h=g.1.1.length∧ORep jh R g.2.2 d g.1.2∧capOf d=g.1.2.length∧True) ?_ ?_
 refine zi (oq (T:=(zx .i64)) (X:=([]:List Int)) (ps:=[]) (css:=[]) rfl underlying25 zo3 rfl rfl (kw trivial) rfl rfl (by decide) fun Y bi Z aK=>?_);refine zh Y (z8 (zw (yf (i:=0) rfl aK fun aL l aM=>?_)));have aN:VRep (tSl true (zx .i64)) aL Y ([]:List Int):=(z1d aM Z)
 refine ja (γ:=Nat×((List Int))×(List (List Int))×(List Bool)×Value×Frag×Frag) (rs [8,10,19,49]) (fun g=>[(8,g.2.2.2.2.1)]) (fun g=>[g.2.2.2.2.2.1,g.2.2.2.2.2.2]++A) (fun g R=>wu N m f g.1 g.2.1 g.2.2.1 g.2.2.2.1=some q∧VRep (tSl false (zx .i64)) R g.2.2.2.2.1 g.2.1∧ORep (tSl false (zx .i64)) R g.2.2.2.2.2.1 h g.2.2.1∧capOf h=g.2.2.1.length∧ORep jh R g.2.2.2.2.2.2 d g.2.2.2.1∧capOf d=g.2.2.2.1.length∧True) (fun g=>g.1) (N,[],(mk (↑m.rows.length:Int) ([]:List Int)),(mk (↑m.rows.length:Int) false),Y,aE,aI) ⟨[],(pk 1 rfl (pk 0 rfl (List.Perm.refl _)))⟩ ⟨b,(Sub.v (B:=(tSl false (zx .i64))) (ku Sub.refl (fun _=>rfl)) aN),(aF.mono l),(V.trans List.length_replicate.symm),(aJ.mono l),(W.trans List.length_replicate.symm),trivial⟩ ?_
 clear b;rintro⟨G,ac,H,I,K,ad,ae⟩ a5 bj n ⟨b,L,M,t,s,u,_⟩;rcases G with _|G;exact qp b;replace b:wu N m f (G+1) ac H I=some q:=b;rw [wu] at b
 refine q9 (zi (zg K (zo (qi rfl underlying25 rfl (qy L)) (jg rfl um ky rfl (h2.mono (l.trans n)) fun bk aO=>?_))));refine qh rfl z0t rfl aO fun bl aP=>?_;refine zo (qi rfl underlying22 rfl (qy aP)) (zo (j3 rfl rfl) (z8 (zu rfl b (fun b=>?_) (fun b=>?_))));refine q8 ?_
 obtain⟨O,k,b⟩:=zt b;refine ql (γ:=(List (List Int)×List Bool)×Frag×Frag) (rs [9,10,29,49]) (fun g=>[]) (fun g=>[g.2.1,g.2.2]++A) (fun g R=>O=g.1∧ORep (tSl false (zx .i64)) R g.2.1 h g.1.1∧capOf h=g.1.1.length∧ORep jh R g.2.2 d g.1.2∧capOf d=g.1.2.length∧True) ?_ ?_
 refine zw (zi (zo (jk fe rfl rfl (h5.mono (l.trans n)) (S.mono ((U.trans l).trans n))) (zg (vi f) (zg K ?_))));obtain⟨e,aQ,k⟩:=zt k;refine jb rfl q1s rfl (zch (S.mono ((U.trans l).trans n)) L aQ) fun bm bn a aR=>?_;obtain rfl:=aR
 refine zh (vi e) (qw (jo (v:=(vi e)) rfl (zb rfl) (jo rfl (z18 rfl rfl) (jo (v:=(.bool (decide (0≤e)))) rfl (zb rfl) (j6 rfl rfl rfl rfl (fun w=>j4 (v:=d) (zb rfl)) fun bo aS=>?_)))));refine j6 rfl rfl rfl rfl (fun w=>j4 (v:=(vi e)) (zb rfl)) fun bp aT=>?_;obtain⟨aa,k⟩:=zf k
 refine j6 rfl rfl rfl rfl (fun w=>z2x (i:=e.toNat) z3p (aS.1 (zn rfl w)) (s.mono a) (ze (aT.1 (zn rfl w)) (aa (zn rfl w)).1) (zz (aa (zn rfl w)))) fun bq aU=>?_
 refine j6 rfl rfl rfl rfl (fun w=>j4 (z7j (zar (i:=e.toNat) (j:=1) ty4 (s.mono a) rfl rfl (aU.1 (zn rfl w)) (zz (aa (zn rfl w)))))) fun br aV=>?_;refine j6 rfl rfl rfl rfl (fun w=>j4 (l8 (aV.1 (zn rfl w)))) fun bs aW=>?_
 refine jo rfl (vk rfl (fun hb=>(aW.1 (zn rfl hb))) rfl) (z8 (zu rfl k (fun k=>?_) (fun k=>?_)));refine zi (zg d (zg (vi e) ?_));obtain⟨ab,k⟩:=zf k;refine uz (i:=e.toNat) rfl z3p rfl (s.mono a) (ze rfl ab.1) (zz ab) fun bu af=>?_
 refine o8 (i:=e.toNat) (j:=1) ty4 (s.mono a) rfl rfl af (zz ab) rfl (u7.2 rfl) fun ag ah=>?_;refine z8 (zy (zg h (zg (vi e) (zg K ?_))));obtain⟨x,k⟩:=zf k;refine uz (i:=e.toNat) rfl zl7 rfl (M.mono a) (ze rfl x.1) (zz x) fun a6 ai=>?_
 refine o8 (i:=e.toNat) (j:=0) zdb (M.mono a) rfl rfl ai (zz x) rfl (L.mono a) fun aj ak=>?_;refine z8 ?_;exact⟨dkt,a,jd,(((up H e ac),(up I e true)),aj,ag),trivial,prm,(Option.some.inj k).symm,ak,(t.trans List.length_set.symm),ah,(u.trans List.length_set.symm),trivial⟩;refine q8 ?_
 exact⟨dkt,a,jd,((H,I),ad,ae),trivial,prm,(Option.some.inj k).symm,(M.mono a),t,(s.mono a),u,trivial⟩;rintro⟨O,aX,aY⟩ a7 bv y ⟨rfl,aZ,al,a0,am,_⟩;refine zy (zg K (jg rfl l6 l5 rfl (h2.mono ((l.trans n).trans y)) fun a8 an=>?_));refine qh rfl ty3 rfl an fun a9 ao=>?_
 obtain rfl:=j5.1 ao;obtain⟨ap,aq,b⟩:=zt b;refine jb rfl q5q rfl (zcy (L.mono y) aq) fun P ba p ar=>?_;refine zh P (z8 ?_);exact⟨dkt,(y.trans p),jd,(G,ap,O.1,O.2,P,aX,aY),Nat.lt_succ_self _,⟨rfl,trivial⟩,prm,b,ar,(aZ.mono p),al,(a0.mono p),am,trivial⟩
 refine jf ?_;exact⟨dkt,(l.trans n),jd,((H,I),ad,ae),trivial,prm,(Option.some.inj b).symm,M,t,s,u,trivial⟩;rintro⟨q,bw,bx⟩ bb bz au ⟨rfl,a1,av,a2,aw,_⟩;refine zi (zg h (zg d (zh h (zh d (z8 (yf (i:=0) rfl a1 fun ax z ay=>?_))))))
 have az:VRep (tSl true (tSl false (zx .i64))) ax h q.1:=(z1d ay av);refine yf (i:=0) rfl (a2.mono z) fun aA C aB=>?_;have aC:VRep (tSl true jh) aA d q.2:=(z1d aB aw);refine qm ?_;obtain rfl:=Option.some.inj o
 refine qa (D:=[]) (J:=[]) (rs:=[.tmp 4,.tmp 5]) (vs:=[h,d]) (((U.trans au).trans z).trans C) rfl rfl ⟨rfl,rfl,trivial⟩ ?_;exact⟨rfl,⟨h,d,rfl,(az.mono C),aC⟩⟩
theorem q5l:Enters prog 108:=enters_of func108 rfl (by kernel_rfl)
theorem zc7{N:Nat}{R:RH}{m:Mach}{b:Value}(c:VRep (je false false) R b m){r:(List (List Int))×(List Bool)}(a:z0v N m=some r):CallP prog 104 #[b] R (fun v R'=> ∃ j k,v= .tuple #[j,k]∧VRep (tSl true (tSl false (zx .i64))) R' j r.1∧VRep (tSl true jh) R' k r.2):=by
 refine qd (args:=[b]) func104 rfl rfl fun A=>?_;rw [z0v] at a;refine zi (kg (T:=(je false false)) rfl rfl rfl c fun q s d l t=>?_);refine zh vs0 (zh vs0 (qw (zo (jk fe rfl rfl l (c.mono d)) ?_)));obtain⟨u,n,a⟩:=zt a
 refine jb rfl q5l rfl (zce (c.mono d) n) fun w o g p=>?_;obtain⟨e,f,rfl,h,i⟩:=p;refine zo (jq rfl rfl) (zo (jq rfl rfl) (zh e (zh f (z8 (qm ?_)))));obtain rfl:=Option.some.inj a
 refine qa (D:=[]) (J:=[]) (rs:=[.tmp 2,.tmp 3]) (vs:=[e,f]) (d.trans g) rfl rfl ⟨rfl,rfl,trivial⟩ ?_;exact⟨rfl,⟨e,f,rfl,h,i⟩⟩
theorem q58:Enters prog 104:=enters_of func104 rfl (by kernel_rfl)
theorem zd7{N:Nat}{R:RH}{a:(List Int)}{f:Value}(l:VRep (tSl false (zx .i64)) R f a){b:(List Int)}{j:Value}(m:VRep (tSl false (zx .i64)) R j b){r:Int}(d:l9 N a b=some r):CallP prog 105 #[f,j] R (fun v R'=>v=(vi r)):=by
 refine qd (args:=[f,j]) func105 rfl rfl fun A=>?_;rw [l9] at d;refine zi (zh (vi 0) (z8 (q9 (zi (zg f (zo (qi rfl underlying25 rfl (qy l)) (zg j (zo (qi rfl underlying25 rfl (qy m)) (zo (xe rfl rfl) (z8 (zu rfl d (fun d=>?_) (fun d=>?_))))))))))))
 refine q9 (zi (zg f (zo (qi rfl underlying25 rfl (qy l)) (zg j (zo (qi rfl underlying25 rfl (qy m)) (zo (j3 rfl rfl) (z8 (zu rfl d (fun d=>?_) (fun d=>?_)))))))));refine zi (zh (vi 1) (z8 (qm ?_)));obtain rfl:=Option.some.inj d
 refine qa (D:=[]) (J:=[]) (rs:=[.tmp 4]) (vs:=[(vi 1)]) (RH.le.refl _) rfl rfl ⟨rfl,trivial⟩ ?_;exact⟨rfl,rfl⟩;refine q8 (zi (zh (vi 0) (z8 (qm ?_))));obtain rfl:=Option.some.inj d;refine qa (D:=[]) (J:=[]) (rs:=[.tmp 4]) (vs:=[(vi 0)]) (RH.le.refl _) rfl rfl ⟨rfl,trivial⟩ ?_;exact⟨rfl,rfl⟩;refine q8 ?_
 obtain⟨u,c,d⟩:=zt d;refine ql (γ:=Unit) (rs [4,6,16,40]) (fun g=>[]) (fun g=>[]++A) (fun g R=>u=Ex.go g∧True) ?_ ?_
 refine zi (zh (vi 0) (z8 (zw (ja (γ:=Nat×Int) (rs [4,6,16,40]) (fun g=>[(5,(vi g.2))]) (fun g=>[]++A) (fun g R=>pz N a b g.1 g.2=some u∧True) (fun g=>g.1) (N,0) prm ⟨c,trivial⟩ ?_))));clear c;rintro⟨t,k⟩ E O e ⟨c,_⟩;rcases t with _|t;exact qp c
 replace c:pz N a b (t+1) k=some u:=c;rw [pz] at c;refine q9 (zi (zg (vi k) (zg f (zo (qi rfl underlying25 rfl (qy (l.mono e))) (zo (j3 rfl rfl) (z8 (zu rfl c (fun c=>?_) (fun c=>?_))))))))
 refine q8 (q9 (zw (q9 (z3e 9 mixed (by kernel_rfl) (by kernel_rfl) ?_))));refine u6 (v:=f) (zb rfl) ?_;refine u6 (v:=(vi k)) (zb rfl) ?_;obtain⟨o,c⟩:=zf c;refine z1u (yx (i:=k.toNat) tu rfl (qy (l.mono e)) (ze rfl o.1) (zz o)) fun F w=>?_;refine u6 (ol (jr ty3 rfl w)) ?_
 refine u6 (v:=j) (zb rfl) ?_;refine u6 (v:=(vi k)) (zb rfl) ?_;obtain⟨p,c⟩:=zf c;refine z1u (yx (i:=k.toNat) tu rfl (qy (m.mono e)) (ze rfl p.1) (zz p)) fun G x=>?_;refine u6 (ol (jr ty3 rfl x)) ?_;refine u6 (xe rfl rfl) ?_;intro H h
 refine z8 (zu rfl c (fun c=>?_) (fun c=>?_));refine q9 (q9 (z3e 9 mixed (by kernel_rfl) (by kernel_rfl) ?_));refine u6 (v:=f) (zb rfl) ?_;refine u6 (v:=(vi k)) (zb rfl) ?_;obtain⟨q,c⟩:=zf c
 refine z1u (yx (i:=k.toNat) tu rfl (qy (l.mono (e.trans h))) (ze rfl q.1) (zz q)) fun I y=>?_;refine u6 (ol (jr ty3 rfl y)) ?_;refine u6 (v:=j) (zb rfl) ?_;refine u6 (v:=(vi k)) (zb rfl) ?_;obtain⟨s,c⟩:=zf c
 refine z1u (yx (i:=k.toNat) tu rfl (qy (m.mono (e.trans h))) (ze rfl s.1) (zz s)) fun K z=>?_;refine u6 (ol (jr ty3 rfl z)) ?_;refine u6 (j3 rfl rfl) ?_;intro L n;refine z8 (zu rfl c (fun c=>?_) (fun c=>?_));refine zi (zh (vi 1) (z8 (qm ?_)));replace d:=z2q c d
 obtain rfl:=Option.some.inj d;refine qa (D:=[]) (J:=[]) (rs:=[.tmp 4]) (vs:=[(vi 1)]) ((e.trans h).trans n) rfl rfl ⟨rfl,trivial⟩ ?_;exact⟨rfl,rfl⟩;refine q8 (zi (zh (vi 0) (z8 (qm ?_))));replace d:=z2q c d;obtain rfl:=Option.some.inj d
 refine qa (D:=[]) (J:=[]) (rs:=[.tmp 4]) (vs:=[(vi 0)]) ((e.trans h).trans n) rfl rfl ⟨rfl,trivial⟩ ?_;exact⟨rfl,rfl⟩;refine q8 (zy (zg (vi k) ?_));obtain⟨B,c⟩:=zf c;refine zo (qz rfl rfl B) (zh (vi (k+1)) (z8 ?_))
 exact⟨dkt,h,jd,(t,k+1),Nat.lt_succ_self _,⟨rfl,trivial⟩,prm,c,trivial⟩;refine jf ?_;exact⟨dkt,e,jd,(),trivial,prm,(Option.some.inj c).symm,trivial⟩;rintro P M Q C ⟨rfl,_⟩;replace d:=z3u d;refine zi (zh (vi 0) (z8 (qm ?_)));obtain rfl:=Option.some.inj d
 refine qa (D:=[]) (J:=[]) (rs:=[.tmp 4]) (vs:=[(vi 0)]) C rfl rfl ⟨rfl,trivial⟩ ?_;exact⟨rfl,rfl⟩
theorem q3n:Enters prog 105:=enters_of func105 rfl (by kernel_rfl)
theorem zcj{N:Nat}{R:RH}{m:Mach}{ah:Value}(ai:VRep (je false false) R ah m){r:(List Int)}(H:z1n N m=some r):CallP prog 97 #[ah] R (fun v R'=>VRep (tSl false (zx .i64)) R' v r):=by
 refine qd (args:=[ah]) func97 rfl rfl fun A=>?_;rw [z1n] at H;refine zi (kg (T:=(je false false)) rfl rfl rfl ai fun v1 R3 aj h5 h2=>?_);refine zh vs0 (qw (zo (jk fe rfl rfl h5 (ai.mono aj)) ?_));obtain⟨U,c7,H⟩:=zt H
 refine jb rfl q58 rfl (zc7 (ai.mono aj) c7) fun v8 bw ar h9=>?_;obtain⟨C,ak,rfl,al,aV⟩:=h9;refine zg (.tuple #[C,ak]) (zo (jq rfl rfl) (zo (jq rfl rfl) (zh C (zh ak (qw (zh vs0 (z8 ?_)))))));obtain⟨K,n,H⟩:=zt H
 refine ql (γ:=(List Int)×Value×Frag) (rs [5,9,14,60]) (fun g=>[(5,g.2.1)]) (fun g=>[g.2.2]++A) (fun g R=>K=g.1∧ORep (zx .i64) R g.2.2 g.2.1 g.1∧True) ?_ ?_;refine zi (zh (vi 0) (z8 (zw (z1t ?_))))
 refine ja (γ:=Nat×(List Int)×Int×Value×Frag) (rs [5,9,14,60]) (fun g=>[(5,g.2.2.2.1),(6,(vi g.2.2.1))]) (fun g=>[g.2.2.2.2]++A) (fun g R=>bf N U g.1 g.2.1 g.2.2.1=some K∧ORep (zx .i64) R g.2.2.2.2 g.2.2.2.1 g.2.1∧True) (fun g=>g.1) (N,[],0,vs0,emp) prm ⟨n,(ry (T:=(zx .i64))),trivial⟩ ?_;clear n
 rintro⟨M,a,d,q,O⟩ ba bz z ⟨n,I,_⟩;rcases M with _|M;exact qp n;replace n:bf N U (M+1) a d=some K:=n;rw [bf] at n
 refine q9 (zi (zg (vi d) (zg C (zo (qi rfl underlying63 rfl (qy (al.mono z))) (zo (j3 rfl rfl) (z8 (zu rfl n (fun n=>?_) (fun n=>?_))))))));refine q8 ?_;obtain⟨am,e,n⟩:=zt n
 refine ql (γ:=(List Int)×Value×Frag) (rs [5,6,7,9,20,60]) (fun g=>[(5,g.2.1)]) (fun g=>[g.2.2]++A) (fun g R=>am=g.1∧ORep (zx .i64) R g.2.2 g.2.1 g.1∧True) ?_ ?_;refine zw (q9 (zi (zg ak (zg (vi d) ?_))));obtain⟨au,e⟩:=zf e
 refine jv (i:=d.toNat) rfl z3p rfl (qy (aV.mono z)) (ze rfl au.1) (zz au) fun bA aW=>?_;refine qh rfl ty4 rfl aW fun bB aX=>?_;obtain rfl:=u7.1 aX;refine zo (l8 rfl) (z8 (zu rfl e (fun e=>?_) (fun e=>?_)));refine jf ?_
 exact⟨dkt,(RH.le.refl _),jd,(a,q,O),⟨rfl,trivial⟩,prm,(Option.some.inj e).symm,I,trivial⟩;refine q8 (zi (zh (vi 0) (z8 ?_)));obtain⟨f,k,e⟩:=zt e;refine ql (γ:=Int) (rs [7,8,25,46]) (fun g=>[(7,(vi g))]) (fun g=>[O]++A) (fun g R=>f=g∧True) ?_ ?_
 refine zw (ja (γ:=Nat×Int) (rs [7,8,25,46]) (fun g=>[(7,(vi g.2))]) (fun g=>[O]++A) (fun g R=>bu N U a d g.1 g.2=some f∧True) (fun g=>g.1) (N,0) prm ⟨k,trivial⟩ ?_);clear k;rintro⟨P,b⟩ bb bC t ⟨k,_⟩;rcases P with _|P;exact qp k
 replace k:bu N U a d (P+1) b=some f:=k;rw [bu] at k;refine q9 (q9 ?_);obtain⟨an,av,aw,k⟩:=zxk k;obtain⟨L,aY,k⟩:=zt k
 refine og 19 [] [phX (vi b),phX q,phX (vi (↑a.length:Int)),phX (.bool (decide (b<(↑a.length:Int)))),phX (.bool (decide (b<(↑a.length:Int)))),phG (true&&((decide (b<(↑a.length:Int)))==true)) (phX C),phG (true&&((decide (b<(↑a.length:Int)))==true)) (phX q),phG (true&&((decide (b<(↑a.length:Int)))==true)) (phX (vi b)),phG (true&&((decide (b<(↑a.length:Int)))==true)) ((fun u _=>z3o (zx .i64) q a u b.toNat)),phG (true&&((decide (b<(↑a.length:Int)))==true)) (phX (vi (ix a b))),phG (true&&((decide (b<(↑a.length:Int)))==true)) (phP (tSl false (zx .i64)) (ix U.1 (ix a b))),phG (true&&((decide (b<(↑a.length:Int)))==true)) (phR (tSl false (zx .i64)) (ix U.1 (ix a b))),phG (true&&((decide (b<(↑a.length:Int)))==true)) (phX C),phG (true&&((decide (b<(↑a.length:Int)))==true)) (phX (vi d)),phG (true&&((decide (b<(↑a.length:Int)))==true)) (phP (tSl false (zx .i64)) (ix U.1 d)),phG (true&&((decide (b<(↑a.length:Int)))==true)) (phR (tSl false (zx .i64)) (ix U.1 d)),phG (true&&((decide (b<(↑a.length:Int)))==true)) (phX (vi (L.getD default))),phG (true&&((decide (b<(↑a.length:Int)))==true)) (phX (.bool (decide ((L.getD default)=1)))),phX (.bool ((decide (b<(↑a.length:Int)))&&(decide ((L.getD default)=1))))] mixed (by kernel_rfl) (di ⟨zk,zk,zk,zk,zk,(qj zk),(qj zk),(qj zk),(qj (fun _ _ _ _ h=>h)),(qj zk),(qj yc),(qj o5),(qj zk),(qj zk),(qj yc),(qj o5),(qj zk),(qj zk),zk,trivial⟩) ⟨?_,?_,?_,?_,?_,?_,?_,?_,?_,?_,?_,?_,?_,?_,?_,?_,?_,?_,?_,trivial⟩ fun bD V=>?_
 intro l bE c s hd;exact za rfl rfl rfl (zq (zb (s 7 rfl)));intro l bG c s hd;exact za rfl rfl rfl (zq (zb (s 5 rfl)));rintro l bH c s ⟨o,_⟩;exact za rfl rfl rfl (zq (z2m rfl underlying25 (o rfl) ((I.mono t).mono c)));rintro l bI c s ⟨o,x,_⟩;exact za rfl rfl rfl (zq (j3 (o rfl) (x rfl)))
 rintro l bJ c s ⟨o,_⟩;exact za rfl rfl rfl (zq (zb (o rfl)));rintro l bK c s ⟨o,_⟩;exact zl (Gj:=true) (Bj:=decide (b<(↑a.length:Int))) rfl rfl rfl (ji (o rfl)) rfl (fun w p=>zq (zb (s 3 rfl)));rintro l bL c s ⟨o,_⟩
 exact zl (Gj:=true) (Bj:=decide (b<(↑a.length:Int))) rfl rfl rfl (ji (o rfl)) rfl (fun w p=>zq (zb (s 5 rfl)));rintro l bM c s ⟨o,_⟩;exact zl (Gj:=true) (Bj:=decide (b<(↑a.length:Int))) rfl rfl rfl (ji (o rfl)) rfl (fun w p=>zq (zb (s 7 rfl)));rintro l bN c s ⟨o,x,d2,_⟩
 exact zl (Gj:=true) (Bj:=decide (b<(↑a.length:Int))) rfl rfl rfl (ji (d2 rfl)) rfl (fun w p=>si (i:=b.toNat) tu (show l 31=q from(o rfl).1 (zn rfl p)) ((I.mono t).mono c) (ze (show l 32=(vi b) from(x rfl).1 (zn rfl p)) (an (zn w p)).1) (zz (an (zn w p))));rintro l bO c s ⟨o,x,_⟩
 exact zl (Gj:=true) (Bj:=decide (b<(↑a.length:Int))) rfl rfl rfl (ji (x rfl)) rfl (fun w p=>uh (z4b (i:=b.toNat) (j:=0) ty3 ((I.mono t).mono c) rfl rfl ((o rfl).1 (zn rfl p)) (zz (an (zn w p)))) (fun _ _ h=>j5.1 h));rintro l bc c s ⟨o,x,d2,_⟩
 exact zl (Gj:=true) (Bj:=decide (b<(↑a.length:Int))) rfl rfl rfl (ji (d2 rfl)) rfl (fun w p=>uw (i:=(ix a b).toNat) zl7 (show l 30=C from(o rfl).1 (zn rfl p)) (qy ((al.mono (z.trans t)).mono c)) (ze (show l 34=(vi (ix a b)) from(x rfl).1 (zn rfl p)) (av (zn w p)).1) (zz (av (zn w p))))
 rintro l be c s ⟨o,x,_⟩;exact zl (Gj:=true) (Bj:=decide (b<(↑a.length:Int))) rfl rfl rfl (ji (x rfl)) rfl (fun w p=>kz zdb rfl ((o rfl).1 (zn rfl p)));rintro l bg c s ⟨o,_⟩;exact zl (Gj:=true) (Bj:=decide (b<(↑a.length:Int))) rfl rfl rfl (ji (o rfl)) rfl (fun w p=>zq (zb (s 3 rfl)))
 rintro l bh c s ⟨o,_⟩;exact zl (Gj:=true) (Bj:=decide (b<(↑a.length:Int))) rfl rfl rfl (ji (o rfl)) rfl (fun w p=>zq (zb (s 6 rfl)));rintro l bi c s ⟨o,x,d2,_⟩
 exact zl (Gj:=true) (Bj:=decide (b<(↑a.length:Int))) rfl rfl rfl (ji (d2 rfl)) rfl (fun w p=>uw (i:=d.toNat) zl7 (show l 37=C from(o rfl).1 (zn rfl p)) (qy ((al.mono (z.trans t)).mono c)) (ze (show l 38=(vi d) from(x rfl).1 (zn rfl p)) (aw (zn w p)).1) (zz (aw (zn w p))))
 rintro l bj c s ⟨o,x,_⟩;exact zl (Gj:=true) (Bj:=decide (b<(↑a.length:Int))) rfl rfl rfl (ji (x rfl)) rfl (fun w p=>kz zdb rfl ((o rfl).1 (zn rfl p)));rintro l bk c s ⟨o,x,d2,d3,_⟩
 exact zl (Gj:=true) (Bj:=decide (b<(↑a.length:Int))) rfl rfl rfl (ji (d2 rfl)) rfl (fun w p=>wz (vs:=[(l 36),(l 40)]) q3n rfl ((by have aZ:=(z06 aY (zn w p));exact zd7 ((o rfl).1 (zn rfl p)) ((x rfl).1 (zn rfl p)) aZ)) (fun _ _ h=>h));rintro l bl c s ⟨o,x,_⟩
 exact zl (Gj:=true) (Bj:=decide (b<(↑a.length:Int))) rfl rfl rfl (ji (x rfl)) rfl (fun w p=>zq (mg (show l 41=(vi (L.getD default)) from(o rfl).1 (zn rfl p)) rfl));rintro l bm c s ⟨o,x,_⟩
 exact za rfl rfl rfl (zq (vk (o rfl) (fun hb=>(show l 42=(.bool (decide ((L.getD default)=1))) from(x rfl).1 (zn rfl hb))) rfl));intro bQ a0 bR a1 bS a2 bT a3 bU a4 bV bW bX bY bZ b0 b1 b2 b3 b4 b5 b6 b7 b8 b9 ca cb cc cd ce cf cg ch ci cj ck cl a5;obtain rfl:=Eq.symm a0;obtain rfl:=Eq.symm a1;obtain rfl:=Eq.symm a2
 obtain rfl:=Eq.symm a3;obtain rfl:=Eq.symm a4;obtain rfl:=Eq.symm a5;refine z8 (zu rfl k (fun k=>?_) (fun k=>?_));refine q8 (zw (zy (zg (vi b) ?_)));obtain⟨ax,k⟩:=zf k;refine zo (qz rfl rfl ax) (zh (vi (b+1)) (z8 ?_))
 exact⟨dkt,V,jd,(P,b+1),Nat.lt_succ_self _,⟨rfl,trivial⟩,prm,k,trivial⟩;refine jf ?_;exact⟨dkt,(t.trans V),jd,b,⟨rfl,trivial⟩,prm,(Option.some.inj k).symm,trivial⟩;rintro f bn cm W ⟨rfl,_⟩
 refine zi (zh vs0 (qw (zg vs0 (zg q (zg (vi f) (uj (i:=0) rfl (I.mono W) fun Z ap ay=>?_))))));have E:VRep (tSl false (zx .i64)) Z q a:=(z5a ay);obtain⟨F,e⟩:=zf e
 refine zb4 (v:=q) (lo:=(0:Int).toNat) (hi:=f.toNat) (mx:=(capOf q)) rfl tu rfl (qy E) (.inl ⟨rfl,rfl⟩) (.inr ⟨_,congrArg some (ze rfl (za6 F))⟩) (.inl ⟨rfl,rfl⟩) (zcd F) (z5b F) (Nat.le_trans (z5b F) (zo6 (qy E))) (Nat.le_refl _) (X':=(cut a 0 f)) rfl fun az aA aT=>?_
 have aB:VRep (tSl false (zx .i64)) Z az (cut a 0 f):=z5a aA;refine q2q ?_;obtain⟨aa,e⟩:=zf e;refine yz (i:=0) (X:=([]:List Int)) (Y:=(cut a 0 f)) rfl underlying25 zo3 rfl rfl rfl (ry (T:=(zx .i64))) (qy aB) aa.1 aa.2 fun ab bo aC=>?_
 refine zh ab (qw (zg ab (zg (vi d) (oq (T:=(zx .i64)) (X:=([d]:List Int)) (ps:=[(0,(vi d))]) (css:=[[(vi d)]]) rfl underlying25 zo3 rfl rfl (kw ⟨rfl,trivial⟩) rfl rfl (by decide) fun aD bp Q aE=>?_))));refine uj (i:=0) rfl aE fun ac y aF=>?_
 have aG:VRep (tSl true (zx .i64)) ac aD ([d]:List Int):=(z1d aF Q);obtain⟨ad,e⟩:=zf e;refine yz (i:=0) (X:=(([]:List Int)++(cut a 0 f))) (Y:=([d]:List Int)) rfl underlying25 zo3 rfl rfl rfl (aC.mono y) (qy (Sub.v (B:=(tSl false (zx .i64))) (ku Sub.refl (fun _=>rfl)) aG)) ad.1 ad.2 fun ae bq aH=>?_
 refine zh ae (z8 (zy (zg ae (zg q (zg (vi f) ?_)))));obtain⟨G,e⟩:=zf e
 refine zb4 (v:=q) (lo:=f.toNat) (hi:=(↑a.length:Int).toNat) (mx:=(capOf q)) rfl tu rfl (qy (E.mono y)) (.inr ⟨_,congrArg some (ze rfl G.1)⟩) (.inl ⟨rfl,rfl,rfl⟩) (.inl ⟨rfl,rfl⟩) (zcd G) (z5b G) (Nat.le_trans (z5b G) (zo6 (qy (E.mono y)))) (Nat.le_refl _) (X':=(cut a f (↑a.length:Int))) rfl fun aI aJ aU=>?_
 have aK:VRep (tSl false (zx .i64)) ac aI (cut a f (↑a.length:Int)):=z5a aJ;obtain⟨af,e⟩:=zf e;refine yz (i:=0) (X:=((([]:List Int)++(cut a 0 f))++([d]:List Int))) (Y:=(cut a f (↑a.length:Int))) rfl underlying25 zo3 rfl rfl rfl aH (qy aK) af.1 af.2 fun ag aL aM=>?_;refine zh ag (z8 ?_)
 exact⟨dkt,((W.trans ap).trans y),jd,((((([]:List Int)++(cut a 0 f))++([d]:List Int))++(cut a f (↑a.length:Int))),ag,aL),⟨rfl,trivial⟩,prm,(Option.some.inj e).symm,aM,trivial⟩;rintro⟨am,a6,a7⟩ br cn aN ⟨rfl,a8,_⟩;refine zy (zg (vi d) ?_);obtain⟨aO,n⟩:=zf n
 refine zo (qz rfl rfl aO) (zh (vi (d+1)) (z8 ?_));exact⟨dkt,aN,jd,(M,am,d+1,a6,a7),Nat.lt_succ_self _,⟨rfl,rfl,trivial⟩,prm,n,a8,trivial⟩;refine jf ?_;exact⟨dkt,z,jd,(a,q,O),⟨rfl,trivial⟩,prm,(Option.some.inj n).symm,I,trivial⟩;rintro⟨K,S,co⟩ bs cp aP ⟨rfl,a9,_⟩
 refine zi (zg S (zh S (z8 (yf (i:=0) rfl a9 fun aQ aq aR=>?_))));have aS:VRep (tSl false (zx .i64)) aQ S K:=(z5a aR);refine qm ?_;obtain rfl:=Option.some.inj H;refine qa (D:=[]) (J:=[]) (rs:=[.tmp 2]) (vs:=[S]) (((aj.trans ar).trans aP).trans aq) rfl rfl ⟨rfl,trivial⟩ ?_;exact⟨rfl,aS⟩
theorem q7w:Enters prog 97:=enters_of func97 rfl (by kernel_rfl)
theorem z6y{N:Nat}{R:RH}{m:Mach}{O:Value}(p:VRep (je false false) R O m){r:(List Int)}(j:lq N m=some r):CallP prog 87 #[O] R (fun v R'=>VRep (tSl false (zx .i64)) R' v r):=by
 refine qd (args:=[O]) func87 rfl rfl fun A=>?_;rw [lq] at j;refine zi (kg (T:=(je false false)) rfl rfl rfl p fun v1 R3 q h5 h2=>?_);refine zh vs0 (qw (zo (jk fe rfl rfl h5 (p.mono q)) ?_));obtain⟨y6,c7,j⟩:=zt j
 refine jb rfl q36 rfl (z3y (p.mono q) c7) fun v8 aQ o h9=>?_;refine zh v8 (qw (zo (jk fe rfl rfl (h5.mono o) (p.mono (q.trans o))) ?_));obtain⟨e,ax,j⟩:=zt j;refine jb rfl q7w rfl (zcj (p.mono (q.trans o)) ax) fun s aR t C=>?_
 refine zh s (qw (zh vs0 (z8 ?_)));obtain⟨u,b,j⟩:=zt j;refine ql (γ:=(List Int)×Value×Frag) (rs [5,9,13,48]) (fun g=>[(5,g.2.1)]) (fun g=>[g.2.2]++A) (fun g R=>u=g.1∧ORep (zx .i64) R g.2.2 g.2.1 g.1∧True) ?_ ?_;refine zi (zh (vi 0) (z8 (zw (z1t ?_))))
 refine ja (γ:=Nat×(List Int)×Int×Value×Frag) (rs [5,9,13,48]) (fun g=>[(5,g.2.2.2.1),(6,(vi g.2.2.1))]) (fun g=>[g.2.2.2.2]++A) (fun g R=>xk N y6 e g.1 g.2.1 g.2.2.1=some u∧ORep (zx .i64) R g.2.2.2.2 g.2.2.2.1 g.2.1∧True) (fun g=>g.1) (N,[],0,vs0,emp) prm ⟨b,(ry (T:=(zx .i64))),trivial⟩ ?_
 clear b;rintro⟨E,w,a,P,x⟩ aJ aS f ⟨b,Q,_⟩;rcases E with _|E;exact qp b;replace b:xk N y6 e (E+1) w a=some u:=b;rw [xk] at b
 refine q9 (zi (zg (vi a) (zg s (zo (qi rfl underlying25 rfl (qy (C.mono f))) (zo (j3 rfl rfl) (z8 (zu rfl b (fun b=>?_) (fun b=>?_))))))));refine q8 ?_;obtain⟨S,h,b⟩:=zt b
 refine ql (γ:=(List Int)×Value×Frag) (rs [5,6,7,9,19,48]) (fun g=>[(5,g.2.1)]) (fun g=>[g.2.2]++A) (fun g R=>S=g.1∧ORep (zx .i64) R g.2.2 g.2.1 g.1∧True) ?_ ?_;refine zw (zi (zh (vi 0) (z8 ?_)));obtain⟨y,c,h⟩:=zt h
 refine ql (γ:=Int) (rs [7,9,19,39]) (fun g=>[(7,(vi g))]) (fun g=>[x]++A) (fun g R=>y=g∧True) ?_ ?_
 refine zi (zh (vi 0) (z8 (zw (ja (γ:=Nat×Int×Int) (rs [7,9,19,39]) (fun g=>[(7,(vi g.2.1)),(8,(vi g.2.2))]) (fun g=>[x]++A) (fun g R=>xn N y6 e a g.1 g.2.1 g.2.2=some y∧True) (fun g=>g.1) (N,0,0) prm ⟨c,trivial⟩ ?_))));clear c;rintro⟨F,U,k⟩ aT aU l ⟨c,_⟩;rcases F with _|F
 exact qp c;replace c:xn N y6 e a (F+1) U k=some y:=c;rw [xn] at c;refine q9 (zi (zg (vi k) (zg (vi a) (zo (j3 rfl rfl) (z8 (zu rfl c (fun c=>?_) (fun c=>?_)))))));refine q8 ?_;obtain⟨V,d,c⟩:=zt c
 refine ql (γ:=Int) (rs [7,8,24,39]) (fun g=>[(7,(vi g))]) (fun g=>[x]++A) (fun g R=>V=g∧True) ?_ ?_;refine zw (q9 (z3e 15 mixed (by kernel_rfl) (by kernel_rfl) ?_));refine u6 (v:=v8) (zb rfl) ?_;refine u6 (v:=s) (zb rfl) ?_;refine u6 (v:=(vi k)) (zb rfl) ?_;obtain⟨Z,d⟩:=zf d
 refine z1u (yx (i:=k.toNat) tu rfl (qy (C.mono (f.trans l))) (ze rfl Z.1) (zz Z)) fun aV ay=>?_;refine u6 (ol (jr ty3 rfl ay)) ?_;obtain⟨aa,d⟩:=zf d;refine z1u (yx (i:=(ix e k).toNat) tu rfl (qy (h9.mono ((t.trans f).trans l))) (ze rfl aa.1) (zz aa)) fun aW az=>?_
 refine u6 (ol (jr ty3 rfl az)) ?_;refine u6 (v:=v8) (zb rfl) ?_;refine u6 (v:=s) (zb rfl) ?_;refine u6 (v:=(vi a)) (zb rfl) ?_;obtain⟨ab,d⟩:=zf d;refine z1u (yx (i:=a.toNat) tu rfl (qy (C.mono (f.trans l))) (ze rfl ab.1) (zz ab)) fun aX aA=>?_;refine u6 (ol (jr ty3 rfl aA)) ?_
 obtain⟨ac,d⟩:=zf d;refine z1u (yx (i:=(ix e a).toNat) tu rfl (qy (h9.mono ((t.trans f).trans l))) (ze rfl ac.1) (zz ac)) fun aY aB=>?_;refine u6 (ol (jr ty3 rfl aB)) ?_;refine u6 (mg rfl rfl) ?_;intro aZ I;refine z8 (zu rfl d (fun d=>?_) (fun d=>?_))
 refine zy (zh (vi 1) (z8 ?_));exact⟨dkt,I,jd,1,⟨rfl,trivial⟩,prm,(Option.some.inj d).symm,trivial⟩;refine q8 ?_;exact⟨dkt,I,jd,U,⟨rfl,trivial⟩,prm,(Option.some.inj d).symm,trivial⟩;rintro V a0 a1 ad ⟨rfl,_⟩;refine zy (zg (vi k) ?_);obtain⟨aC,c⟩:=zf c
 refine zo (qz rfl rfl aC) (zh (vi (k+1)) (z8 ?_));exact⟨dkt,ad,jd,(F,V,k+1),Nat.lt_succ_self _,⟨rfl,rfl,trivial⟩,prm,c,trivial⟩;refine jf ?_;exact⟨dkt,l,jd,U,⟨rfl,trivial⟩,prm,(Option.some.inj c).symm,trivial⟩;rintro y a2 a3 n ⟨rfl,_⟩
 refine zi (zg (vi y) (zo (mg rfl rfl) (z8 (zu rfl h (fun h=>?_) (fun h=>?_)))));refine zy (zg P (zg s (zg (vi a) ?_)));obtain⟨K,h⟩:=zf h;refine jv (i:=a.toNat) rfl tu rfl (qy (C.mono (f.trans n))) (ze rfl K.1) (zz K) fun aK ae=>?_
 refine qh rfl ty3 rfl ae fun aL af=>?_;obtain rfl:=j5.1 af;refine oq (T:=(zx .i64)) (X:=([(ix e a)]:List Int)) (ps:=[(0,(vi (ix e a)))]) (css:=[[(vi (ix e a))]]) rfl underlying25 zo3 rfl rfl (kw ⟨rfl,trivial⟩) rfl rfl (by decide) fun ag aM G ah=>?_;refine uj (i:=0) rfl ah fun ai z aj=>?_
 have ak:VRep (tSl true (zx .i64)) ai ag ([(ix e a)]:List Int):=(z1d aj G);obtain⟨L,h⟩:=zf h;refine yz (i:=0) (X:=w) (Y:=([(ix e a)]:List Int)) rfl underlying25 zo3 rfl rfl rfl (Q.mono (n.trans z)) (qy (Sub.v (B:=(tSl false (zx .i64))) (ku Sub.refl (fun _=>rfl)) ak)) L.1 L.2 fun M al am=>?_
 refine zh M (z8 ?_);exact⟨dkt,(n.trans z),jd,((w++([(ix e a)]:List Int)),M,al),⟨rfl,trivial⟩,prm,(Option.some.inj h).symm,am,trivial⟩;refine q8 ?_;exact⟨dkt,n,jd,(w,P,x),⟨rfl,trivial⟩,prm,(Option.some.inj h).symm,(Q.mono n),trivial⟩;rintro⟨S,aD,aE⟩ aN a4 an ⟨rfl,aF,_⟩
 refine zy (zg (vi a) ?_);obtain⟨ao,b⟩:=zf b;refine zo (qz rfl rfl ao) (zh (vi (a+1)) (z8 ?_));exact⟨dkt,an,jd,(E,S,a+1,aD,aE),Nat.lt_succ_self _,⟨rfl,rfl,trivial⟩,prm,b,aF,trivial⟩;refine jf ?_;exact⟨dkt,f,jd,(w,P,x),⟨rfl,trivial⟩,prm,(Option.some.inj b).symm,Q,trivial⟩
 rintro⟨u,H,a5⟩ aO a6 ap ⟨rfl,aG,_⟩;refine zi (zg H (zh H (z8 (yf (i:=0) rfl aG fun aq W ar=>?_))));have au:VRep (tSl false (zx .i64)) aq H u:=(z5a ar);refine qm ?_;obtain rfl:=Option.some.inj j
 refine qa (D:=[]) (J:=[]) (rs:=[.tmp 2]) (vs:=[H]) ((((q.trans o).trans t).trans ap).trans W) rfl rfl ⟨rfl,trivial⟩ ?_;exact⟨rfl,au⟩
theorem q5u:Enters prog 87:=enters_of func87 rfl (by kernel_rfl)
theorem zej{N:Nat}{R:RH}{m:Mach}{aa:Value}(E:VRep (je false false) R aa m){r:(List Int)}(u:z3b N m=some r):CallP prog 88 #[aa] R (fun v R'=>VRep (tSl false (zx .i64)) R' v r):=by
 refine qd (args:=[aa]) func88 rfl rfl fun A=>?_;rw [z3b] at u;refine zi (kg (T:=(je false false)) rfl rfl rfl E fun v1 R3 F h5 h2=>?_);refine zh vs0 (qw (zo (jk fe rfl rfl h5 (E.mono F)) ?_));obtain⟨C,c7,u⟩:=zt u
 refine jb rfl q36 rfl (z3y (E.mono F) c7) fun v8 a4 p h9=>?_;refine zh v8 (qw (zo (jk fe rfl rfl (h5.mono p) (E.mono (F.trans p))) ?_));obtain⟨k,aH,u⟩:=zt u;refine jb rfl q5u rfl (z6y (E.mono (F.trans p)) aH) fun K a5 q ag=>?_
 refine zh K (qw (zo (jk fe rfl rfl (h5.mono (p.trans q)) (E.mono ((F.trans p).trans q))) ?_));obtain⟨b,aI,u⟩:=zt u;refine jb rfl q5c rfl (z6p (E.mono ((F.trans p).trans q)) aI) fun ah a6 w aJ=>?_;refine zh ah (qw (zh vs0 (z8 ?_)));obtain⟨H,e,u⟩:=zt u
 refine ql (γ:=(List Int)×Value×Frag) (rs [6,10,16,51]) (fun g=>[(6,g.2.1)]) (fun g=>[g.2.2]++A) (fun g R=>H=g.1∧ORep (zx .i64) R g.2.2 g.2.1 g.1∧True) ?_ ?_;refine zi (zh (vi 0) (z8 (zw (z1t ?_))))
 refine ja (γ:=Nat×(List Int)×Int×Value×Frag) (rs [6,10,16,51]) (fun g=>[(6,g.2.2.2.1),(7,(vi g.2.2.1))]) (fun g=>[g.2.2.2.2]++A) (fun g R=>ny N C k b g.1 g.2.1 g.2.2.1=some H∧ORep (zx .i64) R g.2.2.2.2 g.2.2.2.1 g.2.1∧True) (fun g=>g.1) (N,[],0,vs0,emp) prm ⟨e,(ry (T:=(zx .i64))),trivial⟩ ?_
 clear e;rintro⟨L,M,a,ai,O⟩ aQ a7 s ⟨e,aj,_⟩;rcases L with _|L;exact qp e;replace e:ny N C k b (L+1) M a=some H:=e;rw [ny] at e
 refine q9 (zi (zg (vi a) (zg v8 (zo (qi rfl underlying25 rfl (qy (h9.mono ((q.trans w).trans s)))) (zo (j3 rfl rfl) (z8 (zu rfl e (fun e=>?_) (fun e=>?_))))))));refine q8 (q9 (zw (zi (zh (vi (-1)) (z8 ?_)))));obtain⟨t,f,e⟩:=zt e
 refine ql (γ:=Int) (rs [8,10,22,47]) (fun g=>[(8,(vi g))]) (fun g=>[O]++A) (fun g R=>t=g∧True) ?_ ?_
 refine zi (zh (vi 0) (z8 (zw (ja (γ:=Nat×Int×Int) (rs [8,10,22,47]) (fun g=>[(8,(vi g.2.1)),(9,(vi g.2.2))]) (fun g=>[O]++A) (fun g R=>nz N C k b a g.1 g.2.1 g.2.2=some t∧True) (fun g=>g.1) (N,(-1),0) prm ⟨f,trivial⟩ ?_))));clear f;rintro⟨P,ab,c⟩ aR a8 x ⟨f,_⟩
 rcases P with _|P;exact qp f;replace f:nz N C k b a (P+1) ab c=some t:=f;rw [nz] at f;refine q9 (zi (zg (vi c) (zg K (zo (qi rfl underlying25 rfl (qy (ag.mono ((w.trans s).trans x)))) (zo (j3 rfl rfl) (z8 (zu rfl f (fun f=>?_) (fun f=>?_))))))))
 refine q8 ?_;obtain⟨ac,G,f⟩:=zt f;refine ql (γ:=Int) (rs [8,9,28,47]) (fun g=>[(8,(vi g))]) (fun g=>[O]++A) (fun g R=>ac=g∧True) ?_ ?_;refine zw (q9 ?_);obtain⟨ak,al,am,an,G⟩:=zyr G
 refine og 18 [] [phX ah,phX (vi a),phP jh (ix b a),phX (.bool (ix b a)),phX (.bool (ix b a)),phG (true&&((ix b a)==true)) (phX v8),phG (true&&((ix b a)==true)) (phX K),phG (true&&((ix b a)==true)) (phX (vi c)),phG (true&&((ix b a)==true)) (phP (zx .i64) (ix k c)),phG (true&&((ix b a)==true)) (phX (vi (ix k c))),phG (true&&((ix b a)==true)) (phP (zx .i64) (ix C (ix k c))),phG (true&&((ix b a)==true)) (phX (vi (ix C (ix k c)))),phG (true&&((ix b a)==true)) (phX v8),phG (true&&((ix b a)==true)) (phX (vi a)),phG (true&&((ix b a)==true)) (phP (zx .i64) (ix C a)),phG (true&&((ix b a)==true)) (phX (vi (ix C a))),phG (true&&((ix b a)==true)) (phX (.bool (decide ((ix C (ix k c))=(ix C a))))),phX (.bool ((ix b a)&&(decide ((ix C (ix k c))=(ix C a)))))] mixed (by kernel_rfl) (di ⟨zk,zk,yc,zk,zk,(qj zk),(qj zk),(qj zk),(qj yc),(qj zk),(qj yc),(qj zk),(qj zk),(qj zk),(qj yc),(qj zk),(qj zk),zk,trivial⟩) ⟨?_,?_,?_,?_,?_,?_,?_,?_,?_,?_,?_,?_,?_,?_,?_,?_,?_,?_,trivial⟩ fun a9 U=>?_
 intro l ba d o hd;exact za rfl rfl rfl (zq (zb (o 5 rfl)));intro l bc d o hd;exact za rfl rfl rfl (zq (zb (o 7 rfl)));rintro l be d o ⟨j,y,_⟩;have ao:=j rfl;exact za rfl rfl rfl (uw (i:=a.toNat) z3p ao (qy ((aJ.mono (s.trans x)).mono d)) (ze (y rfl) ak.1) (zz ak));rintro l bf d o ⟨j,_⟩
 exact za rfl rfl rfl (uh (kz ty4 rfl (j rfl)) (fun _ _ h=>u7.1 h));rintro l bg d o ⟨j,_⟩;exact za rfl rfl rfl (zq (zb (j rfl)));rintro l bh d o ⟨j,_⟩;exact zl (Gj:=true) (Bj:=(ix b a)) rfl rfl rfl (ji (j rfl)) rfl (fun z n=>zq (zb (o 3 rfl)));rintro l bi d o ⟨j,_⟩
 exact zl (Gj:=true) (Bj:=(ix b a)) rfl rfl rfl (ji (j rfl)) rfl (fun z n=>zq (zb (o 4 rfl)));rintro l bj d o ⟨j,_⟩;exact zl (Gj:=true) (Bj:=(ix b a)) rfl rfl rfl (ji (j rfl)) rfl (fun z n=>zq (zb (o 9 rfl)));rintro l bk d o ⟨j,y,d2,_⟩
 exact zl (Gj:=true) (Bj:=(ix b a)) rfl rfl rfl (ji (d2 rfl)) rfl (fun z n=>uw (i:=c.toNat) tu (show l 34=K from(j rfl).1 (zn rfl n)) (qy ((ag.mono ((w.trans s).trans x)).mono d)) (ze (show l 35=(vi c) from(y rfl).1 (zn rfl n)) (al (zn z n)).1) (zz (al (zn z n))));rintro l bl d o ⟨j,y,_⟩
 exact zl (Gj:=true) (Bj:=(ix b a)) rfl rfl rfl (ji (y rfl)) rfl (fun z n=>uh (kz ty3 rfl ((j rfl).1 (zn rfl n))) (fun _ _ h=>j5.1 h));rintro l aS d o ⟨j,y,d2,_⟩
 exact zl (Gj:=true) (Bj:=(ix b a)) rfl rfl rfl (ji (d2 rfl)) rfl (fun z n=>uw (i:=(ix k c).toNat) tu (show l 33=v8 from(j rfl).1 (zn rfl n)) (qy ((h9.mono (((q.trans w).trans s).trans x)).mono d)) (ze (show l 37=(vi (ix k c)) from(y rfl).1 (zn rfl n)) (am (zn z n)).1) (zz (am (zn z n))))
 rintro l aT d o ⟨j,y,_⟩;exact zl (Gj:=true) (Bj:=(ix b a)) rfl rfl rfl (ji (y rfl)) rfl (fun z n=>uh (kz ty3 rfl ((j rfl).1 (zn rfl n))) (fun _ _ h=>j5.1 h));rintro l aU d o ⟨j,_⟩;exact zl (Gj:=true) (Bj:=(ix b a)) rfl rfl rfl (ji (j rfl)) rfl (fun z n=>zq (zb (o 3 rfl)))
 rintro l aV d o ⟨j,_⟩;exact zl (Gj:=true) (Bj:=(ix b a)) rfl rfl rfl (ji (j rfl)) rfl (fun z n=>zq (zb (o 7 rfl)));rintro l aW d o ⟨j,y,d2,_⟩
 exact zl (Gj:=true) (Bj:=(ix b a)) rfl rfl rfl (ji (d2 rfl)) rfl (fun z n=>uw (i:=a.toNat) tu (show l 40=v8 from(j rfl).1 (zn rfl n)) (qy ((h9.mono (((q.trans w).trans s).trans x)).mono d)) (ze (show l 41=(vi a) from(y rfl).1 (zn rfl n)) (an (zn z n)).1) (zz (an (zn z n))))
 rintro l aX d o ⟨j,y,_⟩;exact zl (Gj:=true) (Bj:=(ix b a)) rfl rfl rfl (ji (y rfl)) rfl (fun z n=>uh (kz ty3 rfl ((j rfl).1 (zn rfl n))) (fun _ _ h=>j5.1 h));rintro l aY d o ⟨j,y,d2,_⟩
 exact zl (Gj:=true) (Bj:=(ix b a)) rfl rfl rfl (ji (d2 rfl)) rfl (fun z n=>zq (mg (show l 39=(vi (ix C (ix k c))) from(j rfl).1 (zn rfl n)) (show l 43=(vi (ix C a)) from(y rfl).1 (zn rfl n))));rintro l aZ d o ⟨j,y,_⟩
 exact za rfl rfl rfl (zq (vk (j rfl) (fun hb=>(show l 44=(.bool (decide ((ix C (ix k c))=(ix C a)))) from(y rfl).1 (zn rfl hb))) rfl));intro bn aK bo aL bp bq br aM bs aN bt bu bv bw bx bz bA bB bC bD bE bF bG bH bI bJ bK bL bM bN bO bP bQ bR bS aO;obtain rfl:=Eq.symm aK;obtain rfl:=Eq.symm aL;obtain rfl:=Eq.symm aM
 obtain rfl:=Eq.symm aN;obtain rfl:=Eq.symm aO;refine z8 (zu rfl G (fun G=>?_) (fun G=>?_));refine zy (zg (vi c) (zh (vi c) (z8 ?_)));exact⟨dkt,U,jd,c,⟨rfl,trivial⟩,prm,(Option.some.inj G).symm,trivial⟩;refine q8 ?_;exact⟨dkt,U,jd,ab,⟨rfl,trivial⟩,prm,(Option.some.inj G).symm,trivial⟩
 rintro ac bT bU ap ⟨rfl,_⟩;refine zy (zg (vi c) ?_);obtain⟨aq,f⟩:=zf f;refine zo (qz rfl rfl aq) (zh (vi (c+1)) (z8 ?_));exact⟨dkt,ap,jd,(P,ac,c+1),Nat.lt_succ_self _,⟨rfl,rfl,trivial⟩,prm,f,trivial⟩;refine jf ?_;exact⟨dkt,x,jd,ab,⟨rfl,trivial⟩,prm,(Option.some.inj f).symm,trivial⟩
 rintro t a0 bV V ⟨rfl,_⟩;refine zy (zg ai (zg (vi t) (oq (T:=(zx .i64)) (X:=([t]:List Int)) (ps:=[(0,(vi t))]) (css:=[[(vi t)]]) rfl underlying25 zo3 rfl rfl (kw ⟨rfl,trivial⟩) rfl rfl (by decide) fun ar a1 Q au=>?_)));refine uj (i:=0) rfl au fun av I aw=>?_
 have ax:VRep (tSl true (zx .i64)) av ar ([t]:List Int):=(z1d aw Q);obtain⟨W,e⟩:=zf e;refine yz (i:=0) (X:=M) (Y:=([t]:List Int)) rfl underlying25 zo3 rfl rfl rfl (aj.mono (V.trans I)) (qy (Sub.v (B:=(tSl false (zx .i64))) (ku Sub.refl (fun _=>rfl)) ax)) W.1 W.2 fun Z ay az=>?_
 refine zh Z (z8 (zy (zg (vi a) ?_)));obtain⟨aA,e⟩:=zf e;refine zo (qz rfl rfl aA) (zh (vi (a+1)) (z8 ?_));exact⟨dkt,(V.trans I),jd,(L,(M++([t]:List Int)),a+1,Z,ay),Nat.lt_succ_self _,⟨rfl,rfl,trivial⟩,prm,e,az,trivial⟩;refine jf ?_
 exact⟨dkt,s,jd,(M,ai,O),⟨rfl,trivial⟩,prm,(Option.some.inj e).symm,aj,trivial⟩;rintro⟨H,S,ao⟩ a2 bW aB ⟨rfl,aP,_⟩;refine zi (zg S (zh S (z8 (yf (i:=0) rfl aP fun aC ae aD=>?_))));have aE:VRep (tSl false (zx .i64)) aC S H:=(z5a aD);refine qm ?_;obtain rfl:=Option.some.inj u
 refine qa (D:=[]) (J:=[]) (rs:=[.tmp 2]) (vs:=[S]) (((((F.trans p).trans q).trans w).trans aB).trans ae) rfl rfl ⟨rfl,trivial⟩ ?_;exact⟨rfl,aE⟩
theorem q7v:Enters prog 88:=enters_of func88 rfl (by kernel_rfl)
theorem zaw{N:Nat}{R:RH}{m:Mach}{aj:Value}(E:VRep (je false false) R aj m){r:Mach}(q:z0k N m=some r):CallP prog 69 #[aj] R (fun v R'=>VRep (je false false) R' v r):=by
 refine qd (args:=[aj]) func69 rfl rfl fun A=>?_;rw [z0k] at q;refine zi (kg (T:=(je false false)) rfl rfl rfl E fun v1 R3 F h5 h2=>?_);refine uq rfl zlf fun b6=>?_;refine qw (zo (jk fe rfl rfl h5 (E.mono F)) ?_);obtain⟨k,c9,q⟩:=zt q
 refine jb rfl q5u rfl (z6y (E.mono F) c9) fun ak bz f an=>?_;refine zh ak (qw (zo (jk fe rfl rfl (h5.mono f) (E.mono (F.trans f))) ?_));obtain⟨x,a3,q⟩:=zt q;refine jb rfl q7v rfl (zej (E.mono (F.trans f)) a3) fun ao bA j a4=>?_
 refine zh ao (qw (jg rfl l6 l5 rfl (h2.mono (f.trans j)) fun bB a5=>?_));refine qh rfl ty3 rfl a5 fun bC a6=>?_;obtain rfl:=j5.1 a6;refine jg rfl zd4 z9p rfl (h2.mono (f.trans j)) fun bD a7=>?_;refine qh rfl ty3 rfl a7 fun bE a8=>?_;obtain rfl:=j5.1 a8
 refine zo (gq (ps:=[(0,(vi m.inputs)),(1,(vi m.outputs))]) (v:=(.agg #[(vi m.inputs),(vi m.outputs),vs0])) rfl (fun w=>by kernel_rfl)) (uq rfl zlf fun y=>?_)
 refine jy (i:=0) (vs:=[(vi m.inputs),(vi m.outputs),vs0]) z6f rfl rfl rfl rfl rfl rfl (qg rfl (qg rfl (qg rfl ko))) ?_;refine z8 ?_;obtain⟨z,d,q⟩:=zt q
 refine ql (γ:=(List (List Edge))×Value×Frag) (rs [6,10,19,61]) (fun g=>[]) (fun g=>[box b6 [(vi 0),(vi 0),vs0] 24,box y [(vi m.inputs),(vi m.outputs),g.2.1] 24,g.2.2]++A) (fun g R=>z=g.1∧ORep (tSl false kEdge) R g.2.2 g.2.1 g.1∧True) ?_ ?_;refine zi (zh (vi 0) (z8 (zw (z1t ?_))))
 refine ja (γ:=Nat×Int×(List (List Edge))×Value×Frag) (rs [6,10,19,61]) (fun g=>[(6,(vi g.2.1))]) (fun g=>[box b6 [(vi 0),(vi 0),vs0] 24,box y [(vi m.inputs),(vi m.outputs),g.2.2.2.1] 24,g.2.2.2.2]++A) (fun g R=>yo N m k x g.1 g.2.1 g.2.2.1=some z∧ORep (tSl false kEdge) R g.2.2.2.2 g.2.2.2.1 g.2.2.1∧True) (fun g=>g.1) (N,0,[],vs0,emp) ⟨[],(pk 2 rfl (pk 1 rfl (pk 0 rfl (List.Perm.refl _))))⟩ ⟨d,(ry (T:=(tSl false kEdge))),trivial⟩ ?_
 clear d;rintro⟨P,a,Q,S,U⟩ bl bF n ⟨d,ap,_⟩;rcases P with _|P;exact qp d;replace d:yo N m k x (P+1) a Q=some z:=d;rw [yo] at d
 refine q9 (zi (zg (vi a) (zg ak (zo (qi rfl underlying25 rfl (qy (an.mono (j.trans n)))) (zo (j3 rfl rfl) (z8 (zu rfl d (fun d=>?_) (fun d=>?_))))))));refine q8 (q9 (zw (zi (zh vs0 (z8 ?_)))));obtain⟨p,b,d⟩:=zt d
 refine ql (γ:=(List Edge)×Value×Frag) (rs [7,10,25,55]) (fun g=>[(7,g.2.1)]) (fun g=>[box b6 [(vi 0),(vi 0),vs0] 24,box y [(vi m.inputs),(vi m.outputs),S] 24,U,g.2.2]++A) (fun g R=>p=g.1∧ORep kEdge R g.2.2 g.2.1 g.1∧True) ?_ ?_;refine zi (zh (vi 0) (z8 (zw (z1t ?_))))
 refine ja (γ:=Nat×(List Edge)×Int×Value×Frag) (rs [7,10,25,55]) (fun g=>[(7,g.2.2.2.1),(8,(vi g.2.2.1))]) (fun g=>[box b6 [(vi 0),(vi 0),vs0] 24,box y [(vi m.inputs),(vi m.outputs),S] 24,U,g.2.2.2.2]++A) (fun g R=>yt N m k x a g.1 g.2.1 g.2.2.1=some p∧ORep kEdge R g.2.2.2.2 g.2.2.2.1 g.2.1∧True) (fun g=>g.1) (N,[],0,vs0,emp) ⟨[],(pk 1 rfl (pk 1 rfl (pk 1 rfl (pk 0 rfl (List.Perm.refl _)))))⟩ ⟨b,(ry (T:=kEdge)),trivial⟩ ?_
 clear b;rintro⟨V,W,c,aq,ar⟩ bm bG s ⟨b,av,_⟩;rcases V with _|V;exact qp b;replace b:yt N m k x a (V+1) W c=some p:=b;rw [yt] at b;refine q9 (zi (zg (vi c) (jg rfl l6 l5 rfl (h2.mono (((f.trans j).trans n).trans s)) fun bH a9=>?_)))
 refine qh rfl ty3 rfl a9 fun bI ba=>?_;obtain rfl:=j5.1 ba;refine zo (j3 rfl rfl) (z8 (zu rfl b (fun b=>?_) (fun b=>?_)));refine q8 (q9 (zw (q9 ?_)));obtain⟨aw,ax,ay,b⟩:=zxk b
 refine og 12 [⟨11,[.int .i64 0,.int .i64 0],62⟩] [phP (tSl false (tSl false kEdge)) m.rows,phR (tSl false (tSl false kEdge)) m.rows,phX ak,phX (vi a),phP (zx .i64) (ix k a),phX (vi (ix k a)),phP (tSl false kEdge) (ix m.rows (ix k a)),phR (tSl false kEdge) (ix m.rows (ix k a)),phX (vi c),phP kEdge (ix (ix m.rows (ix k a)) c),phX (z15 (ix (ix m.rows (ix k a)) c)),phB] mixed (by kernel_rfl) (di ⟨yc,o5,zk,zk,yc,zk,yc,o5,zk,yc,zk,zz6,trivial⟩) ⟨?_,?_,?_,?_,?_,?_,?_,?_,?_,?_,?_,?_,trivial⟩ fun bJ G=>?_
 intro l bK e t hd;exact za rfl rfl rfl (ik um ky (t 1 rfl) ((h2.mono (((f.trans j).trans n).trans s)).mono e));rintro l bL e t ⟨C,_⟩;exact za rfl rfl rfl (kz z0t rfl (C rfl));intro l bM e t hd;exact za rfl rfl rfl (zq (zb (t 3 rfl)));intro l bN e t hd
 exact za rfl rfl rfl (zq (zb (t 6 rfl)));rintro l bO e t ⟨C,d1,_⟩;have aA:=d1 rfl;exact za rfl rfl rfl (uw (i:=a.toNat) tu (C rfl) (qy ((an.mono ((j.trans n).trans s)).mono e)) (ze aA aw.1) (zz aw));rintro l bP e t ⟨C,_⟩
 exact za rfl rfl rfl (uh (kz ty3 rfl (C rfl)) (fun _ _ h=>j5.1 h));rintro l bQ e t ⟨C,d1,_⟩;exact za rfl rfl rfl (uw (i:=(ix k a).toNat) z8p rfl (qy (C rfl)) (ze (d1 rfl) ax.1) (zz ax));rintro l bR e t ⟨C,_⟩;exact za rfl rfl rfl (kz z7p rfl (C rfl));intro l bS e t hd
 exact za rfl rfl rfl (zq (zb (t 8 rfl)));rintro l bT e t ⟨C,d1,_⟩;exact za rfl rfl rfl (uw (i:=c.toNat) z8w rfl (qy (C rfl)) (ze (d1 rfl) ay.1) (zz ay));rintro l bn e t ⟨C,_⟩;exact za rfl rfl rfl (uh (kz zeb rfl (C rfl)) (fun _ _ h=>sw.1 h));intro l bo e t hd
 exact zm5 rfl rfl rfl rfl zdd;intro bU bV bW bX bY bb bZ bc b0 b1 b2 be b3 b4 b5 b7 b8 bf b9 ca cb bh cc bi;obtain rfl:=Eq.symm bb;obtain rfl:=Eq.symm bc;obtain rfl:=Eq.symm be;obtain rfl:=Eq.symm bf;obtain rfl:=Eq.symm bh;obtain⟨aB,rfl⟩:=bi
 refine jy (i:=0) (vs:=[(vi ((ix (ix m.rows (ix k a)) c).to)),(vi ((ix (ix m.rows (ix k a)) c).out))]) z97 rfl rfl rfl rfl rfl rfl (qg rfl (qg rfl ko)) ?_;refine z8 ?_;obtain⟨o,u,b⟩:=zt b
 refine ql (γ:=Int) (rs [42,51]) (fun g=>[]) (fun g=>[box b6 [(vi 0),(vi 0),vs0] 24,box y [(vi m.inputs),(vi m.outputs),S] 24,U,ar,box aB [(vi g),(vi ((ix (ix m.rows (ix k a)) c).out))] 62]++A) (fun g R=>o=g∧True) ?_ ?_
 refine zi (zo (qb ic rfl) (zo (qf (i:=0) ag3 rfl rfl rfl) (zo (z18 rfl rfl) (z8 (zu rfl u (fun u=>?_) (fun u=>?_))))));refine zy (zg ao (zo (qb ic rfl) (zo (qf (i:=0) ag3 rfl rfl rfl) ?_)));obtain⟨ac,u⟩:=zf u
 refine jv (i:=((ix (ix m.rows (ix k a)) c).to).toNat) rfl tu rfl (qy (a4.mono ((n.trans s).trans G))) (ze rfl ac.1) (zz ac) fun bp aC=>?_;refine qh rfl ty3 rfl aC fun bq aD=>?_;obtain rfl:=j5.1 aD
 refine zo (qb ic rfl) (jy (i:=0) (vs:=[(vi (ix x ((ix (ix m.rows (ix k a)) c).to)))]) sz3 rfl rfl rfl rfl rfl rfl (qg rfl ko) ?_);refine z8 ?_
 exact⟨dkt,(RH.le.refl _),jd,(ix x ((ix (ix m.rows (ix k a)) c).to)),trivial,⟨[],(pk 1 rfl (pk 1 rfl (pk 1 rfl (pk 1 rfl (pk 0 rfl (List.Perm.refl _))))))⟩,(Option.some.inj u).symm,trivial⟩;refine q8 ?_
 exact⟨dkt,(RH.le.refl _),jd,(ix (ix m.rows (ix k a)) c).to,trivial,⟨[],(pk 1 rfl (pk 1 rfl (pk 1 rfl (pk 1 rfl (pk 0 rfl (List.Perm.refl _))))))⟩,(Option.some.inj u).symm,trivial⟩;rintro o br bs H ⟨rfl,_⟩;refine zy (zg aq (zo (bg (i:=4) zvr z97 rfl rfl rfl rfl) ?_));let G1:=([(⟨o,(ix (ix m.rows (ix k a)) c).out⟩:Edge)]:List Edge)
 refine oq (T:=kEdge) (X:=G1) (ps:=[(0,(.agg #[(vi o),(vi ((ix (ix m.rows (ix k a)) c).out))]))]) (css:=[[(vi o),(vi ((ix (ix m.rows (ix k a)) c).out))]]) rfl underlying26 zua rfl rfl (kw ⟨⟨_,_,rfl,rfl,rfl⟩,trivial⟩) rfl rfl (by decide) fun aE bt Z aF=>?_
 refine uj (i:=0) rfl aF fun aG I aH=>?_;have aI:VRep (tSl true kEdge) aG aE G1:=(z1d aH Z);obtain⟨ad,b⟩:=zf b
 refine yz (i:=3) (X:=W) (Y:=G1) rfl underlying26 zua rfl rfl rfl (av.mono ((G.trans H).trans I)) (qy (Sub.v (B:=(tSl false kEdge)) (ku Sub.refl (fun _=>rfl)) aI)) ad.1 ad.2 fun ae aJ aK=>?_;refine zh ae (z8 (zy (zg (vi c) ?_)));obtain⟨aL,b⟩:=zf b
 refine zo (qz rfl rfl aL) (zh (vi (c+1)) (z8 ?_));exact⟨dkt,((G.trans H).trans I),jd,(V,(W++G1),c+1,ae,aJ),Nat.lt_succ_self _,⟨rfl,rfl,trivial⟩,⟨[box aB [(vi o),(vi ((ix (ix m.rows (ix k a)) c).out))] 62],(pk 4 rfl (pk 0 rfl (pk 0 rfl (pk 0 rfl (pk 0 rfl (List.Perm.refl _))))))⟩,b,aK,trivial⟩
 refine jf ?_;exact⟨dkt,s,jd,(W,aq,ar),⟨rfl,trivial⟩,prm,(Option.some.inj b).symm,av,trivial⟩;rintro⟨p,aa,cd⟩ bu ce af ⟨rfl,bj,_⟩;refine zy (zo (qb um rfl) (zo (qf (i:=1) zqe rfl rfl rfl) (zg aa (uj (i:=3) rfl bj fun aM K aN=>?_))));have ag:VRep (tSl false kEdge) aM aa p:=(z5a aN)
 refine oq (T:=(tSl false kEdge)) (X:=([p]:List (List Edge))) (ps:=[(0,aa)]) (css:=[[aa]]) rfl underlying22 q2m rfl (by simp only [List.map_cons,List.map_nil,ll ag];rfl) (kw ⟨(ui rfl ag),trivial⟩) rfl rfl (by decide) fun aO bv ab aP=>?_;refine uj (i:=0) rfl aP fun aQ L aR=>?_
 have aS:VRep (tSl true (tSl false kEdge)) aQ aO ([p]:List (List Edge)):=(z1d aR ab);obtain⟨ah,d⟩:=zf d
 refine yz (i:=2) (X:=Q) (Y:=([p]:List (List Edge))) rfl underlying22 q2m rfl rfl rfl (ap.mono ((af.trans K).trans L)) (qy (Sub.v (B:=(tSl false (tSl false kEdge))) (ku Sub.refl (fun _=>rfl)) aS)) ah.1 ah.2 fun ai aT M=>?_
 refine zo (qb um rfl) (jy (i:=1) (vs:=[ai]) q5e rfl rfl (au M) rfl rfl rfl (qg (gy M) ko) ?_);refine z8 (zy (zg (vi a) ?_));obtain⟨aU,d⟩:=zf d;refine zo (qz rfl rfl aU) (zh (vi (a+1)) (z8 ?_))
 exact⟨dkt,((af.trans K).trans L),jd,(P,a+1,(Q++([p]:List (List Edge))),ai,aT),Nat.lt_succ_self _,⟨rfl,trivial⟩,prm,d,M,trivial⟩;refine jf ?_;exact⟨dkt,n,jd,(Q,S,U),trivial,prm,(Option.some.inj d).symm,ap,trivial⟩;rintro⟨z,O,aA⟩ bw cf aV ⟨rfl,aW,_⟩
 refine zi (zo (bg (i:=1) zam z6f rfl rfl rfl rfl) (jy (i:=0) (vs:=[(vi m.inputs),(vi m.outputs),O]) z6f rfl rfl rfl rfl rfl rfl (qg rfl (qg rfl (qg (gy aW) ko))) ?_));refine z8 (yf (i:=2) rfl aW fun aX al aY=>?_);have aZ:VRep (tSl false (tSl false kEdge)) aX O z:=(z5a aY)
 refine qm ?_;obtain rfl:=Option.some.inj q
 refine qa (D:=[]) (J:=[box b6 [(vi m.inputs),(vi m.outputs),O] 24,box y [(vi m.inputs),(vi m.outputs),O] 24]) (rs:=[.cell 2 24]) (vs:=[(.agg #[(vi m.inputs),(vi m.outputs),O])]) ((((F.trans f).trans j).trans aV).trans al) rfl rfl ⟨⟨_,rfl,fun w hh=>z2y (i:=0) hh rfl rfl zam z6f rfl rfl⟩,trivial⟩ ?_
 exact⟨rfl,(⟨_,⟨_,_,rfl,rfl,⟨_,_,rfl,rfl,(ui rfl aZ)⟩⟩,rfl⟩:VRep (je false false) _ _ (⟨m.inputs,m.outputs,z⟩:Mach))⟩
theorem q7o:Enters prog 69:=enters_of func69 rfl (by kernel_rfl)
theorem zd3{N:Nat}{R:RH}{x:Sk}{c:Value}(h:VRep (fq false false) R c x){r:Mach}(b:z2c N x=some r):CallP prog 45 #[c] R (fun v R'=>VRep (je false false) R' v r):=by
 refine qd (args:=[c]) func45 rfl rfl fun A=>?_;rw [z2c] at b;refine zi ?_;obtain⟨n,o,rfl,p,q⟩:=zb9 h;refine zxl (cs:=[(.int .u8 x.fP.fC),(.int .u8 x.fP.fA),(.int .u8 x.fP.fB),n,o]) rfl rfl rfl fun s=>?_;refine uq rfl zlf fun t=>?_
 refine qw (zo (qb zra rfl) (zo (qb zs6 rfl) (zo (qf (i:=1) ag5 rfl rfl rfl) ?_)));obtain⟨u,b⟩:=zf b;refine zo (z5l rfl rfl u) (zo (qb zra rfl) (zo (qb zs6 rfl) (jy (i:=1) (vs:=[(.int .u8 (x.fP.fC%5))]) sz5 rfl rfl rfl rfl rfl rfl (qg rfl ko) ?_)))
 refine qw (zo (qb zra rfl) (zo (bg (i:=1) q70 q7k rfl rfl rfl rfl) ?_));obtain⟨y,j,b⟩:=zt b
 refine jb rfl q75 rfl (zdr (⟨_,⟨_,_,rfl,rfl,⟨_,_,rfl,rfl,⟨_,_,rfl,rfl,⟨_,_,rfl,(ui rfl p),(ui rfl q)⟩⟩⟩⟩,rfl⟩:VRep (o9 false false) _ _ (⟨x.fP.fC%5,x.fP.fA,x.fP.fB,x.fP.fH,x.fP.fE⟩:Sb)) j) fun z B e k=>?_;obtain⟨a,l,b⟩:=zt b
 refine jb rfl q7o rfl (zaw k l) fun C E f m=>?_;obtain⟨d,rfl,g⟩:=z7x m;refine jy (i:=0) (vs:=[(vi a.inputs),(vi a.outputs),d]) z6f rfl rfl rfl rfl rfl rfl (qg rfl (qg rfl (qg (z5x g) ko))) ?_;refine z8 (qm ?_);obtain rfl:=Option.some.inj b
 refine qa (D:=[]) (J:=[box t [(vi a.inputs),(vi a.outputs),d] 24,box s [(.int .u8 (x.fP.fC%5)),(.int .u8 x.fP.fA),(.int .u8 x.fP.fB),n,o] 46]) (rs:=[.cell 2 24]) (vs:=[(.agg #[(vi a.inputs),(vi a.outputs),d])]) (e.trans f) rfl rfl ⟨⟨_,rfl,fun w F=>z2y (i:=0) F rfl rfl zam z6f rfl rfl⟩,trivial⟩ ?_
 exact⟨rfl,(⟨_,⟨_,_,rfl,rfl,⟨_,_,rfl,rfl,(ui rfl g)⟩⟩,rfl⟩:VRep (je false false) _ _ (⟨a.inputs,a.outputs,a.rows⟩:Mach))⟩
theorem q7n:Enters prog 45:=enters_of func45 rfl (by kernel_rfl)
theorem q2y:FieldOk prog 48 1 5:=by
 obtain⟨i,hi,a⟩: ∃ i,prog.info? 41=some i∧i.size=1:=kv (by kernel_rfl);exact ut underlying48 rfl rfl hi (by rw [a];rfl)
theorem q5j:Enters prog 16:=enters_of func16 rfl (by kernel_rfl)
theorem zcv{N:Nat}{R:RH}{x:Sj}{j:Value}(p:VRep (fo false false false) R j x){r:Mach×(List Int)}(c:z2r N x=some r):CallP prog 15 #[j] R (fun v R'=> ∃ H I,v= .tuple #[H,I]∧VRep (je false false) R' H r.1∧VRep (tSl false (zx .i64)) R' I r.2):=by
 refine qd (args:=[j]) func15 rfl rfl fun A=>?_;rw [z2r] at c;refine zi (kg (T:=(fo false false false)) rfl rfl rfl p fun v1 R3 q h5 K=>?_);refine uq rfl zlf fun M=>?_;refine zh vs0 (qw (jg rfl q31 zdn rfl K fun v8 O=>?_))
 refine qh rfl q6g rfl O fun P s=>?_;obtain⟨a,t,c⟩:=zt c;refine jb rfl q7n rfl (zd3 s t) fun Q S f u=>?_;refine uq rfl zlf fun n=>?_;obtain⟨b,rfl,k⟩:=z7x u
 refine jy (i:=0) (vs:=[(vi a.inputs),(vi a.outputs),b]) z6f rfl rfl rfl rfl rfl rfl (qg rfl (qg rfl (qg (z5x k) ko))) ?_;refine z8 (q9 ?_);obtain⟨y,z,c⟩:=zt c
 refine og 6 [] [phX (.agg #[(vi a.inputs),(vi a.outputs),b]),phP (tSl false (zx .u8)) x.fU,phR (tSl false (zx .u8)) x.fU,phX (.pointer (some ⟨n,0,none⟩)),phX (vi a.inputs),phR (tSl false (zx .i64)) y] mixed (by kernel_rfl) (di ⟨zk,yc,o5,zk,zk,o5,trivial⟩) ⟨?_,?_,?_,?_,?_,?_,trivial⟩ fun U e=>?_
 intro l V d g L;exact za rfl rfl rfl (zq (bg (i:=0) zam z6f (g 4 rfl) rfl rfl rfl));intro l W d g L;exact za rfl rfl rfl (ik q2y zcu (g 1 rfl) ((K.mono f).mono d));rintro l X d g ⟨o,_⟩;exact za rfl rfl rfl (kz q3k rfl (o rfl));intro l Y d g L
 exact za rfl rfl rfl (zq (qb l6 (g 4 rfl)));rintro l Z d g ⟨o,_⟩;exact za rfl rfl rfl (zq (qf (i:=0) ag3 (o rfl) rfl rfl));rintro l aa d g ⟨o,d1,_⟩;have B:l 12=(vi a.inputs):=d1 rfl
 exact za rfl rfl rfl (wz (vs:=[(l 10),(vi a.inputs),(vi 6)]) q5j (by simp only [List.map,ev,B]<;>rfl) (z8q (o rfl) z) (fun _ _ h=>h));intro ac C ad ae af ag ah E ai F m G;obtain rfl:=Eq.symm C;obtain rfl:=Eq.symm E;obtain rfl:=Eq.symm F
 refine jy (i:=1) (vs:=[(vi a.inputs),(vi a.outputs),b]) z6f rfl rfl rfl rfl rfl rfl (qg rfl (qg rfl (qg (z5x (k.mono e)) ko))) ?_;refine zh m (z8 (qm ?_));obtain rfl:=Option.some.inj c
 refine qa (D:=[]) (J:=[box n [(vi a.inputs),(vi a.outputs),b] 24,box M [(vi a.inputs),(vi a.outputs),b] 24]) (rs:=[.cell 2 24,.tmp 3]) (vs:=[(.agg #[(vi a.inputs),(vi a.outputs),b]),m]) ((q.trans f).trans e) rfl rfl ⟨⟨_,rfl,fun w hh=>z2y (i:=1) hh rfl rfl zam z6f rfl rfl⟩,rfl,trivial⟩ ?_
 exact⟨rfl,⟨(.agg #[(vi a.inputs),(vi a.outputs),b]),m,rfl,(⟨_,⟨_,_,rfl,rfl,⟨_,_,rfl,rfl,(ui rfl (k.mono e))⟩⟩,rfl⟩:VRep (je false false) _ _ (⟨a.inputs,a.outputs,a.rows⟩:Mach)),G⟩⟩
theorem q7i:Enters prog 15:=enters_of func15 rfl (by kernel_rfl)
theorem zbf{N:Nat}{R:RH}{m:Mach}{C:Value}(W:VRep (je false false) R C m){n:(List Int)}{k:Value}(y:VRep (tSl false (zx .i64)) R k n){r:(List Int)}(q:z0y N m n=some r):CallP prog 47 #[C,k] R (fun v R'=>VRep (tSl false (zx .i64)) R' v r):=by
 refine qd (args:=[C,k]) func47 rfl rfl fun A=>?_;rw [z0y] at q;refine zi (kg (T:=(je false false)) rfl rfl rfl W fun v1 R3 E h5 h2=>?_)
 refine zh vs0 (qw (oq (T:=(zx .i64)) (X:=([0]:List Int)) (ps:=[(0,(vi 0))]) (css:=[[(vi 0)]]) rfl underlying25 zo3 rfl rfl (kw ⟨rfl,trivial⟩) rfl rfl (by decide) fun v6 f7 ar h9=>?_));refine zh v6 (z8 ?_);obtain⟨p,c,q⟩:=zt q
 refine ql (γ:=(List Int)×Value×Frag) (rs [5,7,8,32]) (fun g=>[(5,g.2.1)]) (fun g=>[g.2.2]++A) (fun g R=>p=g.1∧ORep (zx .i64) R g.2.2 g.2.1 g.1∧True) ?_ ?_
 refine zi (zh (vi 0) (z8 (zw (ja (γ:=Nat×Int×(List Int)×Value×Frag) (rs [5,7,8,32]) (fun g=>[(5,g.2.2.2.1),(6,(vi g.2.1))]) (fun g=>[g.2.2.2.2]++A) (fun g R=>dw N m n g.1 g.2.1 g.2.2.1=some p∧ORep (zx .i64) R g.2.2.2.2 g.2.2.2.1 g.2.2.1∧True) (fun g=>g.1) (N,0,([0]:List Int),v6,f7) prm ⟨c,h9,trivial⟩ ?_))))
 clear c;rintro⟨s,a,d,t,F⟩ aE aF o ⟨c,w,_⟩;rcases s with _|s;exact qp c;replace c:dw N m n (s+1) a d=some p:=c;rw [dw] at c
 refine q9 (zi (zg (vi a) (zg k (zo (qi rfl underlying25 rfl (qy (y.mono (E.trans o)))) (zo (j3 rfl rfl) (z8 (zu rfl c (fun c=>?_) (fun c=>?_))))))));refine q8 (q9 (zw ?_));obtain⟨G,I,K,L,c⟩:=zyr c
 let V:=([(ix (ix m.rows (ix d a)) (ix n a)).to]:List Int)
 refine og 17 [] [phX t,phP (tSl false (tSl false kEdge)) m.rows,phR (tSl false (tSl false kEdge)) m.rows,phX t,phX (vi a),(fun u _=>z3o (zx .i64) t d u a.toNat),phX (vi (ix d a)),phP (tSl false kEdge) (ix m.rows (ix d a)),phR (tSl false kEdge) (ix m.rows (ix d a)),phX k,phX (vi a),phP (zx .i64) (ix n a),phX (vi (ix n a)),phP kEdge (ix (ix m.rows (ix d a)) (ix n a)),phP (zx .i64) ((ix (ix m.rows (ix d a)) (ix n a)).to),phX (vi ((ix (ix m.rows (ix d a)) (ix n a)).to)),phR (tSl true (zx .i64)) V] mixed (by kernel_rfl) (di ⟨zk,yc,o5,zk,zk,(fun _ _ _ _ h=>h),zk,yc,o5,zk,zk,yc,zk,yc,yc,zk,o5,trivial⟩) ⟨?_,?_,?_,?_,?_,?_,?_,?_,?_,?_,?_,?_,?_,?_,?_,?_,?_,trivial⟩ fun aG z=>?_
 intro l aH b e M;exact za rfl rfl rfl (zq (zb (e 5 rfl)));intro l aI b e M;exact za rfl rfl rfl (ik um ky (e 2 rfl) ((h2.mono o).mono b));rintro l aJ b e ⟨f,_⟩;have O:=f rfl;exact za rfl rfl rfl (kz z0t rfl O);intro l aK b e M;exact za rfl rfl rfl (zq (zb (e 5 rfl)))
 intro l aL b e M;exact za rfl rfl rfl (zq (zb (e 6 rfl)));rintro l aM b e ⟨f,H,_⟩;exact za rfl rfl rfl (si (i:=a.toNat) tu (f rfl) (w.mono b) (ze (H rfl) G.1) (zz G));rintro l aN b e ⟨f,_⟩
 exact za rfl rfl rfl (uh (z4b (i:=a.toNat) (j:=0) ty3 (w.mono b) rfl rfl (f rfl) (zz G)) (fun _ _ h=>j5.1 h));rintro l aO b e ⟨f,H,_⟩;exact za rfl rfl rfl (uw (i:=(ix d a).toNat) z8p rfl (qy (f rfl)) (ze (H rfl) I.1) (zz I));rintro l aP b e ⟨f,_⟩
 exact za rfl rfl rfl (kz z7p rfl (f rfl));intro l aQ b e M;exact za rfl rfl rfl (zq (zb (e 1 rfl)));intro l au b e M;exact za rfl rfl rfl (zq (zb (e 6 rfl)));rintro l av b e ⟨f,H,_⟩;have F:=f rfl
 exact za rfl rfl rfl (uw (i:=a.toNat) tu F (qy ((y.mono (E.trans o)).mono b)) (ze (H rfl) K.1) (zz K));rintro l aw b e ⟨f,_⟩;exact za rfl rfl rfl (uh (kz ty3 rfl (f rfl)) (fun _ _ h=>j5.1 h));rintro l ax b e ⟨f,H,_⟩
 exact za rfl rfl rfl (uw (i:=(ix n a).toNat) z8w rfl (qy (f rfl)) (ze (H rfl) L.1) (zz L));rintro l ay b e ⟨f,_⟩;exact za rfl rfl rfl (ik ic z4u rfl (f rfl));rintro l az b e ⟨f,_⟩;exact za rfl rfl rfl (uh (kz ty3 rfl (f rfl)) (fun _ _ h=>j5.1 h));rintro l aA b e ⟨f,_⟩
 have Z:l 29=(vi ((ix (ix m.rows (ix d a)) (ix n a)).to)):=f rfl
 exact za rfl rfl rfl (z4h (T:=(zx .i64)) (X:=V) (ps:=[(0,(vi ((ix (ix m.rows (ix d a)) (ix n a)).to)))]) (css:=[[(vi ((ix (ix m.rows (ix d a)) (ix n a)).to))]]) underlying25 zo3 (by simp only [List.map,ev,Z]<;>rfl) rfl (kw ⟨rfl,trivial⟩) rfl rfl (by decide))
 intro aR aa aS aT aU aV aW ab aX ac aY aZ a0 ad a1 a2 a3 a4 a5 ae a6 af a7 a8 a9 ag ba bb bc be bf ah bg ai;obtain rfl:=Eq.symm aa;obtain rfl:=Eq.symm ab;obtain rfl:=Eq.symm ac;obtain rfl:=Eq.symm ad;obtain rfl:=Eq.symm ae;obtain rfl:=Eq.symm af;obtain rfl:=Eq.symm ag;obtain rfl:=Eq.symm ah;obtain⟨P,c⟩:=zf c
 refine yz (i:=0) (X:=d) (Y:=V) rfl underlying25 zo3 rfl rfl rfl (w.mono z) (qy (Sub.v (B:=(tSl false (zx .i64))) (ku Sub.refl (fun _=>rfl)) ai)) P.1 P.2 fun Q aj ak=>?_;refine zh Q (z8 (zy (zg (vi a) ?_)));obtain⟨al,c⟩:=zf c;refine zo (qz rfl rfl al) (zh (vi (a+1)) (z8 ?_))
 exact⟨dkt,z,jd,(s,a+1,(d++V),Q,aj),Nat.lt_succ_self _,⟨rfl,rfl,trivial⟩,prm,c,ak,trivial⟩;refine jf ?_;exact⟨dkt,o,jd,(d,t,F),⟨rfl,trivial⟩,prm,(Option.some.inj c).symm,w,trivial⟩;rintro⟨p,x,O⟩ bh bi S ⟨rfl,am,_⟩;refine zi (zg x (zh x (z8 (yf (i:=0) rfl am fun an U ao=>?_))))
 have ap:VRep (tSl false (zx .i64)) an x p:=(z5a ao);refine qm ?_;obtain rfl:=Option.some.inj q;refine qa (D:=[]) (J:=[]) (rs:=[.tmp 4]) (vs:=[x]) ((E.trans S).trans U) rfl rfl ⟨rfl,trivial⟩ ?_;exact⟨rfl,ap⟩
theorem q5p:Enters prog 47:=enters_of func47 rfl (by kernel_rfl)
theorem zak{N:Nat}{R:RH}{m:Mach}{E:Value}(V:VRep (je false false) R E m){n:(List Int)}{k:Value}(z:VRep (tSl false (zx .i64)) R k n){r:(List Int)}(p:z04 N m n=some r):CallG prog 47 #[E,k] R [] (fun v R' O'=> ∃ u0_0 g0_0,v=u0_0∧O'=[g0_0]∧ORep (zx .i64) R' g0_0 u0_0 r):=by
 refine z0z (args:=[E,k]) func47 rfl rfl fun A=>?_;rw [z04] at p;refine zi (kg (T:=(je false false)) rfl rfl rfl V fun v1 R3 F h5 h2=>?_)
 refine zh vs0 (qw (oq (T:=(zx .i64)) (X:=([0]:List Int)) (ps:=[(0,(vi 0))]) (css:=[[(vi 0)]]) rfl underlying25 zo3 rfl rfl (kw ⟨rfl,trivial⟩) rfl rfl (by decide) fun v6 f7 an h9=>?_));refine zh v6 (z8 ?_);obtain⟨q,c,p⟩:=zt p
 refine ql (γ:=(List Int)×Value×Frag) (rs [5,7,8,32]) (fun g=>[(5,g.2.1)]) (fun g=>[g.2.2]++A) (fun g R=>q=g.1∧ORep (zx .i64) R g.2.2 g.2.1 g.1∧True) ?_ ?_
 refine zi (zh (vi 0) (z8 (zw (ja (γ:=Nat×Int×(List Int)×Value×Frag) (rs [5,7,8,32]) (fun g=>[(5,g.2.2.2.1),(6,(vi g.2.1))]) (fun g=>[g.2.2.2.2]++A) (fun g R=>gu N m n g.1 g.2.1 g.2.2.1=some q∧ORep (zx .i64) R g.2.2.2.2 g.2.2.2.1 g.2.2.1∧True) (fun g=>g.1) (N,0,([0]:List Int),v6,f7) prm ⟨c,h9,trivial⟩ ?_))))
 clear c;rintro⟨s,a,d,t,G⟩ aA aB o ⟨c,w,_⟩;rcases s with _|s;exact qp c;replace c:gu N m n (s+1) a d=some q:=c;rw [gu] at c
 refine q9 (zi (zg (vi a) (zg k (zo (qi rfl underlying25 rfl (qy (z.mono (F.trans o)))) (zo (j3 rfl rfl) (z8 (zu rfl c (fun c=>?_) (fun c=>?_))))))));refine q8 (q9 (zw ?_));obtain⟨H,K,L,M,c⟩:=zyr c
 let U:=([(ix (ix m.rows (ix d a)) (ix n a)).to]:List Int)
 refine og 17 [] [phX t,phP (tSl false (tSl false kEdge)) m.rows,phR (tSl false (tSl false kEdge)) m.rows,phX t,phX (vi a),(fun u _=>z3o (zx .i64) t d u a.toNat),phX (vi (ix d a)),phP (tSl false kEdge) (ix m.rows (ix d a)),phR (tSl false kEdge) (ix m.rows (ix d a)),phX k,phX (vi a),phP (zx .i64) (ix n a),phX (vi (ix n a)),phP kEdge (ix (ix m.rows (ix d a)) (ix n a)),phP (zx .i64) ((ix (ix m.rows (ix d a)) (ix n a)).to),phX (vi ((ix (ix m.rows (ix d a)) (ix n a)).to)),phR (tSl true (zx .i64)) U] mixed (by kernel_rfl) (di ⟨zk,yc,o5,zk,zk,(fun _ _ _ _ h=>h),zk,yc,o5,zk,zk,yc,zk,yc,yc,zk,o5,trivial⟩) ⟨?_,?_,?_,?_,?_,?_,?_,?_,?_,?_,?_,?_,?_,?_,?_,?_,?_,trivial⟩ fun aC C=>?_
 intro l aD b e O;exact za rfl rfl rfl (zq (zb (e 5 rfl)));intro l aE b e O;exact za rfl rfl rfl (ik um ky (e 2 rfl) ((h2.mono o).mono b));rintro l aF b e ⟨f,_⟩;have x:=f rfl;exact za rfl rfl rfl (kz z0t rfl x);intro l aG b e O;exact za rfl rfl rfl (zq (zb (e 5 rfl)))
 intro l aH b e O;exact za rfl rfl rfl (zq (zb (e 6 rfl)));rintro l aI b e ⟨f,I,_⟩;exact za rfl rfl rfl (si (i:=a.toNat) tu (f rfl) (w.mono b) (ze (I rfl) H.1) (zz H));rintro l aJ b e ⟨f,_⟩
 exact za rfl rfl rfl (uh (z4b (i:=a.toNat) (j:=0) ty3 (w.mono b) rfl rfl (f rfl) (zz H)) (fun _ _ h=>j5.1 h));rintro l aK b e ⟨f,I,_⟩;exact za rfl rfl rfl (uw (i:=(ix d a).toNat) z8p rfl (qy (f rfl)) (ze (I rfl) K.1) (zz K));rintro l aL b e ⟨f,_⟩
 exact za rfl rfl rfl (kz z7p rfl (f rfl));intro l aM b e O;exact za rfl rfl rfl (zq (zb (e 1 rfl)));intro l ao b e O;exact za rfl rfl rfl (zq (zb (e 6 rfl)));rintro l ap b e ⟨f,I,_⟩;have G:=f rfl
 exact za rfl rfl rfl (uw (i:=a.toNat) tu G (qy ((z.mono (F.trans o)).mono b)) (ze (I rfl) L.1) (zz L));rintro l aq b e ⟨f,_⟩;exact za rfl rfl rfl (uh (kz ty3 rfl (f rfl)) (fun _ _ h=>j5.1 h));rintro l ar b e ⟨f,I,_⟩
 exact za rfl rfl rfl (uw (i:=(ix n a).toNat) z8w rfl (qy (f rfl)) (ze (I rfl) M.1) (zz M));rintro l au b e ⟨f,_⟩;exact za rfl rfl rfl (ik ic z4u rfl (f rfl));rintro l av b e ⟨f,_⟩;exact za rfl rfl rfl (uh (kz ty3 rfl (f rfl)) (fun _ _ h=>j5.1 h));rintro l aw b e ⟨f,_⟩
 have W:l 29=(vi ((ix (ix m.rows (ix d a)) (ix n a)).to)):=f rfl
 exact za rfl rfl rfl (z4h (T:=(zx .i64)) (X:=U) (ps:=[(0,(vi ((ix (ix m.rows (ix d a)) (ix n a)).to)))]) (css:=[[(vi ((ix (ix m.rows (ix d a)) (ix n a)).to))]]) underlying25 zo3 (by simp only [List.map,ev,W]<;>rfl) rfl (kw ⟨rfl,trivial⟩) rfl rfl (by decide))
 intro aN Z aO aP aQ aR aS aa aT ab aU aV aW ac aX aY aZ a0 a1 ad a2 ae a3 a4 a5 af a6 a7 a8 a9 ba ag bb ah;obtain rfl:=Eq.symm Z;obtain rfl:=Eq.symm aa;obtain rfl:=Eq.symm ab;obtain rfl:=Eq.symm ac;obtain rfl:=Eq.symm ad;obtain rfl:=Eq.symm ae;obtain rfl:=Eq.symm af;obtain rfl:=Eq.symm ag;obtain⟨P,c⟩:=zf c
 refine yz (i:=0) (X:=d) (Y:=U) rfl underlying25 zo3 rfl rfl rfl (w.mono C) (qy (Sub.v (B:=(tSl false (zx .i64))) (ku Sub.refl (fun _=>rfl)) ah)) P.1 P.2 fun Q ai aj=>?_;refine zh Q (z8 (zy (zg (vi a) ?_)));obtain⟨ak,c⟩:=zf c;refine zo (qz rfl rfl ak) (zh (vi (a+1)) (z8 ?_))
 exact⟨dkt,C,jd,(s,a+1,(d++U),Q,ai),Nat.lt_succ_self _,⟨rfl,rfl,trivial⟩,prm,c,aj,trivial⟩;refine jf ?_;exact⟨dkt,o,jd,(d,t,G),⟨rfl,trivial⟩,prm,(Option.some.inj c).symm,w,trivial⟩;rintro⟨q,y,x⟩ bc be S ⟨rfl,al,_⟩;refine zi (zg y (zh y (z8 (qm ?_))));obtain rfl:=Option.some.inj p
 refine z0l (D:=[]) (J:=[]) (O':=[x]) (rs:=[.tmp 4]) (vs:=[y]) (F.trans S) ((pk 0 rfl (List.Perm.refl _))) rfl ⟨rfl,trivial⟩ ?_;exact⟨y,x,rfl,rfl,al⟩
end GV
end Go.Proofs.Ytplgbkaollfmkaa
