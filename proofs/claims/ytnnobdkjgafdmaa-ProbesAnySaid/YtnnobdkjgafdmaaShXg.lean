import Derived.Test.YtnnobdkjgafdmaaShWe
import Derived.Test.YtnnobdkjgafdmaaShXb
import Derived.Test.YtnnobdkjgafdmaaRows
set_option linter.unusedVariables false
set_option linter.unusedSimpArgs false
set_option linter.unusedSectionVars false
namespace Go.Proofs.Ytnnobdkjgafdmaa
namespace GV
open _root_.Go.Proofs.Try
open Go.IntWalk
set_option maxRecDepth 100000
set_option maxHeartbeats 20000000
theorem z6k{N:Nat}{R:RH}{m:Mach}{j:Value}(z:VRep (ji false false) R j m){s:Int}{u:(List Int)}{f:Value}(w:VRep (tSl false (qo .i64)) R f u){r:(List Int)}(o:si N m s u=some r):CallP prog 70 #[j,(vi s),f] R (fun v R'=>VRep (tSl false (qo .i64)) R' v r):=by
 refine qd (args:=[j,(vi s),f]) func70 rfl rfl fun A=>?_;rw [si] at o;refine zg (kv (T:=(ji false false)) rfl rfl rfl z fun v1 R3 k h5 h2=>?_);refine zi vs0 (qz (zi vs0 (z8 ?_)));obtain⟨F,a,o⟩:=zn o
 refine j5 (γ:=(List Int)×Value×Frag) (rs [1,2,7,30]) (fun g=>[(7,g.2.1)]) (fun g=>[g.2.2]++A) (fun g R=>F=g.1∧ORep (qo .i64) R g.2.2 g.2.1 g.1∧True) ?_ ?_;refine zg (zi (vi 0) (z8 (zy (z9f ?_))))
 refine jg (γ:=Nat×Int×(List Int)×Int×Value×Frag) (rs [1,2,7,30]) (fun g=>[(1,(vi g.2.1)),(7,g.2.2.2.2.1),(8,(vi g.2.2.2.1))]) (fun g=>[g.2.2.2.2.2]++A) (fun g R=>pg N m u g.1 g.2.1 g.2.2.1 g.2.2.2.1=some F∧ORep (qo .i64) R g.2.2.2.2.2 g.2.2.2.2.1 g.2.2.1∧True) (fun g=>g.1) (N,s,[],0,vs0,emp) prm ⟨a,(z7o (T:=(qo .i64))),trivial⟩ ?_
 clear a;rintro⟨p,q,t,c,G,C⟩ ay az e ⟨a,H,_⟩;rcases p with _|p;exact qy a;replace a:pg N m u (p+1) q t c=some F:=a;rw [pg] at a
 refine zt (zg (zh (vi c) (zh f (zm (ql rfl underlying32 rfl (jd (w.mono (k.trans e)))) (zm (j6 rfl rfl) (z8 (zo rfl a (fun a=>?_) (fun a=>?_))))))));refine zz (zt (zy (zt ?_)));obtain⟨I,a⟩:=zf a;obtain⟨b,S,a⟩:=zn a
 refine fq 8 [⟨7,[.int .i64 0,.int .i64 0],57⟩] [phX j,phX (vi q),phX f,phX (vi c),phP (qo .i64) (ix u c),phX (vi (ix u c)),phX (z0c b),phB] mixed (by kernel_rfl) (ow ⟨q8,q8,q8,q8,vk,q8,q8,zpj,trivial⟩) ⟨?_,?_,?_,?_,?_,?_,?_,?_,trivial⟩ fun aA x=>?_;intro l aB d n P
 exact zb rfl rfl rfl (qi (jo z06 rfl (n 3 rfl) ((h5.mono e).mono d) ((z.mono (k.trans e)).mono d)));intro l aC d n P;exact zb rfl rfl rfl (qi (za (n 1 rfl)));intro l aD d n P;exact zb rfl rfl rfl (qi (za (n 2 rfl)));intro l aE d n P;exact zb rfl rfl rfl (qi (za (n 8 rfl)))
 rintro l aF d n ⟨K,U,_⟩;exact zb rfl rfl rfl (pq (i:=c.toNat) z2p (K rfl) (jd ((w.mono (k.trans e)).mono d)) (zk (U rfl) I.1) (qh I));rintro l aG d n ⟨K,_⟩;exact zb rfl rfl rfl (ng (ky ty3 rfl (K rfl)) (fun _ _ h=>jy.1 h));rintro l aH d n ⟨K,U,d2,_⟩;have V:l 16=j:=K rfl
 have W:l 17=(vi q):=U rfl;have C:l 21=(vi (ix u c)):=d2 rfl;exact zb rfl rfl rfl (xy (vs:=[j,(vi q),(vi (ix u c))]) q53 (by simp only [List.map,ev,V,W,C]<;>rfl) (zal ((z.mono (k.trans e)).mono d) S) (fun _ _ h=>h));intro l aJ d n P;exact zep rfl rfl rfl rfl zbp
 intro aK Z aL aa aM ab aN ac aO aP aQ ad aR ae aS af;obtain rfl:=Eq.symm Z;obtain rfl:=Eq.symm aa;obtain rfl:=Eq.symm ab;obtain rfl:=Eq.symm ac;obtain rfl:=Eq.symm ad;obtain rfl:=Eq.symm ae;obtain⟨ag,rfl⟩:=af;refine ku (i:=0) (vs:=[(vi b.to),(vi b.out)]) z90 rfl rfl rfl rfl rfl rfl (qf rfl (qf rfl ko)) ?_
 refine qz (zh G (zm (qx z3w rfl) (zm (qm (i:=0) ag3 rfl rfl rfl) (z1f (T:=(qo .i64)) (X:=([b.out]:List Int)) (ps:=[(0,(vi b.out))]) (css:=[[(vi b.out)]]) rfl underlying32 zo3 rfl rfl (vo ⟨rfl,trivial⟩) rfl rfl (by decide) fun ah aT E ai=>?_))));refine au (i:=0) rfl ai fun aj y ak=>?_
 have al:VRep (tSl true (qo .i64)) aj ah ([b.out]:List Int):=(z5q ak E);obtain⟨L,a⟩:=zf a;refine z4b (i:=1) (X:=t) (Y:=([b.out]:List Int)) rfl underlying32 zo3 rfl rfl rfl (H.mono (x.trans y)) (jd (Sub.v (B:=(tSl false (qo .i64))) (uw Sub.refl (fun _=>rfl)) al)) L.1 L.2 fun M am an=>?_
 refine zi M (z8 (zu (zm (qx z0n rfl) (zm (qm (i:=0) ag3 rfl rfl rfl) (zi (vi b.to) (z8 (zu (zh (vi c) ?_))))))));obtain⟨ao,a⟩:=zf a;refine zm (jl rfl rfl ao) (zi (vi (c+1)) (z8 ?_))
 exact⟨dkt,(x.trans y),kg,(p,b.to,(t++([b.out]:List Int)),c+1,M,am),Nat.lt_succ_self _,⟨rfl,rfl,rfl,trivial⟩,⟨[box ag [(vi b.to),(vi b.out)] 57],(List.Perm.refl _)⟩,a,an,trivial⟩;refine jh ?_;exact⟨dkt,e,kg,(t,G,C),⟨rfl,trivial⟩,prm,(Option.some.inj a).symm,H,trivial⟩
 rintro⟨F,Q,aU⟩ aV R7 ap ⟨rfl,aq,_⟩;refine zg (zh Q (zi Q (z8 (z5j (i:=0) rfl aq fun ar O av=>?_))));have aw:VRep (tSl false (qo .i64)) ar Q F:=(zca av);refine qj ?_;obtain rfl:=Option.some.inj o;refine zw (D:=[]) (J:=[]) (rs:=[.tmp 6]) (vs:=[Q]) ((k.trans ap).trans O) rfl rfl ⟨rfl,trivial⟩ ?_;exact⟨rfl,aw⟩
theorem q39:Enters prog 70:=enters_of func70 rfl (by kernel_rfl)
theorem z7w{N:Nat}{R:RH}{m:Mach}{e:Value}(k:VRep (ji false false) R e m){Y:(List Int)}{d:Value}(o:VRep (tSl false (qo .i64)) R d Y){a:Int}{b:Int}{r:Bool}(g:ay N m Y a b=some r):CallP prog 48 #[e,d,(vi a),(vi b)] R (fun v R'=>v=(.bool r)):=by
 refine qd (args:=[e,d,(vi a),(vi b)]) func48 rfl rfl fun A=>?_;rw [ay] at g;refine zg (kv (T:=(ji false false)) rfl rfl rfl k fun v1 R3 i Z h2=>?_);refine zi (.bool false) (z8 (zt ?_));obtain⟨x,c7,g⟩:=zn g;obtain⟨y,c9,g⟩:=zn g;obtain⟨n,z,g⟩:=zn g
 refine fq 13 [] [phX e,phX (vi a),phX d,phR (tSl false (qo .i64)) x,phR (tSl true (tSl false (qo .i64))) ([x]:List (List Int)),phX e,phX (vi b),phX d,phR (tSl false (qo .i64)) y,phR (tSl true (tSl false (qo .i64))) ([y]:List (List Int)),phX (.bool n),phX (.bool (!n)),phX (.bool (!n))] mixed (by kernel_rfl) (ow ⟨q8,q8,q8,p8,p8,q8,q8,q8,p8,p8,q8,q8,q8,trivial⟩) ⟨?_,?_,?_,?_,?_,?_,?_,?_,?_,?_,?_,?_,?_,trivial⟩ fun af q=>?_
 intro l ag c f s;exact zb rfl rfl rfl (qi (jo z06 rfl (f 4 rfl) (Z.mono c) ((k.mono i).mono c)));intro l ah c f s;exact zb rfl rfl rfl (qi (za (f 2 rfl)));intro l ai c f s;exact zb rfl rfl rfl (qi (za (f 1 rfl)));rintro l aj c f ⟨j,p,t,_⟩;have f9:l 9=e:=j rfl
 have C:l 10=(vi a):=p rfl;have E:l 11=d:=t rfl;exact zb rfl rfl rfl (xy (vs:=[e,(vi a),d]) q39 (by simp only [List.map,ev,f9,C,E]<;>rfl) (z6k ((k.mono i).mono c) ((o.mono i).mono c) c7) (fun _ _ h=>h));rintro l F c f ⟨j,_⟩;have u:phR (tSl false (qo .i64)) x (l 12) F:=j rfl
 exact zb rfl rfl rfl (z3f (T:=(tSl false (qo .i64))) (X:=([x]:List (List Int))) (ps:=[(0,(l 12))]) (css:=[[(l 12)]]) underlying72 zt7 rfl (by simp only [List.map_cons,List.map_nil,z1c u];rfl) (vo ⟨(uu rfl u),trivial⟩) rfl rfl (by decide));intro l al c f s
 exact zb rfl rfl rfl (qi (jo z06 rfl (f 4 rfl) (Z.mono c) ((k.mono i).mono c)));intro l am c f s;exact zb rfl rfl rfl (qi (za (f 3 rfl)));intro l an c f s;exact zb rfl rfl rfl (qi (za (f 1 rfl)));rintro l ao c f ⟨j,p,t,d3,_⟩;have G:l 14=e:=j rfl;have H:l 15=(vi b):=p rfl
 have I:l 16=d:=t rfl;exact zb rfl rfl rfl (xy (vs:=[e,(vi b),d]) q39 (by simp only [List.map,ev,G,H,I]<;>rfl) (z6k ((k.mono i).mono c) ((o.mono i).mono c) c9) (fun _ _ h=>h));rintro l K c f ⟨j,_⟩;have w:phR (tSl false (qo .i64)) y (l 17) K:=j rfl
 exact zb rfl rfl rfl (z3f (T:=(tSl false (qo .i64))) (X:=([y]:List (List Int))) (ps:=[(0,(l 17))]) (css:=[[(l 17)]]) underlying72 zt7 rfl (by simp only [List.map_cons,List.map_nil,z1c w];rfl) (vo ⟨(uu rfl w),trivial⟩) rfl rfl (by decide));rintro l aa c f ⟨j,p,t,_⟩
 exact zb rfl rfl rfl (xy (vs:=[(l 13),(l 18)]) zzf rfl (z2u (Sub.v (B:=(tSl false (tSl false (qo .i64)))) (uw Sub.refl (fun _=>rfl)) (j rfl)) (Sub.v (B:=(tSl false (tSl false (qo .i64)))) (uw Sub.refl (fun _=>rfl)) (p rfl)) z) (fun _ _ h=>h));rintro l ab c f ⟨j,_⟩;exact zb rfl rfl rfl (qi (mq (j rfl)))
 rintro l ac c f ⟨j,p,t,d3,d4,d5,d6,d7,d8,d9,aq,ar,au,av,_⟩;exact zb rfl rfl rfl (qi (bv (j rfl)));intro aw L ax M az O aA aB aC aD aE P aF Q aG S aH aI aJ aK aL U aM V aN W;obtain rfl:=Eq.symm L;obtain rfl:=Eq.symm M;obtain rfl:=Eq.symm O;obtain rfl:=Eq.symm P;obtain rfl:=Eq.symm Q
 obtain rfl:=Eq.symm S;obtain rfl:=Eq.symm U;obtain rfl:=Eq.symm V;obtain rfl:=Eq.symm W;refine z8 (qj ?_);obtain rfl:=Option.some.inj g;refine zw (D:=[]) (J:=[]) (rs:=[.tmp 8]) (vs:=[(.bool (!n))]) (i.trans q) rfl rfl ⟨rfl,trivial⟩ ?_;exact⟨rfl,rfl⟩
theorem q3a:Enters prog 48:=enters_of func48 rfl (by kernel_rfl)
theorem z4c{N:Nat}{R:RH}{m:Mach}{f:Value}(n:VRep (ji false false) R f m){q:(List Int)}{e:Value}(p:VRep (tSl false (qo .i64)) R e q){s:Int}{r:Bool}(d:dz N m q s=some r):CallP prog 26 #[f,e,(vi s)] R (fun v R'=>v=(.bool r)):=by
 refine qd (args:=[f,e,(vi s)]) func26 rfl rfl fun A=>?_;rw [dz] at d;refine zg (kv (T:=(ji false false)) rfl rfl rfl n fun v1 R3 i M O=>?_);refine zi (.bool false) (z8 ?_);obtain⟨t,a,d⟩:=zn d
 refine j5 (γ:=Unit) (rs [6,26]) (fun g=>[]) (fun g=>[]++A) (fun g R=>t=Ex.go g∧True) ?_ ?_;refine zg (zi (vi 0) (z8 (zy (jg (γ:=Nat×Int) (rs [6,26]) (fun g=>[(7,(vi g.2))]) (fun g=>[]++A) (fun g R=>wm N m q s g.1 g.2=some t∧True) (fun g=>g.1) (N,0) prm ⟨a,trivial⟩ ?_))));clear a
 rintro⟨k,c⟩ P Q b ⟨a,_⟩;rcases k with _|k;exact qy a;replace a:wm N m q s (k+1) c=some t:=a;rw [wm] at a;refine zt (zg (zh (vi c) (ja rfl vg jr rfl (O.mono b) fun S u=>?_)));refine qg rfl lq rfl u fun U w=>?_
 refine zm (ql rfl underlying28 rfl (jd w)) (zm (j6 rfl rfl) (z8 (zo rfl a (fun a=>?_) (fun a=>?_))))
 refine zz (zt (zy (zg (qw (v:=(vi c)) rfl (za rfl) (qw (v:=(vi s)) rfl (za rfl) (qw rfl (wy rfl rfl) (qw (v:=(.bool (decide (c≠s)))) rfl (za rfl) (qb rfl rfl rfl rfl (fun j=>zq (v:=f) (jo z06 rfl rfl (M.mono b) (n.mono (i.trans b)))) fun V x=>?_))))))))
 refine qb rfl rfl rfl rfl (fun j=>zq (v:=e) (za rfl)) fun W y=>?_;refine qb rfl rfl rfl rfl (fun j=>zq (v:=(vi s)) (za rfl)) fun X z=>?_;refine qb rfl rfl rfl rfl (fun j=>zq (v:=(vi c)) (za rfl)) fun Y B=>?_;obtain⟨C,E,a⟩:=zn a
 refine z2x rfl rfl rfl rfl (fun j=>xy (vs:=[f,e,(vi s),(vi c)]) q3a (z4w (x.1 (ze rfl j)) (z4w (y.1 (ze rfl j)) (z4w (z.1 (ze rfl j)) (z4w (B.1 (ze rfl j)) rfl)))) ((by have F:=(z0z E (ze rfl j));exact z7w (n.mono (i.trans b)) (p.mono (i.trans b)) F)) (fun _ _ h=>h)) fun G H l o=>?_
 replace o:phG (true&&((decide (c≠s))==true)) (phX (.bool (C.getD default))) G H:=o;refine qb rfl rfl rfl rfl (fun j=>zq (mq (o.1 (ze rfl j)))) fun Z I=>?_;refine qw rfl (yx rfl (fun hb=>(I.1 (ze rfl hb))) rfl) (z8 (zo rfl a (fun a=>?_) (fun a=>?_)));refine zg (zi (.bool false) (z8 (qj ?_)))
 replace d:=ry a d;obtain rfl:=Option.some.inj d;refine zw (D:=[]) (J:=[]) (rs:=[.tmp 6]) (vs:=[(.bool false)]) ((i.trans b).trans l) rfl rfl ⟨rfl,trivial⟩ ?_;exact⟨rfl,rfl⟩;refine zz (zu (zh (vi c) ?_));obtain⟨K,a⟩:=zf a;refine zm (jl rfl rfl K) (zi (vi (c+1)) (z8 ?_))
 exact⟨dkt,l,kg,(k,c+1),Nat.lt_succ_self _,⟨rfl,trivial⟩,prm,a,trivial⟩;refine jh ?_;exact⟨dkt,b,kg,(),trivial,prm,(Option.some.inj a).symm,trivial⟩;rintro o6 ab R8 L ⟨rfl,_⟩;replace d:=z0e d;refine zg (zi (.bool true) (z8 (qj ?_)));obtain rfl:=Option.some.inj d
 refine zw (D:=[]) (J:=[]) (rs:=[.tmp 6]) (vs:=[(.bool true)]) (i.trans L) rfl rfl ⟨rfl,trivial⟩ ?_;exact⟨rfl,rfl⟩
theorem q1e:Enters prog 26:=enters_of func26 rfl (by kernel_rfl)
theorem z9i{N:Nat}{R:RH}{m:Mach}{j:Value}(k:VRep (ji false false) R j m){n:(List Int)}{d:Value}(l:VRep (tSl false (qo .i64)) R d n){r:Bool}(c:ax N m n=some r):CallP prog 27 #[j,d] R (fun v R'=>v=(.bool r)):=by
 refine qd (args:=[j,d]) func27 rfl rfl fun A=>?_;rw [ax] at c;refine zg (kv (T:=(ji false false)) rfl rfl rfl k fun K L f x y=>?_);refine zi (.bool false) (z8 ?_);obtain⟨o,a,c⟩:=zn c;refine j5 (γ:=Unit) (rs [4,18]) (fun g=>[]) (fun g=>[]++A) (fun g R=>o=Ex.go g∧True) ?_ ?_
 refine zg (zi (vi 0) (z8 (zy (jg (γ:=Nat×Int) (rs [4,18]) (fun g=>[(5,(vi g.2))]) (fun g=>[]++A) (fun g R=>y5 N m n g.1 g.2=some o∧True) (fun g=>g.1) (N,0) prm ⟨a,trivial⟩ ?_))));clear a;rintro⟨h,e⟩ z B b ⟨a,_⟩;rcases h with _|h;exact qy a
 replace a:y5 N m n (h+1) e=some o:=a;rw [y5] at a;refine zt (zg (zh (vi e) (ja rfl vg jr rfl (y.mono b) fun C p=>?_)));refine qg rfl lq rfl p fun E q=>?_
 refine zm (ql rfl underlying28 rfl (jd q)) (zm (j6 rfl rfl) (z8 (zo rfl a (fun a=>?_) (fun a=>?_))));refine zz (zt (zy (zg (zm (jo z06 rfl rfl (x.mono b) (k.mono (f.trans b))) (zh d (zh (vi e) ?_))))));obtain⟨F,s,a⟩:=zn a
 refine je rfl q1e rfl (z4c (k.mono (f.trans b)) (l.mono (f.trans b)) s) fun G H i t=>?_;obtain rfl:=t;refine zm (mq rfl) (z8 (zo rfl a (fun a=>?_) (fun a=>?_)));refine zg (zi (.bool false) (z8 (qj ?_)));replace c:=ry a c;obtain rfl:=Option.some.inj c
 refine zw (D:=[]) (J:=[]) (rs:=[.tmp 4]) (vs:=[(.bool false)]) ((f.trans b).trans i) rfl rfl ⟨rfl,trivial⟩ ?_;exact⟨rfl,rfl⟩;refine zz (zu (zh (vi e) ?_));obtain⟨u,a⟩:=zf a;refine zm (jl rfl rfl u) (zi (vi (e+1)) (z8 ?_))
 exact⟨dkt,i,kg,(h,e+1),Nat.lt_succ_self _,⟨rfl,trivial⟩,prm,a,trivial⟩;refine jh ?_;exact⟨dkt,b,kg,(),trivial,prm,(Option.some.inj a).symm,trivial⟩;rintro M I O w ⟨rfl,_⟩;replace c:=z0e c;refine zg (zi (.bool true) (z8 (qj ?_)));obtain rfl:=Option.some.inj c
 refine zw (D:=[]) (J:=[]) (rs:=[.tmp 4]) (vs:=[(.bool true)]) (f.trans w) rfl rfl ⟨rfl,trivial⟩ ?_;exact⟨rfl,rfl⟩
theorem q4d:Enters prog 27:=enters_of func27 rfl (by kernel_rfl)
end GV
end Go.Proofs.Ytnnobdkjgafdmaa
