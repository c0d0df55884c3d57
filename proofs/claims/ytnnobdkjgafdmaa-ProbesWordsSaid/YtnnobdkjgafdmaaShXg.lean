import Derived.Test.YtnnobdkjgafdmaaShWe
import Derived.Test.YtnnobdkjgafdmaaShXb
import Derived.Test.YtnnobdkjgafdmaaRows
set_option linter.unusedVariables false
set_option linter.unusedSimpArgs false
set_option linter.unusedSectionVars false
namespace Go.Proofs.Ytnnobdkjgafdmaa
namespace GV
open _root_.Go.Proofs.Try
open Go.IntWalk
set_option maxRecDepth 100000
set_option maxHeartbeats 20000000
theorem z8c{N:Nat}{R:RH}{m:Mach}{j:Value}(z:VRep (jm false false) R j m){s:Int}{u:(List Int)}{f:Value}(w:VRep (tSl false (qb .i64)) R f u){r:(List Int)}(o:fo N m s u=some r):CallP prog 70 #[j,(vi s),f] R (fun v R'=>VRep (tSl false (qb .i64)) R' v r):=by
 refine qd (args:=[j,(vi s),f]) func70 rfl rfl fun A=>?_;rw [fo] at o;refine zi (ky (T:=(jm false false)) rfl rfl rfl z fun v1 R3 k h5 h2=>?_);refine zh vs0 (qw (zh vs0 (z8 ?_)));obtain⟨F,a,o⟩:=zq o
 refine qm (γ:=(List Int)×Value×Frag) (rs [1,2,7,30]) (fun g=>[(7,g.2.1)]) (fun g=>[g.2.2]++A) (fun g R=>F=g.1∧ORep (qb .i64) R g.2.2 g.2.1 g.1∧True) ?_ ?_;refine zi (zh (vi 0) (z8 (zx (z3e ?_))))
 refine jb (γ:=Nat×Int×(List Int)×Int×Value×Frag) (rs [1,2,7,30]) (fun g=>[(1,(vi g.2.1)),(7,g.2.2.2.2.1),(8,(vi g.2.2.2.1))]) (fun g=>[g.2.2.2.2.2]++A) (fun g R=>pz N m u g.1 g.2.1 g.2.2.1 g.2.2.2.1=some F∧ORep (qb .i64) R g.2.2.2.2.2 g.2.2.2.2.1 g.2.2.1∧True) (fun g=>g.1) (N,s,[],0,vs0,emp) prm ⟨a,(z09 (T:=(qb .i64))),trivial⟩ ?_
 clear a;rintro⟨p,q,t,c,G,C⟩ ax ay e ⟨a,H,_⟩;rcases p with _|p;exact qp a;replace a:pz N m u (p+1) q t c=some F:=a;rw [pz] at a
 refine zw (zi (zf (vi c) (zf f (zk (qo rfl underlying32 rfl (ja (w.mono (k.trans e)))) (zk (j3 rfl rfl) (z8 (zu rfl a (fun a=>?_) (fun a=>?_))))))));refine qa (zw (zx (zw ?_)));obtain⟨I,a⟩:=zb a;obtain⟨b,S,a⟩:=zq a
 refine mf 8 [⟨7,[.int .i64 0,.int .i64 0],57⟩] [phX j,phX (vi q),phX f,phX (vi c),phP (qb .i64) (ix u c),phX (vi (ix u c)),phX (lh b),phB] mixed (by kernel_rfl) (bu ⟨zt,zt,zt,zt,uo,zt,zt,zrz,trivial⟩) ⟨?_,?_,?_,?_,?_,?_,?_,?_,trivial⟩ fun az x=>?_;intro l aA d n P
 exact za rfl rfl rfl (zz (jy z1b rfl (n 3 rfl) ((h5.mono e).mono d) ((z.mono (k.trans e)).mono d)));intro l aB d n P;exact za rfl rfl rfl (zz (ze (n 1 rfl)));intro l aC d n P;exact za rfl rfl rfl (zz (ze (n 2 rfl)));intro l aD d n P;exact za rfl rfl rfl (zz (ze (n 8 rfl)))
 rintro l aE d n ⟨K,U,_⟩;exact za rfl rfl rfl (wm (i:=c.toNat) z04 (K rfl) (ja ((w.mono (k.trans e)).mono d)) (zg (U rfl) I.1) (zy I));rintro l aF d n ⟨K,_⟩;exact za rfl rfl rfl (gp (jo ty3 rfl (K rfl)) (fun _ _ h=>jg.1 h));rintro l aG d n ⟨K,U,d2,_⟩;have V:l 16=j:=K rfl
 have W:l 17=(vi q):=U rfl;have C:l 21=(vi (ix u c)):=d2 rfl;exact za rfl rfl rfl (xk (vs:=[j,(vi q),(vi (ix u c))]) q5v (by simp only [List.map,ev,V,W,C]<;>rfl) (z7l ((z.mono (k.trans e)).mono d) S) (fun _ _ h=>h));intro l aI d n P;exact zgy rfl rfl rfl rfl ze7
 intro aJ Z aK aa aL ab aM ac aN aO aP ad aQ ae aR af;obtain rfl:=Eq.symm Z;obtain rfl:=Eq.symm aa;obtain rfl:=Eq.symm ab;obtain rfl:=Eq.symm ac;obtain rfl:=Eq.symm ad;obtain rfl:=Eq.symm ae;obtain⟨ag,rfl⟩:=af;refine jr (i:=0) (vs:=[(vi b.to),(vi b.out)]) za2 rfl rfl rfl rfl rfl rfl (qc rfl (qc rfl jq)) ?_
 refine qw (zf G (zk (qi z97 rfl) (zk (qj (i:=0) ag3 rfl rfl rfl) (ol (T:=(qb .i64)) (X:=([b.out]:List Int)) (ps:=[(0,(vi b.out))]) (css:=[[(vi b.out)]]) rfl underlying32 zo3 rfl rfl (kv ⟨rfl,trivial⟩) rfl rfl (by decide) fun ah aS E ai=>?_))));refine y5 (i:=0) rfl ai fun aj y ak=>?_
 have al:VRep (tSl true (qb .i64)) aj ah ([b.out]:List Int):=(z3a ak E);obtain⟨L,a⟩:=zb a;refine dh (i:=1) (X:=t) (Y:=([b.out]:List Int)) rfl underlying32 zo3 rfl rfl rfl (H.mono (x.trans y)) (ja (Sub.v (B:=(tSl false (qb .i64))) (uf Sub.refl (fun _=>rfl)) al)) L.1 L.2 fun M am an=>?_
 refine zh M (z8 (zn (zk (qi z0l rfl) (zk (qj (i:=0) ag3 rfl rfl rfl) (zh (vi b.to) (z8 (zn (zf (vi c) ?_))))))));obtain⟨ao,a⟩:=zb a;refine zk (jh rfl rfl ao) (zh (vi (c+1)) (z8 ?_))
 exact⟨dkt,(x.trans y),jl,(p,b.to,(t++([b.out]:List Int)),c+1,M,am),Nat.lt_succ_self _,⟨rfl,rfl,rfl,trivial⟩,⟨[box ag [(vi b.to),(vi b.out)] 57],(List.Perm.refl _)⟩,a,an,trivial⟩;refine jk ?_;exact⟨dkt,e,jl,(t,G,C),⟨rfl,trivial⟩,prm,(Option.some.inj a).symm,H,trivial⟩
 rintro⟨F,Q,aT⟩ aU R7 ap ⟨rfl,aq,_⟩;refine zi (zf Q (zh Q (z8 (ow (i:=0) rfl aq fun ar O au=>?_))));have av:VRep (tSl false (qb .i64)) ar Q F:=(z5t au);refine ql ?_;obtain rfl:=Option.some.inj o;refine q8 (D:=[]) (J:=[]) (rs:=[.tmp 6]) (vs:=[Q]) ((k.trans ap).trans O) rfl rfl ⟨rfl,trivial⟩ ?_;exact⟨rfl,av⟩
theorem q6q:Enters prog 70:=enters_of func70 rfl (by kernel_rfl)
theorem z9f{N:Nat}{R:RH}{m:Mach}{e:Value}(k:VRep (jm false false) R e m){Y:(List Int)}{d:Value}(o:VRep (tSl false (qb .i64)) R d Y){a:Int}{b:Int}{r:Bool}(g:ik N m Y a b=some r):CallP prog 48 #[e,d,(vi a),(vi b)] R (fun v R'=>v=(.bool r)):=by
 refine qd (args:=[e,d,(vi a),(vi b)]) func48 rfl rfl fun A=>?_;rw [ik] at g;refine zi (ky (T:=(jm false false)) rfl rfl rfl k fun v1 R3 i Z h2=>?_);refine zh (.bool false) (z8 (zw ?_));obtain⟨x,c7,g⟩:=zq g;obtain⟨y,c9,g⟩:=zq g;obtain⟨n,z,g⟩:=zq g
 refine mf 13 [] [phX e,phX (vi a),phX d,phR (tSl false (qb .i64)) x,phR (tSl true (tSl false (qb .i64))) ([x]:List (List Int)),phX e,phX (vi b),phX d,phR (tSl false (qb .i64)) y,phR (tSl true (tSl false (qb .i64))) ([y]:List (List Int)),phX (.bool n),phX (.bool (!n)),phX (.bool (!n))] mixed (by kernel_rfl) (bu ⟨zt,zt,zt,gu,gu,zt,zt,zt,gu,gu,zt,zt,zt,trivial⟩) ⟨?_,?_,?_,?_,?_,?_,?_,?_,?_,?_,?_,?_,?_,trivial⟩ fun af q=>?_
 intro l ag c f s;exact za rfl rfl rfl (zz (jy z1b rfl (f 4 rfl) (Z.mono c) ((k.mono i).mono c)));intro l ah c f s;exact za rfl rfl rfl (zz (ze (f 2 rfl)));intro l ai c f s;exact za rfl rfl rfl (zz (ze (f 1 rfl)));rintro l aj c f ⟨j,p,t,_⟩;have f9:l 9=e:=j rfl
 have C:l 10=(vi a):=p rfl;have E:l 11=d:=t rfl;exact za rfl rfl rfl (xk (vs:=[e,(vi a),d]) q6q (by simp only [List.map,ev,f9,C,E]<;>rfl) (z8c ((k.mono i).mono c) ((o.mono i).mono c) c7) (fun _ _ h=>h));rintro l F c f ⟨j,_⟩;have u:phR (tSl false (qb .i64)) x (l 12) F:=j rfl
 exact za rfl rfl rfl (z3i (T:=(tSl false (qb .i64))) (X:=([x]:List (List Int))) (ps:=[(0,(l 12))]) (css:=[[(l 12)]]) underlying72 zkl rfl (by simp only [List.map_cons,List.map_nil,z0a u];rfl) (kv ⟨(kz rfl u),trivial⟩) rfl rfl (by decide));intro l al c f s
 exact za rfl rfl rfl (zz (jy z1b rfl (f 4 rfl) (Z.mono c) ((k.mono i).mono c)));intro l am c f s;exact za rfl rfl rfl (zz (ze (f 3 rfl)));intro l an c f s;exact za rfl rfl rfl (zz (ze (f 1 rfl)));rintro l ao c f ⟨j,p,t,d3,_⟩;have G:l 14=e:=j rfl;have H:l 15=(vi b):=p rfl
 have I:l 16=d:=t rfl;exact za rfl rfl rfl (xk (vs:=[e,(vi b),d]) q6q (by simp only [List.map,ev,G,H,I]<;>rfl) (z8c ((k.mono i).mono c) ((o.mono i).mono c) c9) (fun _ _ h=>h));rintro l K c f ⟨j,_⟩;have w:phR (tSl false (qb .i64)) y (l 17) K:=j rfl
 exact za rfl rfl rfl (z3i (T:=(tSl false (qb .i64))) (X:=([y]:List (List Int))) (ps:=[(0,(l 17))]) (css:=[[(l 17)]]) underlying72 zkl rfl (by simp only [List.map_cons,List.map_nil,z0a w];rfl) (kv ⟨(kz rfl w),trivial⟩) rfl rfl (by decide));rintro l aa c f ⟨j,p,t,_⟩
 exact za rfl rfl rfl (xk (vs:=[(l 13),(l 18)]) q4s rfl (z4b (Sub.v (B:=(tSl false (tSl false (qb .i64)))) (uf Sub.refl (fun _=>rfl)) (j rfl)) (Sub.v (B:=(tSl false (tSl false (qb .i64)))) (uf Sub.refl (fun _=>rfl)) (p rfl)) z) (fun _ _ h=>h));rintro l ab c f ⟨j,_⟩;exact za rfl rfl rfl (zz (z0g (j rfl)))
 rintro l ac c f ⟨j,p,t,d3,d4,d5,d6,d7,d8,d9,aq,ar,au,av,_⟩;exact za rfl rfl rfl (zz (ax (j rfl)));intro aw L ay M az O aA aB aC aD aE P aF Q aG S aH aI aJ aK aL U aM V aN W;obtain rfl:=Eq.symm L;obtain rfl:=Eq.symm M;obtain rfl:=Eq.symm O;obtain rfl:=Eq.symm P;obtain rfl:=Eq.symm Q
 obtain rfl:=Eq.symm S;obtain rfl:=Eq.symm U;obtain rfl:=Eq.symm V;obtain rfl:=Eq.symm W;refine z8 (ql ?_);obtain rfl:=Option.some.inj g;refine q8 (D:=[]) (J:=[]) (rs:=[.tmp 8]) (vs:=[(.bool (!n))]) (i.trans q) rfl rfl ⟨rfl,trivial⟩ ?_;exact⟨rfl,rfl⟩
theorem q7l:Enters prog 48:=enters_of func48 rfl (by kernel_rfl)
theorem z5j{N:Nat}{R:RH}{m:Mach}{f:Value}(n:VRep (jm false false) R f m){q:(List Int)}{e:Value}(p:VRep (tSl false (qb .i64)) R e q){s:Int}{r:Bool}(d:oo N m q s=some r):CallP prog 26 #[f,e,(vi s)] R (fun v R'=>v=(.bool r)):=by
 refine qd (args:=[f,e,(vi s)]) func26 rfl rfl fun A=>?_;rw [oo] at d;refine zi (ky (T:=(jm false false)) rfl rfl rfl n fun v1 R3 i M O=>?_);refine zh (.bool false) (z8 ?_);obtain⟨t,a,d⟩:=zq d
 refine qm (γ:=Unit) (rs [6,26]) (fun g=>[]) (fun g=>[]++A) (fun g R=>t=Ex.go g∧True) ?_ ?_;refine zi (zh (vi 0) (z8 (zx (jb (γ:=Nat×Int) (rs [6,26]) (fun g=>[(7,(vi g.2))]) (fun g=>[]++A) (fun g R=>vg N m q s g.1 g.2=some t∧True) (fun g=>g.1) (N,0) prm ⟨a,trivial⟩ ?_))));clear a
 rintro⟨k,c⟩ P Q b ⟨a,_⟩;rcases k with _|k;exact qp a;replace a:vg N m q s (k+1) c=some t:=a;rw [vg] at a;refine zw (zi (zf (vi c) (je rfl xe ui rfl (O.mono b) fun S u=>?_)));refine qh rfl z3h rfl u fun U w=>?_
 refine zk (qo rfl underlying28 rfl (ja w)) (zk (j3 rfl rfl) (z8 (zu rfl a (fun a=>?_) (fun a=>?_))))
 refine qa (zw (zx (zi (jv (v:=(vi c)) rfl (ze rfl) (jv (v:=(vi s)) rfl (ze rfl) (jv rfl (pg rfl rfl) (jv (v:=(.bool (decide (c≠s)))) rfl (ze rfl) (ji rfl rfl rfl rfl (fun j=>qx (v:=f) (jy z1b rfl rfl (M.mono b) (n.mono (i.trans b)))) fun V x=>?_))))))))
 refine ji rfl rfl rfl rfl (fun j=>qx (v:=e) (ze rfl)) fun W y=>?_;refine ji rfl rfl rfl rfl (fun j=>qx (v:=(vi s)) (ze rfl)) fun X z=>?_;refine ji rfl rfl rfl rfl (fun j=>qx (v:=(vi c)) (ze rfl)) fun Y B=>?_;obtain⟨C,E,a⟩:=zq a
 refine z5v rfl rfl rfl rfl (fun j=>xk (vs:=[f,e,(vi s),(vi c)]) q7l (z9z (x.1 (zo rfl j)) (z9z (y.1 (zo rfl j)) (z9z (z.1 (zo rfl j)) (z9z (B.1 (zo rfl j)) rfl)))) ((by have F:=(z3w E (zo rfl j));exact z9f (n.mono (i.trans b)) (p.mono (i.trans b)) F)) (fun _ _ h=>h)) fun G H l o=>?_
 replace o:phG (true&&((decide (c≠s))==true)) (phX (.bool (C.getD default))) G H:=o;refine ji rfl rfl rfl rfl (fun j=>qx (z0g (o.1 (zo rfl j)))) fun Z I=>?_;refine jv rfl (mg rfl (fun hb=>(I.1 (zo rfl hb))) rfl) (z8 (zu rfl a (fun a=>?_) (fun a=>?_)));refine zi (zh (.bool false) (z8 (ql ?_)))
 replace d:=z1i a d;obtain rfl:=Option.some.inj d;refine q8 (D:=[]) (J:=[]) (rs:=[.tmp 6]) (vs:=[(.bool false)]) ((i.trans b).trans l) rfl rfl ⟨rfl,trivial⟩ ?_;exact⟨rfl,rfl⟩;refine qa (zn (zf (vi c) ?_));obtain⟨K,a⟩:=zb a;refine zk (jh rfl rfl K) (zh (vi (c+1)) (z8 ?_))
 exact⟨dkt,l,jl,(k,c+1),Nat.lt_succ_self _,⟨rfl,trivial⟩,prm,a,trivial⟩;refine jk ?_;exact⟨dkt,b,jl,(),trivial,prm,(Option.some.inj a).symm,trivial⟩;rintro o6 ab R8 L ⟨rfl,_⟩;replace d:=z2x d;refine zi (zh (.bool true) (z8 (ql ?_)));obtain rfl:=Option.some.inj d
 refine q8 (D:=[]) (J:=[]) (rs:=[.tmp 6]) (vs:=[(.bool true)]) (i.trans L) rfl rfl ⟨rfl,trivial⟩ ?_;exact⟨rfl,rfl⟩
theorem q73:Enters prog 26:=enters_of func26 rfl (by kernel_rfl)
theorem zbb{N:Nat}{R:RH}{m:Mach}{j:Value}(k:VRep (jm false false) R j m){n:(List Int)}{d:Value}(l:VRep (tSl false (qb .i64)) R d n){r:Bool}(c:z0d N m n=some r):CallP prog 27 #[j,d] R (fun v R'=>v=(.bool r)):=by
 refine qd (args:=[j,d]) func27 rfl rfl fun A=>?_;rw [z0d] at c;refine zi (ky (T:=(jm false false)) rfl rfl rfl k fun K L f x y=>?_);refine zh (.bool false) (z8 ?_);obtain⟨o,a,c⟩:=zq c;refine qm (γ:=Unit) (rs [4,18]) (fun g=>[]) (fun g=>[]++A) (fun g R=>o=Ex.go g∧True) ?_ ?_
 refine zi (zh (vi 0) (z8 (zx (jb (γ:=Nat×Int) (rs [4,18]) (fun g=>[(5,(vi g.2))]) (fun g=>[]++A) (fun g R=>yh N m n g.1 g.2=some o∧True) (fun g=>g.1) (N,0) prm ⟨a,trivial⟩ ?_))));clear a;rintro⟨h,e⟩ z B b ⟨a,_⟩;rcases h with _|h;exact qp a
 replace a:yh N m n (h+1) e=some o:=a;rw [yh] at a;refine zw (zi (zf (vi e) (je rfl xe ui rfl (y.mono b) fun C p=>?_)));refine qh rfl z3h rfl p fun E q=>?_
 refine zk (qo rfl underlying28 rfl (ja q)) (zk (j3 rfl rfl) (z8 (zu rfl a (fun a=>?_) (fun a=>?_))));refine qa (zw (zx (zi (zk (jy z1b rfl rfl (x.mono b) (k.mono (f.trans b))) (zf d (zf (vi e) ?_))))));obtain⟨F,s,a⟩:=zq a
 refine jd rfl q73 rfl (z5j (k.mono (f.trans b)) (l.mono (f.trans b)) s) fun G H i t=>?_;obtain rfl:=t;refine zk (z0g rfl) (z8 (zu rfl a (fun a=>?_) (fun a=>?_)));refine zi (zh (.bool false) (z8 (ql ?_)));replace c:=z1i a c;obtain rfl:=Option.some.inj c
 refine q8 (D:=[]) (J:=[]) (rs:=[.tmp 4]) (vs:=[(.bool false)]) ((f.trans b).trans i) rfl rfl ⟨rfl,trivial⟩ ?_;exact⟨rfl,rfl⟩;refine qa (zn (zf (vi e) ?_));obtain⟨u,a⟩:=zb a;refine zk (jh rfl rfl u) (zh (vi (e+1)) (z8 ?_))
 exact⟨dkt,i,jl,(h,e+1),Nat.lt_succ_self _,⟨rfl,trivial⟩,prm,a,trivial⟩;refine jk ?_;exact⟨dkt,b,jl,(),trivial,prm,(Option.some.inj a).symm,trivial⟩;rintro M I O w ⟨rfl,_⟩;replace c:=z2x c;refine zi (zh (.bool true) (z8 (ql ?_)));obtain rfl:=Option.some.inj c
 refine q8 (D:=[]) (J:=[]) (rs:=[.tmp 4]) (vs:=[(.bool true)]) (f.trans w) rfl rfl ⟨rfl,trivial⟩ ?_;exact⟨rfl,rfl⟩
theorem q82:Enters prog 27:=enters_of func27 rfl (by kernel_rfl)
end GV
end Go.Proofs.Ytnnobdkjgafdmaa
