import Derived.Test.YtnnobdkjgafdmaaShWe
import Derived.Test.YtnnobdkjgafdmaaShXb
import Derived.Test.YtnnobdkjgafdmaaShXc
import Derived.Test.YtnnobdkjgafdmaaShXd
import Derived.Test.YtnnobdkjgafdmaaShXe
import Derived.Test.YtnnobdkjgafdmaaShXg
import Derived.Test.YtnnobdkjgafdmaaRows
set_option linter.unusedVariables false
set_option linter.unusedSimpArgs false
set_option linter.unusedSectionVars false
namespace Go.Proofs.Ytnnobdkjgafdmaa
namespace GV
open _root_.Go.Proofs.Try
open Go.IntWalk
set_option maxRecDepth 100000
set_option maxHeartbeats 20000000
theorem zbt{N:Nat}{R:RH}{inputs:Int}{k:Int}{r:(List (List Int))}(u:z0o N inputs k=some r):CallP prog 62 #[(vi inputs),(vi k)] R (fun v R'=>VRep (tSl false (tSl false (qb .i64))) R' v r):=by
 refine qd (args:=[(vi inputs),(vi k)]) func62 rfl rfl fun A=>?_;rw [z0o] at u;refine zi (zh vs0 (qw (ol (T:=(qb .i64)) (X:=([]:List Int)) (ps:=[]) (css:=[]) rfl underlying32 zo3 rfl rfl (kv trivial) rfl rfl (by decide) fun v1 f2 U h4=>?_)));refine y5 (i:=0) rfl h4 fun R6 ay h8=>?_
 have h9:VRep (tSl true (qb .i64)) R6 v1 ([]:List Int):=(z3a h8 U)
 refine ol (T:=(tSl false (qb .i64))) (X:=([([]:List Int)]:List (List Int))) (ps:=[(0,v1)]) (css:=[[v1]]) rfl underlying72 zkl rfl (by simp only [List.map_cons,List.map_nil,z0a h9];rfl) (kv ⟨(kz rfl (Sub.v (B:=(tSl false (qb .i64))) (uf Sub.refl (fun _=>rfl)) h9)),trivial⟩) rfl rfl (by decide) fun V az aA aB=>?_
 refine zh V (z8 ?_);obtain⟨l,c,u⟩:=zq u;refine qm (γ:=(List (List Int))×Value×Frag) (rs [5,10,12,41]) (fun g=>[(5,g.2.1)]) (fun g=>[g.2.2]++A) (fun g R=>l=g.1∧ORep (tSl false (qb .i64)) R g.2.2 g.2.1 g.1∧True) ?_ ?_
 refine zi (zh (vi 0) (z8 (zx (jb (γ:=Nat×(List (List Int))×Int×Value×Frag) (rs [5,10,12,41]) (fun g=>[(5,g.2.2.2.1),(6,(vi g.2.2.1))]) (fun g=>[g.2.2.2.2]++A) (fun g R=>yn N inputs k g.1 g.2.1 g.2.2.1=some l∧ORep (tSl false (qb .i64)) R g.2.2.2.2 g.2.2.2.1 g.2.1∧True) (fun g=>g.1) (N,([([]:List Int)]:List (List Int)),0,V,az) prm ⟨c,aB,trivial⟩ ?_))))
 clear c;rintro⟨w,f,m,I,n⟩ aZ a8 W ⟨c,x,_⟩;rcases w with _|w;exact qp c;replace c:yn N inputs k (w+1) f m=some l:=c;rw [yn] at c;refine zw (zi (zf (vi m) (zf (vi k) (zk (j3 rfl rfl) (z8 (zu rfl c (fun c=>?_) (fun c=>?_)))))))
 refine qa (zw (zx (zi (zh vs0 (z8 ?_)))));obtain⟨o,d,c⟩:=zq c;refine qm (γ:=(List (List Int))×Value×Frag) (rs [7,10,17,40]) (fun g=>[(7,g.2.1)]) (fun g=>[g.2.2]++A) (fun g R=>o=g.1∧ORep (tSl false (qb .i64)) R g.2.2 g.2.1 g.1∧True) ?_ ?_;refine zi (zh (vi 0) (z8 (zx (z3e ?_))))
 refine jb (γ:=Nat×(List (List Int))×Int×Value×Frag) (rs [7,10,17,40]) (fun g=>[(7,g.2.2.2.1),(8,(vi g.2.2.1))]) (fun g=>[n,g.2.2.2.2]++A) (fun g R=>yw N inputs f g.1 g.2.1 g.2.2.1=some o∧ORep (tSl false (qb .i64)) R g.2.2.2.2 g.2.2.2.1 g.2.1∧True) (fun g=>g.1) (N,[],0,vs0,emp) ⟨[],(pk 1 rfl (pk 0 rfl (List.Perm.refl _)))⟩ ⟨d,(z09 (T:=(tSl false (qb .i64)))),trivial⟩ ?_
 clear d;rintro⟨y,K,b,Z,aa⟩ a0 a9 h ⟨d,ab,_⟩;rcases y with _|y;exact qp d;replace d:yw N inputs f (y+1) K b=some o:=d;rw [yw] at d
 refine zw (zi (zf (vi b) (zf I (zk (z3j rfl underlying72 rfl (x.mono h)) (zk (j3 rfl rfl) (z8 (zu rfl d (fun d=>?_) (fun d=>?_))))))));refine qa ?_;obtain⟨p,a,d⟩:=zq d
 refine qm (γ:=(List (List Int))×Value×Frag) (rs [7,8,9,10,23,40]) (fun g=>[(7,g.2.1)]) (fun g=>[n,g.2.2]++A) (fun g R=>p=g.1∧ORep (tSl false (qb .i64)) R g.2.2 g.2.1 g.1∧True) ?_ ?_
 refine zx (zi (zh (vi 0) (z8 (zx (jb (γ:=Nat×Int×(List (List Int))×Value×Frag) (rs [7,8,9,10,23,40]) (fun g=>[(7,g.2.2.2.1),(9,(vi g.2.1))]) (fun g=>[n,g.2.2.2.2]++A) (fun g R=>yu N inputs f b g.1 g.2.1 g.2.2.1=some p∧ORep (tSl false (qb .i64)) R g.2.2.2.2 g.2.2.2.1 g.2.2.1∧True) (fun g=>g.1) (N,0,K,Z,aa) prm ⟨a,ab,trivial⟩ ?_)))))
 clear a;rintro⟨z,e,C,ac,aC⟩ a1 ba q ⟨a,ad,_⟩;rcases z with _|z;exact qp a;replace a:yu N inputs f b (z+1) e C=some p:=a;rw [yu] at a;refine zw (zi (zf (vi e) (zf (vi inputs) (zk (j3 rfl rfl) (z8 (zu rfl a (fun a=>?_) (fun a=>?_)))))))
 refine qa (zw (zx (zn (zf ac (ol (T:=(qb .i64)) (X:=([]:List Int)) (ps:=[]) (css:=[]) rfl underlying32 zo3 rfl rfl (kv trivial) rfl rfl (by decide) fun bb bc aD aE=>?_)))));refine zf I (zf (vi b) ?_);obtain⟨L,a⟩:=zb a
 refine tq (i:=b.toNat) rfl zle rfl (x.mono (h.trans q)) (zg rfl L.1) (zy L) fun be aF=>?_;refine z6a (i:=b.toNat) (j:=1) rfl zet (x.mono (h.trans q)) rfl rfl aF (zy L) fun bf aG=>?_;obtain⟨ae,a⟩:=zb a
 refine dh (i:=0) (X:=([]:List Int)) (Y:=(ix f b)) rfl underlying32 zo3 rfl rfl rfl aE (ja aG) ae.1 ae.2 fun bg bh aH=>?_
 refine zf (vi e) (ol (T:=(qb .i64)) (X:=([e]:List Int)) (ps:=[(0,(vi e))]) (css:=[[(vi e)]]) rfl underlying32 zo3 rfl rfl (kv ⟨rfl,trivial⟩) rfl rfl (by decide) fun aI bi M aJ=>?_);refine y5 (i:=0) rfl aJ fun aK s aL=>?_;have aM:VRep (tSl true (qb .i64)) aK aI ([e]:List Int):=(z3a aL M)
 obtain⟨af,a⟩:=zb a;refine dh (i:=0) (X:=(([]:List Int)++(ix f b))) (Y:=([e]:List Int)) rfl underlying32 zo3 rfl rfl rfl (aH.mono s) (ja (Sub.v (B:=(tSl false (qb .i64))) (uf Sub.refl (fun _=>rfl)) aM)) af.1 af.2 fun O bj aN=>?_;refine y5 (i:=0) rfl aN fun aO F aP=>?_
 have ag:VRep (tSl false (qb .i64)) aO O ((([]:List Int)++(ix f b))++([e]:List Int)):=(z5t aP)
 refine ol (T:=(tSl false (qb .i64))) (X:=([((([]:List Int)++(ix f b))++([e]:List Int))]:List (List Int))) (ps:=[(0,O)]) (css:=[[O]]) rfl underlying72 zkl rfl (by simp only [List.map_cons,List.map_nil,z0a ag];rfl) (kv ⟨(kz rfl ag),trivial⟩) rfl rfl (by decide) fun aQ bk P aR=>?_
 refine y5 (i:=0) rfl aR fun ah t ai=>?_;have aj:VRep (tSl true (tSl false (qb .i64))) ah aQ ([((([]:List Int)++(ix f b))++([e]:List Int))]:List (List Int)):=(z3a ai P);obtain⟨G,a⟩:=zb a
 refine dh (i:=1) (X:=C) (Y:=([((([]:List Int)++(ix f b))++([e]:List Int))]:List (List Int))) rfl underlying72 zkl rfl rfl rfl (ad.mono ((s.trans F).trans t)) (ja (Sub.v (B:=(tSl false (tSl false (qb .i64)))) (uf Sub.refl (fun _=>rfl)) aj)) G.1 G.2 fun H ak al=>?_
 refine zh H (z8 (zn (zf (vi e) ?_)));obtain⟨am,a⟩:=zb a;refine zk (jh rfl rfl am) (zh (vi (e+1)) (z8 ?_))
 exact⟨dkt,((s.trans F).trans t),jl,(z,e+1,(C++([((([]:List Int)++(ix f b))++([e]:List Int))]:List (List Int))),H,ak),Nat.lt_succ_self _,⟨rfl,rfl,trivial⟩,prm,a,al,trivial⟩;refine jk ?_;exact⟨dkt,q,jl,(C,ac,aC),⟨rfl,trivial⟩,prm,(Option.some.inj a).symm,ad,trivial⟩
 rintro⟨p,aS,aT⟩ a2 bl an ⟨rfl,aU,_⟩;refine zn (zf (vi b) ?_);obtain⟨ao,d⟩:=zb d;refine zk (jh rfl rfl ao) (zh (vi (b+1)) (z8 ?_));exact⟨dkt,an,jl,(y,p,b+1,aS,aT),Nat.lt_succ_self _,⟨rfl,rfl,trivial⟩,prm,d,aU,trivial⟩;refine jk ?_
 exact⟨dkt,h,jl,(K,Z,aa),⟨rfl,trivial⟩,⟨[n],(List.Perm.refl _)⟩,(Option.some.inj d).symm,ab,trivial⟩;rintro⟨o,Q,aV⟩ a3 bm ap ⟨rfl,aW,_⟩;refine zn (zf Q (zh Q (z8 (zn (zf (vi m) ?_)))));obtain⟨aq,c⟩:=zb c;refine zk (jh rfl rfl aq) (zh (vi (m+1)) (z8 ?_))
 exact⟨dkt,ap,jl,(w,o,m+1,Q,aV),Nat.lt_succ_self _,⟨rfl,rfl,trivial⟩,prm,c,aW,trivial⟩;refine jk ?_;exact⟨dkt,W,jl,(f,I,n),⟨rfl,trivial⟩,prm,(Option.some.inj c).symm,x,trivial⟩;rintro⟨l,E,bn⟩ a4 bo ar ⟨rfl,aX,_⟩;refine zi (zf E (zh E (z8 (ow (i:=0) rfl aX fun au S av=>?_))))
 have aw:VRep (tSl false (tSl false (qb .i64))) au E l:=(z5t av);refine ql ?_;obtain rfl:=Option.some.inj u;refine q8 (D:=[]) (J:=[]) (rs:=[.tmp 4]) (vs:=[E]) ((ay.trans ar).trans S) rfl rfl ⟨rfl,trivial⟩ ?_;exact⟨rfl,aw⟩
theorem q7i:Enters prog 62:=enters_of func62 rfl (by kernel_rfl)
theorem z7m{N:Nat}{R:RH}{inputs:Int}{k:Int}{r:(List (List Int))}(c:lw N inputs k=some r):CallP prog 33 #[(vi inputs),(vi k)] R (fun v R'=>VRep (tSl false (tSl false (qb .i64))) R' v r):=by
 refine qd (args:=[(vi inputs),(vi k)]) func33 rfl rfl fun A=>?_;rw [lw] at c;refine zi (zh vs0 (qw (zh vs0 (z8 ?_))));obtain⟨f,a,c⟩:=zq c
 refine qm (γ:=(List (List Int))×Value×Frag) (rs [5,17]) (fun g=>[(5,g.2.1)]) (fun g=>[g.2.2]++A) (fun g R=>f=g.1∧ORep (tSl false (qb .i64)) R g.2.2 g.2.1 g.1∧True) ?_ ?_;refine zi (zh (vi 0) (z8 (zx (z3e ?_))))
 refine jb (γ:=Nat×(List (List Int))×Int×Value×Frag) (rs [5,17]) (fun g=>[(5,g.2.2.2.1),(6,(vi g.2.2.1))]) (fun g=>[g.2.2.2.2]++A) (fun g R=>xu N inputs k g.1 g.2.1 g.2.2.1=some f∧ORep (tSl false (qb .i64)) R g.2.2.2.2 g.2.2.2.1 g.2.1∧True) (fun g=>g.1) (N,[],0,vs0,emp) prm ⟨a,(z09 (T:=(tSl false (qb .i64)))),trivial⟩ ?_
 clear a;rintro⟨q,d,b,h,t⟩ G H j ⟨a,l,_⟩;rcases q with _|q;exact qp a;replace a:xu N inputs k (q+1) d b=some f:=a;rw [xu] at a;refine zw (zi (zf (vi b) (zf (vi k) (zk (zun rfl rfl) (z8 (zu rfl a (fun a=>?_) (fun a=>?_)))))))
 refine qa (zw (zx (zn (zf h (zf (vi inputs) (zf (vi b) ?_))))));obtain⟨m,u,a⟩:=zq a;refine jd rfl q7i rfl (zbt  u) fun I K e w=>?_;obtain⟨n,a⟩:=zb a
 refine dh (i:=0) (X:=d) (Y:=m) rfl underlying72 zkl rfl rfl rfl (l.mono e) (ja w) n.1 n.2 fun o x y=>?_;refine zh o (z8 (zn (zf (vi b) ?_)));obtain⟨z,a⟩:=zb a;refine zk (jh rfl rfl z) (zh (vi (b+1)) (z8 ?_))
 exact⟨dkt,e,jl,(q,(d++m),b+1,o,x),Nat.lt_succ_self _,⟨rfl,rfl,trivial⟩,prm,a,y,trivial⟩;refine jk ?_;exact⟨dkt,j,jl,(d,h,t),⟨rfl,trivial⟩,prm,(Option.some.inj a).symm,l,trivial⟩;rintro⟨f,s,O⟩ L P B ⟨rfl,M,_⟩;refine zi (zf s (zh s (z8 (ow (i:=0) rfl M fun C p E=>?_))))
 have F:VRep (tSl false (tSl false (qb .i64))) C s f:=(z5t E);refine ql ?_;obtain rfl:=Option.some.inj c;refine q8 (D:=[]) (J:=[]) (rs:=[.tmp 4]) (vs:=[s]) (B.trans p) rfl rfl ⟨rfl,trivial⟩ ?_;exact⟨rfl,F⟩
theorem q5a:Enters prog 33:=enters_of func33 rfl (by kernel_rfl)
theorem zdl{N:Nat}{R:RH}{m:Mach}{j:Value}(u:VRep (jm false false) R j m){s:Int}{most:Int}{r:(List Int)×Bool}(c:z0i N m s most=some r):CallP prog 11 #[j,(vi s),(vi most)] R (fun v R'=> ∃ u0,v= .tuple #[u0,(.bool r.2)]∧VRep (tSl false (qb .i64)) R' u0 r.1):=by
 refine qd (args:=[j,(vi s),(vi most)]) func11 rfl rfl fun A=>?_;rw [z0i] at c;refine zi (ky (T:=(jm false false)) rfl rfl rfl u fun v1 R3 o Y Z=>?_);refine zh vs0 (zh (.bool false) (qw (je rfl z2j z3l rfl Z fun v6 h7=>?_)));refine qh rfl ty3 rfl h7 fun v8 h9=>?_
 obtain rfl:=jg.1 h9;refine zf (vi most) ?_;obtain⟨p,F,c⟩:=zq c;refine jd rfl q5a rfl (z7m  F) fun q ac f w=>?_;refine zh q (z8 ?_);obtain⟨x,a,c⟩:=zq c;refine qm (γ:=Unit) (rs [6,8,9,10,14,31]) (fun g=>[]) (fun g=>[]++A) (fun g R=>x=Ex.go g∧True) ?_ ?_
 refine zi (zh (vi 0) (z8 (zx (jb (γ:=Nat×Int) (rs [6,8,9,10,14,31]) (fun g=>[(9,(vi g.2))]) (fun g=>[]++A) (fun g R=>iq N m s p g.1 g.2=some x∧True) (fun g=>g.1) (N,0) prm ⟨a,trivial⟩ ?_))));clear a;rintro⟨t,d⟩ ad ae b ⟨a,_⟩;rcases t with _|t;exact qp a
 replace a:iq N m s p (t+1) d=some x:=a;rw [iq] at a;refine zw (zi (zf (vi d) (zf q (zk (qo rfl underlying72 rfl (ja (w.mono b))) (zk (j3 rfl rfl) (z8 (zu rfl a (fun a=>?_) (fun a=>?_))))))));refine qa (zw (zx (zw ?_)));obtain⟨z,a⟩:=zb a
 obtain⟨G,H,a⟩:=zq a;refine mf 7 [] [phX j,phX q,phX (vi d),phP (tSl false (qb .i64)) (ix p d),phR (tSl false (qb .i64)) (ix p d),phX (vi s),phX (.bool G)] mixed (by kernel_rfl) (bu ⟨zt,zt,zt,uo,gu,zt,zt,trivial⟩) ⟨?_,?_,?_,?_,?_,?_,?_,trivial⟩ fun af k=>?_;intro l ag e n I
 exact za rfl rfl rfl (zz (jy z1b rfl (n 3 rfl) ((Y.mono (f.trans b)).mono e) ((u.mono ((o.trans f).trans b)).mono e)));intro l ah e n I;exact za rfl rfl rfl (zz (ze (n 8 rfl)));intro l ai e n I;exact za rfl rfl rfl (zz (ze (n 9 rfl)));rintro l aj e n ⟨B,K,_⟩
 exact za rfl rfl rfl (wm (i:=d.toNat) zle (B rfl) (ja ((w.mono b).mono e)) (zg (K rfl) z.1) (zy z));rintro l ak e n ⟨B,_⟩;exact za rfl rfl rfl (jo zet rfl (B rfl));intro l al e n I;exact za rfl rfl rfl (zz (ze (n 1 rfl)));rintro l am e n ⟨B,K,d2,_⟩;have L:l 20=j:=B rfl
 have M:l 25=(vi s):=d2 rfl;exact za rfl rfl rfl (xk (vs:=[j,(l 24),(vi s)]) q73 (by simp only [List.map,ev,L,M]<;>rfl) (z5j ((u.mono ((o.trans f).trans b)).mono e) (K rfl) H) (fun _ _ h=>h));intro ao O ap P aq Q ar au av aw ax S ay U;obtain rfl:=Eq.symm O;obtain rfl:=Eq.symm P
 obtain rfl:=Eq.symm Q;obtain rfl:=Eq.symm S;obtain rfl:=Eq.symm U;refine z8 (zu rfl a (fun a=>?_) (fun a=>?_));refine zi (zf q (zf (vi d) ?_));obtain⟨C,a⟩:=zb a;refine kg (i:=d.toNat) rfl zle rfl (ja (w.mono (b.trans k))) (zg rfl C.1) (zy C) fun az V=>?_
 refine qh rfl zet rfl V fun y W=>?_;refine zh y (zh (.bool true) (z8 (ql ?_)));replace c:=z1i a c;obtain rfl:=Option.some.inj c;refine q8 (D:=[]) (J:=[]) (rs:=[.tmp 6,.tmp 7]) (vs:=[y,(.bool true)]) (((o.trans f).trans b).trans k) rfl rfl ⟨rfl,rfl,trivial⟩ ?_;exact⟨rfl,⟨y,rfl,W⟩⟩
 refine qa (zn (zf (vi d) ?_));obtain⟨X,a⟩:=zb a;refine zk (jh rfl rfl X) (zh (vi (d+1)) (z8 ?_));exact⟨dkt,k,jl,(t,d+1),Nat.lt_succ_self _,⟨rfl,trivial⟩,prm,a,trivial⟩;refine jk ?_;exact⟨dkt,b,jl,(),trivial,prm,(Option.some.inj a).symm,trivial⟩;rintro aA aB aC E ⟨rfl,_⟩
 replace c:=z2x c;refine zi (zh vs0 (zh (.bool false) (z8 (ql ?_))));obtain rfl:=Option.some.inj c;refine q8 (D:=[]) (J:=[]) (rs:=[.tmp 6,.tmp 7]) (vs:=[vs0,(.bool false)]) ((o.trans f).trans E) rfl rfl ⟨rfl,rfl,trivial⟩ ?_;exact⟨rfl,⟨vs0,rfl,z3y⟩⟩
theorem q8o:Enters prog 11:=enters_of func11 rfl (by kernel_rfl)
theorem zbx{N:Nat}{R:RH}{m:Mach}{j:Value}(t:VRep (jm false false) R j m){most:Int}{r:(List Int)×Bool}(c:l5 N m most=some r):CallP prog 12 #[j,(vi most)] R (fun v R'=> ∃ u0,v= .tuple #[u0,(.bool r.2)]∧VRep (tSl false (qb .i64)) R' u0 r.1):=by
 refine qd (args:=[j,(vi most)]) func12 rfl rfl fun A=>?_;rw [l5] at c;refine zi (ky (T:=(jm false false)) rfl rfl rfl t fun v1 R3 n V W=>?_);refine zh vs0 (zh (.bool false) (qw (je rfl z2j z3l rfl W fun v6 X=>?_)));refine qh rfl ty3 rfl X fun v8 Y=>?_;obtain rfl:=jg.1 Y
 refine zf (vi most) ?_;obtain⟨o,E,c⟩:=zq c;refine jd rfl q5a rfl (z7m  E) fun p Z f u=>?_;refine zh p (z8 ?_);obtain⟨w,a,c⟩:=zq c;refine qm (γ:=Unit) (rs [4,6,7,8,12,28]) (fun g=>[]) (fun g=>[]++A) (fun g R=>w=Ex.go g∧True) ?_ ?_
 refine zi (zh (vi 0) (z8 (zx (jb (γ:=Nat×Int) (rs [4,6,7,8,12,28]) (fun g=>[(7,(vi g.2))]) (fun g=>[]++A) (fun g R=>tu N m o g.1 g.2=some w∧True) (fun g=>g.1) (N,0) prm ⟨a,trivial⟩ ?_))));clear a;rintro⟨q,d⟩ aa ab b ⟨a,_⟩;rcases q with _|q;exact qp a
 replace a:tu N m o (q+1) d=some w:=a;rw [tu] at a;refine zw (zi (zf (vi d) (zf p (zk (qo rfl underlying72 rfl (ja (u.mono b))) (zk (j3 rfl rfl) (z8 (zu rfl a (fun a=>?_) (fun a=>?_))))))));refine qa (zw (zx (zw ?_)));obtain⟨y,a⟩:=zb a
 obtain⟨F,G,a⟩:=zq a;refine mf 6 [] [phX j,phX p,phX (vi d),phP (tSl false (qb .i64)) (ix o d),phR (tSl false (qb .i64)) (ix o d),phX (.bool F)] mixed (by kernel_rfl) (bu ⟨zt,zt,zt,uo,gu,zt,trivial⟩) ⟨?_,?_,?_,?_,?_,?_,trivial⟩ fun ac k=>?_;intro l ad e s U
 exact za rfl rfl rfl (zz (jy z1b rfl (s 2 rfl) ((V.mono (f.trans b)).mono e) ((t.mono ((n.trans f).trans b)).mono e)));intro l ae e s U;exact za rfl rfl rfl (zz (ze (s 6 rfl)));intro l af e s U;exact za rfl rfl rfl (zz (ze (s 7 rfl)));rintro l ag e s ⟨z,H,_⟩
 exact za rfl rfl rfl (wm (i:=d.toNat) zle (z rfl) (ja ((u.mono b).mono e)) (zg (H rfl) y.1) (zy y));rintro l ah e s ⟨z,_⟩;exact za rfl rfl rfl (jo zet rfl (z rfl));rintro l ai e s ⟨z,H,_⟩;have I:l 18=j:=z rfl
 exact za rfl rfl rfl (xk (vs:=[j,(l 22)]) q82 (by simp only [List.map,ev,I]<;>rfl) (zbb ((t.mono ((n.trans f).trans b)).mono e) (H rfl) G) (fun _ _ h=>h));intro aj K ak L al M am an ao ap aq O;obtain rfl:=Eq.symm K;obtain rfl:=Eq.symm L;obtain rfl:=Eq.symm M;obtain rfl:=Eq.symm O
 refine z8 (zu rfl a (fun a=>?_) (fun a=>?_));refine zi (zf p (zf (vi d) ?_));obtain⟨B,a⟩:=zb a;refine kg (i:=d.toNat) rfl zle rfl (ja (u.mono (b.trans k))) (zg rfl B.1) (zy B) fun ar P=>?_;refine qh rfl zet rfl P fun x Q=>?_;refine zh x (zh (.bool true) (z8 (ql ?_)))
 replace c:=z1i a c;obtain rfl:=Option.some.inj c;refine q8 (D:=[]) (J:=[]) (rs:=[.tmp 4,.tmp 5]) (vs:=[x,(.bool true)]) (((n.trans f).trans b).trans k) rfl rfl ⟨rfl,rfl,trivial⟩ ?_;exact⟨rfl,⟨x,rfl,Q⟩⟩;refine qa (zn (zf (vi d) ?_));obtain⟨S,a⟩:=zb a
 refine zk (jh rfl rfl S) (zh (vi (d+1)) (z8 ?_));exact⟨dkt,k,jl,(q,d+1),Nat.lt_succ_self _,⟨rfl,trivial⟩,prm,a,trivial⟩;refine jk ?_;exact⟨dkt,b,jl,(),trivial,prm,(Option.some.inj a).symm,trivial⟩;rintro au av aw C ⟨rfl,_⟩;replace c:=z2x c
 refine zi (zh vs0 (zh (.bool false) (z8 (ql ?_))));obtain rfl:=Option.some.inj c;refine q8 (D:=[]) (J:=[]) (rs:=[.tmp 4,.tmp 5]) (vs:=[vs0,(.bool false)]) ((n.trans f).trans C) rfl rfl ⟨rfl,rfl,trivial⟩ ?_;exact⟨rfl,⟨vs0,rfl,z3y⟩⟩
theorem q7h:Enters prog 12:=enters_of func12 rfl (by kernel_rfl)
theorem z8m{N:Nat}{R:RH}{x:Sj}{H:Value}(I:VRep (z0j false false) R H x){s:Int}{most:Int}{r:Bool}(a:og N x s most=some r):CallP prog 3 #[H,(.int .u8 s),(.int .u8 most)] R (fun v R'=>v=(.bool r)):=by
 refine qd (args:=[H,(.int .u8 s),(.int .u8 most)]) func3 rfl rfl fun A=>?_;rw [og] at a;refine zi (ky (T:=(z0j false false)) rfl rfl rfl I fun v1 R3 z h5 h2=>?_);refine zh (.bool false) (qw (zk (jy q8r rfl rfl h5 (I.mono z)) ?_));obtain⟨e,c7,a⟩:=zq a
 refine jd rfl en8 rfl (zcn (I.mono z) c7) fun v8 aU G h9=>?_;refine ko rfl zqq fun S=>?_;obtain⟨K,rfl,o⟩:=zek h9;refine jr (i:=0) (vs:=[(vi e.inputs),(vi e.outputs),K]) z8g rfl rfl rfl rfl rfl rfl (qc rfl (qc rfl (qc (z6p o) jq))) ?_;refine qw (zf (.int .u8 s) ?_)
 obtain⟨ag,a⟩:=zb a;refine zk (z3c underlying5 underlying3 rfl ag) (zk (qi xe rfl) (zk (qj (i:=0) zqw rfl rfl rfl) (zk (qo rfl underlying28 rfl (ja o)) ?_)));obtain⟨ah,a⟩:=zb a;refine zk (z4e rfl rfl ah) (zh (vi (s%(↑e.rows.length:Int))) (qw (zf (.int .u8 most) ?_)))
 obtain⟨ai,a⟩:=zb a;refine zk (z3c underlying5 underlying3 rfl ai) ?_;obtain⟨aj,a⟩:=zb a;refine zk (z4e rfl rfl aj) (zh (vi (most%7)) (qw (zk (w9 (i:=0) zdp z8g rfl rfl rfl rfl) (zf (vi (s%(↑e.rows.length:Int))) (zf (vi (most%7)) ?_)))));obtain⟨c,ak,a⟩:=zq a
 refine jd rfl en9 rfl (z8l (⟨_,⟨_,_,rfl,rfl,⟨_,_,rfl,rfl,(kz rfl o)⟩⟩,rfl⟩:VRep (jm false false) _ _ (⟨e.inputs,e.outputs,e.rows⟩:Mach)) ak) fun aW aX f al=>?_;obtain⟨B,rfl,am⟩:=al
 refine zf (.tuple #[B,(vi c.2)]) (zk (jc rfl rfl) (zk (jc rfl rfl) (zh B (zh (vi c.2) (qw (zk (w9 (i:=0) zdp z8g rfl rfl rfl rfl) (zf (vi (most%7)) ?_)))))));obtain⟨g,an,a⟩:=zq a
 refine jd rfl q3d rfl (z8b (⟨_,⟨_,_,rfl,rfl,⟨_,_,rfl,rfl,(kz rfl (o.mono f))⟩⟩,rfl⟩:VRep (jm false false) _ _ (⟨e.inputs,e.outputs,e.rows⟩:Mach)) an) fun aY aZ j ao=>?_;obtain⟨C,rfl,ap⟩:=ao
 refine zf (.tuple #[C,(vi g.2)]) (zk (jc rfl rfl) (zk (jc rfl rfl) (zh C (zh (vi g.2) (qw (zk (w9 (i:=0) zdp z8g rfl rfl rfl rfl) (zf (vi (s%(↑e.rows.length:Int))) (zf (vi (most%7)) ?_))))))));obtain⟨p,aq,a⟩:=zq a
 refine jd rfl q8o rfl (zdl (⟨_,⟨_,_,rfl,rfl,⟨_,_,rfl,rfl,(kz rfl (o.mono (f.trans j)))⟩⟩,rfl⟩:VRep (jm false false) _ _ (⟨e.inputs,e.outputs,e.rows⟩:Mach)) aq) fun a0 a1 k ar=>?_;obtain⟨E,rfl,av⟩:=ar
 refine zf (.tuple #[E,(.bool p.2)]) (zk (jc rfl rfl) (zk (jc rfl rfl) (zh E (zh (.bool p.2) (qw (zk (w9 (i:=0) zdp z8g rfl rfl rfl rfl) (zf (vi (most%7)) ?_)))))));obtain⟨t,aw,a⟩:=zq a
 refine jd rfl q7h rfl (zbx (⟨_,⟨_,_,rfl,rfl,⟨_,_,rfl,rfl,(kz rfl (o.mono ((f.trans j).trans k)))⟩⟩,rfl⟩:VRep (jm false false) _ _ (⟨e.inputs,e.outputs,e.rows⟩:Mach)) aw) fun a2 a3 l ay=>?_;obtain⟨F,rfl,az⟩:=ay
 refine zf (.tuple #[F,(.bool t.2)]) (zk (jc rfl rfl) (zk (jc rfl rfl) (zh F (zh (.bool t.2) (z8 (zw (zi (jv (v:=(vi c.2)) rfl (ze rfl) (jv rfl (bz rfl rfl) (jv (v:=(.bool p.2)) rfl (ze rfl) (jv rfl (zpo underlying4 rfl rfl) (jv (v:=(.bool (decide ((decide (c.2=0))≠p.2)))) rfl (ze rfl) (ji rfl rfl rfl rfl (fun b=>qx (v:=(vi g.2)) (ze rfl)) fun a4 aA=>?_)))))))))))))
 refine ji rfl rfl rfl rfl (fun b=>qx (bz (aA.1 (zo rfl b)) rfl)) fun a5 aB=>?_;refine ji rfl rfl rfl rfl (fun b=>qx (v:=(.bool t.2)) (ze rfl)) fun a6 aC=>?_;refine ji rfl rfl rfl rfl (fun b=>qx (zpo underlying4 (aB.1 (zo rfl b)) (aC.1 (zo rfl b)))) fun a7 aD=>?_
 refine jv rfl (au rfl rfl (fun q=>(aD.1 (zo rfl q)))) (jv (v:=(.bool ((decide ((decide (c.2=0))≠p.2))||(decide ((decide (g.2=0))≠t.2))))) rfl (ze rfl) (ji rfl rfl rfl rfl (fun b=>qx (v:=(vi c.2)) (ze rfl)) fun a8 aE=>?_));refine ji rfl rfl rfl rfl (fun b=>qx (pg (aE.1 (zo rfl b)) rfl)) fun a9 aF=>?_
 refine ji rfl rfl rfl rfl (fun b=>qx (v:=(.bool (decide (c.2≠0)))) (ze (aF.1 (zo rfl b)))) fun ba L=>?_;refine zhq rfl rfl rfl L (fun U b=>qx (v:=(vi c.2)) (ze rfl)) fun bb aG=>?_;refine zhq rfl rfl rfl L (fun U b=>qx (pg (aG.1 (zo U b)) rfl)) fun bc aH=>?_
 refine ji rfl rfl rfl rfl (fun b=>qx (mg (L.1 (zo rfl b)) (fun q=>(aH.1 (zo (zo rfl b) q))) rfl)) fun be aI=>?_
 refine jv rfl (au rfl rfl (fun q=>(aI.1 (zo rfl q)))) (jv (v:=(.bool (((decide ((decide (c.2=0))≠p.2))||(decide ((decide (g.2=0))≠t.2)))||((decide (c.2≠0))&&(decide (c.2≠7)))))) rfl (ze rfl) (ji rfl rfl rfl rfl (fun b=>qx (v:=(vi g.2)) (ze rfl)) fun bf aJ=>?_))
 refine ji rfl rfl rfl rfl (fun b=>qx (pg (aJ.1 (zo rfl b)) rfl)) fun bg aK=>?_;refine ji rfl rfl rfl rfl (fun b=>qx (v:=(.bool (decide (g.2≠0)))) (ze (aK.1 (zo rfl b)))) fun bh M=>?_;refine zhq rfl rfl rfl M (fun U b=>qx (v:=(vi g.2)) (ze rfl)) fun bi aL=>?_
 refine zhq rfl rfl rfl M (fun U b=>qx (pg (aL.1 (zo U b)) rfl)) fun bj aM=>?_;refine ji rfl rfl rfl rfl (fun b=>qx (mg (M.1 (zo rfl b)) (fun q=>(aM.1 (zo (zo rfl b) q))) rfl)) fun aN V=>?_;refine jv rfl (au rfl rfl (fun q=>(V.1 (zo rfl q)))) (z8 (zu rfl a (fun a=>?_) (fun a=>?_)))
 refine zi (zh (.bool false) (z8 (ql ?_)));obtain rfl:=Option.some.inj a;refine q8 (D:=[]) (J:=[box S [(vi e.inputs),(vi e.outputs),K] 30]) (rs:=[.tmp 6]) (vs:=[(.bool false)]) (((((z.trans G).trans f).trans j).trans k).trans l) rfl rfl ⟨rfl,trivial⟩ ?_;exact⟨rfl,rfl⟩
 refine qa (zi (jv (v:=B) rfl (ze rfl) (jv (v:=E) rfl (ze rfl) ?_)));obtain⟨d,W,a⟩:=zq a;refine z2k (φ:=phX (.bool d)) rfl (xk (vs:=[B,E]) zze rfl (z0c (am.mono ((j.trans k).trans l)) (av.mono l) W) (fun _ _ h=>h)) fun aO aP n X=>?_;obtain rfl:=Eq.symm X
 refine jv (v:=(.bool d)) rfl (ze rfl) (ji rfl rfl rfl rfl (fun b=>qx (v:=C) (ze rfl)) fun aQ Y=>?_);refine ji rfl rfl rfl rfl (fun b=>qx (v:=F) (ze rfl)) fun aR Z=>?_;obtain⟨m,aa,a⟩:=zq a
 refine z5v rfl rfl rfl rfl (fun b=>xk (vs:=[C,F]) zze (z9z (Y.1 (zo rfl b)) (z9z (Z.1 (zo rfl b)) rfl)) ((by have O:=(z3w aa (zo rfl b));exact z0c (ap.mono ((k.trans l).trans n)) (az.mono n) O)) (fun _ _ h=>h)) fun ab ac P u=>?_
 replace u:phG (true&&(d==true)) (phX (.bool (m.getD default))) ab ac:=u;refine jv rfl (mg rfl (fun q=>(u.1 (zo rfl q))) rfl) (jv (v:=(.bool (d&&(m.getD default)))) rfl (ze rfl) ?_);obtain⟨w,ad,a⟩:=zq a
 refine z5v rfl rfl rfl rfl (fun b=>xk (vs:=[]) q7r rfl ((by have O:=(z3w ad (zo rfl b));exact zbs  O)) (fun _ _ h=>h)) fun ae af Q y=>?_;replace y:phG (true&&((d&&(m.getD default))==true)) (phX (.bool (w.getD default))) ae af:=y
 refine jv rfl (mg rfl (fun q=>(y.1 (zo rfl q))) rfl) (jv (v:=(.bool ((d&&(m.getD default))&&(w.getD default)))) rfl (ax rfl) (z8 (ql ?_)));obtain rfl:=Option.some.inj a
 refine q8 (D:=[]) (J:=[box S [(vi e.inputs),(vi e.outputs),K] 30]) (rs:=[.tmp 6]) (vs:=[(.bool ((d&&(m.getD default))&&(w.getD default)))]) ((((((((z.trans G).trans f).trans j).trans k).trans l).trans n).trans P).trans Q) rfl rfl ⟨rfl,trivial⟩ ?_;exact⟨rfl,rfl⟩
end GV
end Go.Proofs.Ytnnobdkjgafdmaa
