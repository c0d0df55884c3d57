import Derived.Test.YtncblcdhmcmkmaaShWd
import Derived.Test.YtncblcdhmcmkmaaShXa
import Derived.Test.YtncblcdhmcmkmaaShXb
import Derived.Test.YtncblcdhmcmkmaaShXc
import Derived.Test.YtncblcdhmcmkmaaShXe
import Derived.Test.YtncblcdhmcmkmaaRows
set_option linter.unusedVariables false
set_option linter.unusedSimpArgs false
namespace Go.Proofs.Ytncblcdhmcmkmaa
namespace GV
open _root_.Go.Proofs.Try
open Go.IntWalk
set_option maxRecDepth 100000
set_option maxHeartbeats 20000000
theorem z97{N:Nat}{R:RH}{a:(List Int)}{f:Value}(l:VRep (tSl false (zw .i64)) R f a){b:(List Int)}{j:Value}(m:VRep (tSl false (zw .i64)) R j b){r:Int}(d:fo N a b=some r):CallP prog 66 #[f,j] R (fun v R'=>v=(vi r)):=by
 refine ql (args:=[f,j]) func66 rfl rfl fun A=>?_;rw [fo] at d;refine zn (zi (vi 0) (za (q8 (zn (zl f (zq (qh rfl underlying36 rfl (j4 l)) (zl j (zq (qh rfl underlying36 rfl (j4 m)) (zq (wz rfl rfl) (za (zz rfl d (fun d=>?_) (fun d=>?_))))))))))))
 refine q8 (zn (zl f (zq (qh rfl underlying36 rfl (j4 l)) (zl j (zq (qh rfl underlying36 rfl (j4 m)) (zq (jh rfl rfl) (za (zz rfl d (fun d=>?_) (fun d=>?_)))))))));refine zn (zi (vi 1) (za (qw ?_)));obtain rfl:=Option.some.inj d
 refine qd (D:=[]) (J:=[]) (rs:=[.tmp 4]) (vs:=[(vi 1)]) (RH.le.refl _) rfl rfl ⟨rfl,trivial⟩ ?_;exact⟨rfl,rfl⟩;refine qg (zn (zi (vi 0) (za (qw ?_))));obtain rfl:=Option.some.inj d;refine qd (D:=[]) (J:=[]) (rs:=[.tmp 4]) (vs:=[(vi 0)]) (RH.le.refl _) rfl rfl ⟨rfl,trivial⟩ ?_;exact⟨rfl,rfl⟩;refine qg ?_
 obtain⟨u,c,d⟩:=zk d;refine je (γ:=Unit) (rs [4,6,16,40]) (fun g=>[]) (fun g=>[]++A) (fun g R=>u=Ex.go g∧True) ?_ ?_
 refine zn (zi (vi 0) (za (qc (jq (γ:=Nat×Int) (rs [4,6,16,40]) (fun g=>[(5,(vi g.2))]) (fun g=>[]++A) (fun g R=>p8 N a b g.1 g.2=some u∧True) (fun g=>g.1) (N,0) prm ⟨c,trivial⟩ ?_))));clear c;rintro⟨t,k⟩ E O e ⟨c,_⟩;rcases t with _|t;exact jf c
 replace c:p8 N a b (t+1) k=some u:=c;rw [p8] at c;refine q8 (zn (zl (vi k) (zl f (zq (qh rfl underlying36 rfl (j4 (l.mono e))) (zq (jh rfl rfl) (za (zz rfl c (fun c=>?_) (fun c=>?_))))))))
 refine qg (q8 (qc (q8 (z1i 9 mixed (by kernel_rfl) (by kernel_rfl) ?_))));refine u7 (v:=f) (z8 rfl) ?_;refine u7 (v:=(vi k)) (z8 rfl) ?_;obtain⟨o,c⟩:=ze c;refine z07 (ut (i:=k.toNat) z0k rfl (j4 (l.mono e)) (zg rfl o.1) (qb o)) fun F w=>?_;refine u7 (aa (j5 ty3 rfl w)) ?_
 refine u7 (v:=j) (z8 rfl) ?_;refine u7 (v:=(vi k)) (z8 rfl) ?_;obtain⟨p,c⟩:=ze c;refine z07 (ut (i:=k.toNat) z0k rfl (j4 (m.mono e)) (zg rfl p.1) (qb p)) fun G x=>?_;refine u7 (aa (j5 ty3 rfl x)) ?_;refine u7 (wz rfl rfl) ?_;intro H h
 refine za (zz rfl c (fun c=>?_) (fun c=>?_));refine q8 (q8 (z1i 9 mixed (by kernel_rfl) (by kernel_rfl) ?_));refine u7 (v:=f) (z8 rfl) ?_;refine u7 (v:=(vi k)) (z8 rfl) ?_;obtain⟨q,c⟩:=ze c
 refine z07 (ut (i:=k.toNat) z0k rfl (j4 (l.mono (e.trans h))) (zg rfl q.1) (qb q)) fun I y=>?_;refine u7 (aa (j5 ty3 rfl y)) ?_;refine u7 (v:=j) (z8 rfl) ?_;refine u7 (v:=(vi k)) (z8 rfl) ?_;obtain⟨s,c⟩:=ze c
 refine z07 (ut (i:=k.toNat) z0k rfl (j4 (m.mono (e.trans h))) (zg rfl s.1) (qb s)) fun K z=>?_;refine u7 (aa (j5 ty3 rfl z)) ?_;refine u7 (jh rfl rfl) ?_;intro L n;refine za (zz rfl c (fun c=>?_) (fun c=>?_));refine zn (zi (vi 1) (za (qw ?_)));replace d:=z0o c d
 obtain rfl:=Option.some.inj d;refine qd (D:=[]) (J:=[]) (rs:=[.tmp 4]) (vs:=[(vi 1)]) ((e.trans h).trans n) rfl rfl ⟨rfl,trivial⟩ ?_;exact⟨rfl,rfl⟩;refine qg (zn (zi (vi 0) (za (qw ?_))));replace d:=z0o c d;obtain rfl:=Option.some.inj d
 refine qd (D:=[]) (J:=[]) (rs:=[.tmp 4]) (vs:=[(vi 0)]) ((e.trans h).trans n) rfl rfl ⟨rfl,trivial⟩ ?_;exact⟨rfl,rfl⟩;refine qg (qf (zl (vi k) ?_));obtain⟨B,c⟩:=ze c;refine zq (jl rfl rfl B) (zi (vi (k+1)) (za ?_))
 exact⟨dkt,h,uf,(t,k+1),Nat.lt_succ_self _,⟨rfl,trivial⟩,prm,c,trivial⟩;refine kv ?_;exact⟨dkt,e,uf,(),trivial,prm,(Option.some.inj c).symm,trivial⟩;rintro P M Q C ⟨rfl,_⟩;replace d:=z2s d;refine zn (zi (vi 0) (za (qw ?_)));obtain rfl:=Option.some.inj d
 refine qd (D:=[]) (J:=[]) (rs:=[.tmp 4]) (vs:=[(vi 0)]) C rfl rfl ⟨rfl,trivial⟩ ?_;exact⟨rfl,rfl⟩
theorem zvz:Enters prog 66:=enters_of func66 rfl (by kernel_rfl)
theorem z8z{N:Nat}{R:RH}{m:Mach}{ah:Value}(ai:VRep (qy false false) R ah m){r:(List Int)}(H:z0q N m=some r):CallP prog 49 #[ah] R (fun v R'=>VRep (tSl false (zw .i64)) R' v r):=by
 refine ql (args:=[ah]) func49 rfl rfl fun A=>?_;rw [z0q] at H;refine zn (uj (T:=(qy false false)) rfl rfl rfl ai fun v1 R3 aj h5 h2=>?_);refine zi vs0 (jd (zq (jr z1x rfl rfl h5 (ai.mono aj)) ?_));obtain⟨U,c7,H⟩:=zk H
 refine qx rfl zsb rfl (z0v (ai.mono aj) c7) fun v8 bw ar h9=>?_;obtain⟨C,ak,rfl,al,aW⟩:=h9;refine zl (.tuple #[C,ak]) (zq (qa rfl rfl) (zq (qa rfl rfl) (zi C (zi ak (jd (zi vs0 (za ?_)))))));obtain⟨K,n,H⟩:=zk H
 refine je (γ:=(List Int)×Value×Frag) (rs [5,9,14,60]) (fun g=>[(5,g.2.1)]) (fun g=>[g.2.2]++A) (fun g R=>K=g.1∧ORep (zw .i64) R g.2.2 g.2.1 g.1∧True) ?_ ?_;refine zn (zi (vi 0) (za (qc (z1z ?_))))
 refine jq (γ:=Nat×(List Int)×Int×Value×Frag) (rs [5,9,14,60]) (fun g=>[(5,g.2.2.2.1),(6,(vi g.2.2.1))]) (fun g=>[g.2.2.2.2]++A) (fun g R=>gy N U g.1 g.2.1 g.2.2.1=some K∧ORep (zw .i64) R g.2.2.2.2 g.2.2.2.1 g.2.1∧True) (fun g=>g.1) (N,[],0,vs0,emp) prm ⟨n,(l8 (T:=(zw .i64))),trivial⟩ ?_;clear n
 rintro⟨M,a,d,q,O⟩ bb bz z ⟨n,I,_⟩;rcases M with _|M;exact jf n;replace n:gy N U (M+1) a d=some K:=n;rw [gy] at n
 refine q8 (zn (zl (vi d) (zl C (zq (qh rfl underlying29 rfl (j4 (al.mono z))) (zq (jh rfl rfl) (za (zz rfl n (fun n=>?_) (fun n=>?_))))))));refine qg ?_;obtain⟨am,e,n⟩:=zk n
 refine je (γ:=(List Int)×Value×Frag) (rs [5,6,7,9,20,60]) (fun g=>[(5,g.2.1)]) (fun g=>[g.2.2]++A) (fun g R=>am=g.1∧ORep (zw .i64) R g.2.2 g.2.1 g.1∧True) ?_ ?_;refine qc (q8 (zn (zl ak (zl (vi d) ?_))));obtain⟨au,e⟩:=ze e
 refine ky (i:=d.toNat) rfl z5w rfl (j4 (aW.mono z)) (zg rfl au.1) (qb au) fun bA aX=>?_;refine qp rfl ty4 rfl aX fun bB aY=>?_;obtain rfl:=o7.1 aY;refine zq (dn rfl) (za (zz rfl e (fun e=>?_) (fun e=>?_)));refine kv ?_
 exact⟨dkt,(RH.le.refl _),uf,(a,q,O),⟨rfl,trivial⟩,prm,(Option.some.inj e).symm,I,trivial⟩;refine qg (zn (zi (vi 0) (za ?_)));obtain⟨f,k,e⟩:=zk e;refine je (γ:=Int) (rs [7,8,25,46]) (fun g=>[(7,(vi g))]) (fun g=>[O]++A) (fun g R=>f=g∧True) ?_ ?_
 refine qc (jq (γ:=Nat×Int) (rs [7,8,25,46]) (fun g=>[(7,(vi g.2))]) (fun g=>[O]++A) (fun g R=>bf N U a d g.1 g.2=some f∧True) (fun g=>g.1) (N,0) prm ⟨k,trivial⟩ ?_);clear k;rintro⟨P,b⟩ bc bC t ⟨k,_⟩;rcases P with _|P;exact jf k
 replace k:bf N U a d (P+1) b=some f:=k;rw [bf] at k;refine q8 (q8 ?_);obtain⟨an,av,aw,k⟩:=zoy k;obtain⟨L,aZ,k⟩:=zk k
 refine tq 19 [] [phX (vi b),phX q,phX (vi (↑a.length:Int)),phX (.bool (decide (b<(↑a.length:Int)))),phX (.bool (decide (b<(↑a.length:Int)))),phG (true&&((decide (b<(↑a.length:Int)))==true)) (phX C),phG (true&&((decide (b<(↑a.length:Int)))==true)) (phX q),phG (true&&((decide (b<(↑a.length:Int)))==true)) (phX (vi b)),phG (true&&((decide (b<(↑a.length:Int)))==true)) ((fun u _=>z2d (zw .i64) q a u b.toNat)),phG (true&&((decide (b<(↑a.length:Int)))==true)) (phX (vi (ix a b))),phG (true&&((decide (b<(↑a.length:Int)))==true)) (phP (tSl false (zw .i64)) (ix U.1 (ix a b))),phG (true&&((decide (b<(↑a.length:Int)))==true)) (phR (tSl false (zw .i64)) (ix U.1 (ix a b))),phG (true&&((decide (b<(↑a.length:Int)))==true)) (phX C),phG (true&&((decide (b<(↑a.length:Int)))==true)) (phX (vi d)),phG (true&&((decide (b<(↑a.length:Int)))==true)) (phP (tSl false (zw .i64)) (ix U.1 d)),phG (true&&((decide (b<(↑a.length:Int)))==true)) (phR (tSl false (zw .i64)) (ix U.1 d)),phG (true&&((decide (b<(↑a.length:Int)))==true)) (phX (vi (L.getD default))),phG (true&&((decide (b<(↑a.length:Int)))==true)) (phX (.bool (decide ((L.getD default)=1)))),phX (.bool ((decide (b<(↑a.length:Int)))&&(decide ((L.getD default)=1))))] mixed (by kernel_rfl) (di ⟨zm,zm,zm,zm,zm,(jb zm),(jb zm),(jb zm),(jb (fun _ _ _ _ h=>h)),(jb zm),(jb ik),(jb gz),(jb zm),(jb zm),(jb ik),(jb gz),(jb zm),(jb zm),zm,trivial⟩) ⟨?_,?_,?_,?_,?_,?_,?_,?_,?_,?_,?_,?_,?_,?_,?_,?_,?_,?_,?_,trivial⟩ fun bD V=>?_
 intro l bE c s hd;exact zb rfl rfl rfl (zt (z8 (s 7 rfl)));intro l bG c s hd;exact zb rfl rfl rfl (zt (z8 (s 5 rfl)));rintro l bH c s ⟨o,_⟩;exact zb rfl rfl rfl (zt (z6k rfl underlying36 (o rfl) ((I.mono t).mono c)));rintro l bI c s ⟨o,x,_⟩;exact zb rfl rfl rfl (zt (jh (o rfl) (x rfl)))
 rintro l bJ c s ⟨o,_⟩;exact zb rfl rfl rfl (zt (z8 (o rfl)));rintro l bK c s ⟨o,_⟩;exact zx (Gj:=true) (Bj:=decide (b<(↑a.length:Int))) rfl rfl rfl (yg (o rfl)) rfl (fun w p=>zt (z8 (s 3 rfl)));rintro l bL c s ⟨o,_⟩
 exact zx (Gj:=true) (Bj:=decide (b<(↑a.length:Int))) rfl rfl rfl (yg (o rfl)) rfl (fun w p=>zt (z8 (s 5 rfl)));rintro l bM c s ⟨o,_⟩;exact zx (Gj:=true) (Bj:=decide (b<(↑a.length:Int))) rfl rfl rfl (yg (o rfl)) rfl (fun w p=>zt (z8 (s 7 rfl)));rintro l bN c s ⟨o,x,d2,_⟩
 exact zx (Gj:=true) (Bj:=decide (b<(↑a.length:Int))) rfl rfl rfl (yg (d2 rfl)) rfl (fun w p=>z0y (i:=b.toNat) z0k (show l 31=q from(o rfl).1 (zf rfl p)) ((I.mono t).mono c) (zg (show l 32=(vi b) from(x rfl).1 (zf rfl p)) (an (zf w p)).1) (qb (an (zf w p))));rintro l bO c s ⟨o,x,_⟩
 exact zx (Gj:=true) (Bj:=decide (b<(↑a.length:Int))) rfl rfl rfl (yg (x rfl)) rfl (fun w p=>mq (z7x (i:=b.toNat) (j:=0) ty3 ((I.mono t).mono c) rfl rfl ((o rfl).1 (zf rfl p)) (qb (an (zf w p)))) (fun _ _ h=>jc.1 h));rintro l be c s ⟨o,x,d2,_⟩
 exact zx (Gj:=true) (Bj:=decide (b<(↑a.length:Int))) rfl rfl rfl (yg (d2 rfl)) rfl (fun w p=>ig (i:=(ix a b).toNat) z7y (show l 30=C from(o rfl).1 (zf rfl p)) (j4 ((al.mono (z.trans t)).mono c)) (zg (show l 34=(vi (ix a b)) from(x rfl).1 (zf rfl p)) (av (zf w p)).1) (qb (av (zf w p))))
 rintro l bg c s ⟨o,x,_⟩;exact zx (Gj:=true) (Bj:=decide (b<(↑a.length:Int))) rfl rfl rfl (yg (x rfl)) rfl (fun w p=>xn z6v rfl ((o rfl).1 (zf rfl p)));rintro l bh c s ⟨o,_⟩;exact zx (Gj:=true) (Bj:=decide (b<(↑a.length:Int))) rfl rfl rfl (yg (o rfl)) rfl (fun w p=>zt (z8 (s 3 rfl)))
 rintro l bi c s ⟨o,_⟩;exact zx (Gj:=true) (Bj:=decide (b<(↑a.length:Int))) rfl rfl rfl (yg (o rfl)) rfl (fun w p=>zt (z8 (s 6 rfl)));rintro l bj c s ⟨o,x,d2,_⟩
 exact zx (Gj:=true) (Bj:=decide (b<(↑a.length:Int))) rfl rfl rfl (yg (d2 rfl)) rfl (fun w p=>ig (i:=d.toNat) z7y (show l 37=C from(o rfl).1 (zf rfl p)) (j4 ((al.mono (z.trans t)).mono c)) (zg (show l 38=(vi d) from(x rfl).1 (zf rfl p)) (aw (zf w p)).1) (qb (aw (zf w p))))
 rintro l bk c s ⟨o,x,_⟩;exact zx (Gj:=true) (Bj:=decide (b<(↑a.length:Int))) rfl rfl rfl (yg (x rfl)) rfl (fun w p=>xn z6v rfl ((o rfl).1 (zf rfl p)));rintro l bl c s ⟨o,x,d2,d3,_⟩
 exact zx (Gj:=true) (Bj:=decide (b<(↑a.length:Int))) rfl rfl rfl (yg (d2 rfl)) rfl (fun w p=>ja (vs:=[(l 36),(l 40)]) zvz rfl ((by have a0:=(xq aZ (zf w p));exact z97 ((o rfl).1 (zf rfl p)) ((x rfl).1 (zf rfl p)) a0)) (fun _ _ h=>h));rintro l bm c s ⟨o,x,_⟩
 exact zx (Gj:=true) (Bj:=decide (b<(↑a.length:Int))) rfl rfl rfl (yg (x rfl)) rfl (fun w p=>zt (lq (show l 41=(vi (L.getD default)) from(o rfl).1 (zf rfl p)) rfl));rintro l bn c s ⟨o,x,_⟩
 exact zb rfl rfl rfl (zt (vk (o rfl) (fun hb=>(show l 42=(.bool (decide ((L.getD default)=1))) from(x rfl).1 (zf rfl hb))) rfl));intro bQ a1 bR a2 bS a3 bT a4 bU a5 bV bW bX bY bZ b0 b1 b2 b3 b4 b5 b6 b7 b8 b9 ca cb cc cd ce cf cg ch ci cj ck cl a6;obtain rfl:=Eq.symm a1;obtain rfl:=Eq.symm a2;obtain rfl:=Eq.symm a3
 obtain rfl:=Eq.symm a4;obtain rfl:=Eq.symm a5;obtain rfl:=Eq.symm a6;refine za (zz rfl k (fun k=>?_) (fun k=>?_));refine qg (qc (qf (zl (vi b) ?_)));obtain⟨ay,k⟩:=ze k;refine zq (jl rfl rfl ay) (zi (vi (b+1)) (za ?_))
 exact⟨dkt,V,uf,(P,b+1),Nat.lt_succ_self _,⟨rfl,trivial⟩,prm,k,trivial⟩;refine kv ?_;exact⟨dkt,(t.trans V),uf,b,⟨rfl,trivial⟩,prm,(Option.some.inj k).symm,trivial⟩;rintro f bo cm W ⟨rfl,_⟩
 refine zn (zi vs0 (jd (zl vs0 (zl q (zl (vi f) (ww (i:=0) rfl (I.mono W) fun Z ap az=>?_))))));have E:VRep (tSl false (zw .i64)) Z q a:=(z3l az);obtain⟨F,e⟩:=ze e
 refine zcv (v:=q) (lo:=(0:Int).toNat) (hi:=f.toNat) (mx:=(capOf q)) rfl z0k rfl (j4 E) (.inl ⟨rfl,rfl⟩) (.inr ⟨_,congrArg some (zg rfl (zfy F))⟩) (.inl ⟨rfl,rfl⟩) (z9d F) (z4o F) (Nat.le_trans (z4o F) (zqg (j4 E))) (Nat.le_refl _) (X':=(cut a 0 f)) rfl fun aA aB aU=>?_
 have aC:VRep (tSl false (zw .i64)) Z aA (cut a 0 f):=z3l aB;refine zq5 ?_;obtain⟨aa,e⟩:=ze e;refine dw (i:=0) (X:=([]:List Int)) (Y:=(cut a 0 f)) rfl underlying36 zo3 rfl rfl rfl (l8 (T:=(zw .i64))) (j4 aC) aa.1 aa.2 fun ab bp aD=>?_
 refine zi ab (jd (zl ab (zl (vi d) (ax (T:=(zw .i64)) (X:=([d]:List Int)) (ps:=[(0,(vi d))]) (css:=[[(vi d)]]) rfl underlying36 zo3 rfl rfl (kg ⟨rfl,trivial⟩) rfl rfl (by decide) fun aE bq Q aF=>?_))));refine ww (i:=0) rfl aF fun ac y aG=>?_
 have aH:VRep (tSl true (zw .i64)) ac aE ([d]:List Int):=(z1b aG Q);obtain⟨ad,e⟩:=ze e;refine dw (i:=0) (X:=(([]:List Int)++(cut a 0 f))) (Y:=([d]:List Int)) rfl underlying36 zo3 rfl rfl rfl (aD.mono y) (j4 (Sub.v (B:=(tSl false (zw .i64))) (jk Sub.refl (fun _=>rfl)) aH)) ad.1 ad.2 fun ae br aI=>?_
 refine zi ae (za (qf (zl ae (zl q (zl (vi f) ?_)))));obtain⟨G,e⟩:=ze e
 refine zcv (v:=q) (lo:=f.toNat) (hi:=(↑a.length:Int).toNat) (mx:=(capOf q)) rfl z0k rfl (j4 (E.mono y)) (.inr ⟨_,congrArg some (zg rfl G.1)⟩) (.inl ⟨rfl,rfl,rfl⟩) (.inl ⟨rfl,rfl⟩) (z9d G) (z4o G) (Nat.le_trans (z4o G) (zqg (j4 (E.mono y)))) (Nat.le_refl _) (X':=(cut a f (↑a.length:Int))) rfl fun aJ aK aV=>?_
 have aL:VRep (tSl false (zw .i64)) ac aJ (cut a f (↑a.length:Int)):=z3l aK;obtain⟨af,e⟩:=ze e;refine dw (i:=0) (X:=((([]:List Int)++(cut a 0 f))++([d]:List Int))) (Y:=(cut a f (↑a.length:Int))) rfl underlying36 zo3 rfl rfl rfl aI (j4 aL) af.1 af.2 fun ag aM aN=>?_;refine zi ag (za ?_)
 exact⟨dkt,((W.trans ap).trans y),uf,((((([]:List Int)++(cut a 0 f))++([d]:List Int))++(cut a f (↑a.length:Int))),ag,aM),⟨rfl,trivial⟩,prm,(Option.some.inj e).symm,aN,trivial⟩;rintro⟨am,a7,a8⟩ bs cn aO ⟨rfl,a9,_⟩;refine qf (zl (vi d) ?_);obtain⟨aP,n⟩:=ze n
 refine zq (jl rfl rfl aP) (zi (vi (d+1)) (za ?_));exact⟨dkt,aO,uf,(M,am,d+1,a7,a8),Nat.lt_succ_self _,⟨rfl,rfl,trivial⟩,prm,n,a9,trivial⟩;refine kv ?_;exact⟨dkt,z,uf,(a,q,O),⟨rfl,trivial⟩,prm,(Option.some.inj n).symm,I,trivial⟩;rintro⟨K,S,co⟩ bt cp aQ ⟨rfl,ba,_⟩
 refine zn (zl S (zi S (za (lh (i:=0) rfl ba fun aR aq aS=>?_))));have aT:VRep (tSl false (zw .i64)) aR S K:=(z3l aS);refine qw ?_;obtain rfl:=Option.some.inj H;refine qd (D:=[]) (J:=[]) (rs:=[.tmp 2]) (vs:=[S]) (((aj.trans ar).trans aQ).trans aq) rfl rfl ⟨rfl,trivial⟩ ?_;exact⟨rfl,aT⟩
theorem zvn:Enters prog 49:=enters_of func49 rfl (by kernel_rfl)
theorem z14{N:Nat}{R:RH}{m:Mach}{b:Value}(e:VRep (qy false false) R b m){r:Mach}(d:mi N m=some r):CallP prog 29 #[b] R (fun v R'=>VRep (qy false false) R' v r):=by
 refine ql (args:=[b]) func29 rfl rfl fun A=>?_;rw [mi] at d;refine zn (uj (T:=(qy false false)) rfl rfl rfl e fun V W f u X=>?_);refine vw rfl z4a fun x=>?_;refine za (q8 ?_);obtain⟨y,z,d⟩:=zk d;obtain⟨a,o,d⟩:=zk d
 refine tq 4 [] [phX b,phX b,phR (tSl false (zw .i64)) y,phR (qy false false) a] mixed (by kernel_rfl) (di ⟨zm,zm,gz,gz,trivial⟩) ⟨?_,?_,?_,?_,trivial⟩ fun B j=>?_;intro l C c k E;exact zb rfl rfl rfl (zt (jr z1x rfl (k 1 rfl) (u.mono c) ((e.mono f).mono c)));intro l F c k E
 exact zb rfl rfl rfl (zt (jr z1x rfl (k 1 rfl) (u.mono c) ((e.mono f).mono c)));rintro l G c k ⟨p,_⟩;have H:l 4=b:=p rfl;exact zb rfl rfl rfl (ja (vs:=[b]) zvn (by simp only [List.map,ev,H]<;>rfl) (z8z ((e.mono f).mono c) z) (fun _ _ h=>h));rintro l I c k ⟨p,K,Y,_⟩
 have L:l 3=b:=p rfl;exact zb rfl rfl rfl (ja (vs:=[b,(l 5)]) zrb (by simp only [List.map,ev,L]<;>rfl) (z16 ((e.mono f).mono c) (K rfl) o) (fun _ _ h=>h));intro M q O s P Q S t;obtain rfl:=Eq.symm q;obtain rfl:=Eq.symm s;obtain⟨g,rfl,n⟩:=o9 t
 refine jv (i:=0) (vs:=[(vi a.inputs),(vi a.outputs),g]) xx rfl rfl rfl rfl rfl rfl (zy rfl (zy rfl (zy (z1y n) uh))) ?_;refine za (qw ?_);obtain rfl:=Option.some.inj d
 refine qd (D:=[]) (J:=[box x [(vi a.inputs),(vi a.outputs),g] 27]) (rs:=[.cell 2 27]) (vs:=[(.agg #[(vi a.inputs),(vi a.outputs),g])]) (f.trans j) rfl rfl ⟨⟨_,rfl,fun w U=>z0l (i:=0) U rfl rfl au xx rfl rfl⟩,trivial⟩ ?_
 exact⟨rfl,(⟨_,⟨_,_,rfl,rfl,⟨_,_,rfl,rfl,(j6 rfl n)⟩⟩,rfl⟩:VRep (qy false false) _ _ (⟨a.inputs,a.outputs,a.rows⟩:Mach))⟩
theorem ztq:Enters prog 29:=enters_of func29 rfl (by kernel_rfl)
end GV
end Go.Proofs.Ytncblcdhmcmkmaa
