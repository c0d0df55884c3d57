import Derived.Test.YtnnobdkjgafdmaaShWe
import Derived.Test.YtnnobdkjgafdmaaRows
set_option linter.unusedVariables false
set_option linter.unusedSimpArgs false
set_option linter.unusedSectionVars false
namespace Go.Proofs.Ytnnobdkjgafdmaa
namespace GV
open _root_.Go.Proofs.Try
open Go.IntWalk
set_option maxRecDepth 100000
set_option maxHeartbeats 20000000
theorem z6q{N:Nat}{R:RH}{s:(List Int)}{c:Value}(k:VRep (tSl false (qm .i64)) R c s){f:Int→Option Bool}{e:Value}(n:FOk1 prog R e (qm .i64) wy f){r:Int}(b:z0g N s f=some r):CallP prog 95 #[c,e] R (fun v R'=>v=(vi r)):=by
 refine qd (args:=[c,e]) func95 rfl rfl fun A=>?_;rw [z0g] at b;refine zk (zh (vi 0) (z8 ?_));obtain⟨o,a,b⟩:=zn b;refine j4 (γ:=Unit) (rs [4,19]) (fun g=>[]) (fun g=>[]++A) (fun g R=>o=Ex.go g∧True) ?_ ?_
 refine zk (zg c (zl (qj rfl underlying32 rfl (jc k)) (zg (vi 0) (z8 (zw (jd (γ:=Nat×Int) (rs [4,6,8,19]) (fun g=>[(8,(vi g.2))]) (fun g=>[]++A) (fun g R=>gu N s f g.1 g.2=some o∧True) (fun g=>g.1) (N,0) prm ⟨a,trivial⟩ ?_))))));clear a;rintro⟨m,d⟩ y H h ⟨a,_⟩;rcases m with _|m
 exact qy a;replace a:gu N s f (m+1) d=some o:=a;rw [gu] at a;refine zk (zl (j5 rfl rfl) (z8 (zo (zq rfl a (fun a=>?_) (fun a=>?_)))));refine zz (zo (zw (zk (zg (vi d) (zh (vi d) (j3 (zg e (zg c (zg (vi d) ?_)))))))))
 obtain⟨l,a⟩:=ze a;refine ku (i:=d.toNat) rfl z0f rfl (jc (k.mono h)) (zi rfl l.1) (qc l) fun z p=>?_;refine qg rfl ty3 rfl p fun B q=>?_;obtain rfl:=jo.1 q;obtain⟨C,t,a⟩:=zn a;refine zfp rfl rfl rfl ((n.mono h) _ (RH.le.refl _) (ix s d) _ _ (jo.2 rfl) t) fun E F j u=>?_
 obtain rfl:=cu.1 u;refine z8 (zq rfl a (fun a=>?_) (fun a=>?_));refine zk (zg (vi d) (zh (vi d) (z8 (qh ?_))));replace b:=bv a b;obtain rfl:=Option.some.inj b;refine zy (D:=[]) (J:=[]) (rs:=[.tmp 4]) (vs:=[(vi d)]) (h.trans j) rfl rfl ⟨rfl,trivial⟩ ?_;exact⟨rfl,rfl⟩
 refine zz (zm ?_);obtain⟨w,a⟩:=ze a;refine zl (jk rfl rfl w) (zg (vi (d+1)) (z8 ?_));exact⟨dkt,j,kg,(m,d+1),Nat.lt_succ_self _,⟨rfl,trivial⟩,prm,a,trivial⟩;refine je ?_;exact⟨dkt,h,kg,(),trivial,prm,(Option.some.inj a).symm,trivial⟩;rintro I G K x ⟨rfl,_⟩;replace b:=mg b
 refine zk (zh (vi (-1)) (z8 (qh ?_)));obtain rfl:=Option.some.inj b;refine zy (D:=[]) (J:=[]) (rs:=[.tmp 4]) (vs:=[(vi (-1))]) x rfl rfl ⟨rfl,trivial⟩ ?_;exact⟨rfl,rfl⟩
theorem zpr:Enters prog 95:=enters_of func95 rfl (by kernel_rfl)
theorem z4x{N:Nat}{R:RH}{s:(List Int)}{a:Value}(d:VRep (tSl false (qm .i64)) R a s){f:Int→Option Bool}{b:Value}(e:FOk1 prog R b (qm .i64) wy f){r:Bool}(c:rq N s f=some r):CallP prog 77 #[a,b] R (fun v R'=>v=(.bool r)):=by
 refine qd (args:=[a,b]) func77 rfl rfl fun A=>?_;rw [rq] at c;refine zk (zh (.bool false) (j3 (zg a (zg b ?_))));obtain⟨h,i,c⟩:=zn c;refine ja rfl zpr rfl (z6q d e i) fun k l g j=>?_;obtain rfl:=j
 refine zl (ma rfl rfl) (zh (.bool (decide (0≤h))) (z8 (qh ?_)));obtain rfl:=Option.some.inj c;refine zy (D:=[]) (J:=[]) (rs:=[.tmp 4]) (vs:=[(.bool (decide (0≤h)))]) g rfl rfl ⟨rfl,trivial⟩ ?_;exact⟨rfl,rfl⟩
theorem zp7:Enters prog 77:=enters_of func77 rfl (by kernel_rfl)
theorem zaz{N:Nat}{R:RH}{k:Int}{r:Bool}(a:z4p N k=some r):CallP prog 78 #[(vi k)] R (fun v R'=>v=(.bool r)):=by
 refine qd (args:=[(vi k)]) func78 rfl rfl fun A=>?_;rw [z4p] at a;refine zk (zh (.bool false) (j3 (zg (vi k) (zl (ky rfl rfl) (zh (.bool (decide (k≠(-1)))) (z8 (qh ?_)))))));obtain rfl:=Option.some.inj a
 refine zy (D:=[]) (J:=[]) (rs:=[.tmp 2]) (vs:=[(.bool (decide (k≠(-1))))]) (RH.le.refl _) rfl rfl ⟨rfl,trivial⟩ ?_;exact⟨rfl,rfl⟩
theorem zq3:Enters prog 78:=enters_of func78 rfl (by kernel_rfl)
theorem zc4{N:Nat}{R:RH}{m:Mach}{h:Value}(k:VRep (jg false false) R h m){n:Sa}{i:Value}(l:VRep (zu false) R i n){r:Bool}(b:z6o N m n=some r):CallP prog 67 #[h,i] R (fun v R'=>v=(.bool r)):=by
 refine qd (args:=[h,i]) func67 rfl rfl fun A=>?_;rw [z6o] at b;refine zk (u7 (T:=(jg false false)) rfl rfl rfl k fun v1 R3 f h5 o=>?_);refine u7 (T:=(zu false)) rfl rfl rfl (l.mono f) fun v6 R8 d ac g=>?_
 refine zh (.bool false) (z8 (zo (zk (jb rfl z4h mo rfl g fun ad p=>?_))));refine qg rfl zbt rfl p fun af q=>?_;refine zl (qj rfl underlying32 rfl (jc q)) (jb rfl z7h z3j rfl (o.mono d) fun ag s=>?_);refine qg rfl ty3 rfl s fun ah t=>?_;obtain rfl:=jo.1 t
 refine zl (ky rfl rfl) (z8 (zq rfl b (fun b=>?_) (fun b=>?_)));refine zk (zh (.bool false) (z8 (qh ?_)));obtain rfl:=Option.some.inj b;refine zy (D:=[]) (J:=[]) (rs:=[.tmp 4]) (vs:=[(.bool false)]) (f.trans d) rfl rfl ⟨rfl,trivial⟩ ?_;exact⟨rfl,rfl⟩
 refine zz (zo (zk (jb rfl z5k dh rfl g fun ai u=>?_)));refine qg rfl ty3 rfl u fun aj w=>?_;obtain rfl:=jo.1 w;refine zl (uq rfl rfl) (z8 (zq rfl b (fun b=>?_) (fun b=>?_)));refine zk (jb rfl z4h mo rfl g fun ak x=>?_);refine qg rfl zbt rfl x fun al z=>?_
 obtain⟨e,B,b⟩:=zn b;refine ja rfl zp7 rfl (z4x z (zhh (cs:=[]) zq3 fun R1 hq z0 u0 y k0 hy=>by obtain rfl:=jo.1 k0;exact CallP.mono (zaz  hy) fun v R2 _ hv=>cu.2 hv) B) fun ap aq c C=>?_;obtain rfl:=C
 refine zl (bz rfl) (zh (.bool (!e)) (j3 (qo (v:=(.bool (!e))) rfl (za rfl) (qo (v:=(.bool (!e))) rfl (za rfl) (qa rfl rfl rfl rfl (fun a=>uf z7r mi rfl (g.mono c)) fun ar E=>?_)))));refine qa rfl rfl rfl rfl (fun a=>zx (vv (jq ty3 rfl (E.1 (zf rfl a))))) fun au F=>?_
 refine qa rfl rfl rfl rfl (fun a=>zx (ma (F.1 (zf rfl a)) rfl)) fun av G=>?_;refine qo rfl (vg rfl (fun j=>(G.1 (zf rfl j))) rfl) (qo (v:=(.bool ((!e)&&(decide (0≤n.fD))))) rfl (za rfl) (qa rfl rfl rfl rfl (fun a=>uf z7r mi rfl (g.mono c)) fun aw H=>?_))
 refine qa rfl rfl rfl rfl (fun a=>zx (vv (jq ty3 rfl (H.1 (zf rfl a))))) fun ax I=>?_;refine qa rfl rfl rfl rfl (fun a=>uf w9 kw rfl (o.mono (d.trans c))) fun ay K=>?_;refine qa rfl rfl rfl rfl (fun a=>jq ik rfl (K.1 (zf rfl a))) fun az L=>?_
 refine qa rfl rfl rfl rfl (fun a=>zx (qj rfl underlying28 rfl (jc (L.1 (zf rfl a))))) fun aA M=>?_;refine qa rfl rfl rfl rfl (fun a=>zx (j5 (I.1 (zf rfl a)) (M.1 (zf rfl a)))) fun aB O=>?_;refine qo rfl (vg rfl (fun j=>(O.1 (zf rfl j))) rfl) ?_
 let G2:=(((!e)&&(decide (0≤n.fD)))&&(decide (n.fD<(↑m.rows.length:Int))));refine qo (v:=(.bool G2)) rfl (ym rfl) (z8 (qh ?_));obtain rfl:=Option.some.inj b;refine zy (D:=[]) (J:=[]) (rs:=[.tmp 4]) (vs:=[(.bool G2)]) ((f.trans d).trans c) rfl rfl ⟨rfl,trivial⟩ ?_;exact⟨rfl,rfl⟩
 refine zz (zk (zd9 rfl (uf z5k dh rfl g) fun aC P=>?_));refine qo rfl (vv (jq ty3 rfl P)) (qo rfl (ma rfl rfl) (qo (v:=(.bool (decide (0≤n.fB)))) rfl (za rfl) (qa rfl rfl rfl rfl (fun a=>uf z5k dh rfl g) fun aD Q=>?_)))
 refine qa rfl rfl rfl rfl (fun a=>zx (vv (jq ty3 rfl (Q.1 (zf rfl a))))) fun aE S=>?_;refine qa rfl rfl rfl rfl (fun a=>uf z2g ae rfl (o.mono d)) fun aF U=>?_;refine qa rfl rfl rfl rfl (fun a=>zx (vv (jq ty3 rfl (U.1 (zf rfl a))))) fun aG V=>?_
 refine qa rfl rfl rfl rfl (fun a=>zx (j5 (S.1 (zf rfl a)) (V.1 (zf rfl a)))) fun aH W=>?_;refine qo rfl (vg rfl (fun j=>(W.1 (zf rfl j))) rfl) (qo (v:=(.bool ((decide (0≤n.fB))&&(decide (n.fB<m.inputs))))) rfl (za rfl) (qa rfl rfl rfl rfl (fun a=>uf z7r mi rfl g) fun aI X=>?_))
 refine qa rfl rfl rfl rfl (fun a=>zx (vv (jq ty3 rfl (X.1 (zf rfl a))))) fun aJ Y=>?_;refine qa rfl rfl rfl rfl (fun a=>zx (uq (Y.1 (zf rfl a)) rfl)) fun aK Z=>?_;refine qo rfl (vg rfl (fun j=>(Z.1 (zf rfl j))) rfl) ?_;let G1:=(((decide (0≤n.fB))&&(decide (n.fB<m.inputs)))&&(decide (n.fD=(-1))))
 refine qo (v:=(.bool G1)) rfl (ym rfl) (z8 (qh ?_));obtain rfl:=Option.some.inj b;refine zy (D:=[]) (J:=[]) (rs:=[.tmp 4]) (vs:=[(.bool G1)]) (f.trans d) rfl rfl ⟨rfl,trivial⟩ ?_;exact⟨rfl,rfl⟩
theorem zq1:Enters prog 67:=enters_of func67 rfl (by kernel_rfl)
theorem z7g{N:Nat}{R:RH}{s:(List Int)}{a:Value}(d:VRep (tSl false (qm .i64)) R a s){r:(List Int)}(b:z14 N s=some r):CallP prog 68 #[a] R (fun v R'=> ∃ u0,v= .func (.func 79) #[] #[u0]∧PRep (tSl false (qm .i64)) R' u0 r):=by
 refine qd (args:=[a]) func68 rfl rfl fun A=>?_;rw [z14] at b;refine zk (z8i (T:=(tSl false (qm .i64))) rfl rfl d fun c g e f=>?_);refine zh .nilFunc (j3 (zl (dm (fs:=[]) (cs:=[c]) rfl rfl) (zh (.func (.func 79) #[] #[c]) (z8 (qh ?_)))));obtain rfl:=Option.some.inj b
 refine zy (D:=[]) (J:=[]) (rs:=[.tmp 2]) (vs:=[(.func (.func 79) #[] #[c])]) e rfl rfl ⟨rfl,trivial⟩ ?_;exact⟨rfl,⟨c,rfl,f⟩⟩
theorem zpb:Enters prog 68:=enters_of func68 rfl (by kernel_rfl)
theorem z6a{N:Nat}{R:RH}{p0_:(List Int)}{b:Value}(d:PRep (tSl false (qm .i64)) R b p0_):zhl prog 79 [b] R (fun(x:(Int×Int)) vs R=>vs=[(vi x.1),(vi x.2)]) (fun σ B s=>z0d N p0_ σ B s):=by
 intro yv σ B I S O z w f C E a F;refine z1p (args:=[yv,b]) func79 rfl rfl fun A=>?_;dsimp only at a;rw [z0d] at a;refine zk (qg rfl zbt rfl (d.mono f) fun T G=>?_);refine zl (qj rfl underlying32 rfl (jc G)) ?_;obtain⟨H,a⟩:=ze a
 refine zl (z2f rfl rfl H) (zh (vi ((↑p0_.length:Int)-1)) (z8 (zw (jd (γ:=Nat×σ×Int×(List Frag)) (rs [3,4,7,19]) (fun g=>[(3,(vi g.2.2.1))]) (fun g=>[]++(g.2.2.2++A)) (fun g R=>xc N σ B p0_ g.1 g.2.1 g.2.2.1=some w∧I g.2.1 R g.2.2.2∧True) (fun g=>g.1) (N,z,(↑p0_.length:Int)-1,O) prm ⟨a,E,trivial⟩ ?_))))
 clear a;rintro⟨p,y,c,n⟩ K U e ⟨a,h,_⟩;rcases p with _|p;exact qy a;replace a:xc N σ B p0_ (p+1) y c=some w:=a;rw [xc] at a;refine zo (zk (zg (vi c) (zl (ma rfl rfl) (z8 (zq rfl a (fun a=>?_) (fun a=>?_))))))
 refine zz (zo (zw (zk (zg yv (zg (vi c) (qg rfl zbt rfl (d.mono (f.trans e)) fun L q=>?_))))));refine zg (vi c) ?_;obtain⟨o,a⟩:=ze a;refine ku (i:=c.toNat) rfl z0f rfl (jc q) (zi rfl o.1) (qc o) fun M r=>?_;refine qg rfl ty3 rfl r fun P t=>?_
 obtain rfl:=jo.1 t;obtain⟨m,u,a⟩:=zn a;refine zaw (vs:=[(vi c),(vi (ix p0_ c))]) (J:=[]) (Oc:=n) (A:=A) rfl rfl rfl rfl (F (c,(ix p0_ c)) y m.1 m.2 _ _ [(vi c),(vi (ix p0_ c))] e rfl h u) fun Q j k l=>?_;refine zl (bz rfl) (z8 (zq rfl a (fun a=>?_) (fun a=>?_)))
 refine qh ?_;obtain rfl:=Option.some.inj a;refine z07 (D:=[]) (J:=[]) (O':=j) (rs:=[]) (vs:=[]) (e.trans k) (List.Perm.refl _) rfl trivial ?_;exact l;refine zz (zm (zg (vi c) ?_));obtain⟨v,a⟩:=ze a;refine zl (z2f rfl rfl v) (zh (vi (c-1)) (z8 ?_))
 exact⟨dkt,k,kg,(p,m.2,c-1,j),Nat.lt_succ_self _,⟨rfl,trivial⟩,prm,a,l,trivial⟩;refine je ?_;show zad _ _ _ _ _ .ret _ [] _ _;obtain rfl:=Option.some.inj a;refine z07 (D:=[]) (J:=[]) (O':=n) (rs:=[]) (vs:=[]) e (List.Perm.refl _) rfl trivial ?_;exact h
theorem zpc:Enters prog 79:=enters_of func79 rfl (by kernel_rfl)
theorem zd4{N:Nat}{R:RH}{m:Mach}{H:Value}(ab:VRep (jg false false) R H m){d:(List Sa)}{E:Value}(V:VRep (tSl false (zu false)) R E d){r:Bool}(t:z8c N m d=some r):CallP prog 44 #[H,E] R (fun v R'=>v=(.bool r)):=by
 refine qd (args:=[H,E]) func44 rfl rfl fun A=>?_;rw [z8c] at t;refine zk (u7 (T:=(jg false false)) rfl rfl rfl ab fun v1 R3 G h5 h2=>?_)
 refine zh (.bool false) (j3 (bg (T:=(qm .i64)) (X:=([0]:List Int)) (ps:=[(0,(vi 0))]) (css:=[[(vi 0)]]) rfl underlying32 zo3 rfl rfl (kz ⟨rfl,trivial⟩) rfl rfl (by decide) fun v6 f7 bf h9=>?_));refine jy rfl zoi fun u=>?_;refine ko (i:=0) (vs:=[v6]) zic rfl rfl (xm h9) rfl rfl rfl (qb (nu h9) jr) ?_
 refine z8 ?_;obtain⟨ac,a,t⟩:=zn t;refine zhb (γ:=(List Int)×Value×Frag) false (rs [4,5,6,8,9,10,11,54]) (fun g=>[]) (fun g=>[box u [g.2.1] 32,g.2.2]++A) (fun g R=>ac=Ex.go g.1∧ORep (qm .i64) R g.2.2 g.2.1 g.1∧True) ?_ ?_
 refine zk (zg E (zl (qj rfl underlying43 rfl (jc (V.mono G))) (zg (vi 0) (z8 (zw (zf4 (γ:=Nat×Int×(List Int)×Value×Frag) false (rs [4,5,6,8,9,10,13,54]) (fun g=>[(13,(vi g.2.1))]) (fun g=>[box u [g.2.2.2.1] 32,g.2.2.2.2]++A) (fun g R=>z0l N m d g.1 g.2.1 g.2.2.1=some ac∧ORep (qm .i64) R g.2.2.2.2 g.2.2.2.1 g.2.2.1∧True) (fun g=>g.1) (N,0,([0]:List Int),v6,f7) ⟨rfl,trivial⟩ prm ⟨a,h9,trivial⟩ (fun _=>rfl) ?_))))))
 clear a;rintro⟨P,b,n,z,Q⟩ bh bi bx aA p ⟨a,w,_⟩;rcases P with _|P;exact qy a;replace a:z0l N m d (P+1) b n=some ac:=a;rw [z0l] at a;refine zk (zl (j5 rfl rfl) (z8 (zo (zq rfl a (fun a=>?_) (fun a=>?_)))))
 refine zz (zo (zw (zk (zg (vi b) ?_))));obtain⟨ak,a⟩:=ze a;refine ku (i:=b.toNat) rfl z94 rfl (jc (V.mono (G.trans p))) (zi rfl ak.1) (qc ak) fun bA aB=>?_;refine qg rfl zl2 rfl aB fun bB aC=>?_;refine jy rfl zja fun C=>?_;refine zh (vi b) ?_
 obtain⟨o,rfl,ad⟩:=yo aC;refine ko (i:=0) (vs:=[(vi ((ix d b).fB)),(vi ((ix d b).fD)),o]) zfi rfl rfl rfl rfl rfl rfl (qb rfl (qb rfl (qb (z2a ad) jr))) ?_
 refine z8 (zo (zk (qo (v:=z) rfl (qi (i:=1) z8b rfl rfl rfl) (qo rfl (lw rfl underlying32 rfl w) (qo rfl (uq rfl rfl) (qo (v:=(.bool (decide ((↑n.length:Int)=0)))) rfl (za rfl) (qa rfl rfl rfl rfl (fun f=>zx (v:=z) (qi (i:=1) z8b rfl rfl rfl)) fun bC aD=>?_)))))))
 refine qa rfl rfl rfl rfl (fun f=>zx (v:=z) (qi (i:=1) z8b rfl rfl rfl)) fun bD aE=>?_;refine qa rfl rfl rfl rfl (fun f=>zx (lw rfl underlying32 (aE.1 (zf rfl f)) w)) fun bE aF=>?_;obtain⟨aG,a⟩:=ze a;refine qa rfl rfl rfl rfl (fun f=>zx (z2f (aF.1 (zf rfl f)) rfl (aG (zf rfl f)))) fun bF aH=>?_
 obtain⟨ae,a⟩:=ze a;refine qa rfl rfl rfl rfl (fun f=>z2z (i:=((↑n.length:Int)-1).toNat) z0f (aD.1 (zf rfl f)) w (zi (aH.1 (zf rfl f)) (ae (zf rfl f)).1) (qc (ae (zf rfl f)))) fun bG aI=>?_
 refine qa rfl rfl rfl rfl (fun f=>zx (vv (z7v (i:=((↑n.length:Int)-1).toNat) (j:=2) ty3 w rfl rfl (aI.1 (zf rfl f)) (qc (ae (zf rfl f)))))) fun bH aJ=>?_;refine qa rfl rfl rfl rfl (fun f=>zx (v:=(vi b)) (za rfl)) fun bI aK=>?_
 refine qa rfl rfl rfl rfl (fun f=>zx (ky (aJ.1 (zf rfl f)) (aK.1 (zf rfl f)))) fun bJ aL=>?_
 refine qo rfl (um rfl rfl (fun hb=>(aL.1 (zf rfl hb)))) (qo (v:=(.bool ((decide ((↑n.length:Int)=0))||(decide ((ix n ((↑n.length:Int)-1))≠b))))) rfl (za rfl) (qa rfl rfl rfl rfl (fun f=>zx (v:=H) (uj z0b rfl rfl (h5.mono p) (ab.mono (G.trans p)))) fun bK aN=>?_))
 refine qa rfl rfl rfl rfl (fun f=>zx (v:=(.agg #[(vi ((ix d b).fB)),(vi ((ix d b).fD)),o])) (jm (i:=0) zmm zfi rfl rfl rfl rfl)) fun bL aO=>?_;obtain⟨aP,aQ,a⟩:=zn a
 refine iq rfl rfl rfl rfl (fun f=>ww (vs:=[H,(.agg #[(vi ((ix d b).fB)),(vi ((ix d b).fD)),o])]) zq1 (z1u (aN.1 (zf rfl f)) (z1u (aO.1 (zf rfl f)) rfl)) ((by have aR:=(mf aQ (zf rfl f));exact zc4 (ab.mono (G.trans p)) (⟨_,⟨_,_,rfl,rfl,⟨_,_,rfl,rfl,(ji rfl ad)⟩⟩,rfl⟩:VRep (zu false) _ _ (⟨(ix d b).fB,(ix d b).fD,(ix d b).fC⟩:Sa)) aR)) (fun _ _ h=>h)) fun aS aT q af=>?_
 replace af:phG (true&&(((decide ((↑n.length:Int)=0))||(decide ((ix n ((↑n.length:Int)-1))≠b)))==false)) (phX (.bool (aP.getD default))) aS aT:=af;refine qa rfl rfl rfl rfl (fun f=>zx (bz (af.1 (zf rfl f)))) fun bM aU=>?_
 refine qo rfl (um rfl rfl (fun hb=>(aU.1 (zf rfl hb)))) (z8 (zq rfl a (fun a=>?_) (fun a=>?_)));refine zk (zh (.bool false) (z8 (qh ?_)));replace t:=bv a t;obtain rfl:=Option.some.inj t
 refine zy (D:=[]) (J:=[box C [(vi ((ix d b).fB)),(vi ((ix d b).fD)),o] 55,box u [z] 32,Q]) (rs:=[.tmp 4]) (vs:=[(.bool false)]) ((G.trans p).trans q) rfl rfl ⟨rfl,trivial⟩ ?_;exact⟨rfl,rfl⟩
 refine zz (zk (zl (qi (i:=1) z8b rfl rfl rfl) (zl (qi (i:=1) z8b rfl rfl rfl) (zl (lw rfl underlying32 rfl (w.mono q)) ?_))));obtain⟨aV,a⟩:=ze a;refine zl (z2f rfl rfl aV) ?_;obtain⟨S,a⟩:=ze a
 refine zij (v:=z) (lo:=(0:Int).toNat) (hi:=((↑n.length:Int)-1).toNat) (mx:=(capOf z)) rfl z0f rfl (w.mono q) (.inl ⟨rfl,rfl⟩) (.inr ⟨_,congrArg some (zi rfl (zcw S))⟩) (.inl ⟨rfl,rfl⟩) (zhq S) (zb4 S) (Nat.le_trans (zb4 S) (zjm (w.mono q))) (Nat.le_refl _) fun ag ah aW=>?_
 refine ko (i:=1) (vs:=[ag]) zic rfl rfl (xm ah) rfl rfl rfl (qb (nu ah) jr) ?_;refine j3 (zl (qp z4h rfl) (zl (qi (i:=0) z8b rfl rfl rfl) ?_));obtain⟨bN,aX,a⟩:=zn a;refine ja rfl zpb rfl (z7g (ad.mono q) aX) fun bO bP W aY=>?_;obtain⟨bQ,rfl,aZ⟩:=aY
 refine z8 (zw ?_);obtain⟨a0,a1,a⟩:=zn a
 refine zcu (Oc:=[box C [(vi ((ix d b).fB)),(vi ((ix d b).fD)),o] 55,box u [ag] 32,Q]) (Or:=A) _ (fun(s:List Int) R O=> ∃ (k:Value) (l:Frag),(∃ J,O.Perm (J++[box u [k] 32,l,box C [(vi ((ix d b).fB)),(vi ((ix d b).fD)),o] 55]))∧ORep (qm .i64) R l k s∧True) (fun(s:List Int) (c:Code) R O=>False) _ _ rfl zpc (z6a (N:=N) aZ) (List.Perm.refl _) (by decide) (by rintro _ _ _ rfl;rfl) (by rintro s R2 R3 O2 a2 ⟨k,l,hJ,F,_⟩;exact⟨k,l,hJ,F.mono a2,trivial⟩) (fun _ _ _ _ _ _ h=>h) (fun _ _ _ _ _ h=>h.elim) ⟨ag,Q,⟨[],(pk 1 rfl (pk 1 rfl (pk 0 rfl (List.Perm.refl _))))⟩,(ah.mono W),trivial⟩ a1 ?_ ?_ ?_
 rintro x a3 bj bk a4 bl a5 a6 a7 ai ⟨k,l,⟨_,hJ⟩,F,_⟩ I bm;have y:=I;clear I;(try dsimp only at y);refine z9y (zcr hJ) ?_;obtain rfl:=ai;refine zm (zh (vi x.2) (z8 ?_))
 refine⟨rfl,rfl,(RH.le.refl _),[box u [k] 32,l,box C [(vi ((ix d b).fB)),(vi ((ix d b).fD)),o] 55],List.Perm.refl _,fun bn=>?_⟩;refine zw (zk (zg (vi x.2) (zl (ky rfl rfl) (z8 (zq rfl y (fun y=>?_) (fun y=>?_))))))
 refine zm (zl (qi (i:=0) z8b rfl rfl rfl) (zg (vi x.2) (bg (T:=(qm .i64)) (X:=([x.2]:List Int)) (ps:=[(0,(vi x.2))]) (css:=[[(vi x.2)]]) rfl underlying32 zo3 rfl rfl (kz ⟨rfl,trivial⟩) rfl rfl (by decide) fun am bo U an=>?_)));refine wm (i:=0) rfl an fun ao K ap=>?_
 have aq:VRep (tSl true (qm .i64)) ao am ([x.2]:List Int):=(z0n ap U);obtain⟨Z,y⟩:=ze y;refine z2s (i:=1) (X:=a3) (Y:=([x.2]:List Int)) rfl underlying32 zo3 rfl rfl rfl (F.mono K) (jc (Sub.v (B:=(tSl false (qm .i64))) (jh Sub.refl (fun _=>rfl)) aq)) Z.1 Z.2 fun L aa M=>?_
 refine ko (i:=0) (vs:=[L]) zic rfl rfl (xm M) rfl rfl rfl (qb (nu M) jr) ?_;refine z8 ?_;obtain⟨rfl,rfl⟩:=Prod.mk.inj (Option.some.inj y)
 exact⟨rfl,K,[box u [L] 32,aa,box C [(vi ((ix d b).fB)),(vi ((ix d b).fD)),o] 55],List.Perm.refl _,rfl,⟨L,aa,⟨[],List.Perm.refl _⟩,M,trivial⟩⟩;refine zz ?_;obtain⟨rfl,rfl⟩:=Prod.mk.inj (Option.some.inj y)
 exact⟨rfl,(RH.le.refl _),[box u [k] 32,l,box C [(vi ((ix d b).fB)),(vi ((ix d b).fD)),o] 55],List.Perm.refl _,rfl,⟨k,l,⟨[],List.Perm.refl _⟩,F,trivial⟩⟩;rintro bp bq a8 aj ⟨ar,au,⟨_,hJ⟩,av,_⟩;refine⟨_,_,hJ,?_⟩;refine zm ?_;obtain⟨aw,a⟩:=ze a
 refine zl (jk rfl rfl aw) (zg (vi (b+1)) (z8 ?_));exact⟨(fun e=>nomatch e),((q.trans W).trans aj),kg,(P,b+1,a0,ar,au),Nat.lt_succ_self _,⟨rfl,trivial⟩,⟨[box C [(vi ((ix d b).fB)),(vi ((ix d b).fD)),o] 55],(pk 2 rfl (pk 0 rfl (pk 0 rfl (List.Perm.refl _))))⟩,a,av,trivial⟩
 exact fun _ _ _ _ _ h=>h.elim;refine je ?_;exact⟨(fun e=>nomatch e),p,kg,(n,z,Q),trivial,prm,(Option.some.inj a).symm,w,trivial⟩;rintro⟨ax,a9,ba⟩ br bs bR bb ay ⟨rfl,bc,_⟩;replace t:=mg t
 refine zk (zl (qi (i:=0) z8b rfl rfl rfl) (zl (lw rfl underlying32 rfl bc) (zl (uq rfl rfl) (zh (.bool (decide ((↑ax.length:Int)=0))) (z8 (qh ?_))))));obtain rfl:=Option.some.inj t
 refine zy (D:=[]) (J:=[box u [a9] 32,ba]) (rs:=[.tmp 4]) (vs:=[(.bool (decide ((↑ax.length:Int)=0)))]) (G.trans ay) rfl rfl ⟨rfl,trivial⟩ ?_;exact⟨rfl,rfl⟩
theorem zox:Enters prog 44:=enters_of func44 rfl (by kernel_rfl)
theorem z4w{N:Nat}{R:RH}{m:Mach}{z:Value}(B:VRep (jg false false) R z m){t:Sb}{O:Value}(az:VRep (jv false false) R O t){r:Int}(d:z2l N m t=some r):CallP prog 18 #[z,O] R (fun v R'=>v=(vi r)):=by
 refine qd (args:=[z,O]) func18 rfl rfl fun A=>?_;rw [z2l] at d;refine zk (u7 (T:=(jg false false)) rfl rfl rfl B fun v1 R3 q h5 h2=>?_);refine u7 (T:=(jv false false)) rfl rfl rfl (az.mono q) fun v6 R8 o bJ U=>?_
 refine zh (vi 0) (z8 (zo (zk (zl (uj z0b rfl rfl (h5.mono o) (B.mono (q.trans o))) ?_))));obtain⟨C,aA,d⟩:=zn d;refine ja rfl zky rfl (z2c (B.mono (q.trans o)) aA) fun bK bL b aB=>?_;obtain rfl:=aB
 refine zh (vi C) (j3 (zg (vi C) (zl (ky rfl rfl) (z8 (zq rfl d (fun d=>?_) (fun d=>?_))))));refine zk (zg (vi C) (zh (vi C) (z8 (qh ?_))));obtain rfl:=Option.some.inj d;refine zy (D:=[]) (J:=[]) (rs:=[.tmp 4]) (vs:=[(vi C)]) ((q.trans o).trans b) rfl rfl ⟨rfl,trivial⟩ ?_
 exact⟨rfl,rfl⟩;refine zz (zo (zk (zd9 rfl (uf gz jf rfl (U.mono b)) fun bM aC=>?_)));refine zd9 rfl (jq z4u rfl aC) fun bN aD=>?_
 refine qo rfl (qj rfl underlying43 rfl (jc aD)) (qo rfl (l6 rfl rfl) (qo (v:=(.bool (decide (1024<(↑t.fA.length:Int))))) rfl (za rfl) (qa rfl rfl rfl rfl (fun e=>zx (v:=z) (uj z0b rfl rfl (h5.mono (o.trans b)) (B.mono ((q.trans o).trans b)))) fun bO aE=>?_)))
 refine qa rfl rfl rfl rfl (fun e=>uf gz jf rfl (U.mono b)) fun bP aF=>?_;refine qa rfl rfl rfl rfl (fun e=>jq z4u rfl (aF.1 (zf rfl e))) fun aG aH=>?_;obtain⟨aI,aJ,d⟩:=zn d
 refine iq rfl rfl rfl rfl (fun e=>ww (vs:=[z,aG]) zox (z1u (aE.1 (zf rfl e)) (z1u rfl rfl)) ((by have aK:=(mf aJ (zf rfl e));exact zd4 (B.mono ((q.trans o).trans b)) (aH.1 (zf rfl e)) aK)) (fun _ _ h=>h)) fun aL aM n P=>?_
 replace P:phG (true&&((decide (1024<(↑t.fA.length:Int)))==false)) (phX (.bool (aI.getD default))) aL aM:=P;refine qa rfl rfl rfl rfl (fun e=>zx (bz (P.1 (zf rfl e)))) fun bQ aN=>?_;refine qo rfl (um rfl rfl (fun V=>(aN.1 (zf rfl V)))) (z8 (zq rfl d (fun d=>?_) (fun d=>?_)))
 refine zk (zh (vi 4) (z8 (qh ?_)));obtain rfl:=Option.some.inj d;refine zy (D:=[]) (J:=[]) (rs:=[.tmp 4]) (vs:=[(vi 4)]) (((q.trans o).trans b).trans n) rfl rfl ⟨rfl,trivial⟩ ?_;exact⟨rfl,rfl⟩;refine zz ?_;obtain⟨Q,c,d⟩:=zn d
 refine j4 (γ:=Unit) (rs [4,5,6,10,26,82]) (fun g=>[]) (fun g=>[]++A) (fun g R=>Q=Ex.go g∧True) ?_ ?_;refine zk (jb rfl w9 kw rfl (h2.mono ((o.trans b).trans n)) fun bR aO=>?_);refine qg rfl ik rfl aO fun bS aP=>?_
 refine zl (qj rfl underlying28 rfl (jc aP)) (zg (vi 0) (z8 (zw (jd (γ:=Nat×Int) (rs [4,5,6,10,29,82]) (fun g=>[(29,(vi g.2))]) (fun g=>[]++A) (fun g R=>l9 N m t g.1 g.2=some Q∧True) (fun g=>g.1) (N,0) prm ⟨c,trivial⟩ ?_))));clear c;rintro⟨G,s⟩ aZ bT p ⟨c,_⟩;rcases G with _|G
 exact qy c;replace c:l9 N m t (G+1) s=some Q:=c;rw [l9] at c;refine zk (zl (j5 rfl rfl) (z8 (zo (zq rfl c (fun c=>?_) (fun c=>?_)))))
 refine zz (zo (zw (zk (zg (vi s) (zh (vi s) (j3 (zg (vi s) (zh (vi s) (zh (vi 0) (z8 ?_))))))))));obtain⟨u,f,c⟩:=zn c;refine j4 (γ:=Int) (rs [7,10,33,69]) (fun g=>[(8,(vi g))]) (fun g=>[]++A) (fun g R=>u=g∧True) ?_ ?_
 refine zw (jd (γ:=Nat×Int×Int) (rs [7,10,33,69]) (fun g=>[(7,(vi g.2.1)),(8,(vi g.2.2))]) (fun g=>[]++A) (fun g R=>lc N m t g.1 g.2.1 g.2.2=some u∧True) (fun g=>g.1) (N,s,0) prm ⟨f,trivial⟩ ?_);clear f;rintro⟨H,j,a⟩ a0 bU w ⟨f,_⟩;rcases H with _|H;exact qy f
 replace f:lc N m t (H+1) j a=some u:=f;rw [lc] at f
 refine zo (zk (qo (v:=(vi a)) rfl (za rfl) (qo rfl (ky rfl rfl) (qo (v:=(.bool (decide (a≠(-1))))) rfl (za rfl) (qa rfl rfl rfl rfl (fun e=>uf gz jf rfl (U.mono (((b.trans n).trans p).trans w))) fun bV aQ=>?_)))))
 refine qa rfl rfl rfl rfl (fun e=>jq z4u rfl (aQ.1 (zf rfl e))) fun bW aR=>?_;refine qa rfl rfl rfl rfl (fun e=>zx (v:=(vi a)) (za rfl)) fun bX aS=>?_;obtain⟨W,f⟩:=ze f
 refine qa rfl rfl rfl rfl (fun e=>df (i:=a.toNat) z94 rfl (jc (aR.1 (zf rfl e))) (zi (aS.1 (zf rfl e)) (W (zf rfl e)).1) (qc (W (zf rfl e)))) fun bY aT=>?_;refine qa rfl rfl rfl rfl (fun e=>uf z5k dh rfl (aT.1 (zf rfl e))) fun bZ aU=>?_
 refine qa rfl rfl rfl rfl (fun e=>zx (vv (jq ty3 rfl (aU.1 (zf rfl e))))) fun b0 aV=>?_;refine qa rfl rfl rfl rfl (fun e=>zx (ky (aV.1 (zf rfl e)) rfl)) fun b1 aW=>?_;refine qo rfl (vg rfl (fun V=>(aW.1 (zf rfl V))) rfl) (z8 (zq rfl f (fun f=>?_) (fun f=>?_)));refine zz (zw (zo ?_))
 obtain⟨X,Y,Z,f⟩:=zkf f
 refine ni 14 [⟨13,[.int .i64 0,.int .i64 0],57⟩] [phP (tSl false (tSl false kEdge)) m.rows,phR (tSl false (tSl false kEdge)) m.rows,phX (vi j),phP (tSl false kEdge) (ix m.rows j),phR (tSl false kEdge) (ix m.rows j),phP (tSl false (zu false)) t.fA,phR (tSl false (zu false)) t.fA,phX (vi a),phP (zu false) (ix t.fA a),phP (qm .i64) ((ix t.fA a).fB),phX (vi ((ix t.fA a).fB)),phP kEdge (ix (ix m.rows j) ((ix t.fA a).fB)),phX (ic (ix (ix m.rows j) ((ix t.fA a).fB))),phB] mixed (by kernel_rfl) (bu ⟨ut,yc,q8,ut,yc,ut,yc,q8,ut,ut,q8,ut,q8,zj2,trivial⟩) ⟨?_,?_,?_,?_,?_,?_,?_,?_,?_,?_,?_,?_,?_,?_,trivial⟩ fun b2 I=>?_
 intro l b3 k x hd;exact zb rfl rfl rfl (uw w9 kw (x 2 rfl) ((h2.mono ((((o.trans b).trans n).trans p).trans w)).mono k));rintro l b4 k x ⟨y,_⟩;exact zb rfl rfl rfl (kv ik rfl (y rfl));intro l b5 k x hd;exact zb rfl rfl rfl (qf (za (x 7 rfl)));rintro l b6 k x ⟨y,d1,_⟩
 exact zb rfl rfl rfl (y5 (i:=j.toNat) z7p rfl (jc (y rfl)) (zi (d1 rfl) X.1) (qc X));rintro l b7 k x ⟨y,_⟩;exact zb rfl rfl rfl (kv z7d rfl (y rfl));intro l b8 k x hd;exact zb rfl rfl rfl (uw gz jf (x 3 rfl) ((U.mono (((b.trans n).trans p).trans w)).mono k))
 rintro l b9 k x ⟨y,_⟩;exact zb rfl rfl rfl (kv z4u rfl (y rfl));intro l ca k x hd;exact zb rfl rfl rfl (qf (za (x 8 rfl)));rintro l cb k x ⟨y,d1,_⟩;exact zb rfl rfl rfl (y5 (i:=a.toNat) z94 rfl (jc (y rfl)) (zi (d1 rfl) Y.1) (qc Y));rintro l cc k x ⟨y,_⟩
 exact zb rfl rfl rfl (uw z5k dh rfl (y rfl));rintro l a1 k x ⟨y,_⟩;exact zb rfl rfl rfl (yh (kv ty3 rfl (y rfl)) (fun _ _ h=>jo.1 h));rintro l a2 k x ⟨y,d1,_⟩;exact zb rfl rfl rfl (y5 (i:=((ix t.fA a).fB).toNat) z8n rfl (jc (y rfl)) (zi (d1 rfl) Z.1) (qc Z))
 rintro l a3 k x ⟨y,_⟩;exact zb rfl rfl rfl (yh (kv z9x rfl (y rfl)) (fun _ _ h=>gm.1 h));intro l a4 k x hd;exact zdr rfl rfl rfl rfl za2;intro cd ce cf cg ch ab a5 a6 a7 a8 a9 ba bb bc be ac bf bg bh bi bj ad bk bl bm ae bn af;obtain rfl:=Eq.symm ab;obtain rfl:=Eq.symm ac
 obtain rfl:=Eq.symm ad;obtain rfl:=Eq.symm ae;obtain⟨E,rfl⟩:=af;refine ko (i:=0) (vs:=[(vi ((ix (ix m.rows j) ((ix t.fA a).fB)).to)),(vi ((ix (ix m.rows j) ((ix t.fA a).fB)).out))]) z8z rfl rfl rfl rfl rfl rfl (qb rfl (qb rfl jr)) ?_;refine z8 (z1w 13 mixed (by kernel_rfl) (by kernel_rfl) ?_)
 refine vk (v:=(.pointer (some ⟨E,0,none⟩))) (qp ow rfl) ?_;refine vk (v:=(vi ((ix (ix m.rows j) ((ix t.fA a).fB)).to))) (qi (i:=0) ag3 rfl rfl rfl) ?_;refine z3e (uf gz jf rfl (U.mono ((((b.trans n).trans p).trans w).trans I))) fun bo ag=>?_;refine z3e (jq z4u rfl ag) fun bp ah=>?_
 refine vk (v:=(vi a)) (za rfl) ?_;obtain⟨K,f⟩:=ze f;refine z3e (df (i:=a.toNat) z94 rfl (jc ah) (zi rfl K.1) (qc K)) fun bq ai=>?_;refine z3e (uf z4h mo rfl ai) fun br aj=>?_;refine z3e (jq zbt rfl aj) fun bs ak=>?_
 refine vk (v:=(.pointer (some ⟨E,1,none⟩))) (qp z1i rfl) ?_;refine vk (v:=(vi ((ix (ix m.rows j) ((ix t.fA a).fB)).out))) (qi (i:=0) ag3 rfl rfl rfl) ?_;obtain⟨L,f⟩:=ze f
 refine z3e (df (i:=((ix (ix m.rows j) ((ix t.fA a).fB)).out).toNat) z0f rfl (jc ak) (zi rfl L.1) (qc L)) fun bt al=>?_;refine vk (vv (jq ty3 rfl al)) ?_;refine vk (v:=(vi ((ix (ix m.rows j) ((ix t.fA a).fB)).to))) (ym rfl) ?_;intro bw S
 refine zh (vi (ix ((ix t.fA a).fC) ((ix (ix m.rows j) ((ix t.fA a).fB)).out))) (z8 ?_)
 exact⟨dkt,(I.trans S),kg,(H,(ix (ix m.rows j) ((ix t.fA a).fB)).to,(ix ((ix t.fA a).fC) ((ix (ix m.rows j) ((ix t.fA a).fB)).out))),Nat.lt_succ_self _,⟨rfl,rfl,trivial⟩,⟨[box E [(vi ((ix (ix m.rows j) ((ix t.fA a).fB)).to)),(vi ((ix (ix m.rows j) ((ix t.fA a).fB)).out))] 57],(List.Perm.refl _)⟩,f,trivial⟩
 refine je ?_;exact⟨dkt,w,kg,a,⟨rfl,trivial⟩,prm,(Option.some.inj f).symm,trivial⟩;rintro u bx ci F ⟨rfl,_⟩
 refine zk (qo (v:=(vi u)) rfl (za rfl) (qo rfl (uq rfl rfl) (qo (v:=(.bool (decide (u=(-1))))) rfl (za rfl) (qa rfl rfl rfl rfl (fun e=>uf gz jf rfl (U.mono (((b.trans n).trans p).trans F))) fun bA am=>?_))))
 refine qa rfl rfl rfl rfl (fun e=>jq z4u rfl (am.1 (zf rfl e))) fun bB an=>?_;refine qa rfl rfl rfl rfl (fun e=>zx (v:=(vi u)) (za rfl)) fun bC ao=>?_;obtain⟨M,c⟩:=ze c
 refine qa rfl rfl rfl rfl (fun e=>df (i:=u.toNat) z94 rfl (jc (an.1 (zf rfl e))) (zi (ao.1 (zf rfl e)) (M (zf rfl e)).1) (qc (M (zf rfl e)))) fun bD ap=>?_;refine qa rfl rfl rfl rfl (fun e=>uf z7r mi rfl (ap.1 (zf rfl e))) fun bE aq=>?_
 refine qa rfl rfl rfl rfl (fun e=>zx (vv (jq ty3 rfl (aq.1 (zf rfl e))))) fun bF ar=>?_;refine qa rfl rfl rfl rfl (fun e=>zx (v:=(vi s)) (za rfl)) fun bG au=>?_;refine qa rfl rfl rfl rfl (fun e=>zx (ky (ar.1 (zf rfl e)) (au.1 (zf rfl e)))) fun bH av=>?_
 refine qo rfl (um rfl rfl (fun V=>(av.1 (zf rfl V)))) (z8 (zq rfl c (fun c=>?_) (fun c=>?_)));refine zk (zh (vi 19) (z8 (qh ?_)));replace d:=bv c d;obtain rfl:=Option.some.inj d
 refine zy (D:=[]) (J:=[]) (rs:=[.tmp 4]) (vs:=[(vi 19)]) (((((q.trans o).trans b).trans n).trans p).trans F) rfl rfl ⟨rfl,trivial⟩ ?_;exact⟨rfl,rfl⟩;refine zz (zm ?_);obtain⟨aw,c⟩:=ze c;refine zl (jk rfl rfl aw) (zg (vi (s+1)) (z8 ?_))
 exact⟨dkt,F,kg,(G,s+1),Nat.lt_succ_self _,⟨rfl,trivial⟩,prm,c,trivial⟩;refine je ?_;exact⟨dkt,p,kg,(),trivial,prm,(Option.some.inj c).symm,trivial⟩;rintro cj bI ck ax ⟨rfl,_⟩;replace d:=mg d;refine zk (zh (vi 0) (z8 (qh ?_)));obtain rfl:=Option.some.inj d
 refine zy (D:=[]) (J:=[]) (rs:=[.tmp 4]) (vs:=[(vi 0)]) ((((q.trans o).trans b).trans n).trans ax) rfl rfl ⟨rfl,trivial⟩ ?_;exact⟨rfl,rfl⟩
theorem zmg:Enters prog 18:=enters_of func18 rfl (by kernel_rfl)
end GV
end Go.Proofs.Ytnnobdkjgafdmaa
