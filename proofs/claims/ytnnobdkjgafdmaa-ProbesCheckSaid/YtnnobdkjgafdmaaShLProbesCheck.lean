import Derived.Test.YtnnobdkjgafdmaaShWe
import Derived.Test.YtnnobdkjgafdmaaShXa
import Derived.Test.YtnnobdkjgafdmaaShXb
import Derived.Test.YtnnobdkjgafdmaaShXc
import Derived.Test.YtnnobdkjgafdmaaShXd
import Derived.Test.YtnnobdkjgafdmaaShXe
import Derived.Test.YtnnobdkjgafdmaaRows
set_option linter.unusedVariables false
set_option linter.unusedSimpArgs false
set_option linter.unusedSectionVars false
namespace Go.Proofs.Ytnnobdkjgafdmaa
namespace GV
open _root_.Go.Proofs.Try
open Go.IntWalk
set_option maxRecDepth 100000
set_option maxHeartbeats 20000000
theorem zdf{N:Nat}{R:RH}{t:Sb}{f:Value}(m:VRep (ku false false) R f t){r:Int}(b:z1a N t=some r):CallP prog 22 #[f] R (fun v R'=>v=(vi r)):=by
 refine qd (args:=[f]) func22 rfl rfl fun A=>?_;rw [z1a] at b;refine zl (kz (T:=(ku false false)) rfl rfl rfl m fun S U h V n=>?_);refine zi (vi 0) (z8 (zt (zl (j6 rfl pu ja rfl n fun W z=>?_))));refine qh rfl z4g rfl z fun X B=>?_
 refine zm (qo rfl underlying43 rfl (j5 B)) (zm (z2l rfl rfl) (z8 (zu rfl b (fun b=>?_) (fun b=>?_))));refine zl (zi (vi 1) (z8 (qm ?_)));obtain rfl:=Option.some.inj b;refine qa (D:=[]) (J:=[]) (rs:=[.tmp 2]) (vs:=[(vi 1)]) h rfl rfl ⟨rfl,trivial⟩ ?_;exact⟨rfl,rfl⟩;refine qb ?_
 obtain⟨j,a,b⟩:=zq b;refine qx (γ:=Unit) (rs [2,4,8,23]) (fun g=>[]) (fun g=>[]++A) (fun g R=>j=Ex.go g∧True) ?_ ?_
 refine zl (zi (vi 0) (z8 (zw (je (γ:=Nat×Int) (rs [2,4,8,23]) (fun g=>[(3,(vi g.2))]) (fun g=>[]++A) (fun g R=>pz N t g.1 g.2=some j∧True) (fun g=>g.1) (N,0) prm ⟨a,trivial⟩ ?_))));clear a;rintro⟨e,c⟩ C E d ⟨a,_⟩;rcases e with _|e;exact qw a
 replace a:pz N t (e+1) c=some j:=a;rw [pz] at a;refine zt (zl (zg (vi c) (j6 rfl pu ja rfl (n.mono d) fun F o=>?_)));refine qh rfl z4g rfl o fun G p=>?_
 refine zm (qo rfl underlying43 rfl (j5 p)) (zm (j4 rfl rfl) (z8 (zu rfl a (fun a=>?_) (fun a=>?_))));refine qb (zt (zw (zl (j6 rfl pu ja rfl (n.mono d) fun H q=>?_))));refine qh rfl z4g rfl q fun I s=>?_;refine zg (vi c) ?_;obtain⟨k,a⟩:=zb a
 refine kv (i:=c.toNat) rfl z8u rfl (j5 s) (zf rfl k.1) (zx k) fun K u=>?_;refine j6 rfl z4f mo rfl u fun L w=>?_;refine qh rfl zc3 rfl w fun M x=>?_;refine zm (qo rfl underlying32 rfl (j5 x)) (zm (z2l rfl rfl) (z8 (zu rfl a (fun a=>?_) (fun a=>?_))))
 refine zl (zi (vi 1) (z8 (qm ?_)));replace b:=z00 a b;obtain rfl:=Option.some.inj b;refine qa (D:=[]) (J:=[]) (rs:=[.tmp 2]) (vs:=[(vi 1)]) (h.trans d) rfl rfl ⟨rfl,trivial⟩ ?_;exact⟨rfl,rfl⟩;refine qb (zn (zg (vi c) ?_));obtain⟨y,a⟩:=zb a
 refine zm (ji rfl rfl y) (zi (vi (c+1)) (z8 ?_));exact⟨dkt,(RH.le.refl _),jm,(e,c+1),Nat.lt_succ_self _,⟨rfl,trivial⟩,prm,a,trivial⟩;refine jg ?_;exact⟨dkt,d,jm,(),trivial,prm,(Option.some.inj a).symm,trivial⟩;rintro O P Q l ⟨rfl,_⟩;replace b:=z0v b;refine zl (zi (vi 0) (z8 (qm ?_)))
 obtain rfl:=Option.some.inj b;refine qa (D:=[]) (J:=[]) (rs:=[.tmp 2]) (vs:=[(vi 0)]) (h.trans l) rfl rfl ⟨rfl,trivial⟩ ?_;exact⟨rfl,rfl⟩
theorem q2c:Enters prog 47:=enters_of func47 rfl (by kernel_rfl)
theorem z9i{N:Nat}(F:Nat): ∀ {R:RH} {m:Mach} {P:Value} (Q:VRep (jv false false) R P m) {b:(List Sa)} {k:Value} (w:VRep (tSl false (q8 false)) R k b) {i:Int} {r:Int} (c:wy N F m b i=some r),CallP prog 47 #[P,k,(vi i)] R (fun v R'=>v=(vi r)):=by
  induction F with
  |zero=>intros;rename_i c;exact qw c
  |succ F ih=>
    intro R m P Q b k w i r c
    refine qd (args:=[P,k,(vi i)]) func47 rfl rfl fun A=>?_
    rw [wy] at c
    refine zt ?_
    refine zn ?_
    refine kz (T:=(jv false false)) rfl rfl rfl Q fun v1 R3 t h5 h2=>?_
    refine zi (vi 0) ?_
    refine z8 ?_
    refine zt ?_
    refine zt ?_
    obtain⟨g6,c⟩:=zb c
    refine dz 15 [] [phX (vi i),phX k,phX (vi (↑b.length:Int)),phX (.bool (decide ((↑b.length:Int)≤i))),phX (.bool (decide ((↑b.length:Int)≤i))),phG (true&&((decide ((↑b.length:Int)≤i))==false)) (phX k),phG (true&&((decide ((↑b.length:Int)≤i))==false)) (phX (vi i)),phG (true&&((decide ((↑b.length:Int)≤i))==false)) (phP (q8 false) (ix b i)),phG (true&&((decide ((↑b.length:Int)≤i))==false)) (phP (tSl false (qf .i64)) ((ix b i).fC)),phG (true&&((decide ((↑b.length:Int)≤i))==false)) (phR (tSl false (qf .i64)) ((ix b i).fC)),phG (true&&((decide ((↑b.length:Int)≤i))==false)) (phX (vi (↑((ix b i).fC).length:Int))),phG (true&&((decide ((↑b.length:Int)≤i))==false)) (phP (qf .i64) m.outputs),phG (true&&((decide ((↑b.length:Int)≤i))==false)) (phX (vi m.outputs)),phG (true&&((decide ((↑b.length:Int)≤i))==false)) (phX (.bool (decide ((↑((ix b i).fC).length:Int)≠m.outputs)))),phX (.bool ((decide ((↑b.length:Int)≤i))||(decide ((↑((ix b i).fC).length:Int)≠m.outputs))))] mixed (by kernel_rfl) (gu ⟨zo,zo,zo,zo,zo,(ql zo),(ql zo),(ql u6),(ql u6),(ql yz),(ql zo),(ql u6),(ql zo),(ql zo),zo,trivial⟩) ⟨?_,?_,?_,?_,?_,?_,?_,?_,?_,?_,?_,?_,?_,?_,?_,trivial⟩ fun R7 p=>?_
    · intro l bY n u hd
      have a2:l 2=(vi i):=u 2 rfl
      exact za rfl rfl rfl (zz (ze a2))
    · intro l b0 n u hd
      have a1:l 1=k:=u 1 rfl
      exact za rfl rfl rfl (zz (ze a1))
    · rintro l b1 n u ⟨q,_⟩
      have aM:=q rfl
      exact za rfl rfl rfl (zz (qo rfl underlying43 aM (j5 ((w.mono t).mono n))))
    · rintro l b2 n u ⟨q,B,_⟩
      have aN:=q rfl
      have aO:=B rfl
      exact za rfl rfl rfl (zz (r9 aN aO))
    · rintro l b3 n u ⟨q,_⟩
      have aP:=q rfl
      exact za rfl rfl rfl (zz (ze aP))
    · rintro l b4 n u ⟨q,_⟩
      have a1:l 1=k:=u 1 rfl
      exact zk (Gj:=true) (Bj:=decide ((↑b.length:Int)≤i)) rfl rfl rfl (jo (q rfl)) rfl (fun d a=>zz (ze a1))
    · rintro l b5 n u ⟨q,_⟩
      have a2:l 2=(vi i):=u 2 rfl
      exact zk (Gj:=true) (Bj:=decide ((↑b.length:Int)≤i)) rfl rfl rfl (jo (q rfl)) rfl (fun d a=>zz (ze a2))
    · rintro l b6 n u ⟨q,B,d2,_⟩
      have Y:=q rfl
      have Z:=B rfl
      exact zk (Gj:=true) (Bj:=decide ((↑b.length:Int)≤i)) rfl rfl rfl (jo (d2 rfl)) rfl (fun d a=>ul (i:=i.toNat) z8u (show l 16=k from Y.1 (zh rfl a)) (j5 ((w.mono t).mono n)) (zf (show l 17=(vi i) from Z.1 (zh rfl a)) (g6 (zh d a)).1) (zx (g6 (zh d a))))
    · rintro l b7 n u ⟨q,B,_⟩
      have aa:=q rfl
      exact zk (Gj:=true) (Bj:=decide ((↑b.length:Int)≤i)) rfl rfl rfl (jo (B rfl)) rfl (fun d a=>ui z4f mo rfl (aa.1 (zh rfl a)))
    · rintro l b8 n u ⟨q,B,_⟩
      have ab:=q rfl
      exact zk (Gj:=true) (Bj:=decide ((↑b.length:Int)≤i)) rfl rfl rfl (jo (B rfl)) rfl (fun d a=>jh zc3 rfl (ab.1 (zh rfl a)))
    · rintro l bo n u ⟨q,B,_⟩
      have ac:=q rfl
      exact zk (Gj:=true) (Bj:=decide ((↑b.length:Int)≤i)) rfl rfl rfl (jo (B rfl)) rfl (fun d a=>zz (qo rfl underlying32 rfl (j5 (ac.1 (zh rfl a)))))
    · rintro l bp n u ⟨q,_⟩
      have a3:l 3=v1:=u 3 rfl
      exact zk (Gj:=true) (Bj:=decide ((↑b.length:Int)≤i)) rfl rfl rfl (jo (q rfl)) rfl (fun d a=>ui zba z7c a3 (h2.mono n))
    · rintro l bq n u ⟨q,B,_⟩
      have ad:=q rfl
      exact zk (Gj:=true) (Bj:=decide ((↑b.length:Int)≤i)) rfl rfl rfl (jo (B rfl)) rfl (fun d a=>yf (jh ty3 rfl (ad.1 (zh rfl a))) (fun _ _ h=>jb.1 h))
    · rintro l br n u ⟨q,B,d2,_⟩
      have ae:=q rfl
      have af:=B rfl
      exact zk (Gj:=true) (Bj:=decide ((↑b.length:Int)≤i)) rfl rfl rfl (jo (d2 rfl)) rfl (fun d a=>zz (ww (show l 21=(vi (↑((ix b i).fC).length:Int)) from ae.1 (zh rfl a)) (show l 23=(vi m.outputs) from af.1 (zh rfl a))))
    · rintro l bs n u ⟨q,B,_⟩
      have aR:=q rfl
      have ag:=B rfl
      exact za rfl rfl rfl (zz (p9 aR rfl (fun C=>(show l 24=(.bool (decide ((↑((ix b i).fC).length:Int)≠m.outputs))) from ag.1 (zh rfl C)))))
    intro v9 aS
    intro ca aT
    intro cb aU
    intro cc aV
    intro cd aW
    intro ce cf
    intro cg ch
    intro ci cj
    intro ck cl
    intro cm cn
    intro co cp
    intro cq cr
    intro cs ct
    intro cu cv
    intro cw aX
    obtain rfl:=Eq.symm aS
    obtain rfl:=Eq.symm aT
    obtain rfl:=Eq.symm aU
    obtain rfl:=Eq.symm aV
    obtain rfl:=Eq.symm aW
    obtain rfl:=Eq.symm aX
    refine z8 ?_
    refine zu rfl c (fun c=>?_) (fun c=>?_)
    · refine zt ?_
      refine zn ?_
      refine zi (vi (-1)) ?_
      refine z8 ?_
      refine qm ?_
      obtain rfl:=Option.some.inj c
      refine qa (D:=[]) (J:=[]) (rs:=[.tmp 6]) (vs:=[(vi (-1))]) (t.trans p) rfl rfl ⟨rfl,trivial⟩ ?_
      exact⟨rfl,rfl⟩
    · refine qb ?_
      refine zt ?_
      refine zn ?_
      refine zg k ?_
      refine zg (vi i) ?_
      obtain⟨ah,c⟩:=zb c
      refine kv (i:=i.toNat) rfl z8u rfl (j5 (w.mono (t.trans p))) (zf rfl ah.1) (zx ah) fun cx aY=>?_
      refine qh rfl zum rfl aY fun cy aZ=>?_
      refine kw rfl zu8 fun s=>?_
      obtain⟨x,rfl,V⟩:=dh aZ
      refine jy (i:=0) (vs:=[(vi ((ix b i).fB)),(vi ((ix b i).fD)),x]) zmj rfl rfl rfl rfl rfl rfl (qc rfl (qc rfl (qc (z4t V) kg))) ?_
      refine z8 ?_
      refine zt ?_
      refine zn ?_
      refine zm (qi z4q rfl) ?_
      refine zm (qj (i:=0) ag3 rfl rfl rfl) ?_
      refine zm (yw rfl rfl) ?_
      refine zi (.bool (decide (((ix b i).fB)=(-1)))) ?_
      refine z8 ?_
      refine zt ?_
      refine zt ?_
      refine zn ?_
      refine jq (v:=(.bool (decide (((ix b i).fB)=(-1))))) rfl (ze rfl) ?_
      refine jq (v:=(.bool (decide (((ix b i).fB)=(-1))))) rfl (ze rfl) ?_
      refine qp rfl rfl rfl rfl (fun a=>qg (v:=(.pointer (some ⟨s,1,none⟩))) (qi z7l rfl)) fun cz a0=>?_
      refine qp rfl rfl rfl rfl (fun a=>qg (v:=(vi ((ix b i).fD))) (qj (i:=0) ag3 (a0.1 (zh rfl a)) rfl rfl)) fun cA a4=>?_
      refine qp rfl rfl rfl rfl (fun a=>qg (j4 (a4.1 (zh rfl a)) rfl)) fun cB a5=>?_
      refine qp rfl rfl rfl rfl (fun a=>qg (v:=(.bool (decide (((ix b i).fD)<0)))) (ze (a5.1 (zh rfl a)))) fun cC E=>?_
      refine z5p rfl rfl rfl E (fun d a=>qg (v:=(.pointer (some ⟨s,1,none⟩))) (qi z7l rfl)) fun cD a6=>?_
      refine z5p rfl rfl rfl E (fun d a=>qg (v:=(vi ((ix b i).fD))) (qj (i:=0) ag3 (a6.1 (zh d a)) rfl rfl)) fun cE a7=>?_
      refine z5p rfl rfl rfl E (fun d a=>w9 yu ug rfl (h2.mono p)) fun cF a8=>?_
      refine z5p rfl rfl rfl E (fun d a=>ko z1n rfl (a8.1 (zh d a))) fun cG a9=>?_
      refine z5p rfl rfl rfl E (fun d a=>qg (qo rfl underlying28 rfl (j5 (a9.1 (zh d a))))) fun cH ba=>?_
      refine z5p rfl rfl rfl E (fun d a=>qg (r9 (a7.1 (zh d a)) (ba.1 (zh d a)))) fun cI bb=>?_
      refine qp rfl rfl rfl rfl (fun a=>qg (p9 (E.1 (zh rfl a)) rfl (fun C=>(bb.1 (zh (zh rfl a) C))))) fun cJ bc=>?_
      refine jq rfl (bz rfl (fun C=>(bc.1 (zh rfl C))) rfl) ?_
      refine jq (v:=(.bool ((decide (((ix b i).fB)=(-1)))&&((decide (((ix b i).fD)<0))||(decide ((↑m.rows.length:Int)≤((ix b i).fD))))))) rfl (ze rfl) ?_
      refine qp rfl rfl rfl rfl (fun a=>qg (v:=(.bool (decide (((ix b i).fB)=(-1))))) (ze rfl)) fun cK be=>?_
      refine qp rfl rfl rfl rfl (fun a=>qg (rf (be.1 (zh rfl a)))) fun cL bf=>?_
      refine qp rfl rfl rfl rfl (fun a=>qg (v:=(.bool (!(decide (((ix b i).fB)=(-1)))))) (ze (bf.1 (zh rfl a)))) fun cM y=>?_
      refine z5p rfl rfl rfl y (fun d a=>qg (v:=(.pointer (some ⟨s,0,none⟩))) (qi z4q rfl)) fun cN bg=>?_
      refine z5p rfl rfl rfl y (fun d a=>qg (v:=(vi ((ix b i).fB))) (qj (i:=0) ag3 (bg.1 (zh d a)) rfl rfl)) fun cO bh=>?_
      refine z5p rfl rfl rfl y (fun d a=>qg (j4 (bh.1 (zh d a)) rfl)) fun cP bj=>?_
      refine z5p rfl rfl rfl y (fun d a=>qg (v:=(.bool (decide (((ix b i).fB)<0)))) (ze (bj.1 (zh d a)))) fun cQ I=>?_
      refine z5p rfl rfl rfl I (fun d a=>qg (v:=(.pointer (some ⟨s,0,none⟩))) (qi z4q rfl)) fun cR bk=>?_
      refine z5p rfl rfl rfl I (fun d a=>qg (v:=(vi ((ix b i).fB))) (qj (i:=0) ag3 (bk.1 (zh d a)) rfl rfl)) fun cS bl=>?_
      refine z5p rfl rfl rfl I (fun d a=>w9 z1o z2v rfl (h2.mono p)) fun cT bm=>?_
      refine z5p rfl rfl rfl I (fun d a=>qg (bi (ko ty3 rfl (bm.1 (zh d a))))) fun cU ai=>?_
      refine z5p rfl rfl rfl I (fun d a=>qg (r9 (bl.1 (zh d a)) (ai.1 (zh d a)))) fun bt aj=>?_
      refine z5p rfl rfl rfl y (fun d a=>qg (p9 (I.1 (zh d a)) rfl (fun C=>(aj.1 (zh (zh d a) C))))) fun bu ak=>?_
      refine z5p rfl rfl rfl y (fun d a=>qg (v:=(.bool ((decide (((ix b i).fB)<0))||(decide (m.inputs≤((ix b i).fB)))))) (ze (ak.1 (zh d a)))) fun bv G=>?_
      refine z5p rfl rfl rfl G (fun d a=>qg (v:=(.pointer (some ⟨s,1,none⟩))) (qi z7l rfl)) fun bw al=>?_
      refine z5p rfl rfl rfl G (fun d a=>qg (v:=(vi ((ix b i).fD))) (qj (i:=0) ag3 (al.1 (zh d a)) rfl rfl)) fun bx am=>?_
      refine z5p rfl rfl rfl G (fun d a=>qg (ww (am.1 (zh d a)) rfl)) fun bA an=>?_
      refine z5p rfl rfl rfl y (fun d a=>qg (p9 (G.1 (zh d a)) rfl (fun C=>(an.1 (zh (zh d a) C))))) fun bB ao=>?_
      refine qp rfl rfl rfl rfl (fun a=>qg (bz (y.1 (zh rfl a)) (fun C=>(ao.1 (zh (zh rfl a) C))) rfl)) fun bC ap=>?_
      refine jq rfl (p9 rfl rfl (fun C=>(ap.1 (zh rfl C)))) ?_
      refine z8 ?_
      refine zu rfl c (fun c=>?_) (fun c=>?_)
      · refine zt ?_
        refine zn ?_
        refine zi (vi (-1)) ?_
        refine z8 ?_
        refine qm ?_
        obtain rfl:=Option.some.inj c
        refine qa (D:=[]) (J:=[box s [(vi ((ix b i).fB)),(vi ((ix b i).fD)),x] 55]) (rs:=[.tmp 6]) (vs:=[(vi (-1))]) (t.trans p) rfl rfl ⟨rfl,trivial⟩ ?_
        exact⟨rfl,rfl⟩
      · refine qb ?_
        refine zt ?_
        refine zn ?_
        refine zg (vi i) ?_
        obtain⟨aq,c⟩:=zb c
        refine zm (ji rfl rfl aq) ?_
        refine zi (vi (i+1)) ?_
        refine z8 ?_
        obtain⟨K,e,c⟩:=zq c
        refine qx (γ:=Int) (rs [6,7,9,11,70,98]) (fun g=>[(9,(vi g))]) (fun g=>[]++A) (fun g R=>K=Ex.go g∧True) ?_ ?_
        · refine zt ?_
          refine zn ?_
          refine zi (vi 0) ?_
          refine z8 ?_
          refine zw ?_
          refine je (γ:=Nat×Int×Int) (rs [6,7,9,11,70,98]) (fun g=>[(9,(vi g.2.1)),(10,(vi g.2.2))]) (fun g=>[box s [(vi ((ix b i).fB)),(vi ((ix b i).fD)),x] 55]++A) (fun g R=>yo N (wy N F) m b i g.1 g.2.1 g.2.2=some K∧True) (fun g=>g.1) (N,i+1,0) prm ⟨e,trivial⟩ ?_
          clear e
          rintro⟨H,z,o⟩ bD bE f ⟨e,_⟩
          rcases H with _|H
          · exact qw e
          replace e:yo N (wy N F) m b i (H+1) z o=some K:=e;rw [yo] at e
          refine zt ?_
          refine zt ?_
          refine zn ?_
          refine zg (vi o) ?_
          refine j6 rfl zba z7c rfl (h2.mono (p.trans f)) fun bF ar=>?_
          refine qh rfl ty3 rfl ar fun bG au=>?_
          obtain rfl:=jb.1 au
          refine zm (j4 rfl rfl) ?_
          refine z8 ?_
          refine zu rfl e (fun e=>?_) (fun e=>?_)
          · refine qb ?_
            obtain⟨av,j,e⟩:=zq e
            refine qx (γ:=Int) (rs [6,7,9,10,76,98]) (fun g=>[(9,(vi g))]) (fun g=>[box s [(vi ((ix b i).fB)),(vi ((ix b i).fD)),x] 55]++A) (fun g R=>av=Ex.go g∧True) ?_ ?_
            · refine zw ?_
              refine zt ?_
              refine zt ?_
              refine zn ?_
              refine zm (qi z4f rfl) ?_
              refine zm (qj (i:=0) zar rfl rfl rfl) ?_
              refine zg (vi o) ?_
              obtain⟨S,j⟩:=zb j
              refine kv (i:=o.toNat) rfl ig rfl (j5 (V.mono f)) (zf rfl S.1) (zx S) fun bH aw=>?_
              refine qh rfl ty3 rfl aw fun bI ax=>?_
              obtain rfl:=jb.1 ax
              refine zm (yw rfl rfl) ?_
              refine z8 ?_
              refine zu rfl j (fun j=>?_) (fun j=>?_)
              · refine jg ?_
                exact⟨dkt,(RH.le.refl _),jm,z,⟨rfl,trivial⟩,prm,(Option.some.inj j).symm,trivial⟩
              · refine qb ?_
                refine zt ?_
                refine zt ?_
                refine zn ?_
                refine jq (v:=(.bool (decide (((ix b i).fB)=(-1))))) rfl (ze rfl) ?_
                refine jq (v:=(.bool (decide (((ix b i).fB)=(-1))))) rfl (ze rfl) ?_
                refine qp rfl rfl rfl rfl (fun a=>qg (v:=(.pointer (some ⟨s,2,none⟩))) (qi z4f rfl)) fun bJ ay=>?_
                refine qp rfl rfl rfl rfl (fun a=>qg (v:=x) (qj (i:=0) zar (ay.1 (zh rfl a)) rfl rfl)) fun bK az=>?_
                refine qp rfl rfl rfl rfl (fun a=>qg (v:=(vi o)) (ze rfl)) fun bL aA=>?_
                obtain⟨U,j⟩:=zb j
                refine qp rfl rfl rfl rfl (fun a=>gm (i:=o.toNat) ig (az.1 (zh rfl a)) (j5 (V.mono f)) (zf (aA.1 (zh rfl a)) (U (zh rfl a)).1) (zx (U (zh rfl a)))) fun bM aB=>?_
                refine qp rfl rfl rfl rfl (fun a=>qg (bi (ko ty3 rfl (aB.1 (zh rfl a))))) fun bN aC=>?_
                refine qp rfl rfl rfl rfl (fun a=>qg (v:=(vi z)) (ze rfl)) fun bO aD=>?_
                refine qp rfl rfl rfl rfl (fun a=>qg (ww (aC.1 (zh rfl a)) (aD.1 (zh rfl a)))) fun bP aE=>?_
                refine jq rfl (p9 rfl rfl (fun C=>(aE.1 (zh rfl C)))) ?_
                refine z8 ?_
                refine zu rfl j (fun j=>?_) (fun j=>?_)
                · refine zt ?_
                  refine zn ?_
                  refine zi (vi (-1)) ?_
                  refine z8 ?_
                  refine qm ?_
                  replace e:=z00 j e
                  replace c:=z00 e c
                  obtain rfl:=Option.some.inj c
                  refine qa (D:=[]) (J:=[box s [(vi ((ix b i).fB)),(vi ((ix b i).fD)),x] 55]) (rs:=[.tmp 6]) (vs:=[(vi (-1))]) ((t.trans p).trans f) rfl rfl ⟨rfl,trivial⟩ ?_
                  exact⟨rfl,rfl⟩
                · refine qb ?_
                  refine zt ?_
                  refine zn ?_
                  refine zm (ky z0w rfl rfl (h5.mono (p.trans f)) (Q.mono ((t.trans p).trans f))) ?_
                  refine zg k ?_
                  refine zg (vi z) ?_
                  obtain⟨L,aF,j⟩:=zq j
                  refine jf rfl q2c rfl (ih (Q.mono ((t.trans p).trans f)) (w.mono ((t.trans p).trans f)) aF) fun bQ bR M aG=>?_
                  obtain rfl:=aG
                  refine zi (vi L) ?_
                  refine z8 ?_
                  refine zt ?_
                  refine zn ?_
                  refine zg (vi L) ?_
                  refine zm (j4 rfl rfl) ?_
                  refine z8 ?_
                  refine zu rfl j (fun j=>?_) (fun j=>?_)
                  · refine zt ?_
                    refine zn ?_
                    refine zi (vi (-1)) ?_
                    refine z8 ?_
                    refine qm ?_
                    replace e:=z00 j e
                    replace c:=z00 e c
                    obtain rfl:=Option.some.inj c
                    refine qa (D:=[]) (J:=[box s [(vi ((ix b i).fB)),(vi ((ix b i).fD)),x] 55]) (rs:=[.tmp 6]) (vs:=[(vi (-1))]) (((t.trans p).trans f).trans M) rfl rfl ⟨rfl,trivial⟩ ?_
                    exact⟨rfl,rfl⟩
                  · refine qb ?_
                    exact⟨dkt,M,jm,L,⟨rfl,trivial⟩,prm,(Option.some.inj j).symm,trivial⟩
            · rintro aH bS bT W ⟨rfl,_⟩
              replace e:=z0v e
              refine zn ?_
              refine zg (vi o) ?_
              obtain⟨aI,e⟩:=zb e
              refine zm (ji rfl rfl aI) ?_
              refine zi (vi (o+1)) ?_
              refine z8 ?_
              exact⟨dkt,W,jm,(H,aH,o+1),Nat.lt_succ_self _,⟨rfl,rfl,trivial⟩,prm,e,trivial⟩
          · refine jg ?_
            exact⟨dkt,f,jm,z,⟨rfl,trivial⟩,⟨[box s [(vi ((ix b i).fB)),(vi ((ix b i).fD)),x] 55],(List.Perm.refl _)⟩,(Option.some.inj e).symm,trivial⟩
        · rintro O bU bV X ⟨rfl,_⟩
          replace c:=z0v c
          refine zt ?_
          refine zn ?_
          refine zg (vi O) ?_
          refine zi (vi O) ?_
          refine z8 ?_
          refine qm ?_
          obtain rfl:=Option.some.inj c
          refine qa (D:=[]) (J:=[]) (rs:=[.tmp 6]) (vs:=[(vi O)]) ((t.trans p).trans X) rfl rfl ⟨rfl,trivial⟩ ?_
          exact⟨rfl,rfl⟩
theorem zcd{N:Nat}{R:RH}{m:Mach}{b:Value}(d:VRep (jv false false) R b m){f:(List Sa)}{a:Value}(c:VRep (tSl false (q8 false)) R a f){i:Int}{r:Int}(e:wy N N m f i=some r):CallP prog 47 #[b,a,(vi i)] R (fun v R'=>v=(vi r)):=z9i N d c e
theorem zbj{N:Nat}{R:RH}{m:Mach}{y:Value}(P:VRep (jv false false) R y m){t:Sb}{Q:Value}(aE:VRep (ku false false) R Q t){r:Int}(n:og N m t=some r):CallP prog 23 #[y,Q] R (fun v R'=>v=(vi r)):=by
 refine qd (args:=[y,Q]) func23 rfl rfl fun A=>?_;rw [og] at n;refine zl (kz (T:=(jv false false)) rfl rfl rfl P fun v1 R3 z h5 h2=>?_);refine kz (T:=(ku false false)) rfl rfl rfl (aE.mono z) fun v6 R8 s bO S=>?_;refine zi (vi 0) (z8 (zt (zt ?_)));obtain⟨B,aF,n⟩:=zq n
 let E:=(true&&((decide (1024<(↑t.fA.length:Int)))==false))
 refine dz 14 [] [phP (tSl false (q8 false)) t.fA,phR (tSl false (q8 false)) t.fA,phX (vi (↑t.fA.length:Int)),phX (.bool (decide (1024<(↑t.fA.length:Int)))),phX (.bool (decide (1024<(↑t.fA.length:Int)))),phG E (phX y),phG E (phP (tSl false (q8 false)) t.fA),phG E (phR (tSl false (q8 false)) t.fA),phG E (phX (vi (B.getD default))),phG E (phP (tSl false (q8 false)) t.fA),phG E (phR (tSl false (q8 false)) t.fA),phG E (phX (vi (↑t.fA.length:Int))),phG E (phX (.bool (decide ((B.getD default)≠(↑t.fA.length:Int))))),phX (.bool ((decide (1024<(↑t.fA.length:Int)))||(decide ((B.getD default)≠(↑t.fA.length:Int)))))] mixed (by kernel_rfl) (gu ⟨u6,yz,zo,zo,zo,(ql zo),(ql u6),(ql yz),(ql zo),(ql u6),(ql yz),(ql zo),(ql zo),zo,trivial⟩) ⟨?_,?_,?_,?_,?_,?_,?_,?_,?_,?_,?_,?_,?_,?_,trivial⟩ fun bP o=>?_
 intro l aG a j W;exact za rfl rfl rfl (ui pu ja (j 3 rfl) (S.mono a));rintro l aH a j ⟨e,_⟩;exact za rfl rfl rfl (jh z4g rfl (e rfl));rintro l aI a j ⟨e,_⟩;exact za rfl rfl rfl (zz (qo rfl underlying43 rfl (j5 (e rfl))));rintro l aJ a j ⟨e,_⟩
 exact za rfl rfl rfl (zz (z2l (e rfl) rfl));rintro l aK a j ⟨e,_⟩;exact za rfl rfl rfl (zz (ze (e rfl)));rintro l aL a j ⟨e,_⟩
 exact zk (Gj:=true) (Bj:=decide (1024<(↑t.fA.length:Int))) rfl rfl rfl (jo (e rfl)) rfl (fun H c=>zz (ky z0w rfl (j 2 rfl) ((h5.mono s).mono a) ((P.mono (z.trans s)).mono a)));rintro l aM a j ⟨e,_⟩
 exact zk (Gj:=true) (Bj:=decide (1024<(↑t.fA.length:Int))) rfl rfl rfl (jo (e rfl)) rfl (fun H c=>ui pu ja (j 3 rfl) (S.mono a));rintro l aN a j ⟨e,u,_⟩;exact zk (Gj:=true) (Bj:=decide (1024<(↑t.fA.length:Int))) rfl rfl rfl (jo (u rfl)) rfl (fun H c=>jh z4g rfl ((e rfl).1 (zh rfl c)))
 rintro l X a j ⟨e,u,d2,d3,_⟩;have Y:phG E (phX y) (l 14) X:=e rfl
 exact zk (Gj:=true) (Bj:=decide (1024<(↑t.fA.length:Int))) rfl rfl rfl (jo (d2 rfl)) rfl (fun H c=>bu (vs:=[y,(l 16),(vi 0)]) q2c (by simp only [List.map,ev,(show l 14=y from Y.1 (zh rfl c))]<;>rfl) ((by have aP:=(z0x aF (zh H c));exact zcd ((P.mono (z.trans s)).mono a) ((u rfl).1 (zh rfl c)) aP)) (fun _ _ h=>h))
 rintro l aQ a j ⟨e,_⟩;exact zk (Gj:=true) (Bj:=decide (1024<(↑t.fA.length:Int))) rfl rfl rfl (jo (e rfl)) rfl (fun H c=>ui pu ja (j 3 rfl) (S.mono a));rintro l Z a j ⟨e,u,_⟩
 exact zk (Gj:=true) (Bj:=decide (1024<(↑t.fA.length:Int))) rfl rfl rfl (jo (u rfl)) rfl (fun H c=>jh z4g rfl ((e rfl).1 (zh rfl c)));rintro l aa a j ⟨e,u,_⟩
 exact zk (Gj:=true) (Bj:=decide (1024<(↑t.fA.length:Int))) rfl rfl rfl (jo (u rfl)) rfl (fun H c=>zz (qo rfl underlying43 rfl (j5 ((e rfl).1 (zh rfl c)))));rintro l ab a j ⟨e,u,d2,_⟩
 exact zk (Gj:=true) (Bj:=decide (1024<(↑t.fA.length:Int))) rfl rfl rfl (jo (d2 rfl)) rfl (fun H c=>zz (ww (show l 17=(vi (B.getD default)) from(e rfl).1 (zh rfl c)) (show l 20=(vi (↑t.fA.length:Int)) from(u rfl).1 (zh rfl c))));rintro l ac a j ⟨e,u,_⟩
 exact za rfl rfl rfl (zz (p9 (e rfl) rfl (fun hb=>(show l 21=(.bool (decide ((B.getD default)≠(↑t.fA.length:Int)))) from(u rfl).1 (zh rfl hb)))));intro bQ bR bS bT bU aR bV aS bW aT bX bY bZ b0 b1 b2 b3 b4 b5 b6 b7 b8 b9 ca cb cc cd aU;obtain rfl:=Eq.symm aR;obtain rfl:=Eq.symm aS;obtain rfl:=Eq.symm aT
 obtain rfl:=Eq.symm aU;refine z8 (zu rfl n (fun n=>?_) (fun n=>?_));refine zl (zi (vi 4) (z8 (qm ?_)));obtain rfl:=Option.some.inj n;refine qa (D:=[]) (J:=[]) (rs:=[.tmp 4]) (vs:=[(vi 4)]) ((z.trans s).trans o) rfl rfl ⟨rfl,trivial⟩ ?_;exact⟨rfl,rfl⟩;refine qb ?_;obtain⟨U,d,n⟩:=zq n
 refine qx (γ:=Unit) (rs [4,9,23,79]) (fun g=>[]) (fun g=>[]++A) (fun g R=>U=Ex.go g∧True) ?_ ?_;refine zl (zi (vi 0) (z8 (zw (je (γ:=Nat×Int) (rs [4,9,23,79]) (fun g=>[(5,(vi g.2))]) (fun g=>[]++A) (fun g R=>bg N m t g.1 g.2=some U∧True) (fun g=>g.1) (N,0) prm ⟨d,trivial⟩ ?_))));clear d
 rintro⟨F,q⟩ a6 ce p ⟨d,_⟩;rcases F with _|F;exact qw d;replace d:bg N m t (F+1) q=some U:=d;rw [bg] at d;refine zt (zl (zg (vi q) (j6 rfl yu ug rfl (h2.mono ((s.trans o).trans p)) fun cf aV=>?_)));refine qh rfl z1n rfl aV fun cg aW=>?_
 refine zm (qo rfl underlying28 rfl (j5 aW)) (zm (j4 rfl rfl) (z8 (zu rfl d (fun d=>?_) (fun d=>?_))));refine qb (zt (zw (zl (zg (vi q) (zi (vi q) (qy (zi (vi 0) (z8 ?_))))))));obtain⟨w,f,d⟩:=zq d
 refine qx (γ:=Int) (rs [6,9,31,67]) (fun g=>[(7,(vi g))]) (fun g=>[]++A) (fun g R=>w=g∧True) ?_ ?_
 refine zw (je (γ:=Nat×Int×Int) (rs [6,9,31,67]) (fun g=>[(6,(vi g.2.1)),(7,(vi g.2.2))]) (fun g=>[]++A) (fun g R=>di N m t g.1 g.2.1 g.2.2=some w∧True) (fun g=>g.1) (N,q,0) prm ⟨f,trivial⟩ ?_);clear f;rintro⟨G,k,b⟩ a7 ch x ⟨f,_⟩;rcases G with _|G;exact qw f
 replace f:di N m t (G+1) k b=some w:=f;rw [di] at f
 refine zt (zl (jq (v:=(vi b)) rfl (ze rfl) (jq rfl (ww rfl rfl) (jq (v:=(.bool (decide (b≠(-1))))) rfl (ze rfl) (qp rfl rfl rfl rfl (fun c=>w9 pu ja rfl (S.mono ((o.trans p).trans x))) fun ci aX=>?_)))));refine qp rfl rfl rfl rfl (fun c=>ko z4g rfl (aX.1 (zh rfl c))) fun cj aY=>?_
 refine qp rfl rfl rfl rfl (fun c=>qg (v:=(vi b)) (ze rfl)) fun ck aZ=>?_;obtain⟨ae,f⟩:=zb f;refine qp rfl rfl rfl rfl (fun c=>gm (i:=b.toNat) z8u rfl (j5 (aY.1 (zh rfl c))) (zf (aZ.1 (zh rfl c)) (ae (zh rfl c)).1) (zx (ae (zh rfl c)))) fun cl a0=>?_
 refine qp rfl rfl rfl rfl (fun c=>w9 z4q mq rfl (a0.1 (zh rfl c))) fun cm a1=>?_;refine qp rfl rfl rfl rfl (fun c=>qg (bi (ko ty3 rfl (a1.1 (zh rfl c))))) fun cn a2=>?_;refine qp rfl rfl rfl rfl (fun c=>qg (ww (a2.1 (zh rfl c)) rfl)) fun co a3=>?_
 refine jq rfl (bz rfl (fun hb=>(a3.1 (zh rfl hb))) rfl) (z8 (zu rfl f (fun f=>?_) (fun f=>?_)));refine qb (zw (zt ?_));obtain⟨af,ag,ah,f⟩:=zxh f
 refine dz 14 [⟨13,[.int .i64 0,.int .i64 0],57⟩] [phP (tSl false (tSl false kEdge)) m.rows,phR (tSl false (tSl false kEdge)) m.rows,phX (vi k),phP (tSl false kEdge) (ix m.rows k),phR (tSl false kEdge) (ix m.rows k),phP (tSl false (q8 false)) t.fA,phR (tSl false (q8 false)) t.fA,phX (vi b),phP (q8 false) (ix t.fA b),phP (qf .i64) ((ix t.fA b).fB),phX (vi ((ix t.fA b).fB)),phP kEdge (ix (ix m.rows k) ((ix t.fA b).fB)),phX (ik (ix (ix m.rows k) ((ix t.fA b).fB))),phB] mixed (by kernel_rfl) (gu ⟨u6,yz,zo,u6,yz,u6,yz,zo,u6,u6,zo,u6,zo,zlq,trivial⟩) ⟨?_,?_,?_,?_,?_,?_,?_,?_,?_,?_,?_,?_,?_,?_,trivial⟩ fun cp I=>?_
 intro l aG a j W;exact za rfl rfl rfl (ui yu ug (j 2 rfl) ((h2.mono (((s.trans o).trans p).trans x)).mono a));rintro l aH a j ⟨e,_⟩;exact za rfl rfl rfl (jh z1n rfl (e rfl));intro l aI a j W;exact za rfl rfl rfl (zz (ze (j 6 rfl)));rintro l aJ a j ⟨e,u,_⟩
 exact za rfl rfl rfl (ul (i:=k.toNat) za4 rfl (j5 (e rfl)) (zf (u rfl) af.1) (zx af));rintro l aK a j ⟨e,_⟩;exact za rfl rfl rfl (jh z9h rfl (e rfl));intro l aL a j W;exact za rfl rfl rfl (ui pu ja (j 3 rfl) ((S.mono ((o.trans p).trans x)).mono a));rintro l aM a j ⟨e,_⟩
 exact za rfl rfl rfl (jh z4g rfl (e rfl));intro l aN a j W;exact za rfl rfl rfl (zz (ze (j 7 rfl)));rintro l X a j ⟨e,u,_⟩;exact za rfl rfl rfl (ul (i:=b.toNat) z8u rfl (j5 (e rfl)) (zf (u rfl) ag.1) (zx ag));rintro l aQ a j ⟨e,_⟩
 exact za rfl rfl rfl (ui z4q mq rfl (e rfl));rintro l Z a j ⟨e,_⟩;exact za rfl rfl rfl (yf (jh ty3 rfl (e rfl)) (fun _ _ h=>jb.1 h));rintro l aa a j ⟨e,u,_⟩;exact za rfl rfl rfl (ul (i:=((ix t.fA b).fB).toNat) za2 rfl (j5 (e rfl)) (zf (u rfl) ah.1) (zx ah))
 rintro l ab a j ⟨e,_⟩;exact za rfl rfl rfl (yf (jh zdd rfl (e rfl)) (fun _ _ h=>tq.1 h));intro l ac a j W;exact zd0 rfl rfl rfl rfl zd9;intro cq cr cs ct cu a4 a8 a9 ba bb bc be bf bh bj ai bk bl bm bn bo aj bp bq br ak bs al;obtain rfl:=Eq.symm a4;obtain rfl:=Eq.symm ai
 obtain rfl:=Eq.symm aj;obtain rfl:=Eq.symm ak;obtain⟨K,rfl⟩:=al;refine jy (i:=0) (vs:=[(vi ((ix (ix m.rows k) ((ix t.fA b).fB)).to)),(vi ((ix (ix m.rows k) ((ix t.fA b).fB)).out))]) z9p rfl rfl rfl rfl rfl rfl (qc rfl (qc rfl kg)) ?_;refine z8 (zt (z2k 10 mixed (by kernel_rfl) (by kernel_rfl) ?_))
 refine z2h (w9 pu ja rfl (S.mono (((o.trans p).trans x).trans I))) fun bt am=>?_;refine z2h (ko z4g rfl am) fun bv an=>?_;refine uo (v:=(vi b)) (ze rfl) ?_;obtain⟨L,f⟩:=zb f;refine z2h (gm (i:=b.toNat) z8u rfl (j5 an) (zf rfl L.1) (zx L)) fun bw ao=>?_
 refine z2h (w9 z4f mo rfl ao) fun bx ap=>?_;refine z2h (ko zc3 rfl ap) fun bA aq=>?_;refine uo (v:=(.pointer (some ⟨K,1,none⟩))) (qi z7p rfl) ?_;refine uo (v:=(vi ((ix (ix m.rows k) ((ix t.fA b).fB)).out))) (qj (i:=0) ag3 rfl rfl rfl) ?_;obtain⟨M,f⟩:=zb f
 refine z2h (gm (i:=((ix (ix m.rows k) ((ix t.fA b).fB)).out).toNat) ig rfl (j5 aq) (zf rfl M.1) (zx M)) fun bB ar=>?_;refine uo (bi (ko ty3 rfl ar)) ?_;intro bC V
 refine zi (vi (ix ((ix t.fA b).fC) ((ix (ix m.rows k) ((ix t.fA b).fB)).out))) (z8 (zn (zm (qi ll rfl) (zm (qj (i:=0) ag3 rfl rfl rfl) (zi (vi ((ix (ix m.rows k) ((ix t.fA b).fB)).to)) (z8 ?_))))))
 exact⟨dkt,(I.trans V),jm,(G,(ix (ix m.rows k) ((ix t.fA b).fB)).to,(ix ((ix t.fA b).fC) ((ix (ix m.rows k) ((ix t.fA b).fB)).out))),Nat.lt_succ_self _,⟨rfl,rfl,trivial⟩,⟨[box K [(vi ((ix (ix m.rows k) ((ix t.fA b).fB)).to)),(vi ((ix (ix m.rows k) ((ix t.fA b).fB)).out))] 57],(List.Perm.refl _)⟩,f,trivial⟩
 refine jg ?_;exact⟨dkt,x,jm,b,⟨rfl,trivial⟩,prm,(Option.some.inj f).symm,trivial⟩;rintro w bD cv C ⟨rfl,_⟩
 refine zl (jq (v:=(vi w)) rfl (ze rfl) (jq rfl (yw rfl rfl) (jq (v:=(.bool (decide (w=(-1))))) rfl (ze rfl) (qp rfl rfl rfl rfl (fun c=>w9 pu ja rfl (S.mono ((o.trans p).trans C))) fun bE au=>?_))));refine qp rfl rfl rfl rfl (fun c=>ko z4g rfl (au.1 (zh rfl c))) fun bF av=>?_
 refine qp rfl rfl rfl rfl (fun c=>qg (v:=(vi w)) (ze rfl)) fun bG aw=>?_;obtain⟨O,d⟩:=zb d;refine qp rfl rfl rfl rfl (fun c=>gm (i:=w.toNat) z8u rfl (j5 (av.1 (zh rfl c))) (zf (aw.1 (zh rfl c)) (O (zh rfl c)).1) (zx (O (zh rfl c)))) fun bH ax=>?_
 refine qp rfl rfl rfl rfl (fun c=>w9 z7l l5 rfl (ax.1 (zh rfl c))) fun bI ay=>?_;refine qp rfl rfl rfl rfl (fun c=>qg (bi (ko ty3 rfl (ay.1 (zh rfl c))))) fun bJ az=>?_;refine qp rfl rfl rfl rfl (fun c=>qg (v:=(vi q)) (ze rfl)) fun bK aA=>?_
 refine qp rfl rfl rfl rfl (fun c=>qg (ww (az.1 (zh rfl c)) (aA.1 (zh rfl c)))) fun bL aB=>?_;refine jq rfl (p9 rfl rfl (fun hb=>(aB.1 (zh rfl hb)))) (z8 (zu rfl d (fun d=>?_) (fun d=>?_)));refine zl (zi (vi 19) (z8 (qm ?_)));replace n:=z00 d n;obtain rfl:=Option.some.inj n
 refine qa (D:=[]) (J:=[]) (rs:=[.tmp 4]) (vs:=[(vi 19)]) ((((z.trans s).trans o).trans p).trans C) rfl rfl ⟨rfl,trivial⟩ ?_;exact⟨rfl,rfl⟩;refine qb (zn (zg (vi q) ?_));obtain⟨aC,d⟩:=zb d;refine zm (ji rfl rfl aC) (zi (vi (q+1)) (z8 ?_))
 exact⟨dkt,C,jm,(F,q+1),Nat.lt_succ_self _,⟨rfl,trivial⟩,prm,d,trivial⟩;refine jg ?_;exact⟨dkt,p,jm,(),trivial,prm,(Option.some.inj d).symm,trivial⟩;rintro cw bM cx aD ⟨rfl,_⟩;replace n:=z0v n;refine zl (zi (vi 0) (z8 (qm ?_)));obtain rfl:=Option.some.inj n
 refine qa (D:=[]) (J:=[]) (rs:=[.tmp 4]) (vs:=[(vi 0)]) (((z.trans s).trans o).trans aD) rfl rfl ⟨rfl,trivial⟩ ?_;exact⟨rfl,rfl⟩
theorem q0l{a b:Bool}:TyOk prog 45 (ku a b):=by
 obtain⟨i,hi,c⟩: ∃ i,prog.info? 45=some i∧i.size=1:=uf (by kernel_rfl);exact z01 underlying45 hi rfl c
theorem q4m:Enters prog 22:=enters_of func22 rfl (by kernel_rfl)
theorem q43:Enters prog 23:=enters_of func23 rfl (by kernel_rfl)
theorem z81{N:Nat}{R:RH}{x:Sj}{C:Value}(E:VRep (z02 false false) R C x){t:Sb}{f:Value}(s:VRep (ku false false) R f t){r:Bool}(g:tu N x t=some r):CallP prog 5 #[C,f] R (fun v R'=>v=(.bool r)):=by
 refine qd (args:=[C,f]) func5 rfl rfl fun A=>?_;rw [tu] at g;refine zl (kz (T:=(z02 false false)) rfl rfl rfl E fun v1 R3 m h5 h2=>?_);refine kz (T:=(ku false false)) rfl rfl rfl (s.mono m) fun v6 R8 n F h7=>?_
 refine zi (.bool false) (qy (zm (ky q4o rfl rfl (h5.mono n) (E.mono (m.trans n))) ?_));obtain⟨c,I,g⟩:=zq g;refine jf rfl en8 rfl (zbv (E.mono (m.trans n)) I) fun aj ak d K=>?_;refine kw rfl zof fun L=>?_;obtain⟨q,rfl,G⟩:=zea K
 refine jy (i:=0) (vs:=[(vi c.inputs),(vi c.outputs),q]) z8w rfl rfl rfl rfl rfl rfl (qc rfl (qc rfl (qc (z4t G) kg))) ?_;refine z8 (zt ?_);obtain⟨b,M,g⟩:=zq g;obtain⟨j,O,g⟩:=zq g;obtain⟨k,P,g⟩:=zq g;obtain⟨y,Q,g⟩:=zq g
 let S:=((decide (b≠0))||((decide ((j.getD default)=(k.getD default)))&&(y.getD default)))
 refine dz 16 [] [phX f,phX (vi b),phX (.bool (decide (b≠0))),phX (.bool (decide (b≠0))),phG (true&&((decide (b≠0))==false)) (phX (.agg #[(vi c.inputs),(vi c.outputs),q])),phG (true&&((decide (b≠0))==false)) (phX f),phG (true&&((decide (b≠0))==false)) (phX (vi (j.getD default))),phG (true&&((decide (b≠0))==false)) (phX (.agg #[(vi c.inputs),(vi c.outputs),q])),phG (true&&((decide (b≠0))==false)) (phX f),phG (true&&((decide (b≠0))==false)) (phX (vi (k.getD default))),phG (true&&((decide (b≠0))==false)) (phX (.bool (decide ((j.getD default)=(k.getD default))))),phG (true&&((decide (b≠0))==false)) (phX (.bool (decide ((j.getD default)=(k.getD default))))),phG ((true&&((decide (b≠0))==false))&&((decide ((j.getD default)=(k.getD default)))==true)) (phX (.bool (y.getD default))),phG (true&&((decide (b≠0))==false)) (phX (.bool ((decide ((j.getD default)=(k.getD default)))&&(y.getD default)))),phX (.bool S),phX (.bool S)] mixed (by kernel_rfl) (gu ⟨zo,zo,zo,zo,(ql zo),(ql zo),(ql zo),(ql zo),(ql zo),(ql zo),(ql zo),(ql zo),(ql zo),(ql zo),zo,zo,trivial⟩) ⟨?_,?_,?_,?_,?_,?_,?_,?_,?_,?_,?_,?_,?_,?_,?_,?_,trivial⟩ fun al H=>?_
 intro l am a p hd;exact za rfl rfl rfl (zz (ky q0l rfl (p 3 rfl) ((F.mono d).mono a) ((s.mono ((m.trans n).trans d)).mono a)));rintro l an a p ⟨e,_⟩;have f8:l 8=f:=e rfl
 exact za rfl rfl rfl (bu (vs:=[f]) q4m (by simp only [List.map,ev,f8]<;>rfl) (zdf ((s.mono ((m.trans n).trans d)).mono a) M) (fun _ _ h=>h));rintro l ap a p ⟨e,_⟩;exact za rfl rfl rfl (zz (ww (e rfl) rfl));rintro l aq a p ⟨e,u,_⟩;exact za rfl rfl rfl (zz (ze (e rfl)))
 rintro l ar a p ⟨e,_⟩;exact zk (Gj:=true) (Bj:=decide (b≠0)) rfl rfl rfl (jo (e rfl)) rfl (fun w o=>zz (vz (i:=0) zfa z8w (p 5 rfl) rfl rfl rfl));rintro l au a p ⟨e,_⟩
 exact zk (Gj:=true) (Bj:=decide (b≠0)) rfl rfl rfl (jo (e rfl)) rfl (fun w o=>zz (ky q0l rfl (p 3 rfl) ((F.mono d).mono a) ((s.mono ((m.trans n).trans d)).mono a)));rintro l av a p ⟨e,u,B,U,_⟩
 exact zk (Gj:=true) (Bj:=decide (b≠0)) rfl rfl rfl (jo (B rfl)) rfl (fun w o=>bu (vs:=[(.agg #[(vi c.inputs),(vi c.outputs),q]),f]) q51 (by simp only [List.map,ev,(show l 12=(.agg #[(vi c.inputs),(vi c.outputs),q]) from(e rfl).1 (zh rfl o)),(show l 13=f from(u rfl).1 (zh rfl o))]<;>rfl) ((by have z:=(z0x O (zh w o));exact zj2 (⟨_,⟨_,_,rfl,rfl,⟨_,_,rfl,rfl,(um rfl (G.mono a))⟩⟩,rfl⟩:VRep (jv false false) _ _ (⟨c.inputs,c.outputs,c.rows⟩:Mach)) ((s.mono ((m.trans n).trans d)).mono a) z)) (fun _ _ h=>h))
 rintro l aw a p ⟨e,_⟩;exact zk (Gj:=true) (Bj:=decide (b≠0)) rfl rfl rfl (jo (e rfl)) rfl (fun w o=>zz (vz (i:=0) zfa z8w (p 5 rfl) rfl rfl rfl));rintro l ax a p ⟨e,_⟩
 exact zk (Gj:=true) (Bj:=decide (b≠0)) rfl rfl rfl (jo (e rfl)) rfl (fun w o=>zz (ky q0l rfl (p 3 rfl) ((F.mono d).mono a) ((s.mono ((m.trans n).trans d)).mono a)));rintro l ay a p ⟨e,u,B,U,_⟩
 exact zk (Gj:=true) (Bj:=decide (b≠0)) rfl rfl rfl (jo (U rfl)) rfl (fun w o=>bu (vs:=[(.agg #[(vi c.inputs),(vi c.outputs),q]),f]) q43 (by simp only [List.map,ev,(show l 15=(.agg #[(vi c.inputs),(vi c.outputs),q]) from(e rfl).1 (zh rfl o)),(show l 16=f from(u rfl).1 (zh rfl o))]<;>rfl) ((by have z:=(z0x P (zh w o));exact zbj (⟨_,⟨_,_,rfl,rfl,⟨_,_,rfl,rfl,(um rfl (G.mono a))⟩⟩,rfl⟩:VRep (jv false false) _ _ (⟨c.inputs,c.outputs,c.rows⟩:Mach)) ((s.mono ((m.trans n).trans d)).mono a) z)) (fun _ _ h=>h))
 rintro l ac a p ⟨e,u,B,_⟩;exact zk (Gj:=true) (Bj:=decide (b≠0)) rfl rfl rfl (jo (B rfl)) rfl (fun w o=>zz (yw (show l 14=(vi (j.getD default)) from(e rfl).1 (zh rfl o)) (show l 17=(vi (k.getD default)) from(u rfl).1 (zh rfl o))));rintro l ad a p ⟨e,u,B,_⟩
 exact zk (Gj:=true) (Bj:=decide (b≠0)) rfl rfl rfl (jo (B rfl)) rfl (fun w o=>zz (ze (show l 18=(.bool (decide ((j.getD default)=(k.getD default)))) from(e rfl).1 (zh rfl o))));rintro l ae a p ⟨e,u,_⟩
 exact zk (Gj:=(true&&((decide (b≠0))==false))) (Bj:=decide ((j.getD default)=(k.getD default))) rfl rfl rfl (e rfl) rfl (fun w o=>bu (vs:=[]) q5y rfl ((by have z:=(z0x Q (zh w o));exact zbk  z)) (fun _ _ h=>h));rintro l af a p ⟨e,u,B,_⟩
 exact zk (Gj:=true) (Bj:=decide (b≠0)) rfl rfl rfl (jo (B rfl)) rfl (fun w o=>zz (bz (show l 19=(.bool (decide ((j.getD default)=(k.getD default)))) from(e rfl).1 (zh rfl o)) (fun V=>(show l 20=(.bool (y.getD default)) from(u rfl).1 (zh (zh rfl o) V))) rfl));rintro l ag a p ⟨e,u,_⟩
 exact za rfl rfl rfl (zz (p9 (e rfl) rfl (fun V=>(show l 21=(.bool ((decide ((j.getD default)=(k.getD default)))&&(y.getD default))) from(u rfl).1 (zh rfl V)))));rintro l ah a p ⟨e,u,B,U,d4,d5,d6,d7,d8,d9,az,aA,aB,aC,aD,aE,aF,_⟩;exact za rfl rfl rfl (zz (mh (e rfl)))
 intro aG W aH X aI Y aJ Z aK aL aM aN aO aP aQ aR aS aT aU aV aW aX aY aZ a0 a1 a2 a3 a4 aa a5 ab;obtain rfl:=Eq.symm W;obtain rfl:=Eq.symm X;obtain rfl:=Eq.symm Y;obtain rfl:=Eq.symm Z;obtain rfl:=Eq.symm aa;obtain rfl:=Eq.symm ab;refine z8 (qm ?_);obtain rfl:=Option.some.inj g
 refine qa (D:=[]) (J:=[box L [(vi c.inputs),(vi c.outputs),q] 30]) (rs:=[.tmp 4]) (vs:=[(.bool S)]) (((m.trans n).trans d).trans H) rfl rfl ⟨rfl,trivial⟩ ?_;exact⟨rfl,rfl⟩
end GV
end Go.Proofs.Ytnnobdkjgafdmaa
