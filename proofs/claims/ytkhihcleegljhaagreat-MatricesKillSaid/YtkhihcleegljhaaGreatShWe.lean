import Derived.Test.YtkhihcleegljhaaGreatShWd
import Derived.Test.YtkhihcleegljhaaGreatRows
set_option linter.unusedVariables false
set_option linter.unusedSimpArgs false
namespace Go.Proofs.YtkhihcleegljhaaGreat
namespace GV
open _root_.Go.Proofs.Tryz
open Go.IntWalk
set_option maxRecDepth 100000
set_option maxHeartbeats 20000000
theorem ztg:Enters prog 119:=enters_of func119 rfl (by kernel_rfl)
theorem zrr:Enters prog 92:=enters_of func92 rfl (by kernel_rfl)
theorem z5v{N:Nat}(F:Nat): ∀ {R:RH} {data:List Int} {c:Value} {fM:Frag} (G:ORep (zq .u64) R fM c data) {a:Int} {b:Int} {limit:Int} {r:List Int} (d:pg N F data a b limit=some r),CallG prog 92 #[c,(vi a),(vi b),(vi limit)] R [fM] (fun v R' O'=> ∃ H,v= .tuple #[]∧O'=[H]∧ORep (zq .u64) R' H c r):=by
  induction F with
  |zero=>intros;rename_i d;exact ql d
  |succ F ih=>
    intro R data c fM G a b limit r d
    refine yn (args:=[c,(vi a),(vi b),(vi limit)]) func92 rfl rfl fun A=>?_
    rw [pg] at d
    refine zz ?_
    refine zu ?_
    refine zk (.bool true) ?_
    refine z8 ?_
    refine zz ?_
    refine zu ?_
    refine zk (.bool true) ?_
    refine z8 ?_
    refine q9 ?_
    refine j3 (γ:=Nat×Int×Int×Int×Bool×Bool×(List Int)×Frag) (rs [1,4,8,134]) (fun g=>[(1,(vi g.2.1)),(2,(vi g.2.2.1)),(3,(vi g.2.2.2.1)),(8,(.bool g.2.2.2.2.1)),(9,(.bool g.2.2.2.2.2.1))]) (fun g=>[g.2.2.2.2.2.2.2]++A) (fun g R=>yl N (pg N F) g.1 g.2.1 g.2.2.1 g.2.2.2.1 g.2.2.2.2.1 g.2.2.2.2.2.1 g.2.2.2.2.2.2.1=some r∧ORep (zq .u64) R g.2.2.2.2.2.2.2 c g.2.2.2.2.2.2.1∧True) (fun g=>g.1) (N,a,b,limit,true,true,data,fM) prm ⟨d,G,trivial⟩ ?_
    clear d
    rintro⟨F1,f,m,x4,x5,x6,x7,U⟩ bZ R8 ab ⟨d,V,_⟩
    rcases F1 with _|F1
    · exact ql d
    replace d:yl N (pg N F) (F1+1) f m x4 x5 x6 x7=some r:=d;rw [yl] at d
    refine q9 ?_
    refine zz ?_
    refine zu ?_
    refine zg (vi m) ?_
    refine zg (vi f) ?_
    obtain⟨bi,d⟩:=ze d
    refine zy (uo rfl rfl bi) ?_
    refine zk (vi (m-f)) ?_
    refine z8 ?_
    refine zz ?_
    refine zz ?_
    refine zu ?_
    refine zg (vi (m-f)) ?_
    refine zy (z7a rfl rfl) ?_
    refine z8 ?_
    refine zx rfl d (fun d=>?_) (fun d=>?_)
    · refine zz ?_
      refine zu ?_
      refine zg c ?_
      refine zg (vi f) ?_
      refine zg (vi m) ?_
      obtain⟨cL,bj,d⟩:=zt d
      refine nu (Oc:=[U]) (Or:=[]++A) (cs:=[]) (vs:=[c,(vi f),(vi m)]) rfl zsn rfl rfl ((pk 0 rfl (List.Perm.refl _))) (z5c V bj) fun cM cN b0 aj bk=>?_
      obtain⟨ak,rfl,rfl,bl⟩:=bk
      refine z8 ?_
      refine qh ?_
      obtain rfl:=Option.some.inj d
      refine w9 (D:=[]) (J:=[]) (O':=[ak]) (rs:=[]) (vs:=[]) (ab.trans aj) ((pk 0 rfl (List.Perm.refl _))) rfl trivial ?_
      exact⟨ak,rfl,rfl,bl⟩
    · refine qb ?_
      refine zz ?_
      refine zz ?_
      refine zu ?_
      refine zg (vi x4) ?_
      refine zy (vz rfl rfl) ?_
      refine z8 ?_
      refine zx rfl d (fun d=>?_) (fun d=>?_)
      · refine zz ?_
        refine zu ?_
        refine zg c ?_
        refine zg (vi f) ?_
        refine zg (vi m) ?_
        obtain⟨cO,bm,d⟩:=zt d
        refine nu (Oc:=[U]) (Or:=[]++A) (cs:=[]) (vs:=[c,(vi f),(vi m)]) rfl zso rfl rfl ((pk 0 rfl (List.Perm.refl _))) (z7d V bm) fun cP cQ b1 al bn=>?_
        obtain⟨am,rfl,rfl,bo⟩:=bn
        refine z8 ?_
        refine qh ?_
        obtain rfl:=Option.some.inj d
        refine w9 (D:=[]) (J:=[]) (O':=[am]) (rs:=[]) (vs:=[]) (ab.trans al) ((pk 0 rfl (List.Perm.refl _))) rfl trivial ?_
        exact⟨am,rfl,rfl,bo⟩
      · refine qb ?_
        obtain⟨t,k,d⟩:=zt d
        refine qj (γ:=(Int×List Int)×Frag) (rs [3,4,34,42]) (fun g=>[(3,(vi g.1.1))]) (fun g=>[g.2]++A) (fun g R=>t=g.1∧ORep (zq .u64) R g.2 c g.1.2∧True) ?_ ?_
        · refine zz ?_
          refine zu ?_
          refine zg (.bool x5) ?_
          refine zy (ru rfl) ?_
          refine z8 ?_
          refine zx rfl k (fun k=>?_) (fun k=>?_)
          · refine zz ?_
            refine zu ?_
            refine zg c ?_
            refine zg (vi f) ?_
            refine zg (vi m) ?_
            obtain⟨bp,bq,k⟩:=zt k
            refine nu (Oc:=[U]) (Or:=[]++A) (cs:=[]) (vs:=[c,(vi f),(vi m)]) rfl zu3 rfl rfl ((pk 0 rfl (List.Perm.refl _))) (z5a V bq) fun cR cS b2 an br=>?_
            obtain⟨bs,rfl,rfl,bt⟩:=br
            refine z8 ?_
            refine zu ?_
            refine zg (vi x4) ?_
            obtain⟨bu,k⟩:=ze k
            refine zy (uo rfl rfl bu) ?_
            refine zk (vi (x4-1)) ?_
            refine z8 ?_
            exact⟨dkt,an,je,((x4-1,bp),bs),⟨rfl,trivial⟩,prm,(Option.some.inj k).symm,bt,trivial⟩
          · refine qb ?_
            exact⟨dkt,(RH.le.refl _),je,((x4,x7),U),⟨rfl,trivial⟩,prm,(Option.some.inj k).symm,V,trivial⟩
        · rintro⟨t,ao⟩ cT cU I ⟨rfl,ac,_⟩
          refine zz ?_
          refine zu ?_
          refine zg c ?_
          refine zg (vi f) ?_
          refine zg (vi m) ?_
          obtain⟨s,bw,d⟩:=zt d
          refine z99 (cs:=[]) (vs:=[c,(vi f),(vi m)]) (φ:=fun v=>v= .tuple #[(vi s.1),(vi s.2)]) rfl zti rfl rfl (fun bx ap aq=>z6i (z6f ((zd5 0 rfl ac ap aq):VRep (mf (zq .u64)) bx c t.2)) bw) fun cV bz=>?_
          obtain rfl:=bz
          refine zg (.tuple #[(vi s.1),(vi s.2)]) ?_
          refine zy (jf rfl rfl) ?_
          refine zy (jf rfl rfl) ?_
          refine zk (vi s.1) ?_
          refine zk (vi s.2) ?_
          refine z8 ?_
          obtain⟨n,k,d⟩:=zt d
          refine qj (γ:=(Int×Int×List Int)×Frag) (rs [11,13,49,61]) (fun g=>[(11,(vi g.1.1)),(12,(vi g.1.2.1))]) (fun g=>[g.2]++A) (fun g R=>n=g.1∧ORep (zq .u64) R g.2 c g.1.2.2∧True) ?_ ?_
          · refine zz ?_
            refine zu ?_
            refine zg (vi s.2) ?_
            refine zy (vz rfl rfl) ?_
            refine z8 ?_
            refine zx rfl k (fun k=>?_) (fun k=>?_)
            · refine zz ?_
              refine zu ?_
              refine zg c ?_
              refine zg (vi f) ?_
              refine zg (vi m) ?_
              obtain⟨bA,bB,k⟩:=zt k
              refine nu (Oc:=[ao]) (Or:=[]++A) (cs:=[]) (vs:=[c,(vi f),(vi m)]) rfl zt6 rfl rfl ((pk 0 rfl (List.Perm.refl _))) (z5q ac bB) fun cW cX b3 ar bC=>?_
              obtain⟨bD,rfl,rfl,bE⟩:=bC
              refine z8 ?_
              refine zz ?_
              refine zu ?_
              refine zg (vi m) ?_
              obtain⟨bF,k⟩:=ze k
              refine zy (uo rfl rfl bF) ?_
              refine zg (vi s.1) ?_
              refine zg (vi f) ?_
              obtain⟨bG,k⟩:=ze k
              refine zy (uo rfl rfl bG) ?_
              obtain⟨bH,k⟩:=ze k
              refine zy (uo rfl rfl bH) ?_
              refine zk (vi ((m-1)-(s.1-f))) ?_
              refine z8 ?_
              refine zu ?_
              refine zk (vi 1) ?_
              refine z8 ?_
              exact⟨dkt,ar,je,(((m-1)-(s.1-f),1,bA),bD),⟨rfl,rfl,trivial⟩,prm,(Option.some.inj k).symm,bE,trivial⟩
            · refine qb ?_
              exact⟨dkt,(RH.le.refl _),je,((s.1,s.2,t.2),ao),⟨rfl,rfl,trivial⟩,prm,(Option.some.inj k).symm,ac,trivial⟩
          · rintro⟨n,au⟩ cY cZ K ⟨rfl,av,_⟩
            obtain⟨bI,k,d⟩:=zt d
            refine qj (γ:=(List Int)×Frag) (rs [61,73]) (fun g=>[]) (fun g=>[g.2]++A) (fun g R=>bI=Ex.go g.1∧ORep (zq .u64) R g.2 c g.1∧True) ?_ ?_
            · refine zz ?_
              refine zu ?_
              refine jh (v:=(.bool x5)) rfl (za rfl) ?_
              refine jh (v:=(.bool x5)) rfl (za rfl) ?_
              refine qz rfl rfl rfl rfl (fun p=>qm (v:=(.bool x6)) (za rfl)) fun c0 bJ=>?_
              refine jh rfl (ut rfl (fun hb=>(bJ.1 (zo rfl hb))) rfl) ?_
              refine jh (v:=(.bool (x5&&x6))) rfl (za rfl) ?_
              refine qz rfl rfl rfl rfl (fun p=>qm (v:=(vi n.2.1)) (za rfl)) fun c1 bK=>?_
              refine qz rfl rfl rfl rfl (fun p=>qm (vz (bK.1 (zo rfl p)) rfl)) fun c2 bL=>?_
              refine jh rfl (ut rfl (fun hb=>(bL.1 (zo rfl hb))) rfl) ?_
              refine z8 ?_
              refine zx rfl k (fun k=>?_) (fun k=>?_)
              · refine zz ?_
                refine zu ?_
                refine zg c ?_
                refine zg (vi f) ?_
                refine zg (vi m) ?_
                obtain⟨ax,ay,k⟩:=zt k
                refine nu (Oc:=[au]) (Or:=[]++A) (cs:=[]) (vs:=[c,(vi f),(vi m)]) rfl zsw rfl rfl ((pk 0 rfl (List.Perm.refl _))) (z3n av ay) fun b4 b5 bM M az=>?_
                obtain⟨O,rfl,rfl,W⟩:=az
                refine z8 ?_
                refine zx rfl k (fun k=>?_) (fun k=>?_)
                · refine qh ?_
                  replace d:=z16 k d
                  obtain rfl:=Option.some.inj d
                  refine w9 (D:=[]) (J:=[]) (O':=[O]) (rs:=[]) (vs:=[]) (((ab.trans I).trans K).trans M) ((pk 0 rfl (List.Perm.refl _))) rfl trivial ?_
                  exact⟨O,rfl,rfl,W⟩
                · refine qb ?_
                  exact⟨dkt,M,je,(ax.2,O),trivial,prm,(Option.some.inj k).symm,W,trivial⟩
              · refine qb ?_
                exact⟨dkt,(RH.le.refl _),je,(n.2.2,au),trivial,prm,(Option.some.inj k).symm,av,trivial⟩
            · rintro⟨x,aA⟩ b6 c3 P ⟨rfl,L,_⟩
              replace d:=z2m d
              refine zz ?_
              refine zz ?_
              obtain⟨aB,Q,S,d⟩:=znj d
              obtain⟨B,aC,d⟩:=zt d
              refine ym 15 [] [phX (vi f),phX (.bool (decide (0<f))),phX (.bool (decide (0<f))),phG (true&&((decide (0<f))==true)) (phX c),phG (true&&((decide (0<f))==true)) (phX (vi f)),phG (true&&((decide (0<f))==true)) (phX (vi (f-1))),phG (true&&((decide (0<f))==true)) ((fun u _=>yc (zq .u64) c x u (f-1).toNat)),phG (true&&((decide (0<f))==true)) (phX (.int .u64 (ix x (f-1)))),phG (true&&((decide (0<f))==true)) (phX c),phG (true&&((decide (0<f))==true)) (phX (vi n.1)),phG (true&&((decide (0<f))==true)) ((fun u _=>yc (zq .u64) c x u n.1.toNat)),phG (true&&((decide (0<f))==true)) (phX (.int .u64 (ix x n.1))),phG (true&&((decide (0<f))==true)) (phX (.bool (B.getD default))),phG (true&&((decide (0<f))==true)) (phX (.bool (!(B.getD default)))),phX (.bool ((decide (0<f))&&(!(B.getD default))))] mixed (by kernel_rfl) (wm ⟨zf,zf,zf,(qf zf),(qf zf),(qf zf),(qf (fun _ _ _ _ h=>h)),(qf zf),(qf zf),(qf zf),(qf (fun _ _ _ _ h=>h)),(qf zf),(qf zf),(qf zf),zf,trivial⟩) ⟨?_,?_,?_,?_,?_,?_,?_,?_,?_,?_,?_,?_,?_,?_,?_,trivial⟩ fun b7 w=>?_
              · intro l c4 o y hd
                have a1:l 1=(vi f):=y 1 rfl
                exact zb rfl rfl rfl (zh (za a1))
              · rintro l c5 o y ⟨q,_⟩
                have bO:=q rfl
                exact zb rfl rfl rfl (zh (l6 bO rfl))
              · rintro l c6 o y ⟨q,_⟩
                have bP:=q rfl
                exact zb rfl rfl rfl (zh (za bP))
              · rintro l c7 o y ⟨q,_⟩
                have a0:l 0=c:=y 0 rfl
                exact zn (Gj:=true) (Bj:=decide (0<f)) rfl rfl rfl (ja (q rfl)) rfl (fun z p=>zh (za a0))
              · rintro l c8 o y ⟨q,_⟩
                have a1:l 1=(vi f):=y 1 rfl
                exact zn (Gj:=true) (Bj:=decide (0<f)) rfl rfl rfl (ja (q rfl)) rfl (fun z p=>zh (za a1))
              · rintro l c9 o y ⟨q,E,_⟩
                have aD:=q rfl
                exact zn (Gj:=true) (Bj:=decide (0<f)) rfl rfl rfl (ja (E rfl)) rfl (fun z p=>zh (uo (show l 77=(vi f) from aD.1 (zo rfl p)) rfl (aB (zo z p))))
              · rintro l da o y ⟨q,E,d2,_⟩
                have aF:=q rfl
                have aG:=E rfl
                exact zn (Gj:=true) (Bj:=decide (0<f)) rfl rfl rfl (ja (d2 rfl)) rfl (fun z p=>qw (i:=(f-1).toNat) gm (show l 76=c from aF.1 (zo rfl p)) (L.mono o) (zi (show l 78=(vi (f-1)) from aG.1 (zo rfl p)) (Q (zo z p)).1) (zw (Q (zo z p))))
              · rintro l db o y ⟨q,E,_⟩
                have aH:=q rfl
                exact zn (Gj:=true) (Bj:=decide (0<f)) rfl rfl rfl (ja (E rfl)) rfl (fun z p=>j4 (ko (i:=(f-1).toNat) (j:=0) xq (L.mono o) rfl rfl (aH.1 (zo rfl p)) (zw (Q (zo z p)))) (fun _ _ h=>q8.1 h))
              · rintro l dc o y ⟨q,_⟩
                have a0:l 0=c:=y 0 rfl
                exact zn (Gj:=true) (Bj:=decide (0<f)) rfl rfl rfl (ja (q rfl)) rfl (fun z p=>zh (za a0))
              · rintro l dd o y ⟨q,_⟩
                have bR:l 11=(vi n.1):=y 11 rfl
                exact zn (Gj:=true) (Bj:=decide (0<f)) rfl rfl rfl (ja (q rfl)) rfl (fun z p=>zh (za bR))
              · rintro l b8 o y ⟨q,E,d2,_⟩
                have aI:=q rfl
                have aJ:=E rfl
                exact zn (Gj:=true) (Bj:=decide (0<f)) rfl rfl rfl (ja (d2 rfl)) rfl (fun z p=>qw (i:=n.1.toNat) gm (show l 81=c from aI.1 (zo rfl p)) (L.mono o) (zi (show l 82=(vi n.1) from aJ.1 (zo rfl p)) (S (zo z p)).1) (zw (S (zo z p))))
              · rintro l b9 o y ⟨q,E,_⟩
                have aK:=q rfl
                exact zn (Gj:=true) (Bj:=decide (0<f)) rfl rfl rfl (ja (E rfl)) rfl (fun z p=>j4 (ko (i:=n.1.toNat) (j:=0) xq (L.mono o) rfl rfl (aK.1 (zo rfl p)) (zw (S (zo z p)))) (fun _ _ h=>q8.1 h))
              · rintro l X o y ⟨q,E,d2,d3,_⟩
                have aL:phG (true&&((decide (0<f))==true)) (phX (.int .u64 (ix x (f-1)))) (l 80) X:=q rfl
                have aM:phG (true&&((decide (0<f))==true)) (phX (.int .u64 (ix x n.1))) (l 84) X:=E rfl
                exact zn (Gj:=true) (Bj:=decide (0<f)) rfl rfl rfl (ja (d2 rfl)) rfl (fun z p=>uq (vs:=[(.int .u64 (ix x (f-1))),(.int .u64 (ix x n.1))]) z9i (by simp only [List.map,ev,(show l 80=(.int .u64 (ix x (f-1))) from aL.1 (zo rfl p)),(show l 84=(.int .u64 (ix x n.1)) from aM.1 (zo rfl p))]<;>rfl) ((by have bS:=(sw aC (zo z p));exact bv  bS)) (fun _ _ h=>h))
              · rintro l ca o y ⟨q,E,_⟩
                have aN:=q rfl
                exact zn (Gj:=true) (Bj:=decide (0<f)) rfl rfl rfl (ja (E rfl)) rfl (fun z p=>zh (ru (show l 85=(.bool (B.getD default)) from aN.1 (zo rfl p))))
              · rintro l cb o y ⟨q,E,_⟩
                have bT:=q rfl
                have aO:=E rfl
                exact zb rfl rfl rfl (zh (ut bT (fun hb=>(show l 86=(.bool (!(B.getD default))) from aO.1 (zo rfl hb))) rfl))
              intro cc aP
              intro cd aQ
              intro ce aR
              intro cf cg
              intro ch ci
              intro cj ck
              intro cl cm
              intro cn co
              intro cp cq
              intro cr ct
              intro cu cv
              intro cw cx
              intro cy cz
              intro cA cB
              intro cC aS
              obtain rfl:=Eq.symm aP
              obtain rfl:=Eq.symm aQ
              obtain rfl:=Eq.symm aR
              obtain rfl:=Eq.symm aS
              refine z8 ?_
              refine zx rfl d (fun d=>?_) (fun d=>?_)
              · refine zz ?_
                refine zu ?_
                refine zg c ?_
                refine zg (vi f) ?_
                refine zg (vi m) ?_
                refine zg (vi n.1) ?_
                obtain⟨C,aT,d⟩:=zt d
                refine nu (Oc:=[aA]) (Or:=[]++A) (cs:=[]) (vs:=[c,(vi f),(vi m),(vi n.1)]) rfl zt2 rfl rfl ((pk 0 rfl (List.Perm.refl _))) (z4u (L.mono w) aT) fun cD cE bU ad aU=>?_
                obtain⟨aV,rfl,rfl,aW⟩:=aU
                refine zk (vi C.1) ?_
                refine z8 ?_
                refine zz ?_
                refine zu ?_
                refine zg (vi C.1) ?_
                refine zk (vi C.1) ?_
                refine z8 ?_
                refine jd ?_
                exact⟨dkt,((((I.trans K).trans P).trans w).trans ad),je,(F1,C.1,m,t.1,x5,x6,C.2,aV),Nat.lt_succ_self _,⟨rfl,rfl,rfl,rfl,rfl,trivial⟩,prm,d,aW,trivial⟩
              · refine qb ?_
                refine zz ?_
                refine zu ?_
                refine zg c ?_
                refine zg (vi f) ?_
                refine zg (vi m) ?_
                refine zg (vi n.1) ?_
                obtain⟨e,aX,d⟩:=zt d
                refine nu (Oc:=[aA]) (Or:=[]++A) (cs:=[]) (vs:=[c,(vi f),(vi m),(vi n.1)]) rfl ztg rfl rfl ((pk 0 rfl (List.Perm.refl _))) (z6w (L.mono w) aX) fun cF cG bV T aY=>?_
                obtain⟨Y,rfl,rfl,Z⟩:=aY
                refine zg (.tuple #[(vi e.1),(.bool e.2.1)]) ?_
                refine zy (jf rfl rfl) ?_
                refine zy (jf rfl rfl) ?_
                refine zk (vi e.1) ?_
                refine zk (.bool e.2.1) ?_
                refine z8 ?_
                refine zz ?_
                refine zu ?_
                refine zg (.bool e.2.1) ?_
                refine zk (.bool e.2.1) ?_
                refine z8 ?_
                refine zz ?_
                refine zu ?_
                refine zg (vi e.1) ?_
                refine zg (vi f) ?_
                obtain⟨aZ,d⟩:=ze d
                refine zy (uo rfl rfl aZ) ?_
                refine zg (vi m) ?_
                refine zg (vi e.1) ?_
                obtain⟨a2,d⟩:=ze d
                refine zy (uo rfl rfl a2) ?_
                refine zk (vi (e.1-f)) ?_
                refine zk (vi (m-e.1)) ?_
                refine z8 ?_
                refine zz ?_
                refine zu ?_
                refine zg (vi (m-f)) ?_
                obtain⟨a3,d⟩:=ze d
                refine zy (z4f rfl rfl a3) ?_
                refine zk (vi ((m-f)/8)) ?_
                refine z8 ?_
                refine zz ?_
                refine zu ?_
                refine zg (vi (e.1-f)) ?_
                refine zg (vi (m-e.1)) ?_
                refine zy (j5 rfl rfl) ?_
                refine z8 ?_
                refine zx rfl d (fun d=>?_) (fun d=>?_)
                · refine zz ?_
                  refine zu ?_
                  refine zg (vi (e.1-f)) ?_
                  refine zg (vi ((m-f)/8)) ?_
                  refine zy (aa rfl rfl) ?_
                  refine zk (.bool (decide (((m-f)/8)≤(e.1-f)))) ?_
                  refine z8 ?_
                  refine zz ?_
                  refine zu ?_
                  refine zg c ?_
                  refine zg (vi f) ?_
                  refine zg (vi e.1) ?_
                  refine zg (vi t.1) ?_
                  obtain⟨a4,a5,d⟩:=zt d
                  refine nu (Oc:=[Y]) (Or:=[]++A) (cs:=[]) (vs:=[c,(vi f),(vi e.1),(vi t.1)]) rfl zrr rfl rfl ((pk 0 rfl (List.Perm.refl _))) (ih Z a5) fun cH cI bW ae a6=>?_
                  obtain⟨a7,rfl,rfl,a8⟩:=a6
                  refine z8 ?_
                  refine zu ?_
                  refine zg (vi e.1) ?_
                  obtain⟨a9,d⟩:=ze d
                  refine zy (qo rfl rfl a9) ?_
                  refine zk (vi (e.1+1)) ?_
                  refine z8 ?_
                  exact⟨dkt,(((((I.trans K).trans P).trans w).trans T).trans ae),je,(F1,e.1+1,m,t.1,decide (((m-f)/8)≤(e.1-f)),e.2.1,a4,a7),Nat.lt_succ_self _,⟨rfl,rfl,rfl,rfl,rfl,trivial⟩,prm,d,a8,trivial⟩
                · refine zz ?_
                  refine zu ?_
                  refine zg (vi (m-e.1)) ?_
                  refine zg (vi ((m-f)/8)) ?_
                  refine zy (aa rfl rfl) ?_
                  refine zk (.bool (decide (((m-f)/8)≤(m-e.1)))) ?_
                  refine z8 ?_
                  refine zz ?_
                  refine zu ?_
                  refine zg c ?_
                  refine zg (vi e.1) ?_
                  obtain⟨ba,d⟩:=ze d
                  refine zy (qo rfl rfl ba) ?_
                  refine zg (vi m) ?_
                  refine zg (vi t.1) ?_
                  obtain⟨bb,bc,d⟩:=zt d
                  refine nu (Oc:=[Y]) (Or:=[]++A) (cs:=[]) (vs:=[c,(vi (e.1+1)),(vi m),(vi t.1)]) rfl zrr rfl rfl ((pk 0 rfl (List.Perm.refl _))) (ih Z bc) fun cJ cK bX af be=>?_
                  obtain⟨bf,rfl,rfl,bg⟩:=be
                  refine z8 ?_
                  refine zu ?_
                  refine zg (vi e.1) ?_
                  refine zk (vi e.1) ?_
                  refine z8 ?_
                  exact⟨dkt,(((((I.trans K).trans P).trans w).trans T).trans af),je,(F1,f,e.1,t.1,decide (((m-f)/8)≤(m-e.1)),e.2.1,bb,bf),Nat.lt_succ_self _,⟨rfl,rfl,rfl,rfl,rfl,trivial⟩,prm,d,bg,trivial⟩
theorem z7v{N:Nat}{R:RH}{data:List Int}{c:Value}{fM:Frag}(e:ORep (zq .u64) R fM c data){a:Int}{b:Int}{limit:Int}{r:List Int}(f:pg N N data a b limit=some r):CallG prog 92 #[c,(vi a),(vi b),(vi limit)] R [fM] (fun v R' O'=> ∃ d,v= .tuple #[]∧O'=[d]∧ORep (zq .u64) R' d c r):=z5v N e f
theorem zcy{N:Nat}{R:RH}{x:List Int}{a:Value}{fBb:Frag}(c:ORep (zq .u64) R fBb a x){r:List Int}(b:z6q N x=some r):CallG prog 75 #[a] R [fBb] (fun v R' O'=> ∃ d,v= .tuple #[]∧O'=[d]∧ORep (zq .u64) R' d a r):=by
 refine yn (args:=[a]) func75 rfl rfl fun A=>?_;rw [z6q] at b;refine zm (zg a (zy (z2y rfl underlying94 rfl c) (zk (vi (↑x.length:Int)) (z8 (zu (zg a (zg (vi (↑x.length:Int)) (zg (vi (↑x.length:Int)) (zy (z8q underlying3 underlying93 rfl) ?_)))))))))
 obtain⟨k,l,b⟩:=zt b;refine jc rfl zsj rfl (zan  l) fun p q e m=>?_;obtain rfl:=m;obtain⟨s,n,b⟩:=zt b
 refine nu (Oc:=[fBb]) (Or:=[]++A) (cs:=[]) (vs:=[a,(vi 0),(vi (↑x.length:Int)),(vi k)]) rfl zrr rfl rfl ((pk 0 rfl (List.Perm.refl _))) (z7v (c.mono e) n) fun t o j f h=>?_;obtain⟨g,rfl,rfl,i⟩:=h;refine z8 ?_;show zam _ _ _ _ _ .ret _ [] _ _;obtain rfl:=Option.some.inj b
 refine w9 (D:=[]) (J:=[]) (O':=[g]) (rs:=[]) (vs:=[]) (e.trans f) ((pk 0 rfl (List.Perm.refl _))) rfl trivial ?_;exact⟨g,rfl,rfl,i⟩
theorem zv9:Enters prog 75:=enters_of func75 rfl (by kernel_rfl)
theorem zb3{N:Nat}{R:RH}{s:List Int}{b:Value}{fAg:Frag}(y:ORep (zq .u64) R fAg b s){r:(List Int)}(o:z4o N s=some r):CallG prog 76 #[b] R [fAg] (fun v R' O'=> ∃ u0,v=u0∧O'=[]∧VRep (tSl false (zq .u64)) R' u0 r):=by
 refine yn (args:=[b]) func76 rfl rfl fun A=>?_;rw [z4o] at o;refine zm (zk vs0 (z8 (zz (zm (zg b (zy (z2y rfl underlying94 rfl y) (zy (j5 rfl rfl) (z8 (zx rfl o (fun o=>?_) (fun o=>?_))))))))))
 refine zm (zg b (zk b (z8 (lc (i:=0) rfl y fun R2 aB h4=>?_))));have h5:VRep (tSl false (zq .u64)) R2 b s:=(z6f h4);refine qh ?_;obtain rfl:=Option.some.inj o;refine w9 (D:=[]) (J:=[]) (O':=[]) (rs:=[.tmp 2]) (vs:=[b]) aB ((List.Perm.refl _)) rfl ⟨rfl,trivial⟩ ?_;exact⟨b,rfl,rfl,h5⟩;refine qb ?_
 obtain⟨q7,c,o⟩:=zt o;refine qj (γ:=Unit) (rs [2,6,10,60]) (fun g=>[]) (fun g=>[fAg]++A) (fun g R=>q7=Ex.go g∧True) ?_ ?_
 refine zm (zk (vi 1) (z8 (q9 (j3 (γ:=Nat×Int) (rs [2,6,10,60]) (fun g=>[(3,(vi g.2))]) (fun g=>[fAg]++A) (fun g R=>z0j N s g.1 g.2=some q7∧True) (fun g=>g.1) (N,1) prm ⟨c,trivial⟩ ?_))));clear c;rintro⟨Q,a⟩ aZ bf m ⟨c,_⟩;rcases Q with _|Q;exact ql c
 replace c:z0j N s (Q+1) a=some q7:=c;rw [z0j] at c;refine zz (zm (zg (vi a) (zg b (zy (z2y rfl underlying94 rfl (y.mono m)) (zy (j5 rfl rfl) (z8 (zx rfl c (fun c=>?_) (fun c=>?_))))))))
 refine qb (zz (q9 (zz (z6h 10 mixed (by kernel_rfl) (by kernel_rfl) ?_))));refine ng (v:=b) (za rfl) ?_;refine ng (v:=(vi a)) (za rfl) ?_;obtain⟨X,c⟩:=ze c;refine zah (z6v (i:=a.toNat) gm rfl (y.mono m) (zi rfl X.1) (zw X)) fun bg aD=>?_
 refine ng (tq (zbj (i:=a.toNat) (j:=0) xq (y.mono m) rfl rfl aD (zw X))) ?_;refine ng (v:=b) (za rfl) ?_;refine ng (v:=(vi a)) (za rfl) ?_;obtain⟨aE,c⟩:=ze c;refine ng (uo rfl rfl aE) ?_;obtain⟨Y,c⟩:=ze c
 refine zah (z6v (i:=(a-1).toNat) gm rfl (y.mono m) (zi rfl Y.1) (zw Y)) fun bh aF=>?_;refine ng (tq (zbj (i:=(a-1).toNat) (j:=0) xq (y.mono m) rfl rfl aF (zw Y))) ?_;refine ng (vz rfl rfl) ?_;intro bi C;refine z8 (zx rfl c (fun c=>?_) (fun c=>?_))
 refine zm (zg b (zg (vi a) ?_));obtain⟨Z,c⟩:=ze c;refine z3z rfl (zh (zbd (lo:=a.toNat) (hi:=s.length) gm rfl (y.mono (m.trans C)) (.inr ⟨_,congrArg some (zi rfl Z.1)⟩) (.inl ⟨rfl,rfl,rfl⟩) (z9x Z) (z6n Z))) fun bj bk V aG=>?_;obtain rfl:=Eq.symm aG;refine zk (za4 1 b a.toNat s.length) (z8 ?_)
 obtain⟨f,k,c⟩:=zt c;refine qj (γ:=(Int×List Int)×Frag) (rs [3,4,5,6,29,54]) (fun g=>[(3,(vi g.1.1))]) (fun g=>[g.2]++A) (fun g R=>f=g.1∧ORep (zq .u64) R g.2 b g.1.2∧True) ?_ ?_
 refine zm (zk (vi 1) (z8 (q9 (j3 (γ:=Nat×Int×Int×(List Int)×Frag) (rs [3,4,5,6,29,54]) (fun g=>[(3,(vi g.2.1)),(5,(vi g.2.2.1))]) (fun g=>[g.2.2.2.2]++A) (fun g R=>z0n N s a g.1 g.2.1 g.2.2.1 g.2.2.2.1=some f∧ORep (zq .u64) R g.2.2.2.2 b g.2.2.2.1∧True) (fun g=>g.1) (N,a,1,s,fAg) prm ⟨k,(y.mono ((m.trans C).trans V)),trivial⟩ ?_))))
 clear k;rintro⟨S,z,d,t,ac⟩ a0 bl ad ⟨k,w,_⟩;rcases S with _|S;exact ql k;replace k:z0n N s a (S+1) z d t=some f:=k;rw [z0n] at k
 refine zz (zm (zg (vi d) (zg (za4 1 b a.toNat s.length) (z3z rfl (zh (zh4 rfl underlying94 rfl w)) fun bm bn e aH=>?_))));obtain rfl:=Eq.symm aH;refine zy (j5 rfl rfl) (z8 (zx rfl k (fun k=>?_) (fun k=>?_)));refine qb ?_;obtain⟨U,p,k⟩:=zt k
 refine qj (γ:=(Int×List Int)×Frag) (rs [3,4,35,54]) (fun g=>[(3,(vi g.1.1))]) (fun g=>[g.2]++A) (fun g R=>U=g.1∧ORep (zq .u64) R g.2 b g.1.2∧True) ?_ ?_;refine q9 (zz ?_);obtain⟨I,aI,K,p⟩:=znj p
 refine ym 10 [] [phX (za4 1 b a.toNat s.length),phX (vi d),(fun u _=>yc (zq .u64) b t u (a+d).toNat),phX (.int .u64 (ix t (a+d))),phX (za4 1 b a.toNat s.length),phX (vi d),phX (vi (d-1)),(fun u _=>yc (zq .u64) b t u (a+(d-1)).toNat),phX (.int .u64 (ix t (a+(d-1)))),phX (.bool (decide ((ix t (a+d))≠(ix t (a+(d-1))))))] mixed (by kernel_rfl) (wm ⟨zf,zf,(fun _ _ _ _ h=>h),zf,zf,zf,zf,(fun _ _ _ _ h=>h),zf,zf,trivial⟩) ⟨?_,?_,?_,?_,?_,?_,?_,?_,?_,?_,trivial⟩ fun bo x=>?_
 intro l bp q H hd;exact zb rfl rfl rfl (zh (za (H 4 rfl)));intro l bq q H hd;exact zb rfl rfl rfl (zh (za (H 5 rfl)));rintro l br q H ⟨L,d1,_⟩
 exact zb rfl rfl rfl (z6o (T:=(zq .u64)) (lo:=a.toNat) (hi:=s.length) (n:=(a+d).toNat) gm (L rfl) ((w.mono e).mono q) (zi (d1 rfl) I.2.1) (zgy I) (zho I) (zem I));rintro l bs q H ⟨L,_⟩
 exact zb rfl rfl rfl (j4 (ko (i:=(a+d).toNat) (j:=0) xq ((w.mono e).mono q) rfl rfl (L rfl) (zw (zhe I))) (fun _ _ h=>q8.1 h));intro l bt q H hd;exact zb rfl rfl rfl (zh (za (H 4 rfl)));intro l bu q H hd;exact zb rfl rfl rfl (zh (za (H 5 rfl)));rintro l bv q H ⟨L,_⟩
 exact zb rfl rfl rfl (zh (uo (L rfl) rfl aI));rintro l bw q H ⟨L,d1,_⟩;exact zb rfl rfl rfl (z6o (T:=(zq .u64)) (lo:=a.toNat) (hi:=s.length) (n:=(a+(d-1)).toNat) gm (L rfl) ((w.mono e).mono q) (zi (d1 rfl) K.2.1) (zgy K) (zho K) (zem K));rintro l bx q H ⟨L,_⟩
 exact zb rfl rfl rfl (j4 (ko (i:=(a+(d-1)).toNat) (j:=0) xq ((w.mono e).mono q) rfl rfl (L rfl) (zw (zhe K))) (fun _ _ h=>q8.1 h));rintro l bz q H ⟨L,d1,_⟩;exact zb rfl rfl rfl (zh (vv (L rfl) (d1 rfl)));intro bA aK bB aL bC bD bE aM bF aN bG aO bH aP bI bJ bK aQ bL aR;obtain rfl:=Eq.symm aK
 obtain rfl:=Eq.symm aL;obtain rfl:=Eq.symm aM;obtain rfl:=Eq.symm aN;obtain rfl:=Eq.symm aO;obtain rfl:=Eq.symm aP;obtain rfl:=Eq.symm aQ;obtain rfl:=Eq.symm aR;refine z8 (zx rfl p (fun p=>?_) (fun p=>?_));refine zm (zg b (zg (vi z) (zg (za4 1 b a.toNat s.length) (zg (vi d) ?_))));obtain⟨M,p⟩:=ze p
 refine z3z rfl (z6o (T:=(zq .u64)) (lo:=a.toNat) (hi:=s.length) (n:=(a+d).toNat) gm rfl (w.mono (e.trans x)) (zi rfl M.2.1) (zgy M) (zho M) (zem M)) fun bM bN E aS=>?_;refine z8w (i:=(a+d).toNat) (j:=0) rfl xq (w.mono ((e.trans x).trans E)) rfl rfl aS (zw (zhe M)) fun a1 af=>?_
 obtain rfl:=q8.1 af;obtain⟨O,p⟩:=ze p;refine z1g (i:=z.toNat) rfl gm rfl (w.mono ((e.trans x).trans E)) (zi rfl O.1) (zw O) fun a2 ag=>?_;refine z5k (i:=z.toNat) (j:=0) xq (w.mono ((e.trans x).trans E)) rfl rfl ag (zw O) rfl (q8.2 rfl) fun ah ai=>?_
 refine z8 (zu (zg (vi z) ?_));obtain⟨aj,p⟩:=ze p;refine zy (qo rfl rfl aj) (zk (vi (z+1)) (z8 ?_));exact⟨dkt,(x.trans E),je,((z+1,(up t z (ix t (a+d)))),ah),⟨rfl,trivial⟩,prm,(Option.some.inj p).symm,ai,trivial⟩;refine qb ?_
 exact⟨dkt,x,je,((z,t),ac),⟨rfl,trivial⟩,prm,(Option.some.inj p).symm,(w.mono (e.trans x)),trivial⟩;rintro⟨U,aT⟩ a3 bO ak ⟨rfl,aU,_⟩;refine zu (zg (vi d) ?_);obtain⟨al,k⟩:=ze k;refine zy (qo rfl rfl al) (zk (vi (d+1)) (z8 ?_))
 exact⟨dkt,(e.trans ak),je,(S,U.1,d+1,U.2,aT),Nat.lt_succ_self _,⟨rfl,rfl,trivial⟩,prm,k,aU,trivial⟩;refine jd ?_;exact⟨dkt,(ad.trans e),je,((z,t),ac),⟨rfl,trivial⟩,prm,(Option.some.inj k).symm,(w.mono e),trivial⟩;rintro⟨f,aV⟩ a4 bP am ⟨rfl,an,_⟩;refine zm (zg b (zg (vi f.1) ?_))
 obtain⟨B,c⟩:=ze c;refine z3z rfl (zh (zbd (lo:=f.1.toNat) (hi:=f.2.length) gm rfl an (.inr ⟨_,congrArg some (zi rfl B.1)⟩) (.inl ⟨rfl,rfl,rfl⟩) (z9x B) (z6n B))) fun a5 a6 P ao=>?_;obtain rfl:=Eq.symm ao
 refine z8j (Oc:=[aV]) (Or:=[]++A) (List.Perm.refl _) (zcv (lo:=f.1.toNat) (hi:=f.2.length) rfl underlying94 zro (an.mono P) (z9x B) (z6n B) rfl) ?_;rintro a7 a8 aW aX ⟨rfl,a9,rfl,rfl,W⟩;refine qy (zg b (zg (vi f.1) ?_));obtain⟨F,c⟩:=ze c
 refine zc7 (v:=b) (lo:=(0:Int).toNat) (hi:=f.1.toNat) (mx:=(capOf b)) rfl gm rfl W (.inl ⟨rfl,rfl⟩) (.inr ⟨_,congrArg some (zi rfl (zgf F))⟩) (.inl ⟨rfl,rfl⟩) (z9x F) (z6n F) (Nat.le_trans (z6n F) (zdk W)) (Nat.le_refl _) fun G ap aA=>?_;refine zk G (z8 (lc (i:=0) rfl ap fun aq aa ar=>?_))
 have au:VRep (tSl false (zq .u64)) aq G (cut (z9a f.2 f.1.toNat (List.replicate (f.2.length-f.1.toNat) (0:Int))) 0 f.1):=(z6f ar);refine qh ?_;replace o:=z16 c o;obtain rfl:=Option.some.inj o
 refine w9 (D:=[]) (J:=[]) (O':=[]) (rs:=[.tmp 2]) (vs:=[G]) (((((m.trans C).trans V).trans am).trans P).trans aa) ((List.Perm.refl _)) rfl ⟨rfl,trivial⟩ ?_;exact⟨G,rfl,rfl,au⟩;refine qb (zu (zg (vi a) ?_));obtain⟨av,c⟩:=ze c;refine zy (qo rfl rfl av) (zk (vi (a+1)) (z8 ?_))
 exact⟨dkt,C,je,(Q,a+1),Nat.lt_succ_self _,⟨rfl,trivial⟩,prm,c,trivial⟩;refine jd ?_;exact⟨dkt,m,je,(),trivial,prm,(Option.some.inj c).symm,trivial⟩;rintro o6 ba R8 aw ⟨rfl,_⟩;replace o:=z2m o;refine zm (zg b (zk b (z8 (lc (i:=0) rfl (y.mono aw) fun ax ab ay=>?_))))
 have az:VRep (tSl false (zq .u64)) ax b s:=(z6f ay);refine qh ?_;obtain rfl:=Option.some.inj o;refine w9 (D:=[]) (J:=[]) (O':=[]) (rs:=[.tmp 2]) (vs:=[b]) (aw.trans ab) ((List.Perm.refl _)) rfl ⟨rfl,trivial⟩ ?_;exact⟨b,rfl,rfl,az⟩
theorem zvn:Enters prog 76:=enters_of func76 rfl (by kernel_rfl)
theorem za8{N:Nat}{R:RH}{x:Sa}{n:Value}(h:VRep (qa false false) R n x){r:(List Int)}(d:z3v N x=some r):CallP prog 43 #[n] R (fun v R'=>VRep (tSl false (zq .u64)) R' v r):=by
 refine qi (args:=[n]) func43 rfl rfl fun A=>?_;rw [z3v] at d;refine zm (um (T:=(qa false false)) rfl rfl rfl h fun v1 R3 j h5 h2=>?_);refine zk vs0 (qy (zk vs0 (z8 ?_)));obtain⟨W,a,d⟩:=zt d
 refine qj (γ:=(List Int)×Value×Frag) (rs [3,4,5,7,8,36]) (fun g=>[(3,g.2.1)]) (fun g=>[g.2.2]++A) (fun g R=>W=g.1∧ORep (zq .u64) R g.2.2 g.2.1 g.1∧True) ?_ ?_;refine zm (zy (ku z4s rfl rfl h5 (h.mono j)) (zy (ku z4s rfl rfl h5 (h.mono j)) (zy (z0c (fs:=[n]) (cs:=[]) rfl rfl) ?_)))
 obtain⟨p,ab,a⟩:=zt a;refine jc rfl zqb rfl (z3j (h.mono j) (zdg (fs:=[n]) zpu fun R1 hq z0 u0 y k0 hy=>by obtain rfl:=q8.1 k0;exact CallP.mono (z18 ((h.mono j).mono hq) hy) fun v R2 _ hv=>lh.2 hv) ab) fun aJ aK k F=>?_
 refine zy (qx rfl underlying40 rfl (jg F)) (zg (vi 0) (z8 (q9 (z3l ?_))))
 refine j3 (γ:=Nat×(List Int)×Int×Value×Frag) (rs [3,4,5,7,8,9,14,36]) (fun g=>[(3,g.2.2.2.1),(14,(vi g.2.2.1))]) (fun g=>[g.2.2.2.2]++A) (fun g R=>ll N x p g.1 g.2.1 g.2.2.1=some W∧ORep (zq .u64) R g.2.2.2.2 g.2.2.2.1 g.2.1∧True) (fun g=>g.1) (N,[],0,vs0,emp) prm ⟨a,(z1a (T:=(zq .u64))),trivial⟩ ?_
 clear a;rintro⟨q,s,l,G,C⟩ aL aM e ⟨a,H,_⟩;rcases q with _|q;exact ql a;replace a:ll N x p (q+1) s l=some W:=a;rw [ll] at a;refine zm (zy (j5 rfl rfl) (z8 (zz (zx rfl a (fun a=>?_) (fun a=>?_)))));refine qb (zz (q9 (zm ?_)))
 obtain⟨I,a⟩:=ze a;refine uf (i:=l.toNat) rfl z1d rfl (jg (F.mono e)) (zi rfl I.1) (zw I) fun aN ac=>?_;refine qp rfl ty3 rfl ac fun aO ad=>?_;obtain rfl:=q8.1 ad;refine zk (vi (ix p l)) (qy (zk (.int .u64 0) (z8 ?_)));obtain⟨c,b,a⟩:=zt a
 refine qj (γ:=Int) (rs [6,7,8,9,18,31]) (fun g=>[(6,(.int .u64 g))]) (fun g=>[C]++A) (fun g R=>c=g∧True) ?_ ?_;refine zm (zy (ku z4s rfl rfl (h5.mono (k.trans e)) (h.mono ((j.trans k).trans e))) (zg (vi (ix p l)) ?_));obtain⟨m,ae,b⟩:=zt b
 refine jc rfl zm2 rfl (ou (h.mono ((j.trans k).trans e)) ae) fun aP aQ K L=>?_
 refine zy (qx rfl underlying40 rfl (jg L)) (zg (vi 0) (z8 (q9 (j3 (γ:=Nat×Int×Int) (rs [6,7,8,9,22,31]) (fun g=>[(6,(.int .u64 g.2.1)),(22,(vi g.2.2))]) (fun g=>[C]++A) (fun g R=>z01 N m g.1 g.2.1 g.2.2=some c∧True) (fun g=>g.1) (N,0,0) prm ⟨b,trivial⟩ ?_))));clear b
 rintro⟨t,o,f⟩ aR aS u ⟨b,_⟩;rcases t with _|t;exact ql b;replace b:z01 N m (t+1) o f=some c:=b;rw [z01] at b;refine zm (zy (j5 rfl rfl) (z8 (zz (zx rfl b (fun b=>?_) (fun b=>?_)))));refine qb (zz (q9 (zm ?_)));obtain⟨M,b⟩:=ze b
 refine uf (i:=f.toNat) rfl z1d rfl (jg (L.mono u)) (zi rfl M.1) (zw M) fun aT af=>?_;refine qp rfl ty3 rfl af fun aU ag=>?_;obtain rfl:=q8.1 ag;refine zk (vi (ix m f)) (z8 (zu (zg (.int .u64 o) (zg (vi (ix m f)) ?_))));obtain⟨ah,b⟩:=ze b;refine zy (zda rfl rfl ah) ?_
 obtain⟨ai,b⟩:=ze b;refine zy (zlp rfl rfl ai) (zk (.int .u64 (ior o (z0a .u64 (1:Int) (ix m f)))) (z8 (zu ?_)));obtain⟨aj,b⟩:=ze b;refine zy (qo rfl rfl aj) (zg (vi (f+1)) (z8 ?_))
 exact⟨dkt,(RH.le.refl _),je,(t,ior o (z0a .u64 (1:Int) (ix m f)),f+1),Nat.lt_succ_self _,⟨rfl,rfl,trivial⟩,prm,b,trivial⟩;refine jd ?_;exact⟨dkt,(K.trans u),je,o,⟨rfl,trivial⟩,prm,(Option.some.inj b).symm,trivial⟩;rintro c aV aW w ⟨rfl,_⟩
 refine zu (zg G (zg (.int .u64 c) (yo (T:=(zq .u64)) (X:=([c]:List Int)) (ps:=[(0,(.int .u64 c))]) (css:=[[(.int .u64 c)]]) rfl underlying94 zro rfl rfl (jb ⟨rfl,trivial⟩) rfl rfl (by decide) fun ak aX E al=>?_)));refine jv (i:=0) rfl al fun am z an=>?_
 have ao:VRep (tSl true (zq .u64)) am ak ([c]:List Int):=(z0q an E);obtain⟨O,a⟩:=ze a;refine ow (i:=0) (X:=s) (Y:=([c]:List Int)) rfl underlying94 zro rfl rfl rfl (H.mono (w.trans z)) (jg (Sub.v (B:=(tSl false (zq .u64))) (uh Sub.refl (fun _=>rfl)) ao)) O.1 O.2 fun P ap aq=>?_
 refine zk P (z8 (zu ?_));obtain⟨ar,a⟩:=ze a;refine zy (qo rfl rfl ar) (zg (vi (l+1)) (z8 ?_));exact⟨dkt,(w.trans z),je,(q,(s++([c]:List Int)),l+1,P,ap),Nat.lt_succ_self _,⟨rfl,rfl,trivial⟩,prm,a,aq,trivial⟩;refine jd ?_
 exact⟨dkt,(k.trans e),je,(s,G,C),⟨rfl,trivial⟩,prm,(Option.some.inj a).symm,H,trivial⟩;rintro⟨W,Z,au⟩ aY R7 av ⟨rfl,aw,_⟩;refine zm (zg Z ?_);obtain⟨aZ,ax,d⟩:=zt d
 refine nu (Oc:=[au]) (Or:=[]++A) (cs:=[]) (vs:=[Z]) rfl zv9 rfl rfl ((pk 0 rfl (List.Perm.refl _))) (zcy aw ax) fun a0 a1 aD Q ay=>?_;obtain⟨az,rfl,rfl,aA⟩:=ay;refine qy (zg Z ?_);obtain⟨a2,aB,d⟩:=zt d
 refine nu (Oc:=[az]) (Or:=[]++A) (cs:=[]) (vs:=[Z]) rfl zvn rfl rfl ((pk 0 rfl (List.Perm.refl _))) (zb3 aA aB) fun S a3 aE U aC=>?_;obtain⟨_,rfl,rfl,V⟩:=aC;refine zk S (z8 (qh ?_));obtain rfl:=Option.some.inj d
 refine qd (D:=[]) (J:=[]) (rs:=[.tmp 2]) (vs:=[S]) (((j.trans av).trans Q).trans U) rfl rfl ⟨rfl,trivial⟩ ?_;exact⟨rfl,V⟩
theorem zv0:Enters prog 43:=enters_of func43 rfl (by kernel_rfl)
theorem zwa: ∀ w,∃ z,(zeroValue 94).run prog w= .ok z w∧z.cells=([.slice none 0 0]:List Value).toArray:=fun w=>⟨vs0,by kernel_rfl,rfl⟩
theorem zv8: ∀ w,(sizeOf 94).run prog w= .ok 1 w:=fun w=>by kernel_rfl
theorem zw1: ∀ w,∃ z,(zeroValue 96).run prog w= .ok z w∧z.cells=([.nilFunc]:List Value).toArray:=fun w=>⟨.nilFunc,by kernel_rfl,rfl⟩
theorem zuu: ∀ w,(sizeOf 96).run prog w= .ok 1 w:=fun w=>by kernel_rfl
theorem zvr: ∀ w,(isAgg 96).run prog w= .ok false w:=fun w=>by kernel_rfl
theorem z9z{N:Nat}{R:RH}{s:(List Int)}{c:Value}(k:VRep (tSl false (zq .u64)) R c s){f:Int→Option Bool}{e:Value}(n:FOk1 prog R e (zq .u64) z2i f){r:Int}(b:z3t N s f=some r):CallP prog 77 #[c,e] R (fun v R'=>v=(vi r)):=by
 refine qi (args:=[c,e]) func77 rfl rfl fun A=>?_;rw [z3t] at b;refine zm (zk (vi 0) (z8 ?_));obtain⟨o,a,b⟩:=zt b;refine qj (γ:=Unit) (rs [4,19]) (fun g=>[]) (fun g=>[]++A) (fun g R=>o=Ex.go g∧True) ?_ ?_
 refine zm (zg c (zy (qx rfl underlying94 rfl (jg k)) (zg (vi 0) (z8 (q9 (j3 (γ:=Nat×Int) (rs [4,6,8,19]) (fun g=>[(8,(vi g.2))]) (fun g=>[]++A) (fun g R=>lq N s f g.1 g.2=some o∧True) (fun g=>g.1) (N,0) prm ⟨a,trivial⟩ ?_))))));clear a;rintro⟨m,d⟩ y H h ⟨a,_⟩
 rcases m with _|m;exact ql a;replace a:lq N s f (m+1) d=some o:=a;rw [lq] at a;refine zm (zy (j5 rfl rfl) (z8 (zz (zx rfl a (fun a=>?_) (fun a=>?_)))))
 refine qb (zz (q9 (zm (zg (vi d) (zk (vi d) (qy (zg e (zg c (zg (vi d) ?_)))))))));obtain⟨l,a⟩:=ze a;refine uf (i:=d.toNat) rfl gm rfl (jg (k.mono h)) (zi rfl l.1) (zw l) fun z p=>?_;refine qp rfl xq rfl p fun B q=>?_;obtain rfl:=q8.1 q
 obtain⟨C,t,a⟩:=zt a;refine za1 rfl rfl rfl ((n.mono h) _ (RH.le.refl _) (ix s d) _ _ (q8.2 rfl) t) fun E F j u=>?_;obtain rfl:=lh.1 u;refine z8 (zx rfl a (fun a=>?_) (fun a=>?_));refine zm (zg (vi d) (zk (vi d) (z8 (qh ?_))));replace b:=z16 a b;obtain rfl:=Option.some.inj b
 refine qd (D:=[]) (J:=[]) (rs:=[.tmp 4]) (vs:=[(vi d)]) (h.trans j) rfl rfl ⟨rfl,trivial⟩ ?_;exact⟨rfl,rfl⟩;refine qb (zu ?_);obtain⟨w,a⟩:=ze a;refine zy (qo rfl rfl w) (zg (vi (d+1)) (z8 ?_));exact⟨dkt,j,je,(m,d+1),Nat.lt_succ_self _,⟨rfl,trivial⟩,prm,a,trivial⟩;refine jd ?_
 exact⟨dkt,h,je,(),trivial,prm,(Option.some.inj a).symm,trivial⟩;rintro I G K x ⟨rfl,_⟩;replace b:=z2m b;refine zm (zk (vi (-1)) (z8 (qh ?_)));obtain rfl:=Option.some.inj b;refine qd (D:=[]) (J:=[]) (rs:=[.tmp 4]) (vs:=[(vi (-1))]) x rfl rfl ⟨rfl,trivial⟩ ?_;exact⟨rfl,rfl⟩
theorem zw6:Enters prog 77:=enters_of func77 rfl (by kernel_rfl)
theorem z8p{N:Nat}{R:RH}{s:(List Int)}{a:Value}(d:VRep (tSl false (zq .u64)) R a s){f:Int→Option Bool}{b:Value}(e:FOk1 prog R b (zq .u64) z2i f){r:Bool}(c:z2q N s f=some r):CallP prog 45 #[a,b] R (fun v R'=>v=(.bool r)):=by
 refine qi (args:=[a,b]) func45 rfl rfl fun A=>?_;rw [z2q] at c;refine zm (zk (.bool false) (qy (zg a (zg b ?_))));obtain⟨h,i,c⟩:=zt c;refine jc rfl zw6 rfl (z9z d e i) fun k l g j=>?_;obtain rfl:=j
 refine zy (aa rfl rfl) (zk (.bool (decide (0≤h))) (z8 (qh ?_)));obtain rfl:=Option.some.inj c;refine qd (D:=[]) (J:=[]) (rs:=[.tmp 4]) (vs:=[(.bool (decide (0≤h)))]) g rfl rfl ⟨rfl,trivial⟩ ?_;exact⟨rfl,rfl⟩
theorem zw8{a:Bool}:TyOk prog 94 (tSl a (zq .u64)):=by
 obtain⟨i,hi,b⟩: ∃ i,prog.info? 94=some i∧i.size=1:=u6 (by kernel_rfl);exact z0l underlying94 hi rfl b
theorem zw3:Enters prog 45:=enters_of func45 rfl (by kernel_rfl)
theorem zc0{N:Nat}{R:RH}{set:Int}{p0_:Int}{a:Value}(c:PRep (zq .u64) R a p0_){r:Bool}(b:z5b N set p0_=some r):CallP prog 46 #[(.int .u64 set),a] R (fun v R'=>v=(.bool r)):=by
 refine qi (args:=[(.int .u64 set),a]) func46 rfl rfl fun A=>?_;rw [z5b] at b;refine zm (zk (.bool false) (qy (zg (.int .u64 set) (qp rfl xq rfl c fun f d=>?_))));obtain rfl:=q8.1 d;obtain⟨e,b⟩:=ze b
 refine zy (zg3 rfl rfl e) (zy (vz rfl rfl) (zk (.bool (decide ((zcm set p0_)=0))) (z8 (qh ?_))));obtain rfl:=Option.some.inj b;refine qd (D:=[]) (J:=[]) (rs:=[.tmp 3]) (vs:=[(.bool (decide ((zcm set p0_)=0)))]) (RH.le.refl _) rfl rfl ⟨rfl,trivial⟩ ?_;exact⟨rfl,rfl⟩
theorem zvi:Enters prog 46:=enters_of func46 rfl (by kernel_rfl)
theorem zsz{u:Value}:TyOk prog 96 (zq7 u):=by
 obtain⟨i,hi,a⟩: ∃ i,prog.info? 96=some i∧i.size=1:=u6 (by kernel_rfl);exact z0l underlying96 hi rfl a
theorem zue:Enters prog 44:=enters_of func44 rfl (by kernel_rfl)
theorem zad{N:Nat}(F:Nat): ∀ {R:RH} {b:Int} {j:Int} {left:Int} {p0_:(List Int)} {e:Value} (s:PRep (tSl false (zq .u64)) R e p0_) {p1_:Int} {k:Value} (t:PRep (zq .i64) R k p1_) {f:Nat} (u:PRep (zq7 (.func (.func 44) #[] #[e,k,(.pointer (some ⟨f,0,none⟩))])) R (.pointer (some ⟨f,0,none⟩)) ()) {r:Int×Bool} (d:z0z N F b j left p0_ p1_=some r),CallP prog 44 #[(.int .u64 b),(vi j),(vi left),e,k,(.pointer (some ⟨f,0,none⟩))] R (fun v R'=>v= .tuple #[(.int .u64 r.1),(.bool r.2)]):=by
  induction F with
  |zero=>intros;rename_i d;exact ql d
  |succ F ih=>
    intro R b j left p0_ e s p1_ k t f u r d
    refine qi (args:=[(.int .u64 b),(vi j),(vi left),e,k,(.pointer (some ⟨f,0,none⟩))]) func44 rfl rfl fun A=>?_
    rw [z0z] at d
    refine zz ?_
    refine zu ?_
    refine z9d (T:=(zq .u64)) rfl rfl (q8.2 rfl) fun z R3 q P=>?_
    refine zk (.int .u64 0) ?_
    refine zk (.bool false) ?_
    refine z8 ?_
    refine zz ?_
    refine zz ?_
    refine zu ?_
    refine zg (vi left) ?_
    refine zy (vz rfl rfl) ?_
    refine z8 ?_
    refine zx rfl d (fun d=>?_) (fun d=>?_)
    · refine zz ?_
      obtain⟨O,c7,d⟩:=zt d
      refine ym 7 [] [phX (.int .u64 b),phR (tSl false (zq .u64)) p0_,phX (.func (.func 46) #[] #[z]),phX (.bool O),phX (.bool (!O)),phX (.int .u64 b),phX (.bool (!O))] mixed (by kernel_rfl) (wm ⟨zf,nz,zf,zf,zf,zf,zf,trivial⟩) ⟨?_,?_,?_,?_,?_,?_,?_,trivial⟩ fun R8 Q=>?_
      · intro l S a m C
        have I:l 6=z:=m 6 rfl
        exact zb rfl rfl rfl (j4 (jy xq I (P.mono a)) (fun _ _ h=>q8.1 h))
      · intro l U a m C
        have a3:l 3=e:=m 3 rfl
        exact zb rfl rfl rfl (jy zw8 a3 ((s.mono q).mono a))
      · intro l V a m C
        have I:l 6=z:=m 6 rfl
        exact zb rfl rfl rfl (zh (z0c (fs:=[]) (cs:=[z]) rfl (by simp only [List.map,ev,I]<;>rfl)))
      · rintro l W a m ⟨n,w,_⟩
        have X:=n rfl
        have Y:l 18=(.func (.func 46) #[] #[z]):=w rfl
        exact zb rfl rfl rfl (uq (vs:=[(l 17),(.func (.func 46) #[] #[z])]) zw3 (by simp only [List.map,ev,Y]<;>rfl) (z8p X ((zdi (cs:=[z]) zvi fun R1 hq z0 u0 y k0 hy=>by obtain rfl:=q8.1 k0;exact CallP.mono (zc0 (P.mono hq) hy) fun v R2 _ hv=>lh.2 hv).mono a) c7) (fun _ _ h=>h))
      · rintro l Z a m ⟨n,w,_⟩
        have aa:=n rfl
        exact zb rfl rfl rfl (zh (ru aa))
      · rintro l ab a m ⟨n,w,K,L,d4,d5,d6,_⟩
        have af:=n rfl
        exact zb rfl rfl rfl (zh (p8 af))
      · rintro l ag a m ⟨n,w,K,L,d4,d5,d6,d7,_⟩
        have ah:=n rfl
        exact zb rfl rfl rfl (zh (p8 ah))
      intro bm ai
      intro bn bo
      intro bp aj
      intro bq ak
      intro br al
      intro bs am
      intro bt an
      obtain rfl:=Eq.symm ai
      obtain rfl:=Eq.symm aj
      obtain rfl:=Eq.symm ak
      obtain rfl:=Eq.symm al
      obtain rfl:=Eq.symm am
      obtain rfl:=Eq.symm an
      refine z8 ?_
      refine qh ?_
      obtain rfl:=Option.some.inj d
      refine qd (D:=[]) (J:=[]) (rs:=[.tmp 9,.tmp 10]) (vs:=[(.int .u64 b),(.bool (!O))]) (q.trans Q) rfl rfl ⟨rfl,rfl,trivial⟩ ?_
      exact⟨rfl,rfl⟩
    · refine qb ?_
      obtain⟨E,c,d⟩:=zt d
      refine qj (γ:=Unit) (rs [9,14,21,44]) (fun g=>[]) (fun g=>[]++A) (fun g R=>E=Ex.go g∧True) ?_ ?_
      · refine zz ?_
        refine zu ?_
        refine zg (vi j) ?_
        refine zk (vi j) ?_
        refine z8 ?_
        refine q9 ?_
        refine j3 (γ:=Nat×Int) (rs [9,14,22,44]) (fun g=>[(11,(vi g.2))]) (fun g=>[]++A) (fun g R=>z1o N (z0z N F) b left p0_ p1_ g.1 g.2=some E∧True) (fun g=>g.1) (N,j) prm ⟨c,trivial⟩ ?_
        clear c
        rintro⟨x,i⟩ bu bv o ⟨c,_⟩
        rcases x with _|x
        · exact ql c
        replace c:z1o N (z0z N F) b left p0_ p1_ (x+1) i=some E:=c;rw [z1o] at c
        refine zz ?_
        refine zz ?_
        refine zu ?_
        refine zg (vi i) ?_
        refine qp rfl ty3 rfl (t.mono (q.trans o)) fun bw ao=>?_
        obtain rfl:=q8.1 ao
        refine zg (vi left) ?_
        obtain⟨ap,c⟩:=ze c
        refine zy (uo rfl rfl ap) ?_
        refine zy (z7a rfl rfl) ?_
        refine z8 ?_
        refine zx rfl c (fun c=>?_) (fun c=>?_)
        · refine qb ?_
          refine zz ?_
          refine q9 ?_
          refine zz ?_
          obtain⟨aq,ar,au,av,c⟩:=zpc c
          obtain⟨p,aw,c⟩:=zt c
          refine ym 15 [] [phX (.func (.func 44) #[] #[e,k,(.pointer (some ⟨f,0,none⟩))]),phX (.int .u64 b),phX (vi i),phX (.int .u64 (z0a .u64 (1:Int) i)),phX (.int .u64 (ior b (z0a .u64 (1:Int) i))),phX (vi i),phX (vi (i+1)),phX (vi left),phX (vi (left-1)),phX (.tuple #[(.int .u64 p.1),(.bool p.2)]),phX (.tuple #[(.int .u64 p.1),(.bool p.2)]),phX (.int .u64 p.1),phX (.bool p.2),phX (.int .u64 p.1),phX (.bool p.2)] mixed (by kernel_rfl) (wm ⟨zf,zf,zf,zf,zf,zf,zf,zf,zf,zf,zf,zf,zf,zf,zf,trivial⟩) ⟨?_,?_,?_,?_,?_,?_,?_,?_,?_,?_,?_,?_,?_,?_,?_,trivial⟩ fun bx B=>?_
          · intro l S a m C
            have a5:l 5=(.pointer (some ⟨f,0,none⟩)):=m 5 rfl
            exact zb rfl rfl rfl (j4 (jy zsz a5 ((u.mono (q.trans o)).mono a)) (fun _ _ h=>zo7 h))
          · intro l U a m C
            have I:l 6=z:=m 6 rfl
            exact zb rfl rfl rfl (j4 (jy xq I ((P.mono o).mono a)) (fun _ _ h=>q8.1 h))
          · intro l V a m C
            have G:l 11=(vi i):=m 11 rfl
            exact zb rfl rfl rfl (zh (za G))
          · rintro l W a m ⟨n,_⟩
            have ax:=n rfl
            exact zb rfl rfl rfl (zh (zda rfl ax aq))
          · rintro l Z a m ⟨n,w,_⟩
            have ay:=n rfl
            have az:=w rfl
            exact zb rfl rfl rfl (zh (zlp ay az ar))
          · intro l ab a m C
            have G:l 11=(vi i):=m 11 rfl
            exact zb rfl rfl rfl (zh (za G))
          · rintro l ag a m ⟨n,_⟩
            have aA:=n rfl
            exact zb rfl rfl rfl (zh (qo aA rfl au))
          · intro l bA a m C
            have a2:l 2=(vi left):=m 2 rfl
            exact zb rfl rfl rfl (zh (za a2))
          · rintro l bC a m ⟨n,_⟩
            have aB:=n rfl
            exact zb rfl rfl rfl (zh (uo aB rfl av))
          · rintro l bD a m ⟨n,w,K,L,_⟩
            have aC:=n rfl
            have aD:l 34=(.int .u64 (ior b (z0a .u64 (1:Int) i))):=w rfl
            have aE:l 36=(vi (i+1)):=K rfl
            have aF:l 38=(vi (left-1)):=L rfl
            exact zb rfl rfl rfl (zny (cs:=[e,k,(.pointer (some ⟨f,0,none⟩))]) (vs:=[(.int .u64 (ior b (z0a .u64 (1:Int) i))),(vi (i+1)),(vi (left-1))]) zue aC (by simp only [List.map,ev,aD,aE,aF]<;>rfl) (ih ((s.mono (q.trans o)).mono a) ((t.mono (q.trans o)).mono a) ((u.mono (q.trans o)).mono a) aw) (fun _ _ h=>h))
          · rintro l ba a m ⟨n,_⟩
            have aG:=n rfl
            exact zb rfl rfl rfl (zh (za aG))
          · rintro l bb a m ⟨n,_⟩
            have H:=n rfl
            have ht:=H
            exact zb rfl rfl rfl (zh (jf ht rfl))
          · rintro l bc a m ⟨n,w,_⟩
            have H:=n rfl
            have ht:=H
            exact zb rfl rfl rfl (zh (jf ht rfl))
          · rintro l be a m ⟨n,w,K,L,d4,d5,d6,d7,d8,d9,aI,aJ,aK,aL,aM,_⟩
            have aN:=n rfl
            exact zb rfl rfl rfl (zh (p8 aN))
          · rintro l bf a m ⟨n,w,K,L,d4,d5,d6,d7,d8,d9,aI,aJ,aK,aL,aM,bG,_⟩
            have aO:=n rfl
            exact zb rfl rfl rfl (zh (p8 aO))
          intro bH aP
          intro bI aQ
          intro bJ aR
          intro bK aS
          intro bL aT
          intro bM aU
          intro bN aV
          intro bO aW
          intro bP aX
          intro bQ aY
          intro bR aZ
          intro bS a0
          intro bT a1
          intro bU a4
          intro bV a7
          obtain rfl:=Eq.symm aP
          obtain rfl:=Eq.symm aQ
          obtain rfl:=Eq.symm aR
          obtain rfl:=Eq.symm aS
          obtain rfl:=Eq.symm aT
          obtain rfl:=Eq.symm aU
          obtain rfl:=Eq.symm aV
          obtain rfl:=Eq.symm aW
          obtain rfl:=Eq.symm aX
          obtain rfl:=Eq.symm aY
          obtain rfl:=Eq.symm aZ
          obtain rfl:=Eq.symm a0
          obtain rfl:=Eq.symm a1
          obtain rfl:=Eq.symm a4
          obtain rfl:=Eq.symm a7
          refine z8 ?_
          refine zz ?_
          refine zu ?_
          refine zg (.bool p.2) ?_
          refine z8 ?_
          refine zx rfl c (fun c=>?_) (fun c=>?_)
          · refine zz ?_
            refine zu ?_
            refine zg (.int .u64 p.1) ?_
            refine zk (.int .u64 p.1) ?_
            refine zk (.bool true) ?_
            refine z8 ?_
            refine qh ?_
            replace d:=z16 c d
            obtain rfl:=Option.some.inj d
            refine qd (D:=[]) (J:=[]) (rs:=[.tmp 9,.tmp 10]) (vs:=[(.int .u64 p.1),(.bool true)]) ((q.trans o).trans B) rfl rfl ⟨rfl,rfl,trivial⟩ ?_
            exact⟨rfl,rfl⟩
          · refine qb ?_
            refine zu ?_
            refine zg (vi i) ?_
            obtain⟨a8,c⟩:=ze c
            refine zy (qo rfl rfl a8) ?_
            refine zk (vi (i+1)) ?_
            refine z8 ?_
            exact⟨dkt,B,je,(x,i+1),Nat.lt_succ_self _,⟨rfl,trivial⟩,prm,c,trivial⟩
        · refine jd ?_
          exact⟨dkt,o,je,(),trivial,prm,(Option.some.inj c).symm,trivial⟩
      · rintro bW bX bY M ⟨rfl,_⟩
        replace d:=z2m d
        refine zz ?_
        refine zu ?_
        refine zk (.int .u64 0) ?_
        refine zk (.bool false) ?_
        refine z8 ?_
        refine qh ?_
        obtain rfl:=Option.some.inj d
        refine qd (D:=[]) (J:=[]) (rs:=[.tmp 9,.tmp 10]) (vs:=[(.int .u64 0),(.bool false)]) (q.trans M) rfl rfl ⟨rfl,rfl,trivial⟩ ?_
        exact⟨rfl,rfl⟩
theorem zd4{N:Nat}{R:RH}{d:Int}{e:Int}{left:Int}{p0_:(List Int)}{a:Value}(f:PRep (tSl false (zq .u64)) R a p0_){p1_:Int}{b:Value}(g:PRep (zq .i64) R b p1_){c:Nat}(h:PRep (zq7 (.func (.func 44) #[] #[a,b,(.pointer (some ⟨c,0,none⟩))])) R (.pointer (some ⟨c,0,none⟩)) ()){r:Int×Bool}(i:z0z N N d e left p0_ p1_=some r):CallP prog 44 #[(.int .u64 d),(vi e),(vi left),a,b,(.pointer (some ⟨c,0,none⟩))] R (fun v R'=>v= .tuple #[(.int .u64 r.1),(.bool r.2)]):=zad N f g h i
theorem z9w{N:Nat}{R:RH}{x:Sa}{H:Value}(p:VRep (qa false false) R H x){r:(List Int)×Int}(b:z5t N x=some r):CallP prog 19 #[H] R (fun v R'=> ∃ u0,v= .tuple #[u0,(vi r.2)]∧VRep (tSl true (zq .i64)) R' u0 r.1):=by
 refine qi (args:=[H]) func19 rfl rfl fun A=>?_;rw [z5t] at b;refine zm (um (T:=(qa false false)) rfl rfl rfl p fun v1 R3 h h5 h2=>?_);refine zk vs0 (zk (vi 0) (z8 (zz (zm (zy (ku z4s rfl rfl h5 (p.mono h)) ?_)))));obtain⟨U,c7,b⟩:=zt b
 refine jc rfl zl4 rfl (z11 (p.mono h) c7) fun v8 aQ d h9=>?_;obtain rfl:=h9;refine zk (vi U) (qy (zg (vi U) (zy (vv rfl rfl) (z8 (zx rfl b (fun b=>?_) (fun b=>?_))))));refine zm (zg (vi U) (zk vs0 (zk (vi U) (z8 (qh ?_)))));obtain rfl:=Option.some.inj b
 refine qd (D:=[]) (J:=[]) (rs:=[.tmp 2,.tmp 3]) (vs:=[vs0,(vi U)]) (h.trans d) rfl rfl ⟨rfl,rfl,trivial⟩ ?_;exact⟨rfl,⟨vs0,rfl,z2w⟩⟩;refine qb (zm (zy (ku z4s rfl rfl (h5.mono d) (p.mono (h.trans d))) ?_));obtain⟨m,ao,b⟩:=zt b
 refine jc rfl zo5 rfl (fu (p.mono (h.trans d)) ao) fun aS aT l ap=>?_;obtain rfl:=ap;refine yx rfl za3 fun j=>?_;refine kw (i:=0) (vs:=[(vi m)]) sz3 rfl rfl rfl rfl rfl rfl (qg rfl ug) ?_
 refine z8 (zz (zm (zy (jk (i:=0) ag3 rfl rfl rfl) (zy (l6 rfl rfl) (z8 (zx rfl b (fun b=>?_) (fun b=>?_)))))));refine zm (zk vs0 (zk (vi 3) (z8 (qh ?_))));obtain rfl:=Option.some.inj b
 refine qd (D:=[]) (J:=[box j [(vi m)] 3]) (rs:=[.tmp 2,.tmp 3]) (vs:=[vs0,(vi 3)]) ((h.trans d).trans l) rfl rfl ⟨rfl,rfl,trivial⟩ ?_;exact⟨rfl,⟨vs0,rfl,z2w⟩⟩;refine qb (zm (zy (ku z4s rfl rfl (h5.mono (d.trans l)) (p.mono ((h.trans d).trans l))) ?_))
 obtain⟨V,aq,b⟩:=zt b;refine jc rfl zv0 rfl (za8 (p.mono ((h.trans d).trans l)) aq) fun z aU F I=>?_;refine yx rfl zwa fun n=>?_;refine kw (i:=0) (vs:=[z]) zv8 rfl rfl (pq I) rfl rfl rfl (qg (ze9 I) ug) ?_;refine qy (yx rfl zw1 fun o=>?_)
 refine qy (zy (z0c (fs:=[]) (cs:=[(.pointer (some ⟨n,0,none⟩)),(.pointer (some ⟨j,0,none⟩)),(.pointer (some ⟨o,0,none⟩))]) rfl rfl) (kw (i:=0) (vs:=[(.func (.func 44) #[] #[(.pointer (some ⟨n,0,none⟩)),(.pointer (some ⟨j,0,none⟩)),(.pointer (some ⟨o,0,none⟩))])]) zuu rfl rfl rfl rfl rfl rfl (qg rfl ug) ?_));refine z8 ?_
 obtain⟨K,a,b⟩:=zt b;refine qj (γ:=Unit) (rs [2,4,8,13,25,54]) (fun g=>[]) (fun g=>[]++A) (fun g R=>K=Ex.go g∧True) ?_ ?_;refine zm (zy (jk (i:=2) ag3 rfl rfl rfl) ?_);obtain⟨ar,a⟩:=ze a
 refine zy (qo rfl rfl ar) (zg (vi 0) (z8 (q9 (j3 (γ:=Nat×Int) (rs [2,4,8,13,27,54]) (fun g=>[(27,(vi g.2))]) (fun g=>[box j [(vi m)] 3,box o [(.func (.func 44) #[] #[(.pointer (some ⟨n,0,none⟩)),(.pointer (some ⟨j,0,none⟩)),(.pointer (some ⟨o,0,none⟩))])] 96,box n [z] 94]++A) (fun g R=>z2n N m V g.1 g.2=some K∧True) (fun g=>g.1) (N,0) ⟨[],(pk 2 rfl (pk 0 rfl (pk 0 rfl (List.Perm.refl _))))⟩ ⟨a,trivial⟩ ?_))))
 clear a;rintro⟨C,q⟩ aL aV s ⟨a,_⟩;rcases C with _|C;exact ql a;replace a:z2n N m V (C+1) q=some K:=a;rw [z2n] at a;refine zm (zy (j5 rfl rfl) (z8 (zz (zx rfl a (fun a=>?_) (fun a=>?_)))))
 refine qb (zz (q9 (zm (zg (vi q) (zk (vi q) (qy (zy (jk (i:=1) zvr rfl rfl rfl) (zg (vi q) ?_))))))));obtain⟨k,au,a⟩:=zt a
 refine z99 (cs:=[(.pointer (some ⟨n,0,none⟩)),(.pointer (some ⟨j,0,none⟩)),(.pointer (some ⟨o,0,none⟩))]) (vs:=[(.int .u64 0),(vi 0),(vi q)]) (φ:=fun v=>v= .tuple #[(.int .u64 k.1),(.bool k.2)]) rfl zue rfl rfl (fun aW W t=>zd4 (zc2 (zil 2 rfl t) (jr (T:=(tSl false (zq .u64))) rfl ((I.mono s).mono W))) (zc2 (zil 0 rfl t) rfl) (zc2 (zil 1 rfl t) ⟨rfl,rfl⟩) au) fun aX av=>?_
 obtain rfl:=av;refine zg (.tuple #[(.int .u64 k.1),(.bool k.2)]) (zy (jf rfl rfl) (zy (jf rfl rfl) (zk (.int .u64 k.1) (zk (.bool k.2) (qy (zg (.bool k.2) (z8 (zx rfl a (fun a=>?_) (fun a=>?_)))))))));refine zm (zk vs0 (z8 ?_));obtain⟨u,c,a⟩:=zt a
 refine qj (γ:=(List Int)×Value×Frag) (rs [11,13,37,51]) (fun g=>[(11,g.2.1)]) (fun g=>[g.2.2]++A) (fun g R=>u=g.1∧ORep (zq .i64) R g.2.2 g.2.1 g.1∧True) ?_ ?_;refine zm (zy (jk (i:=0) ag3 rfl rfl rfl) (zg (vi 0) (z8 (q9 (z3l ?_)))))
 refine j3 (γ:=Nat×(List Int)×Int×Value×Frag) (rs [11,13,38,51]) (fun g=>[(11,g.2.2.2.1),(38,(vi g.2.2.1))]) (fun g=>[g.2.2.2.2]++A) (fun g R=>z2j N m k g.1 g.2.1 g.2.2.1=some u∧ORep (zq .i64) R g.2.2.2.2 g.2.2.2.1 g.2.1∧True) (fun g=>g.1) (N,[],0,vs0,emp) ⟨[box j [(vi m)] 3,box o [(.func (.func 44) #[] #[(.pointer (some ⟨n,0,none⟩)),(.pointer (some ⟨j,0,none⟩)),(.pointer (some ⟨o,0,none⟩))])] 96,box n [z] 94],(pk 1 rfl (pk 1 rfl (pk 1 rfl (pk 0 rfl (List.Perm.refl _)))))⟩ ⟨c,(z1a (T:=(zq .i64))),trivial⟩ ?_
 clear c;rintro⟨E,w,e,L,Z⟩ aY aZ aa ⟨c,M,_⟩;rcases E with _|E;exact ql c;replace c:z2j N m k (E+1) w e=some u:=c;rw [z2j] at c;refine zm (zy (j5 rfl rfl) (z8 (zz (zx rfl c (fun c=>?_) (fun c=>?_)))));refine qb ?_;obtain⟨O,f,c⟩:=zt c
 refine qj (γ:=(List Int)×Value×Frag) (rs [11,13,40,50]) (fun g=>[(11,g.2.1)]) (fun g=>[g.2.2]++A) (fun g R=>O=g.1∧ORep (zq .i64) R g.2.2 g.2.1 g.1∧True) ?_ ?_;refine q9 (zm (zg (vi e) (zk (vi e) (qy (zg (.int .u64 k.1) (zg (vi e) ?_))))));obtain⟨aw,f⟩:=ze f;refine zy (zdy rfl rfl aw) ?_
 obtain⟨ax,f⟩:=ze f;refine zy (zg3 rfl rfl ax) (zy (vz rfl rfl) (z8 (zx rfl f (fun f=>?_) (fun f=>?_))))
 refine zu (zg L (zg (vi e) (yo (T:=(zq .i64)) (X:=([e]:List Int)) (ps:=[(0,(vi e))]) (css:=[[(vi e)]]) rfl underlying40 zo3 rfl rfl (jb ⟨rfl,trivial⟩) rfl rfl (by decide) fun ay a0 P az=>?_)));refine jv (i:=0) rfl az fun aA G aB=>?_
 have aC:VRep (tSl true (zq .i64)) aA ay ([e]:List Int):=(z0q aB P);obtain⟨ab,f⟩:=ze f;refine ow (i:=0) (X:=w) (Y:=([e]:List Int)) rfl underlying40 zo3 rfl rfl rfl (M.mono G) (jg (Sub.v (B:=(tSl false (zq .i64))) (uh Sub.refl (fun _=>rfl)) aC)) ab.1 ab.2 fun ac aD aE=>?_;refine zk ac (z8 ?_)
 exact⟨dkt,G,je,((w++([e]:List Int)),ac,aD),⟨rfl,trivial⟩,prm,(Option.some.inj f).symm,aE,trivial⟩;refine qb ?_;exact⟨dkt,(RH.le.refl _),je,(w,L,Z),⟨rfl,trivial⟩,prm,(Option.some.inj f).symm,M,trivial⟩;rintro⟨O,aF,aG⟩ a1 a2 ad ⟨rfl,aH,_⟩;refine zu ?_;obtain⟨aI,c⟩:=ze c
 refine zy (qo rfl rfl aI) (zg (vi (e+1)) (z8 ?_));exact⟨dkt,ad,je,(E,O,e+1,aF,aG),Nat.lt_succ_self _,⟨rfl,rfl,trivial⟩,prm,c,aH,trivial⟩;refine jd ?_;exact⟨dkt,aa,je,(w,L,Z),⟨rfl,trivial⟩,prm,(Option.some.inj c).symm,M,trivial⟩;rintro⟨u,ae,a3⟩ a4 a5 af ⟨rfl,aJ,_⟩
 refine zm (zg ae (jv (i:=0) rfl aJ fun ag Q ah=>?_));have ai:VRep (tSl false (zq .i64)) ag ae u:=(z6f ah);obtain⟨aM,aj,a⟩:=zt a;refine jc rfl zr6 rfl (z95 ai aj) fun y aN S ak=>?_;refine zk y (zk (vi 0) (z8 (qh ?_)));replace b:=z16 a b
 obtain rfl:=Option.some.inj b;refine qd (D:=[]) (J:=[]) (rs:=[.tmp 2,.tmp 3]) (vs:=[y,(vi 0)]) (((((((h.trans d).trans l).trans F).trans s).trans af).trans Q).trans S) rfl rfl ⟨rfl,rfl,trivial⟩ ?_;exact⟨rfl,⟨y,rfl,ak⟩⟩;refine qb (zu ?_);obtain⟨al,a⟩:=ze a
 refine zy (qo rfl rfl al) (zg (vi (q+1)) (z8 ?_));exact⟨dkt,(RH.le.refl _),je,(C,q+1),Nat.lt_succ_self _,⟨rfl,trivial⟩,prm,a,trivial⟩;refine jd ?_
 exact⟨dkt,s,je,(),trivial,⟨[box j [(vi m)] 3,box o [(.func (.func 44) #[] #[(.pointer (some ⟨n,0,none⟩)),(.pointer (some ⟨j,0,none⟩)),(.pointer (some ⟨o,0,none⟩))])] 96,box n [z] 94],(List.Perm.refl _)⟩,(Option.some.inj a).symm,trivial⟩;rintro a6 aO a7 am ⟨rfl,_⟩;replace b:=z2m b
 refine zm (zk vs0 (zk (vi 0) (z8 (qh ?_))));obtain rfl:=Option.some.inj b;refine qd (D:=[]) (J:=[]) (rs:=[.tmp 2,.tmp 3]) (vs:=[vs0,(vi 0)]) ((((h.trans d).trans l).trans F).trans am) rfl rfl ⟨rfl,rfl,trivial⟩ ?_;exact⟨rfl,⟨vs0,rfl,z2w⟩⟩
theorem zsh:Enters prog 19:=enters_of func19 rfl (by kernel_rfl)
theorem zeh{N:Nat}{R:RH}{x:(List Int)}{d:Value}(h:VRep (tSl false (zq .i64)) R d x){r:Int}(b:slices_Max_int N x=some r):CallP prog 78 #[d] R (fun v R'=>v=(vi r)):=by
 refine qi (args:=[d]) func78 rfl rfl fun A=>?_;rw [slices_Max_int] at b;refine zm (zk (vi 0) (z8 (zz (zm (zg d (zy (qx rfl underlying40 rfl (jg h)) (zy (j5 rfl rfl) (z8 (zx rfl b (fun b=>?_) (fun b=>?_))))))))));exact ql b;refine qb (zm (zg d ?_));obtain⟨q,b⟩:=ze b
 refine uf (i:=(0:Int).toNat) rfl z1d rfl (jg h) (zi rfl q.1) (zw q) fun C s=>?_;refine qp rfl ty3 rfl s fun E t=>?_;obtain rfl:=q8.1 t;refine zk (vi (ix x 0)) (z8 ?_);obtain⟨k,a,b⟩:=zt b
 refine qj (γ:=Int) (rs [3,5,12,24]) (fun g=>[(3,(vi g))]) (fun g=>[]++A) (fun g R=>k=g∧True) ?_ ?_
 refine zm (zk (vi 1) (z8 (q9 (j3 (γ:=Nat×Int×Int) (rs [3,5,12,24]) (fun g=>[(3,(vi g.2.1)),(4,(vi g.2.2))]) (fun g=>[]++A) (fun g R=>z2l N x g.1 g.2.1 g.2.2=some k∧True) (fun g=>g.1) (N,(ix x 0),1) prm ⟨a,trivial⟩ ?_))));clear a;rintro⟨j,e,c⟩ u w f ⟨a,_⟩;rcases j with _|j
 exact ql a;replace a:z2l N x (j+1) e c=some k:=a;rw [z2l] at a;refine zz (zm (zg (vi c) (zg d (zy (qx rfl underlying40 rfl (jg (h.mono f))) (zy (j5 rfl rfl) (z8 (zx rfl a (fun a=>?_) (fun a=>?_))))))))
 refine qb (zz (q9 (zu (zg (vi e) (zg d (zg (vi c) ?_))))));obtain⟨l,a⟩:=ze a;refine uf (i:=c.toNat) rfl z1d rfl (jg (h.mono f)) (zi rfl l.1) (zw l) fun y m=>?_;refine qp rfl ty3 rfl m fun z n=>?_;obtain rfl:=q8.1 n
 refine zy (zk6 rfl underlying3 rfl rfl) (zk (vi (max e (ix x c))) (z8 (zu (zg (vi c) ?_))));obtain⟨o,a⟩:=ze a;refine zy (qo rfl rfl o) (zk (vi (c+1)) (z8 ?_));exact⟨dkt,(RH.le.refl _),je,(j,max e (ix x c),c+1),Nat.lt_succ_self _,⟨rfl,rfl,trivial⟩,prm,a,trivial⟩;refine jd ?_
 exact⟨dkt,f,je,e,⟨rfl,trivial⟩,prm,(Option.some.inj a).symm,trivial⟩;rintro k B F p ⟨rfl,_⟩;refine zm (zg (vi k) (zk (vi k) (z8 (qh ?_))));obtain rfl:=Option.some.inj b;refine qd (D:=[]) (J:=[]) (rs:=[.tmp 2]) (vs:=[(vi k)]) p rfl rfl ⟨rfl,trivial⟩ ?_;exact⟨rfl,rfl⟩
theorem zvl:Enters prog 78:=enters_of func78 rfl (by kernel_rfl)
theorem zd7{N:Nat}{R:RH}{s:(List Int)}{c:Value}(h:VRep (tSl false (zq .i64)) R c s){f:Int}{r:Int}(b:slices_Index_int N s f=some r):CallP prog 79 #[c,(vi f)] R (fun v R'=>v=(vi r)):=by
 refine qi (args:=[c,(vi f)]) func79 rfl rfl fun A=>?_;rw [slices_Index_int] at b;refine zm (zk (vi 0) (z8 ?_));obtain⟨l,a,b⟩:=zt b;refine qj (γ:=Unit) (rs [4,19]) (fun g=>[]) (fun g=>[]++A) (fun g R=>l=Ex.go g∧True) ?_ ?_
 refine zm (zg c (zy (qx rfl underlying40 rfl (jg h)) (zg (vi 0) (z8 (q9 (j3 (γ:=Nat×Int) (rs [4,6,8,19]) (fun g=>[(8,(vi g.2))]) (fun g=>[]++A) (fun g R=>z1k N s f g.1 g.2=some l∧True) (fun g=>g.1) (N,0) prm ⟨a,trivial⟩ ?_))))));clear a;rintro⟨k,d⟩ q x e ⟨a,_⟩;rcases k with _|k
 exact ql a;replace a:z1k N s f (k+1) d=some l:=a;rw [z1k] at a;refine zm (zy (j5 rfl rfl) (z8 (zz (zx rfl a (fun a=>?_) (fun a=>?_)))));refine qb (zz (q9 (zm (zg (vi d) (zk (vi d) (qy (zg (vi f) (zg c (zg (vi d) ?_)))))))))
 obtain⟨j,a⟩:=ze a;refine uf (i:=d.toNat) rfl z1d rfl (jg (h.mono e)) (zi rfl j.1) (zw j) fun t m=>?_;refine qp rfl ty3 rfl m fun u n=>?_;obtain rfl:=q8.1 n;refine zy (vz rfl rfl) (z8 (zx rfl a (fun a=>?_) (fun a=>?_)))
 refine zm (zg (vi d) (zk (vi d) (z8 (qh ?_))));replace b:=z16 a b;obtain rfl:=Option.some.inj b;refine qd (D:=[]) (J:=[]) (rs:=[.tmp 4]) (vs:=[(vi d)]) e rfl rfl ⟨rfl,trivial⟩ ?_;exact⟨rfl,rfl⟩;refine qb (zu ?_);obtain⟨o,a⟩:=ze a
 refine zy (qo rfl rfl o) (zg (vi (d+1)) (z8 ?_));exact⟨dkt,(RH.le.refl _),je,(k,d+1),Nat.lt_succ_self _,⟨rfl,trivial⟩,prm,a,trivial⟩;refine jd ?_;exact⟨dkt,e,je,(),trivial,prm,(Option.some.inj a).symm,trivial⟩;rintro y w z p ⟨rfl,_⟩;replace b:=z2m b;refine zm (zk (vi (-1)) (z8 (qh ?_)))
 obtain rfl:=Option.some.inj b;refine qd (D:=[]) (J:=[]) (rs:=[.tmp 4]) (vs:=[(vi (-1))]) p rfl rfl ⟨rfl,trivial⟩ ?_;exact⟨rfl,rfl⟩
theorem zw9:Enters prog 79:=enters_of func79 rfl (by kernel_rfl)
theorem zf2{N:Nat}{R:RH}{h:(List Int)}{b:Value}(c:VRep (tSl false (zq .i64)) R b h){r:Int×Bool}(a:z9o N h=some r):CallP prog 50 #[b] R (fun v R'=>v= .tuple #[(vi r.1),(.bool r.2)]):=by
 refine qi (args:=[b]) func50 rfl rfl fun A=>?_;rw [z9o] at a;refine zm (zk (vi 0) (zk (.bool false) (z8 (zz (zm (zg b (zy (qx rfl underlying40 rfl (jg c)) (zy (vz rfl rfl) (z8 (zx rfl a (fun a=>?_) (fun a=>?_)))))))))))
 refine zm (zk (vi 0) (zk (.bool false) (z8 (qh ?_))));obtain rfl:=Option.some.inj a;refine qd (D:=[]) (J:=[]) (rs:=[.tmp 2,.tmp 3]) (vs:=[(vi 0),(.bool false)]) (RH.le.refl _) rfl rfl ⟨rfl,rfl,trivial⟩ ?_;exact⟨rfl,rfl⟩;refine qb (zm (zg b ?_));obtain⟨d,j,a⟩:=zt a
 refine jc rfl zvl rfl (zeh c j) fun o p e k=>?_;obtain rfl:=k;refine zk (vi d) (qy (zg b (zg (vi d) ?_)));obtain⟨i,l,a⟩:=zt a;refine jc rfl zw9 rfl (zd7 (c.mono e) l) fun m n f g=>?_;obtain rfl:=g
 refine zg (vi d) (zy (l6 rfl rfl) (zk (vi i) (zk (.bool (decide (0<d))) (z8 (qh ?_)))));obtain rfl:=Option.some.inj a;refine qd (D:=[]) (J:=[]) (rs:=[.tmp 2,.tmp 3]) (vs:=[(vi i),(.bool (decide (0<d)))]) (e.trans f) rfl rfl ⟨rfl,rfl,trivial⟩ ?_;exact⟨rfl,rfl⟩
theorem zum:Enters prog 50:=enters_of func50 rfl (by kernel_rfl)
theorem z9r{N:Nat}{R:RH}{x:Sa}{m:Value}(G:VRep (qa false false) R m x){is:Int→Option Bool}{d:Value}(s:FOk1 prog R d (zq .i64) z2i is){r:(List Int)}(h:z3h N x is=some r):CallG prog 48 #[m,d] R [] (fun v R' O'=> ∃ u0_0 g0_0,v=u0_0∧O'=[g0_0]∧ORep (zq .i64) R' g0_0 u0_0 r):=by
 refine yn (args:=[m,d]) func48 rfl rfl fun A=>?_;rw [z3h] at h;refine zm (um (T:=(qa false false)) rfl rfl rfl G fun v1 R3 t h5 h2=>?_);refine zk vs0 (z8 ?_);obtain⟨E,a,h⟩:=zt h
 refine qj (γ:=(List Int)×Value×Frag) (rs [4,20]) (fun g=>[(4,g.2.1)]) (fun g=>[g.2.2]++A) (fun g R=>E=g.1∧ORep (zq .i64) R g.2.2 g.2.1 g.1∧True) ?_ ?_;refine zm (kv rfl z2h uu rfl h2 fun af H=>?_);refine qp rfl zdp rfl H fun ag I=>?_
 refine zy (qx rfl underlying38 rfl (jg I)) (zg (vi 0) (z8 (q9 (z3l ?_))))
 refine j3 (γ:=Nat×(List Int)×Int×Value×Frag) (rs [4,6,9,20]) (fun g=>[(4,g.2.2.2.1),(9,(vi g.2.2.1))]) (fun g=>[g.2.2.2.2]++A) (fun g R=>fe N x is g.1 g.2.1 g.2.2.1=some E∧ORep (zq .i64) R g.2.2.2.2 g.2.2.2.1 g.2.1∧True) (fun g=>g.1) (N,[],0,vs0,emp) prm ⟨a,(z1a (T:=(zq .i64))),trivial⟩ ?_
 clear a;rintro⟨j,f,b,n,u⟩ ah ai k ⟨a,o,_⟩;rcases j with _|j;exact ql a;replace a:fe N x is (j+1) f b=some E:=a;rw [fe] at a;refine zm (zy (j5 rfl rfl) (z8 (zz (zx rfl a (fun a=>?_) (fun a=>?_)))));refine qb ?_;obtain⟨p,c,a⟩:=zt a
 refine qj (γ:=(List Int)×Value×Frag) (rs [4,6,11,19]) (fun g=>[(4,g.2.1)]) (fun g=>[g.2.2]++A) (fun g R=>p=g.1∧ORep (zq .i64) R g.2.2 g.2.1 g.1∧True) ?_ ?_;refine q9 (zm (zg (vi b) (zk (vi b) (qy (zg d (zg (vi b) ?_))))));obtain⟨aj,K,c⟩:=zt c
 refine za1 rfl rfl rfl ((s.mono (t.trans k)) _ (RH.le.refl _) b _ _ (q8.2 rfl) K) fun ak al e L=>?_;obtain rfl:=lh.1 L;refine z8 (zx rfl c (fun c=>?_) (fun c=>?_))
 refine zu (zg n (zg (vi b) (yo (T:=(zq .i64)) (X:=([b]:List Int)) (ps:=[(0,(vi b))]) (css:=[[(vi b)]]) rfl underlying40 zo3 rfl rfl (jb ⟨rfl,trivial⟩) rfl rfl (by decide) fun M am q O=>?_)));refine jv (i:=0) rfl O fun P l Q=>?_
 have S:VRep (tSl true (zq .i64)) P M ([b]:List Int):=(z0q Q q);obtain⟨w,c⟩:=ze c;refine ow (i:=0) (X:=f) (Y:=([b]:List Int)) rfl underlying40 zo3 rfl rfl rfl (o.mono (e.trans l)) (jg (Sub.v (B:=(tSl false (zq .i64))) (uh Sub.refl (fun _=>rfl)) S)) w.1 w.2 fun y U V=>?_;refine zk y (z8 ?_)
 exact⟨dkt,(e.trans l),je,((f++([b]:List Int)),y,U),⟨rfl,trivial⟩,prm,(Option.some.inj c).symm,V,trivial⟩;refine qb ?_;exact⟨dkt,e,je,(f,n,u),⟨rfl,trivial⟩,prm,(Option.some.inj c).symm,(o.mono e),trivial⟩;rintro⟨p,W,Z⟩ an ao z ⟨rfl,aa,_⟩;refine zu ?_;obtain⟨ab,a⟩:=ze a
 refine zy (qo rfl rfl ab) (zg (vi (b+1)) (z8 ?_));exact⟨dkt,z,je,(j,p,b+1,W,Z),Nat.lt_succ_self _,⟨rfl,rfl,trivial⟩,prm,a,aa,trivial⟩;refine jd ?_;exact⟨dkt,k,je,(f,n,u),⟨rfl,trivial⟩,prm,(Option.some.inj a).symm,o,trivial⟩;rintro⟨E,F,C⟩ ap R7 ac ⟨rfl,ad,_⟩
 refine zm (zg F (zk F (z8 (qh ?_))));obtain rfl:=Option.some.inj h;refine w9 (D:=[]) (J:=[]) (O':=[C]) (rs:=[.tmp 4]) (vs:=[F]) (t.trans ac) ((pk 0 rfl (List.Perm.refl _))) rfl ⟨rfl,trivial⟩ ?_;exact⟨F,C,rfl,rfl,ad⟩
theorem z8l{N:Nat}{R:RH}{x:Sa}{I:Value}(s:VRep (qa false false) R I x){rows:(List Int)}{f:Value}(p:VRep (tSl false (zq .i64)) R f rows){r:(List Int)}(l:z2p N x rows=some r):CallG prog 51 #[I,f] R [] (fun v R' O'=> ∃ u0_0 g0_0,v=u0_0∧O'=[g0_0]∧ORep (zq .i64) R' g0_0 u0_0 r∧capOf u0_0=r.length):=by
 refine yn (args:=[I,f]) func51 rfl rfl fun A=>?_;rw [z2p] at l;refine zm (um (T:=(qa false false)) rfl rfl rfl s fun v1 R3 o h5 h2=>?_);refine zk vs0 (qy (zy (ku z4s rfl rfl h5 (s.mono o)) ?_));obtain⟨y6,c7,l⟩:=zt l
 refine jc rfl zo5 rfl (fu (s.mono o) c7) fun v8 aB k h9=>?_;obtain rfl:=h9;obtain⟨w,l⟩:=ze l;refine zf8 (T:=(zq .i64)) (m:=y6.toNat) (c:=y6.toNat) rfl underlying40 zo3 (zi rfl w.1) (zi rfl w.1) (Nat.le_refl _) (zh1 w) (zhk w) fun d ac K ad=>?_;refine zk d (z8 ?_)
 obtain⟨y,b,l⟩:=zt l;refine qj (γ:=(List Int)×Frag) (rs [7,8,9,10,13,35]) (fun g=>[]) (fun g=>[g.2]++A) (fun g R=>y=g.1∧ORep (zq .i64) R g.2 d g.1∧capOf d=g.1.length∧True) ?_ ?_
 refine zm (zg f (zy (qx rfl underlying40 rfl (jg (p.mono (o.trans k)))) (zg (vi 0) (z8 (q9 (j3 (γ:=Nat×Int×(List Int)×Frag) (rs [7,8,9,10,15,35]) (fun g=>[(15,(vi g.2.1))]) (fun g=>[g.2.2.2]++A) (fun g R=>au N x rows g.1 g.2.1 g.2.2.1=some y∧ORep (zq .i64) R g.2.2.2 d g.2.2.1∧capOf d=g.2.2.1.length∧True) (fun g=>g.1) (N,0,(mk y6 (0:Int)),ac) prm ⟨b,ad,(K.trans List.length_replicate.symm),trivial⟩ ?_))))))
 clear b;rintro⟨z,q,L,P⟩ aD aE n ⟨b,Q,E,_⟩;rcases z with _|z;exact ql b;replace b:au N x rows (z+1) q L=some y:=b;rw [au] at b;refine zm (zy (j5 rfl rfl) (z8 (zz (zx rfl b (fun b=>?_) (fun b=>?_)))));refine qb ?_
 obtain⟨t,a,b⟩:=zt b;refine qj (γ:=(List Int)×Frag) (rs [7,8,9,10,17,34]) (fun g=>[]) (fun g=>[g.2]++A) (fun g R=>t=g.1∧ORep (zq .i64) R g.2 d g.1∧capOf d=g.1.length∧True) ?_ ?_;refine q9 (zm ?_);obtain⟨S,a⟩:=ze a
 refine uf (i:=q.toNat) rfl z1d rfl (jg (p.mono ((o.trans k).trans n))) (zi rfl S.1) (zw S) fun aF ae=>?_;refine qp rfl ty3 rfl ae fun aG af=>?_;obtain rfl:=q8.1 af
 refine zk (vi (ix rows q)) (qy (zy (ku z4s rfl rfl (h5.mono (k.trans n)) (s.mono ((o.trans k).trans n))) (zg (vi (ix rows q)) ?_)));obtain⟨h,ag,a⟩:=zt a;refine jc rfl zm2 rfl (ou (s.mono ((o.trans k).trans n)) ag) fun aH aI F U=>?_
 refine zy (qx rfl underlying40 rfl (jg U)) (zg (vi 0) (z8 (q9 (j3 (γ:=Nat×Int×(List Int)×Frag) (rs [9,10,23,34]) (fun g=>[(23,(vi g.2.1))]) (fun g=>[g.2.2.2]++A) (fun g R=>ax N h g.1 g.2.1 g.2.2.1=some t∧ORep (zq .i64) R g.2.2.2 d g.2.2.1∧capOf d=g.2.2.1.length∧True) (fun g=>g.1) (N,0,L,P) prm ⟨a,(Q.mono F),E,trivial⟩ ?_))))
 clear a;rintro⟨B,e,C,ah⟩ aJ aK G ⟨a,u,H,_⟩;rcases B with _|B;exact ql a;replace a:ax N h (B+1) e C=some t:=a;rw [ax] at a;refine zm (zy (j5 rfl rfl) (z8 (zz (zx rfl a (fun a=>?_) (fun a=>?_)))));refine qb (zz (q9 (zm ?_)))
 obtain⟨V,a⟩:=ze a;refine uf (i:=e.toNat) rfl z1d rfl (jg (U.mono G)) (zi rfl V.1) (zw V) fun aL ai=>?_;refine qp rfl ty3 rfl ai fun aM aj=>?_;obtain rfl:=q8.1 aj;refine zk (vi (ix h e)) (z8 (zu (zg d (zg (vi (ix h e)) ?_))));obtain⟨M,a⟩:=ze a
 refine z1g (i:=(ix h e).toNat) rfl z1d rfl u (zi rfl M.1) (zw M) fun aN ak=>?_;refine z8w (i:=(ix h e).toNat) (j:=0) rfl ty3 u rfl rfl ak (zw M) fun aO al=>?_;obtain rfl:=q8.1 al;obtain⟨am,a⟩:=ze a;refine zy (qo rfl rfl am) ?_;obtain⟨O,a⟩:=ze a
 refine z1g (i:=(ix h e).toNat) rfl z1d rfl u (zi rfl O.1) (zw O) fun aP an=>?_;refine z5k (i:=(ix h e).toNat) (j:=0) ty3 u rfl rfl an (zw O) rfl (q8.2 rfl) fun ao ap=>?_;refine z8 (zu ?_);obtain⟨aq,a⟩:=ze a;refine zy (qo rfl rfl aq) (zg (vi (e+1)) (z8 ?_))
 exact⟨dkt,(RH.le.refl _),je,(B,e+1,(up C (ix h e) ((ix C (ix h e))+1)),ao),Nat.lt_succ_self _,⟨rfl,trivial⟩,prm,a,ap,(H.trans List.length_set.symm),trivial⟩;refine jd ?_;exact⟨dkt,(F.trans G),je,(C,ah),trivial,prm,(Option.some.inj a).symm,u,H,trivial⟩;rintro⟨t,ar⟩ aQ aR W ⟨rfl,av,X,_⟩;refine zu ?_
 obtain⟨aw,b⟩:=ze b;refine zy (qo rfl rfl aw) (zg (vi (q+1)) (z8 ?_));exact⟨dkt,W,je,(z,q+1,t,ar),Nat.lt_succ_self _,⟨rfl,trivial⟩,prm,b,av,X,trivial⟩;refine jd ?_;exact⟨dkt,n,je,(L,P),trivial,prm,(Option.some.inj b).symm,Q,E,trivial⟩;rintro⟨y,Y⟩ aS aT Z ⟨rfl,ay,aa,_⟩
 refine zm (zg d (zk d (z8 (qh ?_))));obtain rfl:=Option.some.inj l;refine w9 (D:=[]) (J:=[]) (O':=[Y]) (rs:=[.tmp 4]) (vs:=[d]) ((o.trans k).trans Z) ((pk 0 rfl (List.Perm.refl _))) rfl ⟨rfl,trivial⟩ ?_;exact⟨d,Y,rfl,rfl,ay,aa⟩
end GV
end Go.Proofs.YtkhihcleegljhaaGreat
