import Derived.Test.YtkhihcleegljhaaGreatShWc
import Derived.Test.YtkhihcleegljhaaGreatRows
set_option linter.unusedVariables false
set_option linter.unusedSimpArgs false
namespace Go.Proofs.YtkhihcleegljhaaGreat
namespace GV
open _root_.Go.Proofs.Tryz
open Go.IntWalk
set_option maxRecDepth 100000
set_option maxHeartbeats 20000000
theorem zr4:Enters prog 119:=enters_of func119 rfl (by kernel_rfl)
theorem zpb:Enters prog 92:=enters_of func92 rfl (by kernel_rfl)
theorem z4j{N:Nat}(F:Nat): ∀ {R:RH} {data:List Int} {c:Value} {fD:Frag} (G:ORep (zx .u64) R fD c data) {a:Int} {b:Int} {limit:Int} {r:List Int} (d:uq N F data a b limit=some r),CallG prog 92 #[c,(vi a),(vi b),(vi limit)] R [fD] (fun v R' O'=> ∃ H,v= .tuple #[]∧O'=[H]∧ORep (zx .u64) R' H c r):=by
  induction F with
  |zero=>intros;rename_i d;exact qm d
  |succ F ih=>
    intro R data c fD G a b limit r d
    refine p8 (args:=[c,(vi a),(vi b),(vi limit)]) func92 rfl rfl fun A=>?_
    rw [uq] at d
    refine zy ?_
    refine zu ?_
    refine zh (.bool true) ?_
    refine z8 ?_
    refine zy ?_
    refine zu ?_
    refine zh (.bool true) ?_
    refine z8 ?_
    refine qa ?_
    refine qy (γ:=Nat×Int×Int×Int×Bool×Bool×(List Int)×Frag) (rs [1,4,8,134]) (fun g=>[(1,(vi g.2.1)),(2,(vi g.2.2.1)),(3,(vi g.2.2.2.1)),(8,(.bool g.2.2.2.2.1)),(9,(.bool g.2.2.2.2.2.1))]) (fun g=>[g.2.2.2.2.2.2.2]++A) (fun g R=>um N (uq N F) g.1 g.2.1 g.2.2.1 g.2.2.2.1 g.2.2.2.2.1 g.2.2.2.2.2.1 g.2.2.2.2.2.2.1=some r∧ORep (zx .u64) R g.2.2.2.2.2.2.2 c g.2.2.2.2.2.2.1∧True) (fun g=>g.1) (N,a,b,limit,true,true,data,fD) prm ⟨d,G,trivial⟩ ?_
    clear d
    rintro⟨F1,f,m,x4,x5,x6,x7,U⟩ b0 R8 ab ⟨d,V,_⟩
    rcases F1 with _|F1
    · exact qm d
    replace d:um N (uq N F) (F1+1) f m x4 x5 x6 x7=some r:=d;rw [um] at d
    refine qa ?_
    refine zy ?_
    refine zu ?_
    refine zb (vi m) ?_
    refine zb (vi f) ?_
    obtain⟨bj,d⟩:=ze d
    refine q8 (uh rfl rfl bj) ?_
    refine zh (vi (m-f)) ?_
    refine z8 ?_
    refine zy ?_
    refine zy ?_
    refine zu ?_
    refine zb (vi (m-f)) ?_
    refine q8 (z4n rfl rfl) ?_
    refine z8 ?_
    refine zz rfl d (fun d=>?_) (fun d=>?_)
    · refine zy ?_
      refine zu ?_
      refine zb c ?_
      refine zb (vi f) ?_
      refine zb (vi m) ?_
      obtain⟨cM,bk,d⟩:=zq d
      refine mh (Oc:=[U]) (Or:=[]++A) (cs:=[]) (vs:=[c,(vi f),(vi m)]) rfl zqm rfl rfl ((pk 0 rfl (List.Perm.refl _))) (z3t V bk) fun cN cO b1 aj bl=>?_
      obtain⟨ak,rfl,rfl,bm⟩:=bl
      refine z8 ?_
      refine qh ?_
      obtain rfl:=Option.some.inj d
      refine vk (D:=[]) (J:=[]) (O':=[ak]) (rs:=[]) (vs:=[]) (ab.trans aj) ((pk 0 rfl (List.Perm.refl _))) rfl trivial ?_
      exact⟨ak,rfl,rfl,bm⟩
    · refine qb ?_
      refine zy ?_
      refine zy ?_
      refine zu ?_
      refine zb (vi x4) ?_
      refine q8 (ry rfl rfl) ?_
      refine z8 ?_
      refine zz rfl d (fun d=>?_) (fun d=>?_)
      · refine zy ?_
        refine zu ?_
        refine zb c ?_
        refine zb (vi f) ?_
        refine zb (vi m) ?_
        obtain⟨cP,bn,d⟩:=zq d
        refine mh (Oc:=[U]) (Or:=[]++A) (cs:=[]) (vs:=[c,(vi f),(vi m)]) rfl zqk rfl rfl ((pk 0 rfl (List.Perm.refl _))) (z5g V bn) fun cQ cR b2 al bo=>?_
        obtain⟨am,rfl,rfl,bp⟩:=bo
        refine z8 ?_
        refine qh ?_
        obtain rfl:=Option.some.inj d
        refine vk (D:=[]) (J:=[]) (O':=[am]) (rs:=[]) (vs:=[]) (ab.trans al) ((pk 0 rfl (List.Perm.refl _))) rfl trivial ?_
        exact⟨am,rfl,rfl,bp⟩
      · refine qb ?_
        obtain⟨t,k,d⟩:=zq d
        refine qi (γ:=(Int×List Int)×Frag) (rs [3,4,34,42]) (fun g=>[(3,(vi g.1.1))]) (fun g=>[g.2]++A) (fun g R=>t=g.1∧ORep (zx .u64) R g.2 c g.1.2∧True) ?_ ?_
        · refine zy ?_
          refine zu ?_
          refine zb (.bool x5) ?_
          refine q8 (nz rfl) ?_
          refine z8 ?_
          refine zz rfl k (fun k=>?_) (fun k=>?_)
          · refine zy ?_
            refine zu ?_
            refine zb c ?_
            refine zb (vi f) ?_
            refine zb (vi m) ?_
            obtain⟨br,bs,k⟩:=zq k
            refine mh (Oc:=[U]) (Or:=[]++A) (cs:=[]) (vs:=[c,(vi f),(vi m)]) rfl zpp rfl rfl ((pk 0 rfl (List.Perm.refl _))) (z3v V bs) fun cS cT b3 an bt=>?_
            obtain⟨bu,rfl,rfl,bv⟩:=bt
            refine z8 ?_
            refine zu ?_
            refine zb (vi x4) ?_
            obtain⟨bw,k⟩:=ze k
            refine q8 (uh rfl rfl bw) ?_
            refine zh (vi (x4-1)) ?_
            refine z8 ?_
            exact⟨dkt,an,jc,((x4-1,br),bu),⟨rfl,trivial⟩,prm,(Option.some.inj k).symm,bv,trivial⟩
          · refine qb ?_
            exact⟨dkt,(RH.le.refl _),jc,((x4,x7),U),⟨rfl,trivial⟩,prm,(Option.some.inj k).symm,V,trivial⟩
        · rintro⟨t,ao⟩ cU cV I ⟨rfl,ac,_⟩
          refine zy ?_
          refine zu ?_
          refine zb c ?_
          refine zb (vi f) ?_
          refine zb (vi m) ?_
          obtain⟨s,bx,d⟩:=zq d
          refine z6s (cs:=[]) (vs:=[c,(vi f),(vi m)]) (φ:=fun v=>v= .tuple #[(vi s.1),(vi s.2)]) rfl zrc rfl rfl (fun bz ap aq=>z4g (z7r ((zaj 0 rfl ac ap aq):VRep (o5 (zx .u64)) bz c t.2)) bx) fun cW bA=>?_
          obtain rfl:=bA
          refine zb (.tuple #[(vi s.1),(vi s.2)]) ?_
          refine q8 (qz rfl rfl) ?_
          refine q8 (qz rfl rfl) ?_
          refine zh (vi s.1) ?_
          refine zh (vi s.2) ?_
          refine z8 ?_
          obtain⟨n,k,d⟩:=zq d
          refine qi (γ:=(Int×Int×List Int)×Frag) (rs [11,13,49,61]) (fun g=>[(11,(vi g.1.1)),(12,(vi g.1.2.1))]) (fun g=>[g.2]++A) (fun g R=>n=g.1∧ORep (zx .u64) R g.2 c g.1.2.2∧True) ?_ ?_
          · refine zy ?_
            refine zu ?_
            refine zb (vi s.2) ?_
            refine q8 (ry rfl rfl) ?_
            refine z8 ?_
            refine zz rfl k (fun k=>?_) (fun k=>?_)
            · refine zy ?_
              refine zu ?_
              refine zb c ?_
              refine zb (vi f) ?_
              refine zb (vi m) ?_
              obtain⟨bB,bC,k⟩:=zq k
              refine mh (Oc:=[ao]) (Or:=[]++A) (cs:=[]) (vs:=[c,(vi f),(vi m)]) rfl zr2 rfl rfl ((pk 0 rfl (List.Perm.refl _))) (z4e ac bC) fun cX cY b4 ar bD=>?_
              obtain⟨bE,rfl,rfl,bF⟩:=bD
              refine z8 ?_
              refine zy ?_
              refine zu ?_
              refine zb (vi m) ?_
              obtain⟨bG,k⟩:=ze k
              refine q8 (uh rfl rfl bG) ?_
              refine zb (vi s.1) ?_
              refine zb (vi f) ?_
              obtain⟨bH,k⟩:=ze k
              refine q8 (uh rfl rfl bH) ?_
              obtain⟨bI,k⟩:=ze k
              refine q8 (uh rfl rfl bI) ?_
              refine zh (vi ((m-1)-(s.1-f))) ?_
              refine z8 ?_
              refine zu ?_
              refine zh (vi 1) ?_
              refine z8 ?_
              exact⟨dkt,ar,jc,(((m-1)-(s.1-f),1,bB),bE),⟨rfl,rfl,trivial⟩,prm,(Option.some.inj k).symm,bF,trivial⟩
            · refine qb ?_
              exact⟨dkt,(RH.le.refl _),jc,((s.1,s.2,t.2),ao),⟨rfl,rfl,trivial⟩,prm,(Option.some.inj k).symm,ac,trivial⟩
          · rintro⟨n,au⟩ cZ c0 K ⟨rfl,av,_⟩
            obtain⟨bJ,k,d⟩:=zq d
            refine qi (γ:=(List Int)×Frag) (rs [61,73]) (fun g=>[]) (fun g=>[g.2]++A) (fun g R=>bJ=Ex.go g.1∧ORep (zx .u64) R g.2 c g.1∧True) ?_ ?_
            · refine zy ?_
              refine zu ?_
              refine jy (v:=(.bool x5)) rfl (za rfl) ?_
              refine jy (v:=(.bool x5)) rfl (za rfl) ?_
              refine jd rfl rfl rfl rfl (fun p=>qp (v:=(.bool x6)) (za rfl)) fun c1 bK=>?_
              refine jy rfl (ou rfl (fun hb=>(bK.1 (zo rfl hb))) rfl) ?_
              refine jy (v:=(.bool (x5&&x6))) rfl (za rfl) ?_
              refine jd rfl rfl rfl rfl (fun p=>qp (v:=(vi n.2.1)) (za rfl)) fun c2 bL=>?_
              refine jd rfl rfl rfl rfl (fun p=>qp (ry (bL.1 (zo rfl p)) rfl)) fun c3 bM=>?_
              refine jy rfl (ou rfl (fun hb=>(bM.1 (zo rfl hb))) rfl) ?_
              refine z8 ?_
              refine zz rfl k (fun k=>?_) (fun k=>?_)
              · refine zy ?_
                refine zu ?_
                refine zb c ?_
                refine zb (vi f) ?_
                refine zb (vi m) ?_
                obtain⟨ax,ay,k⟩:=zq k
                refine mh (Oc:=[au]) (Or:=[]++A) (cs:=[]) (vs:=[c,(vi f),(vi m)]) rfl zq0 rfl rfl ((pk 0 rfl (List.Perm.refl _))) (z2f av ay) fun b5 b6 bN M az=>?_
                obtain⟨O,rfl,rfl,W⟩:=az
                refine z8 ?_
                refine zz rfl k (fun k=>?_) (fun k=>?_)
                · refine qh ?_
                  replace d:=z0f k d
                  obtain rfl:=Option.some.inj d
                  refine vk (D:=[]) (J:=[]) (O':=[O]) (rs:=[]) (vs:=[]) (((ab.trans I).trans K).trans M) ((pk 0 rfl (List.Perm.refl _))) rfl trivial ?_
                  exact⟨O,rfl,rfl,W⟩
                · refine qb ?_
                  exact⟨dkt,M,jc,(ax.2,O),trivial,prm,(Option.some.inj k).symm,W,trivial⟩
              · refine qb ?_
                exact⟨dkt,(RH.le.refl _),jc,(n.2.2,au),trivial,prm,(Option.some.inj k).symm,av,trivial⟩
            · rintro⟨x,aA⟩ b7 c4 P ⟨rfl,L,_⟩
              replace d:=z13 d
              refine zy ?_
              refine zy ?_
              obtain⟨aB,Q,S,d⟩:=zm8 d
              obtain⟨B,aC,d⟩:=zq d
              refine tu 15 [] [phX (vi f),phX (.bool (decide (0<f))),phX (.bool (decide (0<f))),phG (true&&((decide (0<f))==true)) (phX c),phG (true&&((decide (0<f))==true)) (phX (vi f)),phG (true&&((decide (0<f))==true)) (phX (vi (f-1))),phG (true&&((decide (0<f))==true)) ((fun u _=>xc (zx .u64) c x u (f-1).toNat)),phG (true&&((decide (0<f))==true)) (phX (.int .u64 (ix x (f-1)))),phG (true&&((decide (0<f))==true)) (phX c),phG (true&&((decide (0<f))==true)) (phX (vi n.1)),phG (true&&((decide (0<f))==true)) ((fun u _=>xc (zx .u64) c x u n.1.toNat)),phG (true&&((decide (0<f))==true)) (phX (.int .u64 (ix x n.1))),phG (true&&((decide (0<f))==true)) (phX (.bool (B.getD default))),phG (true&&((decide (0<f))==true)) (phX (.bool (!(B.getD default)))),phX (.bool ((decide (0<f))&&(!(B.getD default))))] mixed (by kernel_rfl) (bi ⟨zf,zf,zf,(qg zf),(qg zf),(qg zf),(qg (fun _ _ _ _ h=>h)),(qg zf),(qg zf),(qg zf),(qg (fun _ _ _ _ h=>h)),(qg zf),(qg zf),(qg zf),zf,trivial⟩) ⟨?_,?_,?_,?_,?_,?_,?_,?_,?_,?_,?_,?_,?_,?_,?_,trivial⟩ fun b8 w=>?_
              · intro l c5 o y hd
                have a1:l 1=(vi f):=y 1 rfl
                exact zg rfl rfl rfl (zk (za a1))
              · rintro l c6 o y ⟨q,_⟩
                have bP:=q rfl
                exact zg rfl rfl rfl (zk (rf bP rfl))
              · rintro l c7 o y ⟨q,_⟩
                have bQ:=q rfl
                exact zg rfl rfl rfl (zk (za bQ))
              · rintro l c8 o y ⟨q,_⟩
                have a0:l 0=c:=y 0 rfl
                exact zt (Gj:=true) (Bj:=decide (0<f)) rfl rfl rfl (je (q rfl)) rfl (fun z p=>zk (za a0))
              · rintro l c9 o y ⟨q,_⟩
                have a1:l 1=(vi f):=y 1 rfl
                exact zt (Gj:=true) (Bj:=decide (0<f)) rfl rfl rfl (je (q rfl)) rfl (fun z p=>zk (za a1))
              · rintro l da o y ⟨q,E,_⟩
                have aD:=q rfl
                exact zt (Gj:=true) (Bj:=decide (0<f)) rfl rfl rfl (je (E rfl)) rfl (fun z p=>zk (uh (show l 77=(vi f) from aD.1 (zo rfl p)) rfl (aB (zo z p))))
              · rintro l db o y ⟨q,E,d2,_⟩
                have aF:=q rfl
                have aG:=E rfl
                exact zt (Gj:=true) (Bj:=decide (0<f)) rfl rfl rfl (je (d2 rfl)) rfl (fun z p=>qj (i:=(f-1).toNat) pg (show l 76=c from aF.1 (zo rfl p)) (L.mono o) (zi (show l 78=(vi (f-1)) from aG.1 (zo rfl p)) (Q (zo z p)).1) (q9 (Q (zo z p))))
              · rintro l dc o y ⟨q,E,_⟩
                have aH:=q rfl
                exact zt (Gj:=true) (Bj:=decide (0<f)) rfl rfl rfl (je (E rfl)) rfl (fun z p=>j5 (jk (i:=(f-1).toNat) (j:=0) bq (L.mono o) rfl rfl (aH.1 (zo rfl p)) (q9 (Q (zo z p)))) (fun _ _ h=>qc.1 h))
              · rintro l dd o y ⟨q,_⟩
                have a0:l 0=c:=y 0 rfl
                exact zt (Gj:=true) (Bj:=decide (0<f)) rfl rfl rfl (je (q rfl)) rfl (fun z p=>zk (za a0))
              · rintro l de o y ⟨q,_⟩
                have bS:l 11=(vi n.1):=y 11 rfl
                exact zt (Gj:=true) (Bj:=decide (0<f)) rfl rfl rfl (je (q rfl)) rfl (fun z p=>zk (za bS))
              · rintro l b9 o y ⟨q,E,d2,_⟩
                have aI:=q rfl
                have aJ:=E rfl
                exact zt (Gj:=true) (Bj:=decide (0<f)) rfl rfl rfl (je (d2 rfl)) rfl (fun z p=>qj (i:=n.1.toNat) pg (show l 81=c from aI.1 (zo rfl p)) (L.mono o) (zi (show l 82=(vi n.1) from aJ.1 (zo rfl p)) (S (zo z p)).1) (q9 (S (zo z p))))
              · rintro l ca o y ⟨q,E,_⟩
                have aK:=q rfl
                exact zt (Gj:=true) (Bj:=decide (0<f)) rfl rfl rfl (je (E rfl)) rfl (fun z p=>j5 (jk (i:=n.1.toNat) (j:=0) bq (L.mono o) rfl rfl (aK.1 (zo rfl p)) (q9 (S (zo z p)))) (fun _ _ h=>qc.1 h))
              · rintro l X o y ⟨q,E,d2,d3,_⟩
                have aL:phG (true&&((decide (0<f))==true)) (phX (.int .u64 (ix x (f-1)))) (l 80) X:=q rfl
                have aM:phG (true&&((decide (0<f))==true)) (phX (.int .u64 (ix x n.1))) (l 84) X:=E rfl
                exact zt (Gj:=true) (Bj:=decide (0<f)) rfl rfl rfl (je (d2 rfl)) rfl (fun z p=>ui (vs:=[(.int .u64 (ix x (f-1))),(.int .u64 (ix x n.1))]) z6v (by simp only [List.map,ev,(show l 80=(.int .u64 (ix x (f-1))) from aL.1 (zo rfl p)),(show l 84=(.int .u64 (ix x n.1)) from aM.1 (zo rfl p))]<;>rfl) ((by have bT:=(aa aC (zo z p));exact pz  bT)) (fun _ _ h=>h))
              · rintro l cb o y ⟨q,E,_⟩
                have aN:=q rfl
                exact zt (Gj:=true) (Bj:=decide (0<f)) rfl rfl rfl (je (E rfl)) rfl (fun z p=>zk (nz (show l 85=(.bool (B.getD default)) from aN.1 (zo rfl p))))
              · rintro l cc o y ⟨q,E,_⟩
                have bU:=q rfl
                have aO:=E rfl
                exact zg rfl rfl rfl (zk (ou bU (fun hb=>(show l 86=(.bool (!(B.getD default))) from aO.1 (zo rfl hb))) rfl))
              intro cd aP
              intro ce aQ
              intro cf aR
              intro cg ch
              intro ci cj
              intro ck cl
              intro cm cn
              intro co cp
              intro cq cr
              intro ct cu
              intro cv cw
              intro cx cy
              intro cz cA
              intro cB cC
              intro cD aS
              obtain rfl:=Eq.symm aP
              obtain rfl:=Eq.symm aQ
              obtain rfl:=Eq.symm aR
              obtain rfl:=Eq.symm aS
              refine z8 ?_
              refine zz rfl d (fun d=>?_) (fun d=>?_)
              · refine zy ?_
                refine zu ?_
                refine zb c ?_
                refine zb (vi f) ?_
                refine zb (vi m) ?_
                refine zb (vi n.1) ?_
                obtain⟨C,aT,d⟩:=zq d
                refine mh (Oc:=[aA]) (Or:=[]++A) (cs:=[]) (vs:=[c,(vi f),(vi m),(vi n.1)]) rfl zr8 rfl rfl ((pk 0 rfl (List.Perm.refl _))) (z3p (L.mono w) aT) fun cE cF bV ad aU=>?_
                obtain⟨aV,rfl,rfl,aW⟩:=aU
                refine zh (vi C.1) ?_
                refine z8 ?_
                refine zy ?_
                refine zu ?_
                refine zb (vi C.1) ?_
                refine zh (vi C.1) ?_
                refine z8 ?_
                refine jb ?_
                exact⟨dkt,((((I.trans K).trans P).trans w).trans ad),jc,(F1,C.1,m,t.1,x5,x6,C.2,aV),Nat.lt_succ_self _,⟨rfl,rfl,rfl,rfl,rfl,trivial⟩,prm,d,aW,trivial⟩
              · refine qb ?_
                refine zy ?_
                refine zu ?_
                refine zb c ?_
                refine zb (vi f) ?_
                refine zb (vi m) ?_
                refine zb (vi n.1) ?_
                obtain⟨e,aX,d⟩:=zq d
                refine mh (Oc:=[aA]) (Or:=[]++A) (cs:=[]) (vs:=[c,(vi f),(vi m),(vi n.1)]) rfl zr4 rfl rfl ((pk 0 rfl (List.Perm.refl _))) (z4r (L.mono w) aX) fun cG cH bW T aY=>?_
                obtain⟨Y,rfl,rfl,Z⟩:=aY
                refine zb (.tuple #[(vi e.1),(.bool e.2.1)]) ?_
                refine q8 (qz rfl rfl) ?_
                refine q8 (qz rfl rfl) ?_
                refine zh (vi e.1) ?_
                refine zh (.bool e.2.1) ?_
                refine z8 ?_
                refine zy ?_
                refine zu ?_
                refine zb (.bool e.2.1) ?_
                refine zh (.bool e.2.1) ?_
                refine z8 ?_
                refine zy ?_
                refine zu ?_
                refine zb (vi e.1) ?_
                refine zb (vi f) ?_
                obtain⟨aZ,d⟩:=ze d
                refine q8 (uh rfl rfl aZ) ?_
                refine zb (vi m) ?_
                refine zb (vi e.1) ?_
                obtain⟨a2,d⟩:=ze d
                refine q8 (uh rfl rfl a2) ?_
                refine zh (vi (e.1-f)) ?_
                refine zh (vi (m-e.1)) ?_
                refine z8 ?_
                refine zy ?_
                refine zu ?_
                refine zb (vi (m-f)) ?_
                obtain⟨a3,d⟩:=ze d
                refine q8 (z6b rfl rfl a3) ?_
                refine zh (vi ((m-f)/8)) ?_
                refine z8 ?_
                refine zy ?_
                refine zu ?_
                refine zb (vi (e.1-f)) ?_
                refine zb (vi (m-e.1)) ?_
                refine q8 (ja rfl rfl) ?_
                refine z8 ?_
                refine zz rfl d (fun d=>?_) (fun d=>?_)
                · refine zy ?_
                  refine zu ?_
                  refine zb (vi (e.1-f)) ?_
                  refine zb (vi ((m-f)/8)) ?_
                  refine q8 (r9 rfl rfl) ?_
                  refine zh (.bool (decide (((m-f)/8)≤(e.1-f)))) ?_
                  refine z8 ?_
                  refine zy ?_
                  refine zu ?_
                  refine zb c ?_
                  refine zb (vi f) ?_
                  refine zb (vi e.1) ?_
                  refine zb (vi t.1) ?_
                  obtain⟨a4,a5,d⟩:=zq d
                  refine mh (Oc:=[Y]) (Or:=[]++A) (cs:=[]) (vs:=[c,(vi f),(vi e.1),(vi t.1)]) rfl zpb rfl rfl ((pk 0 rfl (List.Perm.refl _))) (ih Z a5) fun cI cJ bX ae a6=>?_
                  obtain⟨a7,rfl,rfl,a8⟩:=a6
                  refine z8 ?_
                  refine zu ?_
                  refine zb (vi e.1) ?_
                  obtain⟨a9,d⟩:=ze d
                  refine q8 (qo rfl rfl a9) ?_
                  refine zh (vi (e.1+1)) ?_
                  refine z8 ?_
                  exact⟨dkt,(((((I.trans K).trans P).trans w).trans T).trans ae),jc,(F1,e.1+1,m,t.1,decide (((m-f)/8)≤(e.1-f)),e.2.1,a4,a7),Nat.lt_succ_self _,⟨rfl,rfl,rfl,rfl,rfl,trivial⟩,prm,d,a8,trivial⟩
                · refine zy ?_
                  refine zu ?_
                  refine zb (vi (m-e.1)) ?_
                  refine zb (vi ((m-f)/8)) ?_
                  refine q8 (r9 rfl rfl) ?_
                  refine zh (.bool (decide (((m-f)/8)≤(m-e.1)))) ?_
                  refine z8 ?_
                  refine zy ?_
                  refine zu ?_
                  refine zb c ?_
                  refine zb (vi e.1) ?_
                  obtain⟨ba,d⟩:=ze d
                  refine q8 (qo rfl rfl ba) ?_
                  refine zb (vi m) ?_
                  refine zb (vi t.1) ?_
                  obtain⟨bb,bc,d⟩:=zq d
                  refine mh (Oc:=[Y]) (Or:=[]++A) (cs:=[]) (vs:=[c,(vi (e.1+1)),(vi m),(vi t.1)]) rfl zpb rfl rfl ((pk 0 rfl (List.Perm.refl _))) (ih Z bc) fun cK cL bY af be=>?_
                  obtain⟨bf,rfl,rfl,bg⟩:=be
                  refine z8 ?_
                  refine zu ?_
                  refine zb (vi e.1) ?_
                  refine zh (vi e.1) ?_
                  refine z8 ?_
                  exact⟨dkt,(((((I.trans K).trans P).trans w).trans T).trans af),jc,(F1,f,e.1,t.1,decide (((m-f)/8)≤(m-e.1)),e.2.1,bb,bf),Nat.lt_succ_self _,⟨rfl,rfl,rfl,rfl,rfl,trivial⟩,prm,d,bg,trivial⟩
theorem z5n{N:Nat}{R:RH}{data:List Int}{c:Value}{fD:Frag}(e:ORep (zx .u64) R fD c data){a:Int}{b:Int}{limit:Int}{r:List Int}(f:uq N N data a b limit=some r):CallG prog 92 #[c,(vi a),(vi b),(vi limit)] R [fD] (fun v R' O'=> ∃ d,v= .tuple #[]∧O'=[d]∧ORep (zx .u64) R' d c r):=z4j N e f
theorem zaq{N:Nat}{R:RH}{x:List Int}{a:Value}{fJ:Frag}(c:ORep (zx .u64) R fJ a x){r:List Int}(b:z1n N x=some r):CallG prog 75 #[a] R [fJ] (fun v R' O'=> ∃ d,v= .tuple #[]∧O'=[d]∧ORep (zx .u64) R' d a r):=by
 refine p8 (args:=[a]) func75 rfl rfl fun A=>?_;rw [z1n] at b;refine zn (zb a (q8 (z2e rfl underlying94 rfl c) (zh (vi (↑x.length:Int)) (z8 (zu (zb a (zb (vi (↑x.length:Int)) (zb (vi (↑x.length:Int)) (q8 (z6f underlying3 underlying93 rfl) ?_)))))))))
 obtain⟨k,l,b⟩:=zq b;refine j3 rfl zpq rfl (z8z  l) fun p q e m=>?_;obtain rfl:=m;obtain⟨s,n,b⟩:=zq b
 refine mh (Oc:=[fJ]) (Or:=[]++A) (cs:=[]) (vs:=[a,(vi 0),(vi (↑x.length:Int)),(vi k)]) rfl zpb rfl rfl ((pk 0 rfl (List.Perm.refl _))) (z5n (c.mono e) n) fun t o j f h=>?_;obtain⟨g,rfl,rfl,i⟩:=h;refine z8 ?_;show z90 _ _ _ _ _ .ret _ [] _ _;obtain rfl:=Option.some.inj b
 refine vk (D:=[]) (J:=[]) (O':=[g]) (rs:=[]) (vs:=[]) (e.trans f) ((pk 0 rfl (List.Perm.refl _))) rfl trivial ?_;exact⟨g,rfl,rfl,i⟩
theorem zs8:Enters prog 75:=enters_of func75 rfl (by kernel_rfl)
theorem z98{N:Nat}{R:RH}{s:List Int}{b:Value}{fF:Frag}(y:ORep (zx .u64) R fF b s){r:(List Int)}(o:z0x N s=some r):CallG prog 76 #[b] R [fF] (fun v R' O'=> ∃ u0,v=u0∧O'=[]∧VRep (tSl false (zx .u64)) R' u0 r):=by
 refine p8 (args:=[b]) func76 rfl rfl fun A=>?_;rw [z0x] at o;refine zn (zh vs0 (z8 (zy (zn (zb b (q8 (z2e rfl underlying94 rfl y) (q8 (ja rfl rfl) (z8 (zz rfl o (fun o=>?_) (fun o=>?_))))))))))
 refine zn (zb b (zh b (z8 (z06 (i:=0) rfl y fun R2 aB h4=>?_))));have h5:VRep (tSl false (zx .u64)) R2 b s:=(z7r h4);refine qh ?_;obtain rfl:=Option.some.inj o;refine vk (D:=[]) (J:=[]) (O':=[]) (rs:=[.tmp 2]) (vs:=[b]) aB ((List.Perm.refl _)) rfl ⟨rfl,trivial⟩ ?_;exact⟨b,rfl,rfl,h5⟩;refine qb ?_
 obtain⟨q7,c,o⟩:=zq o;refine qi (γ:=Unit) (rs [2,6,10,60]) (fun g=>[]) (fun g=>[fF]++A) (fun g R=>q7=Ex.go g∧True) ?_ ?_
 refine zn (zh (vi 1) (z8 (qa (qy (γ:=Nat×Int) (rs [2,6,10,60]) (fun g=>[(3,(vi g.2))]) (fun g=>[fF]++A) (fun g R=>bv N s g.1 g.2=some q7∧True) (fun g=>g.1) (N,1) prm ⟨c,trivial⟩ ?_))));clear c;rintro⟨Q,a⟩ aZ bg m ⟨c,_⟩;rcases Q with _|Q;exact qm c
 replace c:bv N s (Q+1) a=some q7:=c;rw [bv] at c;refine zy (zn (zb (vi a) (zb b (q8 (z2e rfl underlying94 rfl (y.mono m)) (q8 (ja rfl rfl) (z8 (zz rfl c (fun c=>?_) (fun c=>?_))))))))
 refine qb (zy (qa (zy (z6t 10 mixed (by kernel_rfl) (by kernel_rfl) ?_))));refine z02 (v:=b) (za rfl) ?_;refine z02 (v:=(vi a)) (za rfl) ?_;obtain⟨X,c⟩:=ze c;refine zef (z7v (i:=a.toNat) pg rfl (y.mono m) (zi rfl X.1) (q9 X)) fun bh aD=>?_
 refine z02 (z1z (z9w (i:=a.toNat) (j:=0) bq (y.mono m) rfl rfl aD (q9 X))) ?_;refine z02 (v:=b) (za rfl) ?_;refine z02 (v:=(vi a)) (za rfl) ?_;obtain⟨aE,c⟩:=ze c;refine z02 (uh rfl rfl aE) ?_;obtain⟨Y,c⟩:=ze c
 refine zef (z7v (i:=(a-1).toNat) pg rfl (y.mono m) (zi rfl Y.1) (q9 Y)) fun bj aF=>?_;refine z02 (z1z (z9w (i:=(a-1).toNat) (j:=0) bq (y.mono m) rfl rfl aF (q9 Y))) ?_;refine z02 (ry rfl rfl) ?_;intro bk C;refine z8 (zz rfl c (fun c=>?_) (fun c=>?_))
 refine zn (zb b (zb (vi a) ?_));obtain⟨Z,c⟩:=ze c;refine z3y rfl (zk (z9i (lo:=a.toNat) (hi:=s.length) pg rfl (y.mono (m.trans C)) (.inr ⟨_,congrArg some (zi rfl Z.1)⟩) (.inl ⟨rfl,rfl,rfl⟩) (z7n Z) (z4q Z))) fun bl bm V aG=>?_;obtain rfl:=Eq.symm aG;refine zh (z7y 1 b a.toNat s.length) (z8 ?_)
 obtain⟨f,k,c⟩:=zq c;refine qi (γ:=(Int×List Int)×Frag) (rs [3,4,5,6,29,54]) (fun g=>[(3,(vi g.1.1))]) (fun g=>[g.2]++A) (fun g R=>f=g.1∧ORep (zx .u64) R g.2 b g.1.2∧True) ?_ ?_
 refine zn (zh (vi 1) (z8 (qa (qy (γ:=Nat×Int×Int×(List Int)×Frag) (rs [3,4,5,6,29,54]) (fun g=>[(3,(vi g.2.1)),(5,(vi g.2.2.1))]) (fun g=>[g.2.2.2.2]++A) (fun g R=>mg N s a g.1 g.2.1 g.2.2.1 g.2.2.2.1=some f∧ORep (zx .u64) R g.2.2.2.2 b g.2.2.2.1∧True) (fun g=>g.1) (N,a,1,s,fF) prm ⟨k,(y.mono ((m.trans C).trans V)),trivial⟩ ?_))))
 clear k;rintro⟨S,z,d,t,ac⟩ a0 bn ad ⟨k,w,_⟩;rcases S with _|S;exact qm k;replace k:mg N s a (S+1) z d t=some f:=k;rw [mg] at k
 refine zy (zn (zb (vi d) (zb (z7y 1 b a.toNat s.length) (z3y rfl (zk (zf4 rfl underlying94 rfl w)) fun bo bp e aH=>?_))));obtain rfl:=Eq.symm aH;refine q8 (ja rfl rfl) (z8 (zz rfl k (fun k=>?_) (fun k=>?_)));refine qb ?_;obtain⟨U,p,k⟩:=zq k
 refine qi (γ:=(Int×List Int)×Frag) (rs [3,4,35,54]) (fun g=>[(3,(vi g.1.1))]) (fun g=>[g.2]++A) (fun g R=>U=g.1∧ORep (zx .u64) R g.2 b g.1.2∧True) ?_ ?_;refine qa (zy ?_);obtain⟨I,aI,K,p⟩:=zm8 p
 refine tu 10 [] [phX (z7y 1 b a.toNat s.length),phX (vi d),(fun u _=>xc (zx .u64) b t u (a+d).toNat),phX (.int .u64 (ix t (a+d))),phX (z7y 1 b a.toNat s.length),phX (vi d),phX (vi (d-1)),(fun u _=>xc (zx .u64) b t u (a+(d-1)).toNat),phX (.int .u64 (ix t (a+(d-1)))),phX (.bool (decide ((ix t (a+d))≠(ix t (a+(d-1))))))] mixed (by kernel_rfl) (bi ⟨zf,zf,(fun _ _ _ _ h=>h),zf,zf,zf,zf,(fun _ _ _ _ h=>h),zf,zf,trivial⟩) ⟨?_,?_,?_,?_,?_,?_,?_,?_,?_,?_,trivial⟩ fun br x=>?_
 intro l bs q H hd;exact zg rfl rfl rfl (zk (za (H 4 rfl)));intro l bt q H hd;exact zg rfl rfl rfl (zk (za (H 5 rfl)));rintro l bu q H ⟨L,d1,_⟩
 exact zg rfl rfl rfl (z4w (T:=(zx .u64)) (lo:=a.toNat) (hi:=s.length) (n:=(a+d).toNat) pg (L rfl) ((w.mono e).mono q) (zi (d1 rfl) I.2.1) (zes I) (zfb I) (zca I));rintro l bw q H ⟨L,_⟩
 exact zg rfl rfl rfl (j5 (jk (i:=(a+d).toNat) (j:=0) bq ((w.mono e).mono q) rfl rfl (L rfl) (q9 (zf3 I))) (fun _ _ h=>qc.1 h));intro l bx q H hd;exact zg rfl rfl rfl (zk (za (H 4 rfl)));intro l bz q H hd;exact zg rfl rfl rfl (zk (za (H 5 rfl)));rintro l bA q H ⟨L,_⟩
 exact zg rfl rfl rfl (zk (uh (L rfl) rfl aI));rintro l bB q H ⟨L,d1,_⟩;exact zg rfl rfl rfl (z4w (T:=(zx .u64)) (lo:=a.toNat) (hi:=s.length) (n:=(a+(d-1)).toNat) pg (L rfl) ((w.mono e).mono q) (zi (d1 rfl) K.2.1) (zes K) (zfb K) (zca K));rintro l bC q H ⟨L,_⟩
 exact zg rfl rfl rfl (j5 (jk (i:=(a+(d-1)).toNat) (j:=0) bq ((w.mono e).mono q) rfl rfl (L rfl) (q9 (zf3 K))) (fun _ _ h=>qc.1 h));rintro l bD q H ⟨L,d1,_⟩;exact zg rfl rfl rfl (zk (bf (L rfl) (d1 rfl)));intro bE aK bF aL bG bH bI aM bJ aN bK aO bL aP bM bN bO aQ bP aR;obtain rfl:=Eq.symm aK
 obtain rfl:=Eq.symm aL;obtain rfl:=Eq.symm aM;obtain rfl:=Eq.symm aN;obtain rfl:=Eq.symm aO;obtain rfl:=Eq.symm aP;obtain rfl:=Eq.symm aQ;obtain rfl:=Eq.symm aR;refine z8 (zz rfl p (fun p=>?_) (fun p=>?_));refine zn (zb b (zb (vi z) (zb (z7y 1 b a.toNat s.length) (zb (vi d) ?_))));obtain⟨M,p⟩:=ze p
 refine z3y rfl (z4w (T:=(zx .u64)) (lo:=a.toNat) (hi:=s.length) (n:=(a+d).toNat) pg rfl (w.mono (e.trans x)) (zi rfl M.2.1) (zes M) (zfb M) (zca M)) fun bQ bR E aS=>?_;refine z7x (i:=(a+d).toNat) (j:=0) rfl bq (w.mono ((e.trans x).trans E)) rfl rfl aS (q9 (zf3 M)) fun a1 af=>?_
 obtain rfl:=qc.1 af;obtain⟨O,p⟩:=ze p;refine z1v (i:=z.toNat) rfl pg rfl (w.mono ((e.trans x).trans E)) (zi rfl O.1) (q9 O) fun a2 ag=>?_;refine z4t (i:=z.toNat) (j:=0) bq (w.mono ((e.trans x).trans E)) rfl rfl ag (q9 O) rfl (qc.2 rfl) fun ah ai=>?_
 refine z8 (zu (zb (vi z) ?_));obtain⟨aj,p⟩:=ze p;refine q8 (qo rfl rfl aj) (zh (vi (z+1)) (z8 ?_));exact⟨dkt,(x.trans E),jc,((z+1,(up t z (ix t (a+d)))),ah),⟨rfl,trivial⟩,prm,(Option.some.inj p).symm,ai,trivial⟩;refine qb ?_
 exact⟨dkt,x,jc,((z,t),ac),⟨rfl,trivial⟩,prm,(Option.some.inj p).symm,(w.mono (e.trans x)),trivial⟩;rintro⟨U,aT⟩ a3 bS ak ⟨rfl,aU,_⟩;refine zu (zb (vi d) ?_);obtain⟨al,k⟩:=ze k;refine q8 (qo rfl rfl al) (zh (vi (d+1)) (z8 ?_))
 exact⟨dkt,(e.trans ak),jc,(S,U.1,d+1,U.2,aT),Nat.lt_succ_self _,⟨rfl,rfl,trivial⟩,prm,k,aU,trivial⟩;refine jb ?_;exact⟨dkt,(ad.trans e),jc,((z,t),ac),⟨rfl,trivial⟩,prm,(Option.some.inj k).symm,(w.mono e),trivial⟩;rintro⟨f,aV⟩ a4 bT am ⟨rfl,an,_⟩;refine zn (zb b (zb (vi f.1) ?_))
 obtain⟨B,c⟩:=ze c;refine z3y rfl (zk (z9i (lo:=f.1.toNat) (hi:=f.2.length) pg rfl an (.inr ⟨_,congrArg some (zi rfl B.1)⟩) (.inl ⟨rfl,rfl,rfl⟩) (z7n B) (z4q B))) fun a5 a6 P ao=>?_;obtain rfl:=Eq.symm ao
 refine zb2 (Oc:=[aV]) (Or:=[]++A) (List.Perm.refl _) (zat (lo:=f.1.toNat) (hi:=f.2.length) rfl underlying94 zp9 (an.mono P) (z7n B) (z4q B) rfl) ?_;rintro a7 a8 aW aX ⟨rfl,a9,rfl,rfl,W⟩;refine qx (zb b (zb (vi f.1) ?_));obtain⟨F,c⟩:=ze c
 refine za4 (v:=b) (lo:=(0:Int).toNat) (hi:=f.1.toNat) (mx:=(capOf b)) rfl pg rfl W (.inl ⟨rfl,rfl⟩) (.inr ⟨_,congrArg some (zi rfl (zd0 F))⟩) (.inl ⟨rfl,rfl⟩) (z7n F) (z4q F) (Nat.le_trans (z4q F) (zbg W)) (Nat.le_refl _) fun G ap aA=>?_;refine zh G (z8 (z06 (i:=0) rfl ap fun aq aa ar=>?_))
 have au:VRep (tSl false (zx .u64)) aq G (cut (z2v f.2 f.1.toNat (List.replicate (f.2.length-f.1.toNat) (0:Int))) 0 f.1):=(z7r ar);refine qh ?_;replace o:=z0f c o;obtain rfl:=Option.some.inj o
 refine vk (D:=[]) (J:=[]) (O':=[]) (rs:=[.tmp 2]) (vs:=[G]) (((((m.trans C).trans V).trans am).trans P).trans aa) ((List.Perm.refl _)) rfl ⟨rfl,trivial⟩ ?_;exact⟨G,rfl,rfl,au⟩;refine qb (zu (zb (vi a) ?_));obtain⟨av,c⟩:=ze c;refine q8 (qo rfl rfl av) (zh (vi (a+1)) (z8 ?_))
 exact⟨dkt,C,jc,(Q,a+1),Nat.lt_succ_self _,⟨rfl,trivial⟩,prm,c,trivial⟩;refine jb ?_;exact⟨dkt,m,jc,(),trivial,prm,(Option.some.inj c).symm,trivial⟩;rintro o6 ba R8 aw ⟨rfl,_⟩;replace o:=z13 o;refine zn (zb b (zh b (z8 (z06 (i:=0) rfl (y.mono aw) fun ax ab ay=>?_))))
 have az:VRep (tSl false (zx .u64)) ax b s:=(z7r ay);refine qh ?_;obtain rfl:=Option.some.inj o;refine vk (D:=[]) (J:=[]) (O':=[]) (rs:=[.tmp 2]) (vs:=[b]) (aw.trans ab) ((List.Perm.refl _)) rfl ⟨rfl,trivial⟩ ?_;exact⟨b,rfl,rfl,az⟩
theorem zrg:Enters prog 76:=enters_of func76 rfl (by kernel_rfl)
theorem z7m{N:Nat}{R:RH}{x:Sa}{n:Value}(h:VRep (zw false false) R n x){r:(List Int)}(d:z0h N x=some r):CallP prog 43 #[n] R (fun v R'=>VRep (tSl false (zx .u64)) R' v r):=by
 refine ql (args:=[n]) func43 rfl rfl fun A=>?_;rw [z0h] at d;refine zn (xu (T:=(zw false false)) rfl rfl rfl h fun v1 R3 j h5 h2=>?_);refine zh vs0 (qx (zh vs0 (z8 ?_)));obtain⟨W,a,d⟩:=zq d
 refine qi (γ:=(List Int)×Value×Frag) (rs [3,4,5,7,8,36]) (fun g=>[(3,g.2.1)]) (fun g=>[g.2.2]++A) (fun g R=>W=g.1∧ORep (zx .u64) R g.2.2 g.2.1 g.1∧True) ?_ ?_;refine zn (q8 (jq z1i rfl rfl h5 (h.mono j)) (q8 (jq z1i rfl rfl h5 (h.mono j)) (q8 (z08 (fs:=[n]) (cs:=[]) rfl rfl) ?_)))
 obtain⟨p,ab,a⟩:=zq a;refine j3 rfl znm rfl (z1y (h.mono j) (zba (fs:=[n]) znb fun R1 hq z0 u0 y k0 hy=>by obtain rfl:=qc.1 k0;exact CallP.mono (z0n ((h.mono j).mono hq) hy) fun v R2 _ hv=>rq.2 hv) ab) fun aJ aK k F=>?_
 refine q8 (qw rfl underlying40 rfl (jr F)) (zb (vi 0) (z8 (qa (z6a ?_))))
 refine qy (γ:=Nat×(List Int)×Int×Value×Frag) (rs [3,4,5,7,8,9,14,36]) (fun g=>[(3,g.2.2.2.1),(14,(vi g.2.2.1))]) (fun g=>[g.2.2.2.2]++A) (fun g R=>xn N x p g.1 g.2.1 g.2.2.1=some W∧ORep (zx .u64) R g.2.2.2.2 g.2.2.2.1 g.2.1∧True) (fun g=>g.1) (N,[],0,vs0,emp) prm ⟨a,(z3h (T:=(zx .u64))),trivial⟩ ?_
 clear a;rintro⟨q,s,l,G,C⟩ aL aM e ⟨a,H,_⟩;rcases q with _|q;exact qm a;replace a:xn N x p (q+1) s l=some W:=a;rw [xn] at a;refine zn (q8 (ja rfl rfl) (z8 (zy (zz rfl a (fun a=>?_) (fun a=>?_)))));refine qb (zy (qa (zn ?_)))
 obtain⟨I,a⟩:=ze a;refine kv (i:=l.toNat) rfl z0p rfl (jr (F.mono e)) (zi rfl I.1) (q9 I) fun aN ac=>?_;refine j4 rfl ty3 rfl ac fun aO ad=>?_;obtain rfl:=qc.1 ad;refine zh (vi (ix p l)) (qx (zh (.int .u64 0) (z8 ?_)));obtain⟨c,b,a⟩:=zq a
 refine qi (γ:=Int) (rs [6,7,8,9,18,31]) (fun g=>[(6,(.int .u64 g))]) (fun g=>[C]++A) (fun g R=>c=g∧True) ?_ ?_;refine zn (q8 (jq z1i rfl rfl (h5.mono (k.trans e)) (h.mono ((j.trans k).trans e))) (zb (vi (ix p l)) ?_));obtain⟨m,ae,b⟩:=zq b
 refine j3 rfl zkc rfl (oz (h.mono ((j.trans k).trans e)) ae) fun aP aQ K L=>?_
 refine q8 (qw rfl underlying40 rfl (jr L)) (zb (vi 0) (z8 (qa (qy (γ:=Nat×Int×Int) (rs [6,7,8,9,22,31]) (fun g=>[(6,(.int .u64 g.2.1)),(22,(vi g.2.2))]) (fun g=>[C]++A) (fun g R=>wm N m g.1 g.2.1 g.2.2=some c∧True) (fun g=>g.1) (N,0,0) prm ⟨b,trivial⟩ ?_))));clear b
 rintro⟨t,o,f⟩ aR aS u ⟨b,_⟩;rcases t with _|t;exact qm b;replace b:wm N m (t+1) o f=some c:=b;rw [wm] at b;refine zn (q8 (ja rfl rfl) (z8 (zy (zz rfl b (fun b=>?_) (fun b=>?_)))));refine qb (zy (qa (zn ?_)));obtain⟨M,b⟩:=ze b
 refine kv (i:=f.toNat) rfl z0p rfl (jr (L.mono u)) (zi rfl M.1) (q9 M) fun aT af=>?_;refine j4 rfl ty3 rfl af fun aU ag=>?_;obtain rfl:=qc.1 ag;refine zh (vi (ix m f)) (z8 (zu (zb (.int .u64 o) (zb (vi (ix m f)) ?_))));obtain⟨ah,b⟩:=ze b;refine q8 (zbl rfl rfl ah) ?_
 obtain⟨ai,b⟩:=ze b;refine q8 (zj4 rfl rfl ai) (zh (.int .u64 (ior o (sw .u64 (1:Int) (ix m f)))) (z8 (zu ?_)));obtain⟨aj,b⟩:=ze b;refine q8 (qo rfl rfl aj) (zb (vi (f+1)) (z8 ?_))
 exact⟨dkt,(RH.le.refl _),jc,(t,ior o (sw .u64 (1:Int) (ix m f)),f+1),Nat.lt_succ_self _,⟨rfl,rfl,trivial⟩,prm,b,trivial⟩;refine jb ?_;exact⟨dkt,(K.trans u),jc,o,⟨rfl,trivial⟩,prm,(Option.some.inj b).symm,trivial⟩;rintro c aV aW w ⟨rfl,_⟩
 refine zu (zb G (zb (.int .u64 c) (dm (T:=(zx .u64)) (X:=([c]:List Int)) (ps:=[(0,(.int .u64 c))]) (css:=[[(.int .u64 c)]]) rfl underlying94 zp9 rfl rfl (ji ⟨rfl,trivial⟩) rfl rfl (by decide) fun ak aX E al=>?_)));refine ku (i:=0) rfl al fun am z an=>?_
 have ao:VRep (tSl true (zx .u64)) am ak ([c]:List Int):=(z0m an E);obtain⟨O,a⟩:=ze a;refine z10 (i:=0) (X:=s) (Y:=([c]:List Int)) rfl underlying94 zp9 rfl rfl rfl (H.mono (w.trans z)) (jr (Sub.v (B:=(tSl false (zx .u64))) (uw Sub.refl (fun _=>rfl)) ao)) O.1 O.2 fun P ap aq=>?_
 refine zh P (z8 (zu ?_));obtain⟨ar,a⟩:=ze a;refine q8 (qo rfl rfl ar) (zb (vi (l+1)) (z8 ?_));exact⟨dkt,(w.trans z),jc,(q,(s++([c]:List Int)),l+1,P,ap),Nat.lt_succ_self _,⟨rfl,rfl,trivial⟩,prm,a,aq,trivial⟩;refine jb ?_
 exact⟨dkt,(k.trans e),jc,(s,G,C),⟨rfl,trivial⟩,prm,(Option.some.inj a).symm,H,trivial⟩;rintro⟨W,Z,au⟩ aY R7 av ⟨rfl,aw,_⟩;refine zn (zb Z ?_);obtain⟨aZ,ax,d⟩:=zq d
 refine mh (Oc:=[au]) (Or:=[]++A) (cs:=[]) (vs:=[Z]) rfl zs8 rfl rfl ((pk 0 rfl (List.Perm.refl _))) (zaq aw ax) fun a0 a1 aD Q ay=>?_;obtain⟨az,rfl,rfl,aA⟩:=ay;refine qx (zb Z ?_);obtain⟨a2,aB,d⟩:=zq d
 refine mh (Oc:=[az]) (Or:=[]++A) (cs:=[]) (vs:=[Z]) rfl zrg rfl rfl ((pk 0 rfl (List.Perm.refl _))) (z98 aA aB) fun S a3 aE U aC=>?_;obtain⟨_,rfl,rfl,V⟩:=aC;refine zh S (z8 (qh ?_));obtain rfl:=Option.some.inj d
 refine qd (D:=[]) (J:=[]) (rs:=[.tmp 2]) (vs:=[S]) (((j.trans av).trans Q).trans U) rfl rfl ⟨rfl,trivial⟩ ?_;exact⟨rfl,V⟩
theorem zrq:Enters prog 43:=enters_of func43 rfl (by kernel_rfl)
theorem zsa: ∀ w,∃ z,(zeroValue 94).run prog w= .ok z w∧z.cells=([.slice none 0 0]:List Value).toArray:=fun w=>⟨vs0,by kernel_rfl,rfl⟩
theorem zri: ∀ w,(sizeOf 94).run prog w= .ok 1 w:=fun w=>by kernel_rfl
theorem zsw: ∀ w,∃ z,(zeroValue 96).run prog w= .ok z w∧z.cells=([.nilFunc]:List Value).toArray:=fun w=>⟨.nilFunc,by kernel_rfl,rfl⟩
theorem zst: ∀ w,(sizeOf 96).run prog w= .ok 1 w:=fun w=>by kernel_rfl
theorem zrp: ∀ w,(isAgg 96).run prog w= .ok false w:=fun w=>by kernel_rfl
theorem z7w{N:Nat}{R:RH}{s:(List Int)}{c:Value}(k:VRep (tSl false (zx .u64)) R c s){f:Int→Option Bool}{e:Value}(n:FOk1 prog R e (zx .u64) z3m f){r:Int}(b:z1a N s f=some r):CallP prog 77 #[c,e] R (fun v R'=>v=(vi r)):=by
 refine ql (args:=[c,e]) func77 rfl rfl fun A=>?_;rw [z1a] at b;refine zn (zh (vi 0) (z8 ?_));obtain⟨o,a,b⟩:=zq b;refine qi (γ:=Unit) (rs [4,19]) (fun g=>[]) (fun g=>[]++A) (fun g R=>o=Ex.go g∧True) ?_ ?_
 refine zn (zb c (q8 (qw rfl underlying94 rfl (jr k)) (zb (vi 0) (z8 (qa (qy (γ:=Nat×Int) (rs [4,6,8,19]) (fun g=>[(8,(vi g.2))]) (fun g=>[]++A) (fun g R=>xk N s f g.1 g.2=some o∧True) (fun g=>g.1) (N,0) prm ⟨a,trivial⟩ ?_))))));clear a;rintro⟨m,d⟩ y H h ⟨a,_⟩
 rcases m with _|m;exact qm a;replace a:xk N s f (m+1) d=some o:=a;rw [xk] at a;refine zn (q8 (ja rfl rfl) (z8 (zy (zz rfl a (fun a=>?_) (fun a=>?_)))))
 refine qb (zy (qa (zn (zb (vi d) (zh (vi d) (qx (zb e (zb c (zb (vi d) ?_)))))))));obtain⟨l,a⟩:=ze a;refine kv (i:=d.toNat) rfl pg rfl (jr (k.mono h)) (zi rfl l.1) (q9 l) fun z p=>?_;refine j4 rfl bq rfl p fun B q=>?_;obtain rfl:=qc.1 q
 obtain⟨C,t,a⟩:=zq a;refine z88 rfl rfl rfl ((n.mono h) _ (RH.le.refl _) (ix s d) _ _ (qc.2 rfl) t) fun E F j u=>?_;obtain rfl:=rq.1 u;refine z8 (zz rfl a (fun a=>?_) (fun a=>?_));refine zn (zb (vi d) (zh (vi d) (z8 (qh ?_))));replace b:=z0f a b;obtain rfl:=Option.some.inj b
 refine qd (D:=[]) (J:=[]) (rs:=[.tmp 4]) (vs:=[(vi d)]) (h.trans j) rfl rfl ⟨rfl,trivial⟩ ?_;exact⟨rfl,rfl⟩;refine qb (zu ?_);obtain⟨w,a⟩:=ze a;refine q8 (qo rfl rfl w) (zb (vi (d+1)) (z8 ?_));exact⟨dkt,j,jc,(m,d+1),Nat.lt_succ_self _,⟨rfl,trivial⟩,prm,a,trivial⟩;refine jb ?_
 exact⟨dkt,h,jc,(),trivial,prm,(Option.some.inj a).symm,trivial⟩;rintro I G K x ⟨rfl,_⟩;replace b:=z13 b;refine zn (zh (vi (-1)) (z8 (qh ?_)));obtain rfl:=Option.some.inj b;refine qd (D:=[]) (J:=[]) (rs:=[.tmp 4]) (vs:=[(vi (-1))]) x rfl rfl ⟨rfl,trivial⟩ ?_;exact⟨rfl,rfl⟩
theorem zrs:Enters prog 77:=enters_of func77 rfl (by kernel_rfl)
theorem z5y{N:Nat}{R:RH}{s:(List Int)}{a:Value}(d:VRep (tSl false (zx .u64)) R a s){f:Int→Option Bool}{b:Value}(e:FOk1 prog R b (zx .u64) z3m f){r:Bool}(c:lw N s f=some r):CallP prog 45 #[a,b] R (fun v R'=>v=(.bool r)):=by
 refine ql (args:=[a,b]) func45 rfl rfl fun A=>?_;rw [lw] at c;refine zn (zh (.bool false) (qx (zb a (zb b ?_))));obtain⟨h,i,c⟩:=zq c;refine j3 rfl zrs rfl (z7w d e i) fun k l g j=>?_;obtain rfl:=j
 refine q8 (r9 rfl rfl) (zh (.bool (decide (0≤h))) (z8 (qh ?_)));obtain rfl:=Option.some.inj c;refine qd (D:=[]) (J:=[]) (rs:=[.tmp 4]) (vs:=[(.bool (decide (0≤h)))]) g rfl rfl ⟨rfl,trivial⟩ ?_;exact⟨rfl,rfl⟩
theorem zrx{a:Bool}:TyOk prog 94 (tSl a (zx .u64)):=by
 obtain⟨i,hi,b⟩: ∃ i,prog.info? 94=some i∧i.size=1:=tq (by kernel_rfl);exact z1m underlying94 hi rfl b
theorem zsb:Enters prog 45:=enters_of func45 rfl (by kernel_rfl)
theorem z9h{N:Nat}{R:RH}{set:Int}{p0_:Int}{a:Value}(c:PRep (zx .u64) R a p0_){r:Bool}(b:z1x N set p0_=some r):CallP prog 46 #[(.int .u64 set),a] R (fun v R'=>v=(.bool r)):=by
 refine ql (args:=[(.int .u64 set),a]) func46 rfl rfl fun A=>?_;rw [z1x] at b;refine zn (zh (.bool false) (qx (zb (.int .u64 set) (j4 rfl bq rfl c fun f d=>?_))));obtain rfl:=qc.1 d;obtain⟨e,b⟩:=ze b
 refine q8 (ze9 rfl rfl e) (q8 (ry rfl rfl) (zh (.bool (decide ((z4d set p0_)=0))) (z8 (qh ?_))));obtain rfl:=Option.some.inj b;refine qd (D:=[]) (J:=[]) (rs:=[.tmp 3]) (vs:=[(.bool (decide ((z4d set p0_)=0)))]) (RH.le.refl _) rfl rfl ⟨rfl,trivial⟩ ?_;exact⟨rfl,rfl⟩
theorem zs4:Enters prog 46:=enters_of func46 rfl (by kernel_rfl)
theorem zqg{u:Value}:TyOk prog 96 (zns u):=by
 obtain⟨i,hi,a⟩: ∃ i,prog.info? 96=some i∧i.size=1:=tq (by kernel_rfl);exact z1m underlying96 hi rfl a
theorem zr9:Enters prog 44:=enters_of func44 rfl (by kernel_rfl)
theorem z8v{N:Nat}(F:Nat): ∀ {R:RH} {b:Int} {j:Int} {left:Int} {p0_:(List Int)} {e:Value} (s:PRep (tSl false (zx .u64)) R e p0_) {p1_:Int} {k:Value} (t:PRep (zx .i64) R k p1_) {f:Nat} (u:PRep (zns (.func (.func 44) #[] #[e,k,(.pointer (some ⟨f,0,none⟩))])) R (.pointer (some ⟨f,0,none⟩)) ()) {r:Int×Bool} (d:pu N F b j left p0_ p1_=some r),CallP prog 44 #[(.int .u64 b),(vi j),(vi left),e,k,(.pointer (some ⟨f,0,none⟩))] R (fun v R'=>v= .tuple #[(.int .u64 r.1),(.bool r.2)]):=by
  induction F with
  |zero=>intros;rename_i d;exact qm d
  |succ F ih=>
    intro R b j left p0_ e s p1_ k t f u r d
    refine ql (args:=[(.int .u64 b),(vi j),(vi left),e,k,(.pointer (some ⟨f,0,none⟩))]) func44 rfl rfl fun A=>?_
    rw [pu] at d
    refine zy ?_
    refine zu ?_
    refine zb5 (T:=(zx .u64)) rfl rfl (qc.2 rfl) fun z R3 q P=>?_
    refine zh (.int .u64 0) ?_
    refine zh (.bool false) ?_
    refine z8 ?_
    refine zy ?_
    refine zy ?_
    refine zu ?_
    refine zb (vi left) ?_
    refine q8 (ry rfl rfl) ?_
    refine z8 ?_
    refine zz rfl d (fun d=>?_) (fun d=>?_)
    · refine zy ?_
      obtain⟨O,c7,d⟩:=zq d
      refine tu 7 [] [phX (.int .u64 b),phR (tSl false (zx .u64)) p0_,phX (.func (.func 46) #[] #[z]),phX (.bool O),phX (.bool (!O)),phX (.int .u64 b),phX (.bool (!O))] mixed (by kernel_rfl) (bi ⟨zf,z4m,zf,zf,zf,zf,zf,trivial⟩) ⟨?_,?_,?_,?_,?_,?_,?_,trivial⟩ fun R8 Q=>?_
      · intro l S a m C
        have I:l 6=z:=m 6 rfl
        exact zg rfl rfl rfl (j5 (il bq I (P.mono a)) (fun _ _ h=>qc.1 h))
      · intro l U a m C
        have a3:l 3=e:=m 3 rfl
        exact zg rfl rfl rfl (il zrx a3 ((s.mono q).mono a))
      · intro l V a m C
        have I:l 6=z:=m 6 rfl
        exact zg rfl rfl rfl (zk (z08 (fs:=[]) (cs:=[z]) rfl (by simp only [List.map,ev,I]<;>rfl)))
      · rintro l W a m ⟨n,w,_⟩
        have X:=n rfl
        have Y:l 18=(.func (.func 46) #[] #[z]):=w rfl
        exact zg rfl rfl rfl (ui (vs:=[(l 17),(.func (.func 46) #[] #[z])]) zsb (by simp only [List.map,ev,Y]<;>rfl) (z5y X ((zbe (cs:=[z]) zs4 fun R1 hq z0 u0 y k0 hy=>by obtain rfl:=qc.1 k0;exact CallP.mono (z9h (P.mono hq) hy) fun v R2 _ hv=>rq.2 hv).mono a) c7) (fun _ _ h=>h))
      · rintro l Z a m ⟨n,w,_⟩
        have aa:=n rfl
        exact zg rfl rfl rfl (zk (nz aa))
      · rintro l ab a m ⟨n,w,K,L,d4,d5,d6,_⟩
        have af:=n rfl
        exact zg rfl rfl rfl (zk (z0l af))
      · rintro l ag a m ⟨n,w,K,L,d4,d5,d6,d7,_⟩
        have ah:=n rfl
        exact zg rfl rfl rfl (zk (z0l ah))
      intro bn ai
      intro bo bp
      intro br aj
      intro bs ak
      intro bt al
      intro bu am
      intro bv an
      obtain rfl:=Eq.symm ai
      obtain rfl:=Eq.symm aj
      obtain rfl:=Eq.symm ak
      obtain rfl:=Eq.symm al
      obtain rfl:=Eq.symm am
      obtain rfl:=Eq.symm an
      refine z8 ?_
      refine qh ?_
      obtain rfl:=Option.some.inj d
      refine qd (D:=[]) (J:=[]) (rs:=[.tmp 9,.tmp 10]) (vs:=[(.int .u64 b),(.bool (!O))]) (q.trans Q) rfl rfl ⟨rfl,rfl,trivial⟩ ?_
      exact⟨rfl,rfl⟩
    · refine qb ?_
      obtain⟨E,c,d⟩:=zq d
      refine qi (γ:=Unit) (rs [9,14,21,44]) (fun g=>[]) (fun g=>[]++A) (fun g R=>E=Ex.go g∧True) ?_ ?_
      · refine zy ?_
        refine zu ?_
        refine zb (vi j) ?_
        refine zh (vi j) ?_
        refine z8 ?_
        refine qa ?_
        refine qy (γ:=Nat×Int) (rs [9,14,22,44]) (fun g=>[(11,(vi g.2))]) (fun g=>[]++A) (fun g R=>fu N (pu N F) b left p0_ p1_ g.1 g.2=some E∧True) (fun g=>g.1) (N,j) prm ⟨c,trivial⟩ ?_
        clear c
        rintro⟨x,i⟩ bw bx o ⟨c,_⟩
        rcases x with _|x
        · exact qm c
        replace c:fu N (pu N F) b left p0_ p1_ (x+1) i=some E:=c;rw [fu] at c
        refine zy ?_
        refine zy ?_
        refine zu ?_
        refine zb (vi i) ?_
        refine j4 rfl ty3 rfl (t.mono (q.trans o)) fun bz ao=>?_
        obtain rfl:=qc.1 ao
        refine zb (vi left) ?_
        obtain⟨ap,c⟩:=ze c
        refine q8 (uh rfl rfl ap) ?_
        refine q8 (z4n rfl rfl) ?_
        refine z8 ?_
        refine zz rfl c (fun c=>?_) (fun c=>?_)
        · refine qb ?_
          refine zy ?_
          refine qa ?_
          refine zy ?_
          obtain⟨aq,ar,au,av,c⟩:=zkq c
          obtain⟨p,aw,c⟩:=zq c
          refine tu 15 [] [phX (.func (.func 44) #[] #[e,k,(.pointer (some ⟨f,0,none⟩))]),phX (.int .u64 b),phX (vi i),phX (.int .u64 (sw .u64 (1:Int) i)),phX (.int .u64 (ior b (sw .u64 (1:Int) i))),phX (vi i),phX (vi (i+1)),phX (vi left),phX (vi (left-1)),phX (.tuple #[(.int .u64 p.1),(.bool p.2)]),phX (.tuple #[(.int .u64 p.1),(.bool p.2)]),phX (.int .u64 p.1),phX (.bool p.2),phX (.int .u64 p.1),phX (.bool p.2)] mixed (by kernel_rfl) (bi ⟨zf,zf,zf,zf,zf,zf,zf,zf,zf,zf,zf,zf,zf,zf,zf,trivial⟩) ⟨?_,?_,?_,?_,?_,?_,?_,?_,?_,?_,?_,?_,?_,?_,?_,trivial⟩ fun bA B=>?_
          · intro l S a m C
            have a5:l 5=(.pointer (some ⟨f,0,none⟩)):=m 5 rfl
            exact zg rfl rfl rfl (j5 (il zqg a5 ((u.mono (q.trans o)).mono a)) (fun _ _ h=>zly h))
          · intro l U a m C
            have I:l 6=z:=m 6 rfl
            exact zg rfl rfl rfl (j5 (il bq I ((P.mono o).mono a)) (fun _ _ h=>qc.1 h))
          · intro l V a m C
            have G:l 11=(vi i):=m 11 rfl
            exact zg rfl rfl rfl (zk (za G))
          · rintro l W a m ⟨n,_⟩
            have ax:=n rfl
            exact zg rfl rfl rfl (zk (zbl rfl ax aq))
          · rintro l Z a m ⟨n,w,_⟩
            have ay:=n rfl
            have az:=w rfl
            exact zg rfl rfl rfl (zk (zj4 ay az ar))
          · intro l ab a m C
            have G:l 11=(vi i):=m 11 rfl
            exact zg rfl rfl rfl (zk (za G))
          · rintro l ag a m ⟨n,_⟩
            have aA:=n rfl
            exact zg rfl rfl rfl (zk (qo aA rfl au))
          · intro l bC a m C
            have a2:l 2=(vi left):=m 2 rfl
            exact zg rfl rfl rfl (zk (za a2))
          · rintro l bE a m ⟨n,_⟩
            have aB:=n rfl
            exact zg rfl rfl rfl (zk (uh aB rfl av))
          · rintro l bF a m ⟨n,w,K,L,_⟩
            have aC:=n rfl
            have aD:l 34=(.int .u64 (ior b (sw .u64 (1:Int) i))):=w rfl
            have aE:l 36=(vi (i+1)):=K rfl
            have aF:l 38=(vi (left-1)):=L rfl
            exact zg rfl rfl rfl (zl0 (cs:=[e,k,(.pointer (some ⟨f,0,none⟩))]) (vs:=[(.int .u64 (ior b (sw .u64 (1:Int) i))),(vi (i+1)),(vi (left-1))]) zr9 aC (by simp only [List.map,ev,aD,aE,aF]<;>rfl) (ih ((s.mono (q.trans o)).mono a) ((t.mono (q.trans o)).mono a) ((u.mono (q.trans o)).mono a) aw) (fun _ _ h=>h))
          · rintro l ba a m ⟨n,_⟩
            have aG:=n rfl
            exact zg rfl rfl rfl (zk (za aG))
          · rintro l bb a m ⟨n,_⟩
            have H:=n rfl
            have ht:=H
            exact zg rfl rfl rfl (zk (qz ht rfl))
          · rintro l bc a m ⟨n,w,_⟩
            have H:=n rfl
            have ht:=H
            exact zg rfl rfl rfl (zk (qz ht rfl))
          · rintro l be a m ⟨n,w,K,L,d4,d5,d6,d7,d8,d9,aI,aJ,aK,aL,aM,_⟩
            have aN:=n rfl
            exact zg rfl rfl rfl (zk (z0l aN))
          · rintro l bf a m ⟨n,w,K,L,d4,d5,d6,d7,d8,d9,aI,aJ,aK,aL,aM,bI,_⟩
            have aO:=n rfl
            exact zg rfl rfl rfl (zk (z0l aO))
          intro bJ aP
          intro bK aQ
          intro bL aR
          intro bM aS
          intro bN aT
          intro bO aU
          intro bP aV
          intro bQ aW
          intro bR aX
          intro bS aY
          intro bT aZ
          intro bU a0
          intro bV a1
          intro bW a4
          intro bX a7
          obtain rfl:=Eq.symm aP
          obtain rfl:=Eq.symm aQ
          obtain rfl:=Eq.symm aR
          obtain rfl:=Eq.symm aS
          obtain rfl:=Eq.symm aT
          obtain rfl:=Eq.symm aU
          obtain rfl:=Eq.symm aV
          obtain rfl:=Eq.symm aW
          obtain rfl:=Eq.symm aX
          obtain rfl:=Eq.symm aY
          obtain rfl:=Eq.symm aZ
          obtain rfl:=Eq.symm a0
          obtain rfl:=Eq.symm a1
          obtain rfl:=Eq.symm a4
          obtain rfl:=Eq.symm a7
          refine z8 ?_
          refine zy ?_
          refine zu ?_
          refine zb (.bool p.2) ?_
          refine z8 ?_
          refine zz rfl c (fun c=>?_) (fun c=>?_)
          · refine zy ?_
            refine zu ?_
            refine zb (.int .u64 p.1) ?_
            refine zh (.int .u64 p.1) ?_
            refine zh (.bool true) ?_
            refine z8 ?_
            refine qh ?_
            replace d:=z0f c d
            obtain rfl:=Option.some.inj d
            refine qd (D:=[]) (J:=[]) (rs:=[.tmp 9,.tmp 10]) (vs:=[(.int .u64 p.1),(.bool true)]) ((q.trans o).trans B) rfl rfl ⟨rfl,rfl,trivial⟩ ?_
            exact⟨rfl,rfl⟩
          · refine qb ?_
            refine zu ?_
            refine zb (vi i) ?_
            obtain⟨a8,c⟩:=ze c
            refine q8 (qo rfl rfl a8) ?_
            refine zh (vi (i+1)) ?_
            refine z8 ?_
            exact⟨dkt,B,jc,(x,i+1),Nat.lt_succ_self _,⟨rfl,trivial⟩,prm,c,trivial⟩
        · refine jb ?_
          exact⟨dkt,o,jc,(),trivial,prm,(Option.some.inj c).symm,trivial⟩
      · rintro bY bZ b0 M ⟨rfl,_⟩
        replace d:=z13 d
        refine zy ?_
        refine zu ?_
        refine zh (.int .u64 0) ?_
        refine zh (.bool false) ?_
        refine z8 ?_
        refine qh ?_
        obtain rfl:=Option.some.inj d
        refine qd (D:=[]) (J:=[]) (rs:=[.tmp 9,.tmp 10]) (vs:=[(.int .u64 0),(.bool false)]) (q.trans M) rfl rfl ⟨rfl,rfl,trivial⟩ ?_
        exact⟨rfl,rfl⟩
theorem zau{N:Nat}{R:RH}{d:Int}{e:Int}{left:Int}{p0_:(List Int)}{a:Value}(f:PRep (tSl false (zx .u64)) R a p0_){p1_:Int}{b:Value}(g:PRep (zx .i64) R b p1_){c:Nat}(h:PRep (zns (.func (.func 44) #[] #[a,b,(.pointer (some ⟨c,0,none⟩))])) R (.pointer (some ⟨c,0,none⟩)) ()){r:Int×Bool}(i:pu N N d e left p0_ p1_=some r):CallP prog 44 #[(.int .u64 d),(vi e),(vi left),a,b,(.pointer (some ⟨c,0,none⟩))] R (fun v R'=>v= .tuple #[(.int .u64 r.1),(.bool r.2)]):=z8v N f g h i
theorem z6p{N:Nat}{R:RH}{s:(List Int)}{a:Value}(b:VRep (tSl false (zx .i64)) R a s){r:(List Int)}(c:z1c N s=some r):CallP prog 47 #[a] R (fun v R'=>VRep (tSl true (zx .i64)) R' v r):=by
 refine ql (args:=[a]) func47 rfl rfl fun A=>?_;rw [z1c] at c;refine zn (zh vs0 (qx (zb a (zb a (q8 (qw rfl underlying40 rfl (jr b)) (zb a (q8 (qw rfl underlying40 rfl (jr b)) ?_)))))));obtain⟨d,c⟩:=ze c
 refine zjv (v:=a) (lo:=(0:Int).toNat) (hi:=(↑s.length:Int).toNat) (mx:=(↑s.length:Int).toNat) rfl z0p rfl (jr b) (.inl ⟨rfl,rfl⟩) (.inr ⟨_,congrArg some (zi rfl (zd0 d))⟩) (.inr ⟨_,congrArg some (zi rfl (zd0 d))⟩) (z7n d) (z4q d) (Nat.le_refl _) (Nat.le_trans (z4q d) (zs9 (jr b))) (X':=(cut s 0 (↑s.length:Int))) rfl fun f g e=>?_
 have h:VRep (tSl true (zx .i64)) R f (cut s 0 (↑s.length:Int)):=z0m g (e.trans (zj8 d).symm);refine zh f (z8 (qh ?_));obtain rfl:=Option.some.inj c;refine qd (D:=[]) (J:=[]) (rs:=[.tmp 2]) (vs:=[f]) (RH.le.refl _) rfl rfl ⟨rfl,trivial⟩ ?_;exact⟨rfl,h⟩
theorem zpd:Enters prog 47:=enters_of func47 rfl (by kernel_rfl)
theorem z4x{N:Nat}{R:RH}{x:Sa}{H:Value}(p:VRep (zw false false) R H x){r:(List Int)×Int}(b:z18 N x=some r):CallP prog 19 #[H] R (fun v R'=> ∃ u0,v= .tuple #[u0,(vi r.2)]∧VRep (tSl true (zx .i64)) R' u0 r.1):=by
 refine ql (args:=[H]) func19 rfl rfl fun A=>?_;rw [z18] at b;refine zn (xu (T:=(zw false false)) rfl rfl rfl p fun v1 R3 h h5 h2=>?_);refine zh vs0 (zh (vi 0) (z8 (zy (zn (q8 (jq z1i rfl rfl h5 (p.mono h)) ?_)))));obtain⟨U,c7,b⟩:=zq b
 refine j3 rfl zk1 rfl (z11 (p.mono h) c7) fun v8 aQ d h9=>?_;obtain rfl:=h9;refine zh (vi U) (qx (zb (vi U) (q8 (bf rfl rfl) (z8 (zz rfl b (fun b=>?_) (fun b=>?_))))));refine zn (zb (vi U) (zh vs0 (zh (vi U) (z8 (qh ?_)))));obtain rfl:=Option.some.inj b
 refine qd (D:=[]) (J:=[]) (rs:=[.tmp 2,.tmp 3]) (vs:=[vs0,(vi U)]) (h.trans d) rfl rfl ⟨rfl,rfl,trivial⟩ ?_;exact⟨rfl,⟨vs0,rfl,z1p⟩⟩;refine qb (zn (q8 (jq z1i rfl rfl (h5.mono d) (p.mono (h.trans d))) ?_));obtain⟨m,ao,b⟩:=zq b
 refine j3 rfl zmt rfl (fe (p.mono (h.trans d)) ao) fun aS aT l ap=>?_;obtain rfl:=ap;refine si rfl za3 fun j=>?_;refine gz (i:=0) (vs:=[(vi m)]) sz3 rfl rfl rfl rfl rfl rfl (kz rfl mr) ?_
 refine z8 (zy (zn (q8 (ed (i:=0) ag3 rfl rfl rfl) (q8 (rf rfl rfl) (z8 (zz rfl b (fun b=>?_) (fun b=>?_)))))));refine zn (zh vs0 (zh (vi 3) (z8 (qh ?_))));obtain rfl:=Option.some.inj b
 refine qd (D:=[]) (J:=[box j [(vi m)] 3]) (rs:=[.tmp 2,.tmp 3]) (vs:=[vs0,(vi 3)]) ((h.trans d).trans l) rfl rfl ⟨rfl,rfl,trivial⟩ ?_;exact⟨rfl,⟨vs0,rfl,z1p⟩⟩;refine qb (zn (q8 (jq z1i rfl rfl (h5.mono (d.trans l)) (p.mono ((h.trans d).trans l))) ?_))
 obtain⟨V,aq,b⟩:=zq b;refine j3 rfl zrq rfl (z7m (p.mono ((h.trans d).trans l)) aq) fun z aU F I=>?_;refine si rfl zsa fun n=>?_;refine gz (i:=0) (vs:=[z]) zri rfl rfl (nk I) rfl rfl rfl (kz (zd7 I) mr) ?_;refine qx (si rfl zsw fun o=>?_)
 refine qx (q8 (z08 (fs:=[]) (cs:=[(.pointer (some ⟨n,0,none⟩)),(.pointer (some ⟨j,0,none⟩)),(.pointer (some ⟨o,0,none⟩))]) rfl rfl) (gz (i:=0) (vs:=[(.func (.func 44) #[] #[(.pointer (some ⟨n,0,none⟩)),(.pointer (some ⟨j,0,none⟩)),(.pointer (some ⟨o,0,none⟩))])]) zst rfl rfl rfl rfl rfl rfl (kz rfl mr) ?_));refine z8 ?_
 obtain⟨K,a,b⟩:=zq b;refine qi (γ:=Unit) (rs [2,4,8,13,25,54]) (fun g=>[]) (fun g=>[]++A) (fun g R=>K=Ex.go g∧True) ?_ ?_;refine zn (q8 (ed (i:=2) ag3 rfl rfl rfl) ?_);obtain⟨ar,a⟩:=ze a
 refine q8 (qo rfl rfl ar) (zb (vi 0) (z8 (qa (qy (γ:=Nat×Int) (rs [2,4,8,13,27,54]) (fun g=>[(27,(vi g.2))]) (fun g=>[box j [(vi m)] 3,box o [(.func (.func 44) #[] #[(.pointer (some ⟨n,0,none⟩)),(.pointer (some ⟨j,0,none⟩)),(.pointer (some ⟨o,0,none⟩))])] 96,box n [z] 94]++A) (fun g R=>ig N m V g.1 g.2=some K∧True) (fun g=>g.1) (N,0) ⟨[],(pk 2 rfl (pk 0 rfl (pk 0 rfl (List.Perm.refl _))))⟩ ⟨a,trivial⟩ ?_))))
 clear a;rintro⟨C,q⟩ aL aV s ⟨a,_⟩;rcases C with _|C;exact qm a;replace a:ig N m V (C+1) q=some K:=a;rw [ig] at a;refine zn (q8 (ja rfl rfl) (z8 (zy (zz rfl a (fun a=>?_) (fun a=>?_)))))
 refine qb (zy (qa (zn (zb (vi q) (zh (vi q) (qx (q8 (ed (i:=1) zrp rfl rfl rfl) (zb (vi q) ?_))))))));obtain⟨k,au,a⟩:=zq a
 refine z6s (cs:=[(.pointer (some ⟨n,0,none⟩)),(.pointer (some ⟨j,0,none⟩)),(.pointer (some ⟨o,0,none⟩))]) (vs:=[(.int .u64 0),(vi 0),(vi q)]) (φ:=fun v=>v= .tuple #[(.int .u64 k.1),(.bool k.2)]) rfl zr9 rfl rfl (fun aW W t=>zau (z9r (zfw 2 rfl t) (jo (T:=(tSl false (zx .u64))) rfl ((I.mono s).mono W))) (z9r (zfw 0 rfl t) rfl) (z9r (zfw 1 rfl t) ⟨rfl,rfl⟩) au) fun aX av=>?_
 obtain rfl:=av;refine zb (.tuple #[(.int .u64 k.1),(.bool k.2)]) (q8 (qz rfl rfl) (q8 (qz rfl rfl) (zh (.int .u64 k.1) (zh (.bool k.2) (qx (zb (.bool k.2) (z8 (zz rfl a (fun a=>?_) (fun a=>?_)))))))));refine zn (zh vs0 (z8 ?_));obtain⟨u,c,a⟩:=zq a
 refine qi (γ:=(List Int)×Value×Frag) (rs [11,13,37,51]) (fun g=>[(11,g.2.1)]) (fun g=>[g.2.2]++A) (fun g R=>u=g.1∧ORep (zx .i64) R g.2.2 g.2.1 g.1∧True) ?_ ?_;refine zn (q8 (ed (i:=0) ag3 rfl rfl rfl) (zb (vi 0) (z8 (qa (z6a ?_)))))
 refine qy (γ:=Nat×(List Int)×Int×Value×Frag) (rs [11,13,38,51]) (fun g=>[(11,g.2.2.2.1),(38,(vi g.2.2.1))]) (fun g=>[g.2.2.2.2]++A) (fun g R=>z0e N m k g.1 g.2.1 g.2.2.1=some u∧ORep (zx .i64) R g.2.2.2.2 g.2.2.2.1 g.2.1∧True) (fun g=>g.1) (N,[],0,vs0,emp) ⟨[box j [(vi m)] 3,box o [(.func (.func 44) #[] #[(.pointer (some ⟨n,0,none⟩)),(.pointer (some ⟨j,0,none⟩)),(.pointer (some ⟨o,0,none⟩))])] 96,box n [z] 94],(pk 1 rfl (pk 1 rfl (pk 1 rfl (pk 0 rfl (List.Perm.refl _)))))⟩ ⟨c,(z3h (T:=(zx .i64))),trivial⟩ ?_
 clear c;rintro⟨E,w,e,L,Z⟩ aY aZ aa ⟨c,M,_⟩;rcases E with _|E;exact qm c;replace c:z0e N m k (E+1) w e=some u:=c;rw [z0e] at c;refine zn (q8 (ja rfl rfl) (z8 (zy (zz rfl c (fun c=>?_) (fun c=>?_)))));refine qb ?_;obtain⟨O,f,c⟩:=zq c
 refine qi (γ:=(List Int)×Value×Frag) (rs [11,13,40,50]) (fun g=>[(11,g.2.1)]) (fun g=>[g.2.2]++A) (fun g R=>O=g.1∧ORep (zx .i64) R g.2.2 g.2.1 g.1∧True) ?_ ?_;refine qa (zn (zb (vi e) (zh (vi e) (qx (zb (.int .u64 k.1) (zb (vi e) ?_))))));obtain⟨aw,f⟩:=ze f;refine q8 (z8i rfl rfl aw) ?_
 obtain⟨ax,f⟩:=ze f;refine q8 (ze9 rfl rfl ax) (q8 (ry rfl rfl) (z8 (zz rfl f (fun f=>?_) (fun f=>?_))))
 refine zu (zb L (zb (vi e) (dm (T:=(zx .i64)) (X:=([e]:List Int)) (ps:=[(0,(vi e))]) (css:=[[(vi e)]]) rfl underlying40 zo3 rfl rfl (ji ⟨rfl,trivial⟩) rfl rfl (by decide) fun ay a0 P az=>?_)));refine ku (i:=0) rfl az fun aA G aB=>?_
 have aC:VRep (tSl true (zx .i64)) aA ay ([e]:List Int):=(z0m aB P);obtain⟨ab,f⟩:=ze f;refine z10 (i:=0) (X:=w) (Y:=([e]:List Int)) rfl underlying40 zo3 rfl rfl rfl (M.mono G) (jr (Sub.v (B:=(tSl false (zx .i64))) (uw Sub.refl (fun _=>rfl)) aC)) ab.1 ab.2 fun ac aD aE=>?_;refine zh ac (z8 ?_)
 exact⟨dkt,G,jc,((w++([e]:List Int)),ac,aD),⟨rfl,trivial⟩,prm,(Option.some.inj f).symm,aE,trivial⟩;refine qb ?_;exact⟨dkt,(RH.le.refl _),jc,(w,L,Z),⟨rfl,trivial⟩,prm,(Option.some.inj f).symm,M,trivial⟩;rintro⟨O,aF,aG⟩ a1 a2 ad ⟨rfl,aH,_⟩;refine zu ?_;obtain⟨aI,c⟩:=ze c
 refine q8 (qo rfl rfl aI) (zb (vi (e+1)) (z8 ?_));exact⟨dkt,ad,jc,(E,O,e+1,aF,aG),Nat.lt_succ_self _,⟨rfl,rfl,trivial⟩,prm,c,aH,trivial⟩;refine jb ?_;exact⟨dkt,aa,jc,(w,L,Z),⟨rfl,trivial⟩,prm,(Option.some.inj c).symm,M,trivial⟩;rintro⟨u,ae,a3⟩ a4 a5 af ⟨rfl,aJ,_⟩
 refine zn (zb ae (ku (i:=0) rfl aJ fun ag Q ah=>?_));have ai:VRep (tSl false (zx .i64)) ag ae u:=(z7r ah);obtain⟨aM,aj,a⟩:=zq a;refine j3 rfl zpd rfl (z6p ai aj) fun y aN S ak=>?_;refine zh y (zh (vi 0) (z8 (qh ?_)));replace b:=z0f a b
 obtain rfl:=Option.some.inj b;refine qd (D:=[]) (J:=[]) (rs:=[.tmp 2,.tmp 3]) (vs:=[y,(vi 0)]) (((((((h.trans d).trans l).trans F).trans s).trans af).trans Q).trans S) rfl rfl ⟨rfl,rfl,trivial⟩ ?_;exact⟨rfl,⟨y,rfl,ak⟩⟩;refine qb (zu ?_);obtain⟨al,a⟩:=ze a
 refine q8 (qo rfl rfl al) (zb (vi (q+1)) (z8 ?_));exact⟨dkt,(RH.le.refl _),jc,(C,q+1),Nat.lt_succ_self _,⟨rfl,trivial⟩,prm,a,trivial⟩;refine jb ?_
 exact⟨dkt,s,jc,(),trivial,⟨[box j [(vi m)] 3,box o [(.func (.func 44) #[] #[(.pointer (some ⟨n,0,none⟩)),(.pointer (some ⟨j,0,none⟩)),(.pointer (some ⟨o,0,none⟩))])] 96,box n [z] 94],(List.Perm.refl _)⟩,(Option.some.inj a).symm,trivial⟩;rintro a6 aO a7 am ⟨rfl,_⟩;replace b:=z13 b
 refine zn (zh vs0 (zh (vi 0) (z8 (qh ?_))));obtain rfl:=Option.some.inj b;refine qd (D:=[]) (J:=[]) (rs:=[.tmp 2,.tmp 3]) (vs:=[vs0,(vi 0)]) ((((h.trans d).trans l).trans F).trans am) rfl rfl ⟨rfl,rfl,trivial⟩ ?_;exact⟨rfl,⟨vs0,rfl,z1p⟩⟩
theorem zpe:Enters prog 19:=enters_of func19 rfl (by kernel_rfl)
theorem z7d{N:Nat}{R:RH}{x:Sa}{I:Value}(s:VRep (zw false false) R I x){rows:(List Int)}{f:Value}(p:VRep (tSl false (zx .i64)) R f rows){r:(List Int)}(l:z2a N x rows=some r):CallP prog 51 #[I,f] R (fun v R'=>VRep (tSl true (zx .i64)) R' v r):=by
 refine ql (args:=[I,f]) func51 rfl rfl fun A=>?_;rw [z2a] at l;refine zn (xu (T:=(zw false false)) rfl rfl rfl s fun v1 R3 o h5 h2=>?_);refine zh vs0 (qx (q8 (jq z1i rfl rfl h5 (s.mono o)) ?_));obtain⟨y6,c7,l⟩:=zq l
 refine j3 rfl zmt rfl (fe (s.mono o) c7) fun v8 aC k h9=>?_;obtain rfl:=h9;obtain⟨y,l⟩:=ze l;refine zbf (T:=(zx .i64)) (m:=y6.toNat) (c:=y6.toNat) rfl underlying40 zo3 (zi rfl y.1) (zi rfl y.1) (Nat.le_refl _) (ze3 y) (ze0 y) fun d ac K ad=>?_;refine zh d (z8 ?_)
 obtain⟨t,b,l⟩:=zq l;refine qi (γ:=(List Int)×Frag) (rs [7,8,9,10,13,35]) (fun g=>[]) (fun g=>[g.2]++A) (fun g R=>t=g.1∧ORep (zx .i64) R g.2 d g.1∧capOf d=g.1.length∧True) ?_ ?_
 refine zn (zb f (q8 (qw rfl underlying40 rfl (jr (p.mono (o.trans k)))) (zb (vi 0) (z8 (qa (qy (γ:=Nat×Int×(List Int)×Frag) (rs [7,8,9,10,15,35]) (fun g=>[(15,(vi g.2.1))]) (fun g=>[g.2.2.2]++A) (fun g R=>fo N x rows g.1 g.2.1 g.2.2.1=some t∧ORep (zx .i64) R g.2.2.2 d g.2.2.1∧capOf d=g.2.2.1.length∧True) (fun g=>g.1) (N,0,(mk y6 (0:Int)),ac) prm ⟨b,ad,(K.trans List.length_replicate.symm),trivial⟩ ?_))))))
 clear b;rintro⟨z,q,L,P⟩ aE aF n ⟨b,Q,E,_⟩;rcases z with _|z;exact qm b;replace b:fo N x rows (z+1) q L=some t:=b;rw [fo] at b;refine zn (q8 (ja rfl rfl) (z8 (zy (zz rfl b (fun b=>?_) (fun b=>?_)))));refine qb ?_;obtain⟨u,a,b⟩:=zq b
 refine qi (γ:=(List Int)×Frag) (rs [7,8,9,10,17,34]) (fun g=>[]) (fun g=>[g.2]++A) (fun g R=>u=g.1∧ORep (zx .i64) R g.2 d g.1∧capOf d=g.1.length∧True) ?_ ?_;refine qa (zn ?_);obtain⟨S,a⟩:=ze a
 refine kv (i:=q.toNat) rfl z0p rfl (jr (p.mono ((o.trans k).trans n))) (zi rfl S.1) (q9 S) fun aG ae=>?_;refine j4 rfl ty3 rfl ae fun aH af=>?_;obtain rfl:=qc.1 af
 refine zh (vi (ix rows q)) (qx (q8 (jq z1i rfl rfl (h5.mono (k.trans n)) (s.mono ((o.trans k).trans n))) (zb (vi (ix rows q)) ?_)));obtain⟨h,ag,a⟩:=zq a;refine j3 rfl zkc rfl (oz (s.mono ((o.trans k).trans n)) ag) fun aI aJ F U=>?_
 refine q8 (qw rfl underlying40 rfl (jr U)) (zb (vi 0) (z8 (qa (qy (γ:=Nat×Int×(List Int)×Frag) (rs [9,10,23,34]) (fun g=>[(23,(vi g.2.1))]) (fun g=>[g.2.2.2]++A) (fun g R=>fq N h g.1 g.2.1 g.2.2.1=some u∧ORep (zx .i64) R g.2.2.2 d g.2.2.1∧capOf d=g.2.2.1.length∧True) (fun g=>g.1) (N,0,L,P) prm ⟨a,(Q.mono F),E,trivial⟩ ?_))))
 clear a;rintro⟨B,e,C,ah⟩ aK aL G ⟨a,w,H,_⟩;rcases B with _|B;exact qm a;replace a:fq N h (B+1) e C=some u:=a;rw [fq] at a;refine zn (q8 (ja rfl rfl) (z8 (zy (zz rfl a (fun a=>?_) (fun a=>?_)))));refine qb (zy (qa (zn ?_)))
 obtain⟨V,a⟩:=ze a;refine kv (i:=e.toNat) rfl z0p rfl (jr (U.mono G)) (zi rfl V.1) (q9 V) fun aM ai=>?_;refine j4 rfl ty3 rfl ai fun aN aj=>?_;obtain rfl:=qc.1 aj;refine zh (vi (ix h e)) (z8 (zu (zb d (zb (vi (ix h e)) ?_))));obtain⟨M,a⟩:=ze a
 refine z1v (i:=(ix h e).toNat) rfl z0p rfl w (zi rfl M.1) (q9 M) fun aO ak=>?_;refine z7x (i:=(ix h e).toNat) (j:=0) rfl ty3 w rfl rfl ak (q9 M) fun aP al=>?_;obtain rfl:=qc.1 al;obtain⟨am,a⟩:=ze a;refine q8 (qo rfl rfl am) ?_;obtain⟨O,a⟩:=ze a
 refine z1v (i:=(ix h e).toNat) rfl z0p rfl w (zi rfl O.1) (q9 O) fun aQ an=>?_;refine z4t (i:=(ix h e).toNat) (j:=0) ty3 w rfl rfl an (q9 O) rfl (qc.2 rfl) fun ao ap=>?_;refine z8 (zu ?_);obtain⟨aq,a⟩:=ze a;refine q8 (qo rfl rfl aq) (zb (vi (e+1)) (z8 ?_))
 exact⟨dkt,(RH.le.refl _),jc,(B,e+1,(up C (ix h e) ((ix C (ix h e))+1)),ao),Nat.lt_succ_self _,⟨rfl,trivial⟩,prm,a,ap,(H.trans List.length_set.symm),trivial⟩;refine jb ?_;exact⟨dkt,(F.trans G),jc,(C,ah),trivial,prm,(Option.some.inj a).symm,w,H,trivial⟩;rintro⟨u,ar⟩ aR aS W ⟨rfl,au,X,_⟩;refine zu ?_
 obtain⟨av,b⟩:=ze b;refine q8 (qo rfl rfl av) (zb (vi (q+1)) (z8 ?_));exact⟨dkt,W,jc,(z,q+1,u,ar),Nat.lt_succ_self _,⟨rfl,trivial⟩,prm,b,au,X,trivial⟩;refine jb ?_;exact⟨dkt,n,jc,(L,P),trivial,prm,(Option.some.inj b).symm,Q,E,trivial⟩;rintro⟨t,aT⟩ aU aV Y ⟨rfl,aw,Z,_⟩
 refine zn (zb d (zh d (z8 (z06 (i:=0) rfl aw fun ax aa ay=>?_))));have az:VRep (tSl true (zx .i64)) ax d t:=(z0m ay Z);refine qh ?_;obtain rfl:=Option.some.inj l;refine qd (D:=[]) (J:=[]) (rs:=[.tmp 4]) (vs:=[d]) (((o.trans k).trans Y).trans aa) rfl rfl ⟨rfl,trivial⟩ ?_;exact⟨rfl,az⟩
theorem zr1:Enters prog 51:=enters_of func51 rfl (by kernel_rfl)
theorem zc7{N:Nat}{R:RH}{x:(List Int)}{d:Value}(h:VRep (tSl false (zx .i64)) R d x){r:Int}(b:slices_Max_int N x=some r):CallP prog 78 #[d] R (fun v R'=>v=(vi r)):=by
 refine ql (args:=[d]) func78 rfl rfl fun A=>?_;rw [slices_Max_int] at b;refine zn (zh (vi 0) (z8 (zy (zn (zb d (q8 (qw rfl underlying40 rfl (jr h)) (q8 (ja rfl rfl) (z8 (zz rfl b (fun b=>?_) (fun b=>?_))))))))));exact qm b;refine qb (zn (zb d ?_));obtain⟨q,b⟩:=ze b
 refine kv (i:=(0:Int).toNat) rfl z0p rfl (jr h) (zi rfl q.1) (q9 q) fun C s=>?_;refine j4 rfl ty3 rfl s fun E t=>?_;obtain rfl:=qc.1 t;refine zh (vi (ix x 0)) (z8 ?_);obtain⟨k,a,b⟩:=zq b
 refine qi (γ:=Int) (rs [3,5,12,24]) (fun g=>[(3,(vi g))]) (fun g=>[]++A) (fun g R=>k=g∧True) ?_ ?_
 refine zn (zh (vi 1) (z8 (qa (qy (γ:=Nat×Int×Int) (rs [3,5,12,24]) (fun g=>[(3,(vi g.2.1)),(4,(vi g.2.2))]) (fun g=>[]++A) (fun g R=>l6 N x g.1 g.2.1 g.2.2=some k∧True) (fun g=>g.1) (N,(ix x 0),1) prm ⟨a,trivial⟩ ?_))));clear a;rintro⟨j,e,c⟩ u w f ⟨a,_⟩;rcases j with _|j
 exact qm a;replace a:l6 N x (j+1) e c=some k:=a;rw [l6] at a;refine zy (zn (zb (vi c) (zb d (q8 (qw rfl underlying40 rfl (jr (h.mono f))) (q8 (ja rfl rfl) (z8 (zz rfl a (fun a=>?_) (fun a=>?_))))))))
 refine qb (zy (qa (zu (zb (vi e) (zb d (zb (vi c) ?_))))));obtain⟨l,a⟩:=ze a;refine kv (i:=c.toNat) rfl z0p rfl (jr (h.mono f)) (zi rfl l.1) (q9 l) fun y m=>?_;refine j4 rfl ty3 rfl m fun z n=>?_;obtain rfl:=qc.1 n
 refine q8 (zdt rfl underlying3 rfl rfl) (zh (vi (max e (ix x c))) (z8 (zu (zb (vi c) ?_))));obtain⟨o,a⟩:=ze a;refine q8 (qo rfl rfl o) (zh (vi (c+1)) (z8 ?_));exact⟨dkt,(RH.le.refl _),jc,(j,max e (ix x c),c+1),Nat.lt_succ_self _,⟨rfl,rfl,trivial⟩,prm,a,trivial⟩;refine jb ?_
 exact⟨dkt,f,jc,e,⟨rfl,trivial⟩,prm,(Option.some.inj a).symm,trivial⟩;rintro k B F p ⟨rfl,_⟩;refine zn (zb (vi k) (zh (vi k) (z8 (qh ?_))));obtain rfl:=Option.some.inj b;refine qd (D:=[]) (J:=[]) (rs:=[.tmp 2]) (vs:=[(vi k)]) p rfl rfl ⟨rfl,trivial⟩ ?_;exact⟨rfl,rfl⟩
theorem zso:Enters prog 78:=enters_of func78 rfl (by kernel_rfl)
theorem zai{N:Nat}{R:RH}{s:(List Int)}{c:Value}(h:VRep (tSl false (zx .i64)) R c s){f:Int}{r:Int}(b:slices_Index_int N s f=some r):CallP prog 79 #[c,(vi f)] R (fun v R'=>v=(vi r)):=by
 refine ql (args:=[c,(vi f)]) func79 rfl rfl fun A=>?_;rw [slices_Index_int] at b;refine zn (zh (vi 0) (z8 ?_));obtain⟨l,a,b⟩:=zq b;refine qi (γ:=Unit) (rs [4,19]) (fun g=>[]) (fun g=>[]++A) (fun g R=>l=Ex.go g∧True) ?_ ?_
 refine zn (zb c (q8 (qw rfl underlying40 rfl (jr h)) (zb (vi 0) (z8 (qa (qy (γ:=Nat×Int) (rs [4,6,8,19]) (fun g=>[(8,(vi g.2))]) (fun g=>[]++A) (fun g R=>oh N s f g.1 g.2=some l∧True) (fun g=>g.1) (N,0) prm ⟨a,trivial⟩ ?_))))));clear a;rintro⟨k,d⟩ q x e ⟨a,_⟩;rcases k with _|k
 exact qm a;replace a:oh N s f (k+1) d=some l:=a;rw [oh] at a;refine zn (q8 (ja rfl rfl) (z8 (zy (zz rfl a (fun a=>?_) (fun a=>?_)))));refine qb (zy (qa (zn (zb (vi d) (zh (vi d) (qx (zb (vi f) (zb c (zb (vi d) ?_)))))))))
 obtain⟨j,a⟩:=ze a;refine kv (i:=d.toNat) rfl z0p rfl (jr (h.mono e)) (zi rfl j.1) (q9 j) fun t m=>?_;refine j4 rfl ty3 rfl m fun u n=>?_;obtain rfl:=qc.1 n;refine q8 (ry rfl rfl) (z8 (zz rfl a (fun a=>?_) (fun a=>?_)))
 refine zn (zb (vi d) (zh (vi d) (z8 (qh ?_))));replace b:=z0f a b;obtain rfl:=Option.some.inj b;refine qd (D:=[]) (J:=[]) (rs:=[.tmp 4]) (vs:=[(vi d)]) e rfl rfl ⟨rfl,trivial⟩ ?_;exact⟨rfl,rfl⟩;refine qb (zu ?_);obtain⟨o,a⟩:=ze a
 refine q8 (qo rfl rfl o) (zb (vi (d+1)) (z8 ?_));exact⟨dkt,(RH.le.refl _),jc,(k,d+1),Nat.lt_succ_self _,⟨rfl,trivial⟩,prm,a,trivial⟩;refine jb ?_;exact⟨dkt,e,jc,(),trivial,prm,(Option.some.inj a).symm,trivial⟩;rintro y w z p ⟨rfl,_⟩;replace b:=z13 b;refine zn (zh (vi (-1)) (z8 (qh ?_)))
 obtain rfl:=Option.some.inj b;refine qd (D:=[]) (J:=[]) (rs:=[.tmp 4]) (vs:=[(vi (-1))]) p rfl rfl ⟨rfl,trivial⟩ ?_;exact⟨rfl,rfl⟩
theorem zsu:Enters prog 79:=enters_of func79 rfl (by kernel_rfl)
theorem zcp{N:Nat}{R:RH}{h:(List Int)}{b:Value}(c:VRep (tSl false (zx .i64)) R b h){r:Int×Bool}(a:z2i N h=some r):CallP prog 50 #[b] R (fun v R'=>v= .tuple #[(vi r.1),(.bool r.2)]):=by
 refine ql (args:=[b]) func50 rfl rfl fun A=>?_;rw [z2i] at a;refine zn (zh (vi 0) (zh (.bool false) (z8 (zy (zn (zb b (q8 (qw rfl underlying40 rfl (jr c)) (q8 (ry rfl rfl) (z8 (zz rfl a (fun a=>?_) (fun a=>?_)))))))))))
 refine zn (zh (vi 0) (zh (.bool false) (z8 (qh ?_))));obtain rfl:=Option.some.inj a;refine qd (D:=[]) (J:=[]) (rs:=[.tmp 2,.tmp 3]) (vs:=[(vi 0),(.bool false)]) (RH.le.refl _) rfl rfl ⟨rfl,rfl,trivial⟩ ?_;exact⟨rfl,rfl⟩;refine qb (zn (zb b ?_));obtain⟨d,j,a⟩:=zq a
 refine j3 rfl zso rfl (zc7 c j) fun o p e k=>?_;obtain rfl:=k;refine zh (vi d) (qx (zb b (zb (vi d) ?_)));obtain⟨i,l,a⟩:=zq a;refine j3 rfl zsu rfl (zai (c.mono e) l) fun m n f g=>?_;obtain rfl:=g
 refine zb (vi d) (q8 (rf rfl rfl) (zh (vi i) (zh (.bool (decide (0<d))) (z8 (qh ?_)))));obtain rfl:=Option.some.inj a;refine qd (D:=[]) (J:=[]) (rs:=[.tmp 2,.tmp 3]) (vs:=[(vi i),(.bool (decide (0<d)))]) (e.trans f) rfl rfl ⟨rfl,rfl,trivial⟩ ?_;exact⟨rfl,rfl⟩
theorem zrj:Enters prog 50:=enters_of func50 rfl (by kernel_rfl)
theorem z4o{N:Nat}{R:RH}{s:(List Int)}{c:Value}(k:VRep (tSl false (zx .i64)) R c s){f:Int→Option Bool}{e:Value}(n:FOk1 prog R e (zx .i64) z3m f){r:Int}(b:iq N s f=some r):CallP prog 80 #[c,e] R (fun v R'=>v=(vi r)):=by
 refine ql (args:=[c,e]) func80 rfl rfl fun A=>?_;rw [iq] at b;refine zn (zh (vi 0) (z8 ?_));obtain⟨o,a,b⟩:=zq b;refine qi (γ:=Unit) (rs [4,19]) (fun g=>[]) (fun g=>[]++A) (fun g R=>o=Ex.go g∧True) ?_ ?_
 refine zn (zb c (q8 (qw rfl underlying40 rfl (jr k)) (zb (vi 0) (z8 (qa (qy (γ:=Nat×Int) (rs [4,6,8,19]) (fun g=>[(8,(vi g.2))]) (fun g=>[]++A) (fun g R=>u6 N s f g.1 g.2=some o∧True) (fun g=>g.1) (N,0) prm ⟨a,trivial⟩ ?_))))));clear a;rintro⟨m,d⟩ y H h ⟨a,_⟩;rcases m with _|m
 exact qm a;replace a:u6 N s f (m+1) d=some o:=a;rw [u6] at a;refine zn (q8 (ja rfl rfl) (z8 (zy (zz rfl a (fun a=>?_) (fun a=>?_)))));refine qb (zy (qa (zn (zb (vi d) (zh (vi d) (qx (zb e (zb c (zb (vi d) ?_)))))))))
 obtain⟨l,a⟩:=ze a;refine kv (i:=d.toNat) rfl z0p rfl (jr (k.mono h)) (zi rfl l.1) (q9 l) fun z p=>?_;refine j4 rfl ty3 rfl p fun B q=>?_;obtain rfl:=qc.1 q;obtain⟨C,t,a⟩:=zq a;refine z88 rfl rfl rfl ((n.mono h) _ (RH.le.refl _) (ix s d) _ _ (qc.2 rfl) t) fun E F j u=>?_
 obtain rfl:=rq.1 u;refine z8 (zz rfl a (fun a=>?_) (fun a=>?_));refine zn (zb (vi d) (zh (vi d) (z8 (qh ?_))));replace b:=z0f a b;obtain rfl:=Option.some.inj b;refine qd (D:=[]) (J:=[]) (rs:=[.tmp 4]) (vs:=[(vi d)]) (h.trans j) rfl rfl ⟨rfl,trivial⟩ ?_;exact⟨rfl,rfl⟩
 refine qb (zu ?_);obtain⟨w,a⟩:=ze a;refine q8 (qo rfl rfl w) (zb (vi (d+1)) (z8 ?_));exact⟨dkt,j,jc,(m,d+1),Nat.lt_succ_self _,⟨rfl,trivial⟩,prm,a,trivial⟩;refine jb ?_;exact⟨dkt,h,jc,(),trivial,prm,(Option.some.inj a).symm,trivial⟩;rintro I G K x ⟨rfl,_⟩;replace b:=z13 b
 refine zn (zh (vi (-1)) (z8 (qh ?_)));obtain rfl:=Option.some.inj b;refine qd (D:=[]) (J:=[]) (rs:=[.tmp 4]) (vs:=[(vi (-1))]) x rfl rfl ⟨rfl,trivial⟩ ?_;exact⟨rfl,rfl⟩
theorem zq9:Enters prog 80:=enters_of func80 rfl (by kernel_rfl)
end GV
end Go.Proofs.YtkhihcleegljhaaGreat
