import Derived.Test.YtkhihcleegljhaaGreatShWd
import Derived.Test.YtkhihcleegljhaaGreatRows
set_option linter.unusedVariables false
set_option linter.unusedSimpArgs false
namespace Go.Proofs.YtkhihcleegljhaaGreat
namespace GV
open _root_.Go.Proofs.Tryz
open Go.IntWalk
set_option maxRecDepth 100000
set_option maxHeartbeats 20000000
theorem znz:Enters prog 119:=enters_of func119 rfl (by kernel_rfl)
theorem zn2:Enters prog 92:=enters_of func92 rfl (by kernel_rfl)
theorem z3j{N:Nat}(F:Nat): ∀ {R:RH} {data:List Int} {c:Value} {fC:Frag} (G:ORep (zu .u64) R fC c data) {a:Int} {b:Int} {limit:Int} {r:List Int} (d:yx N F data a b limit=some r),CallG prog 92 #[c,(vi a),(vi b),(vi limit)] R [fC] (fun v R' O'=> ∃ H,v= .tuple #[]∧O'=[H]∧ORep (zu .u64) R' H c r):=by
  induction F with
  |zero=>intros;rename_i d;exact qj d
  |succ F ih=>
    intro R data c fC G a b limit r d
    refine ym (args:=[c,(vi a),(vi b),(vi limit)]) func92 rfl rfl fun A=>?_
    rw [yx] at d
    refine zt ?_
    refine zy ?_
    refine zh (.bool true) ?_
    refine z8 ?_
    refine zt ?_
    refine zy ?_
    refine zh (.bool true) ?_
    refine z8 ?_
    refine qc ?_
    refine qx (γ:=Nat×Int×Int×Int×Bool×Bool×(List Int)×Frag) (rs [1,4,8,134]) (fun g=>[(1,(vi g.2.1)),(2,(vi g.2.2.1)),(3,(vi g.2.2.2.1)),(8,(.bool g.2.2.2.2.1)),(9,(.bool g.2.2.2.2.2.1))]) (fun g=>[g.2.2.2.2.2.2.2]++A) (fun g R=>ww N (yx N F) g.1 g.2.1 g.2.2.1 g.2.2.2.1 g.2.2.2.2.1 g.2.2.2.2.2.1 g.2.2.2.2.2.2.1=some r∧ORep (zu .u64) R g.2.2.2.2.2.2.2 c g.2.2.2.2.2.2.1∧True) (fun g=>g.1) (N,a,b,limit,true,true,data,fC) prm ⟨d,G,trivial⟩ ?_
    clear d
    rintro⟨F1,f,m,x4,x5,x6,x7,U⟩ b0 R8 aa ⟨d,V,_⟩
    rcases F1 with _|F1
    · exact qj d
    replace d:ww N (yx N F) (F1+1) f m x4 x5 x6 x7=some r:=d;rw [ww] at d
    refine qc ?_
    refine zt ?_
    refine zy ?_
    refine zb (vi m) ?_
    refine zb (vi f) ?_
    obtain⟨bk,d⟩:=ze d
    refine zz (kv rfl rfl bk) ?_
    refine zh (vi (m-f)) ?_
    refine z8 ?_
    refine zt ?_
    refine zt ?_
    refine zy ?_
    refine zb (vi (m-f)) ?_
    refine zz (z4x rfl rfl) ?_
    refine z8 ?_
    refine zq rfl d (fun d=>?_) (fun d=>?_)
    · refine zt ?_
      refine zy ?_
      refine zb c ?_
      refine zb (vi f) ?_
      refine zb (vi m) ?_
      obtain⟨cM,bl,d⟩:=zn d
      refine xu (Oc:=[U]) (Or:=[]++A) (cs:=[]) (vs:=[c,(vi f),(vi m)]) rfl zni rfl rfl ((pk 0 rfl (List.Perm.refl _))) (z2y V bl) fun cN cO b1 ai bm=>?_
      obtain⟨aj,rfl,rfl,bn⟩:=bm
      refine z8 ?_
      refine qf ?_
      obtain rfl:=Option.some.inj d
      refine um (D:=[]) (J:=[]) (O':=[aj]) (rs:=[]) (vs:=[]) (aa.trans ai) ((pk 0 rfl (List.Perm.refl _))) rfl trivial ?_
      exact⟨aj,rfl,rfl,bn⟩
    · refine q8 ?_
      refine zt ?_
      refine zt ?_
      refine zy ?_
      refine zb (vi x4) ?_
      refine zz (ow rfl rfl) ?_
      refine z8 ?_
      refine zq rfl d (fun d=>?_) (fun d=>?_)
      · refine zt ?_
        refine zy ?_
        refine zb c ?_
        refine zb (vi f) ?_
        refine zb (vi m) ?_
        obtain⟨cP,bo,d⟩:=zn d
        refine xu (Oc:=[U]) (Or:=[]++A) (cs:=[]) (vs:=[c,(vi f),(vi m)]) rfl zow rfl rfl ((pk 0 rfl (List.Perm.refl _))) (z4z V bo) fun cQ cR b2 ak bp=>?_
        obtain⟨al,rfl,rfl,bq⟩:=bp
        refine z8 ?_
        refine qf ?_
        obtain rfl:=Option.some.inj d
        refine um (D:=[]) (J:=[]) (O':=[al]) (rs:=[]) (vs:=[]) (aa.trans ak) ((pk 0 rfl (List.Perm.refl _))) rfl trivial ?_
        exact⟨al,rfl,rfl,bq⟩
      · refine q8 ?_
        obtain⟨t,k,d⟩:=zn d
        refine qm (γ:=(Int×List Int)×Frag) (rs [3,4,34,42]) (fun g=>[(3,(vi g.1.1))]) (fun g=>[g.2]++A) (fun g R=>t=g.1∧ORep (zu .u64) R g.2 c g.1.2∧True) ?_ ?_
        · refine zt ?_
          refine zy ?_
          refine zb (.bool x5) ?_
          refine zz (au rfl) ?_
          refine z8 ?_
          refine zq rfl k (fun k=>?_) (fun k=>?_)
          · refine zt ?_
            refine zy ?_
            refine zb c ?_
            refine zb (vi f) ?_
            refine zb (vi m) ?_
            obtain⟨br,bs,k⟩:=zn k
            refine xu (Oc:=[U]) (Or:=[]++A) (cs:=[]) (vs:=[c,(vi f),(vi m)]) rfl znr rfl rfl ((pk 0 rfl (List.Perm.refl _))) (z3c V bs) fun cS cT b3 am bt=>?_
            obtain⟨bu,rfl,rfl,bv⟩:=bt
            refine z8 ?_
            refine zy ?_
            refine zb (vi x4) ?_
            obtain⟨bw,k⟩:=ze k
            refine zz (kv rfl rfl bw) ?_
            refine zh (vi (x4-1)) ?_
            refine z8 ?_
            exact⟨dkt,am,jd,((x4-1,br),bu),⟨rfl,trivial⟩,prm,(Option.some.inj k).symm,bv,trivial⟩
          · refine q8 ?_
            exact⟨dkt,(RH.le.refl _),jd,((x4,x7),U),⟨rfl,trivial⟩,prm,(Option.some.inj k).symm,V,trivial⟩
        · rintro⟨t,an⟩ cU cV I ⟨rfl,ab,_⟩
          refine zt ?_
          refine zy ?_
          refine zb c ?_
          refine zb (vi f) ?_
          refine zb (vi m) ?_
          obtain⟨s,bx,d⟩:=zn d
          refine z6v (cs:=[]) (vs:=[c,(vi f),(vi m)]) (φ:=fun v=>v= .tuple #[(vi s.1),(vi s.2)]) rfl zny rfl rfl (fun bz ao ap=>z3w (z8x ((z9z 0 rfl ab ao ap):VRep (bf (zu .u64)) bz c t.2)) bx) fun cW bA=>?_
          obtain rfl:=bA
          refine zb (.tuple #[(vi s.1),(vi s.2)]) ?_
          refine zz (ja rfl rfl) ?_
          refine zz (ja rfl rfl) ?_
          refine zh (vi s.1) ?_
          refine zh (vi s.2) ?_
          refine z8 ?_
          obtain⟨n,k,d⟩:=zn d
          refine qm (γ:=(Int×Int×List Int)×Frag) (rs [11,13,49,61]) (fun g=>[(11,(vi g.1.1)),(12,(vi g.1.2.1))]) (fun g=>[g.2]++A) (fun g R=>n=g.1∧ORep (zu .u64) R g.2 c g.1.2.2∧True) ?_ ?_
          · refine zt ?_
            refine zy ?_
            refine zb (vi s.2) ?_
            refine zz (ow rfl rfl) ?_
            refine z8 ?_
            refine zq rfl k (fun k=>?_) (fun k=>?_)
            · refine zt ?_
              refine zy ?_
              refine zb c ?_
              refine zb (vi f) ?_
              refine zb (vi m) ?_
              obtain⟨bB,bC,k⟩:=zn k
              refine xu (Oc:=[an]) (Or:=[]++A) (cs:=[]) (vs:=[c,(vi f),(vi m)]) rfl znc rfl rfl ((pk 0 rfl (List.Perm.refl _))) (z3h ab bC) fun cX cY b4 aq bD=>?_
              obtain⟨bE,rfl,rfl,bF⟩:=bD
              refine z8 ?_
              refine zt ?_
              refine zy ?_
              refine zb (vi m) ?_
              obtain⟨bG,k⟩:=ze k
              refine zz (kv rfl rfl bG) ?_
              refine zb (vi s.1) ?_
              refine zb (vi f) ?_
              obtain⟨bH,k⟩:=ze k
              refine zz (kv rfl rfl bH) ?_
              obtain⟨bI,k⟩:=ze k
              refine zz (kv rfl rfl bI) ?_
              refine zh (vi ((m-1)-(s.1-f))) ?_
              refine z8 ?_
              refine zy ?_
              refine zh (vi 1) ?_
              refine z8 ?_
              exact⟨dkt,aq,jd,(((m-1)-(s.1-f),1,bB),bE),⟨rfl,rfl,trivial⟩,prm,(Option.some.inj k).symm,bF,trivial⟩
            · refine q8 ?_
              exact⟨dkt,(RH.le.refl _),jd,((s.1,s.2,t.2),an),⟨rfl,rfl,trivial⟩,prm,(Option.some.inj k).symm,ab,trivial⟩
          · rintro⟨n,ar⟩ cZ c0 K ⟨rfl,aw,_⟩
            obtain⟨bJ,k,d⟩:=zn d
            refine qm (γ:=(List Int)×Frag) (rs [61,73]) (fun g=>[]) (fun g=>[g.2]++A) (fun g R=>bJ=Ex.go g.1∧ORep (zu .u64) R g.2 c g.1∧True) ?_ ?_
            · refine zt ?_
              refine zy ?_
              refine jg (v:=(.bool x5)) rfl (za rfl) ?_
              refine jg (v:=(.bool x5)) rfl (za rfl) ?_
              refine qz rfl rfl rfl rfl (fun p=>qo (v:=(.bool x6)) (za rfl)) fun c1 bK=>?_
              refine jg rfl (pu rfl (fun hb=>(bK.1 (zo rfl hb))) rfl) ?_
              refine jg (v:=(.bool (x5&&x6))) rfl (za rfl) ?_
              refine qz rfl rfl rfl rfl (fun p=>qo (v:=(vi n.2.1)) (za rfl)) fun c2 bL=>?_
              refine qz rfl rfl rfl rfl (fun p=>qo (ow (bL.1 (zo rfl p)) rfl)) fun c3 bM=>?_
              refine jg rfl (pu rfl (fun hb=>(bM.1 (zo rfl hb))) rfl) ?_
              refine z8 ?_
              refine zq rfl k (fun k=>?_) (fun k=>?_)
              · refine zt ?_
                refine zy ?_
                refine zb c ?_
                refine zb (vi f) ?_
                refine zb (vi m) ?_
                obtain⟨ay,az,k⟩:=zn k
                refine xu (Oc:=[ar]) (Or:=[]++A) (cs:=[]) (vs:=[c,(vi f),(vi m)]) rfl znw rfl rfl ((pk 0 rfl (List.Perm.refl _))) (z1k aw az) fun b5 b6 bN M aA=>?_
                obtain⟨O,rfl,rfl,W⟩:=aA
                refine z8 ?_
                refine zq rfl k (fun k=>?_) (fun k=>?_)
                · refine qf ?_
                  replace d:=mg k d
                  obtain rfl:=Option.some.inj d
                  refine um (D:=[]) (J:=[]) (O':=[O]) (rs:=[]) (vs:=[]) (((aa.trans I).trans K).trans M) ((pk 0 rfl (List.Perm.refl _))) rfl trivial ?_
                  exact⟨O,rfl,rfl,W⟩
                · refine q8 ?_
                  exact⟨dkt,M,jd,(ay.2,O),trivial,prm,(Option.some.inj k).symm,W,trivial⟩
              · refine q8 ?_
                exact⟨dkt,(RH.le.refl _),jd,(n.2.2,ar),trivial,prm,(Option.some.inj k).symm,aw,trivial⟩
            · rintro⟨x,aB⟩ b7 c4 P ⟨rfl,L,_⟩
              replace d:=ll d
              refine zt ?_
              refine zt ?_
              obtain⟨aC,Q,S,d⟩:=zkr d
              obtain⟨B,aD,d⟩:=zn d
              refine xz 15 [] [phX (vi f),phX (.bool (decide (0<f))),phX (.bool (decide (0<f))),phG (true&&((decide (0<f))==true)) (phX c),phG (true&&((decide (0<f))==true)) (phX (vi f)),phG (true&&((decide (0<f))==true)) (phX (vi (f-1))),phG (true&&((decide (0<f))==true)) ((fun u _=>uw (zu .u64) c x u (f-1).toNat)),phG (true&&((decide (0<f))==true)) (phX (.int .u64 (ix x (f-1)))),phG (true&&((decide (0<f))==true)) (phX c),phG (true&&((decide (0<f))==true)) (phX (vi n.1)),phG (true&&((decide (0<f))==true)) ((fun u _=>uw (zu .u64) c x u n.1.toNat)),phG (true&&((decide (0<f))==true)) (phX (.int .u64 (ix x n.1))),phG (true&&((decide (0<f))==true)) (phX (.bool (B.getD default))),phG (true&&((decide (0<f))==true)) (phX (.bool (!(B.getD default)))),phX (.bool ((decide (0<f))&&(!(B.getD default))))] mixed (by kernel_rfl) (vw ⟨zg,zg,zg,(ql zg),(ql zg),(ql zg),(ql (fun _ _ _ _ h=>h)),(ql zg),(ql zg),(ql zg),(ql (fun _ _ _ _ h=>h)),(ql zg),(ql zg),(ql zg),zg,trivial⟩) ⟨?_,?_,?_,?_,?_,?_,?_,?_,?_,?_,?_,?_,?_,?_,?_,trivial⟩ fun b8 w=>?_
              · intro l c5 o y hd
                have a1:l 1=(vi f):=y 1 rfl
                exact zf rfl rfl rfl (zk (za a1))
              · rintro l c6 o y ⟨q,_⟩
                have bP:=q rfl
                exact zf rfl rfl rfl (zk (vz bP rfl))
              · rintro l c7 o y ⟨q,_⟩
                have bQ:=q rfl
                exact zf rfl rfl rfl (zk (za bQ))
              · rintro l c8 o y ⟨q,_⟩
                have a0:l 0=c:=y 0 rfl
                exact zw (Gj:=true) (Bj:=decide (0<f)) rfl rfl rfl (jk (q rfl)) rfl (fun z p=>zk (za a0))
              · rintro l c9 o y ⟨q,_⟩
                have a1:l 1=(vi f):=y 1 rfl
                exact zw (Gj:=true) (Bj:=decide (0<f)) rfl rfl rfl (jk (q rfl)) rfl (fun z p=>zk (za a1))
              · rintro l da o y ⟨q,E,_⟩
                have aE:=q rfl
                exact zw (Gj:=true) (Bj:=decide (0<f)) rfl rfl rfl (jk (E rfl)) rfl (fun z p=>zk (kv (show l 77=(vi f) from aE.1 (zo rfl p)) rfl (aC (zo z p))))
              · rintro l db o y ⟨q,E,d2,_⟩
                have aG:=q rfl
                have aH:=E rfl
                exact zw (Gj:=true) (Bj:=decide (0<f)) rfl rfl rfl (jk (d2 rfl)) rfl (fun z p=>qh (i:=(f-1).toNat) yh (show l 76=c from aG.1 (zo rfl p)) (L.mono o) (zi (show l 78=(vi (f-1)) from aH.1 (zo rfl p)) (Q (zo z p)).1) (zx (Q (zo z p))))
              · rintro l dc o y ⟨q,E,_⟩
                have aI:=q rfl
                exact zw (Gj:=true) (Bj:=decide (0<f)) rfl rfl rfl (jk (E rfl)) rfl (fun z p=>jb (jh (i:=(f-1).toNat) (j:=0) yg (L.mono o) rfl rfl (aI.1 (zo rfl p)) (zx (Q (zo z p)))) (fun _ _ h=>qd.1 h))
              · rintro l dd o y ⟨q,_⟩
                have a0:l 0=c:=y 0 rfl
                exact zw (Gj:=true) (Bj:=decide (0<f)) rfl rfl rfl (jk (q rfl)) rfl (fun z p=>zk (za a0))
              · rintro l de o y ⟨q,_⟩
                have bS:l 11=(vi n.1):=y 11 rfl
                exact zw (Gj:=true) (Bj:=decide (0<f)) rfl rfl rfl (jk (q rfl)) rfl (fun z p=>zk (za bS))
              · rintro l b9 o y ⟨q,E,d2,_⟩
                have aJ:=q rfl
                have aK:=E rfl
                exact zw (Gj:=true) (Bj:=decide (0<f)) rfl rfl rfl (jk (d2 rfl)) rfl (fun z p=>qh (i:=n.1.toNat) yh (show l 81=c from aJ.1 (zo rfl p)) (L.mono o) (zi (show l 82=(vi n.1) from aK.1 (zo rfl p)) (S (zo z p)).1) (zx (S (zo z p))))
              · rintro l ca o y ⟨q,E,_⟩
                have aL:=q rfl
                exact zw (Gj:=true) (Bj:=decide (0<f)) rfl rfl rfl (jk (E rfl)) rfl (fun z p=>jb (jh (i:=n.1.toNat) (j:=0) yg (L.mono o) rfl rfl (aL.1 (zo rfl p)) (zx (S (zo z p)))) (fun _ _ h=>qd.1 h))
              · rintro l X o y ⟨q,E,d2,d3,_⟩
                have aM:phG (true&&((decide (0<f))==true)) (phX (.int .u64 (ix x (f-1)))) (l 80) X:=q rfl
                have aN:phG (true&&((decide (0<f))==true)) (phX (.int .u64 (ix x n.1))) (l 84) X:=E rfl
                exact zw (Gj:=true) (Bj:=decide (0<f)) rfl rfl rfl (jk (d2 rfl)) rfl (fun z p=>kw (vs:=[(.int .u64 (ix x (f-1))),(.int .u64 (ix x n.1))]) z6u (by simp only [List.map,ev,(show l 80=(.int .u64 (ix x (f-1))) from aM.1 (zo rfl p)),(show l 84=(.int .u64 (ix x n.1)) from aN.1 (zo rfl p))]<;>rfl) ((by have bT:=(av aD (zo z p));exact yt  bT)) (fun _ _ h=>h))
              · rintro l cb o y ⟨q,E,_⟩
                have aO:=q rfl
                exact zw (Gj:=true) (Bj:=decide (0<f)) rfl rfl rfl (jk (E rfl)) rfl (fun z p=>zk (au (show l 85=(.bool (B.getD default)) from aO.1 (zo rfl p))))
              · rintro l cc o y ⟨q,E,_⟩
                have bU:=q rfl
                have aP:=E rfl
                exact zf rfl rfl rfl (zk (pu bU (fun hb=>(show l 86=(.bool (!(B.getD default))) from aP.1 (zo rfl hb))) rfl))
              intro cd aQ
              intro ce aR
              intro cf aS
              intro cg ch
              intro ci cj
              intro ck cl
              intro cm cn
              intro co cp
              intro cq cr
              intro ct cu
              intro cv cw
              intro cx cy
              intro cz cA
              intro cB cC
              intro cD aT
              obtain rfl:=Eq.symm aQ
              obtain rfl:=Eq.symm aR
              obtain rfl:=Eq.symm aS
              obtain rfl:=Eq.symm aT
              refine z8 ?_
              refine zq rfl d (fun d=>?_) (fun d=>?_)
              · refine zt ?_
                refine zy ?_
                refine zb c ?_
                refine zb (vi f) ?_
                refine zb (vi m) ?_
                refine zb (vi n.1) ?_
                obtain⟨C,aU,d⟩:=zn d
                refine xu (Oc:=[aB]) (Or:=[]++A) (cs:=[]) (vs:=[c,(vi f),(vi m),(vi n.1)]) rfl zo0 rfl rfl ((pk 0 rfl (List.Perm.refl _))) (z2n (L.mono w) aU) fun cE cF bV ac aV=>?_
                obtain⟨aW,rfl,rfl,aX⟩:=aV
                refine zh (vi C.1) ?_
                refine z8 ?_
                refine zt ?_
                refine zy ?_
                refine zb (vi C.1) ?_
                refine zh (vi C.1) ?_
                refine z8 ?_
                refine jc ?_
                exact⟨dkt,((((I.trans K).trans P).trans w).trans ac),jd,(F1,C.1,m,t.1,x5,x6,C.2,aW),Nat.lt_succ_self _,⟨rfl,rfl,rfl,rfl,rfl,trivial⟩,prm,d,aX,trivial⟩
              · refine q8 ?_
                refine zt ?_
                refine zy ?_
                refine zb c ?_
                refine zb (vi f) ?_
                refine zb (vi m) ?_
                refine zb (vi n.1) ?_
                obtain⟨e,aY,d⟩:=zn d
                refine xu (Oc:=[aB]) (Or:=[]++A) (cs:=[]) (vs:=[c,(vi f),(vi m),(vi n.1)]) rfl znz rfl rfl ((pk 0 rfl (List.Perm.refl _))) (z4k (L.mono w) aY) fun cG cH bW T aZ=>?_
                obtain⟨Y,rfl,rfl,Z⟩:=aZ
                refine zb (.tuple #[(vi e.1),(.bool e.2.1)]) ?_
                refine zz (ja rfl rfl) ?_
                refine zz (ja rfl rfl) ?_
                refine zh (vi e.1) ?_
                refine zh (.bool e.2.1) ?_
                refine z8 ?_
                refine zt ?_
                refine zy ?_
                refine zb (.bool e.2.1) ?_
                refine zh (.bool e.2.1) ?_
                refine z8 ?_
                refine zt ?_
                refine zy ?_
                refine zb (vi e.1) ?_
                refine zb (vi f) ?_
                obtain⟨a2,d⟩:=ze d
                refine zz (kv rfl rfl a2) ?_
                refine zb (vi m) ?_
                refine zb (vi e.1) ?_
                obtain⟨a3,d⟩:=ze d
                refine zz (kv rfl rfl a3) ?_
                refine zh (vi (e.1-f)) ?_
                refine zh (vi (m-e.1)) ?_
                refine z8 ?_
                refine zt ?_
                refine zy ?_
                refine zb (vi (m-f)) ?_
                obtain⟨a4,d⟩:=ze d
                refine zz (z6g rfl rfl a4) ?_
                refine zh (vi ((m-f)/8)) ?_
                refine z8 ?_
                refine zt ?_
                refine zy ?_
                refine zb (vi (e.1-f)) ?_
                refine zb (vi (m-e.1)) ?_
                refine zz (j4 rfl rfl) ?_
                refine z8 ?_
                refine zq rfl d (fun d=>?_) (fun d=>?_)
                · refine zt ?_
                  refine zy ?_
                  refine zb (vi (e.1-f)) ?_
                  refine zb (vi ((m-f)/8)) ?_
                  refine zz (dm rfl rfl) ?_
                  refine zh (.bool (decide (((m-f)/8)≤(e.1-f)))) ?_
                  refine z8 ?_
                  refine zt ?_
                  refine zy ?_
                  refine zb c ?_
                  refine zb (vi f) ?_
                  refine zb (vi e.1) ?_
                  refine zb (vi t.1) ?_
                  obtain⟨a5,a6,d⟩:=zn d
                  refine xu (Oc:=[Y]) (Or:=[]++A) (cs:=[]) (vs:=[c,(vi f),(vi e.1),(vi t.1)]) rfl zn2 rfl rfl ((pk 0 rfl (List.Perm.refl _))) (ih Z a6) fun cI cJ bX ad a7=>?_
                  obtain⟨a8,rfl,rfl,a9⟩:=a7
                  refine z8 ?_
                  refine zy ?_
                  refine zb (vi e.1) ?_
                  obtain⟨ba,d⟩:=ze d
                  refine zz (qp rfl rfl ba) ?_
                  refine zh (vi (e.1+1)) ?_
                  refine z8 ?_
                  exact⟨dkt,(((((I.trans K).trans P).trans w).trans T).trans ad),jd,(F1,e.1+1,m,t.1,decide (((m-f)/8)≤(e.1-f)),e.2.1,a5,a8),Nat.lt_succ_self _,⟨rfl,rfl,rfl,rfl,rfl,trivial⟩,prm,d,a9,trivial⟩
                · refine zt ?_
                  refine zy ?_
                  refine zb (vi (m-e.1)) ?_
                  refine zb (vi ((m-f)/8)) ?_
                  refine zz (dm rfl rfl) ?_
                  refine zh (.bool (decide (((m-f)/8)≤(m-e.1)))) ?_
                  refine z8 ?_
                  refine zt ?_
                  refine zy ?_
                  refine zb c ?_
                  refine zb (vi e.1) ?_
                  obtain⟨bb,d⟩:=ze d
                  refine zz (qp rfl rfl bb) ?_
                  refine zb (vi m) ?_
                  refine zb (vi t.1) ?_
                  obtain⟨bc,be,d⟩:=zn d
                  refine xu (Oc:=[Y]) (Or:=[]++A) (cs:=[]) (vs:=[c,(vi (e.1+1)),(vi m),(vi t.1)]) rfl zn2 rfl rfl ((pk 0 rfl (List.Perm.refl _))) (ih Z be) fun cK cL bY ae bg=>?_
                  obtain⟨bh,rfl,rfl,bi⟩:=bg
                  refine z8 ?_
                  refine zy ?_
                  refine zb (vi e.1) ?_
                  refine zh (vi e.1) ?_
                  refine z8 ?_
                  exact⟨dkt,(((((I.trans K).trans P).trans w).trans T).trans ae),jd,(F1,f,e.1,t.1,decide (((m-f)/8)≤(m-e.1)),e.2.1,bc,bh),Nat.lt_succ_self _,⟨rfl,rfl,rfl,rfl,rfl,trivial⟩,prm,d,bi,trivial⟩
theorem z5l{N:Nat}{R:RH}{data:List Int}{c:Value}{fC:Frag}(e:ORep (zu .u64) R fC c data){a:Int}{b:Int}{limit:Int}{r:List Int}(f:yx N N data a b limit=some r):CallG prog 92 #[c,(vi a),(vi b),(vi limit)] R [fC] (fun v R' O'=> ∃ d,v= .tuple #[]∧O'=[d]∧ORep (zu .u64) R' d c r):=z3j N e f
theorem za1{N:Nat}{R:RH}{x:List Int}{a:Value}{fH:Frag}(c:ORep (zu .u64) R fH a x){r:List Int}(b:z4t N x=some r):CallG prog 75 #[a] R [fH] (fun v R' O'=> ∃ d,v= .tuple #[]∧O'=[d]∧ORep (zu .u64) R' d a r):=by
 refine ym (args:=[a]) func75 rfl rfl fun A=>?_;rw [z4t] at b;refine zl (zb a (zz (z3n rfl underlying94 rfl c) (zh (vi (↑x.length:Int)) (z8 (zy (zb a (zb (vi (↑x.length:Int)) (zb (vi (↑x.length:Int)) (zz (z6c underlying3 underlying93 rfl) ?_)))))))))
 obtain⟨k,l,b⟩:=zn b;refine qy rfl zov rfl (z8m  l) fun p q e m=>?_;obtain rfl:=m;obtain⟨s,n,b⟩:=zn b
 refine xu (Oc:=[fH]) (Or:=[]++A) (cs:=[]) (vs:=[a,(vi 0),(vi (↑x.length:Int)),(vi k)]) rfl zn2 rfl rfl ((pk 0 rfl (List.Perm.refl _))) (z5l (c.mono e) n) fun t o j f h=>?_;obtain⟨g,rfl,rfl,i⟩:=h;refine z8 ?_;show z8l _ _ _ _ _ .ret _ [] _ _;obtain rfl:=Option.some.inj b
 refine um (D:=[]) (J:=[]) (O':=[g]) (rs:=[]) (vs:=[]) (e.trans f) ((pk 0 rfl (List.Perm.refl _))) rfl trivial ?_;exact⟨g,rfl,rfl,i⟩
theorem zqb:Enters prog 75:=enters_of func75 rfl (by kernel_rfl)
theorem z8n{N:Nat}{R:RH}{s:List Int}{b:Value}{fD:Frag}(y:ORep (zu .u64) R fD b s){r:(List Int)}(o:z2k N s=some r):CallG prog 76 #[b] R [fD] (fun v R' O'=> ∃ u0,v=u0∧O'=[]∧VRep (tSl false (zu .u64)) R' u0 r):=by
 refine ym (args:=[b]) func76 rfl rfl fun A=>?_;rw [z2k] at o;refine zl (zh vs0 (z8 (zt (zl (zb b (zz (z3n rfl underlying94 rfl y) (zz (j4 rfl rfl) (z8 (zq rfl o (fun o=>?_) (fun o=>?_))))))))))
 refine zl (zb b (zh b (z8 (z02 (i:=0) rfl y fun R2 aB h4=>?_))));have h5:VRep (tSl false (zu .u64)) R2 b s:=(z8x h4);refine qf ?_;obtain rfl:=Option.some.inj o;refine um (D:=[]) (J:=[]) (O':=[]) (rs:=[.tmp 2]) (vs:=[b]) aB ((List.Perm.refl _)) rfl ⟨rfl,trivial⟩ ?_;exact⟨b,rfl,rfl,h5⟩;refine q8 ?_
 obtain⟨q7,c,o⟩:=zn o;refine qm (γ:=Unit) (rs [2,6,10,60]) (fun g=>[]) (fun g=>[fD]++A) (fun g R=>q7=Ex.go g∧True) ?_ ?_
 refine zl (zh (vi 1) (z8 (qc (qx (γ:=Nat×Int) (rs [2,6,10,60]) (fun g=>[(3,(vi g.2))]) (fun g=>[fD]++A) (fun g R=>sw N s g.1 g.2=some q7∧True) (fun g=>g.1) (N,1) prm ⟨c,trivial⟩ ?_))));clear c;rintro⟨Q,a⟩ aZ bf m ⟨c,_⟩;rcases Q with _|Q;exact qj c
 replace c:sw N s (Q+1) a=some q7:=c;rw [sw] at c;refine zt (zl (zb (vi a) (zb b (zz (z3n rfl underlying94 rfl (y.mono m)) (zz (j4 rfl rfl) (z8 (zq rfl c (fun c=>?_) (fun c=>?_))))))))
 refine q8 (zt (qc (zt (z3r 10 mixed (by kernel_rfl) (by kernel_rfl) ?_))));refine pg (v:=b) (za rfl) ?_;refine pg (v:=(vi a)) (za rfl) ?_;obtain⟨X,c⟩:=ze c;refine z7y (z9m (i:=a.toNat) yh rfl (y.mono m) (zi rfl X.1) (zx X)) fun bg aD=>?_
 refine pg (ib (zae (i:=a.toNat) (j:=0) yg (y.mono m) rfl rfl aD (zx X))) ?_;refine pg (v:=b) (za rfl) ?_;refine pg (v:=(vi a)) (za rfl) ?_;obtain⟨aE,c⟩:=ze c;refine pg (kv rfl rfl aE) ?_;obtain⟨Y,c⟩:=ze c
 refine z7y (z9m (i:=(a-1).toNat) yh rfl (y.mono m) (zi rfl Y.1) (zx Y)) fun bh aF=>?_;refine pg (ib (zae (i:=(a-1).toNat) (j:=0) yg (y.mono m) rfl rfl aF (zx Y))) ?_;refine pg (ow rfl rfl) ?_;intro bi C;refine z8 (zq rfl c (fun c=>?_) (fun c=>?_))
 refine zl (zb b (zb (vi a) ?_));obtain⟨Z,c⟩:=ze c;refine z2l rfl (zk (z8t (lo:=a.toNat) (hi:=s.length) yh rfl (y.mono (m.trans C)) (.inr ⟨_,congrArg some (zi rfl Z.1)⟩) (.inl ⟨rfl,rfl,rfl⟩) (z7s Z) (z4f Z))) fun bj bk V aG=>?_;obtain rfl:=Eq.symm aG;refine zh (z7k 1 b a.toNat s.length) (z8 ?_)
 obtain⟨f,k,c⟩:=zn c;refine qm (γ:=(Int×List Int)×Frag) (rs [3,4,5,6,29,54]) (fun g=>[(3,(vi g.1.1))]) (fun g=>[g.2]++A) (fun g R=>f=g.1∧ORep (zu .u64) R g.2 b g.1.2∧True) ?_ ?_
 refine zl (zh (vi 1) (z8 (qc (qx (γ:=Nat×Int×Int×(List Int)×Frag) (rs [3,4,5,6,29,54]) (fun g=>[(3,(vi g.2.1)),(5,(vi g.2.2.1))]) (fun g=>[g.2.2.2.2]++A) (fun g R=>r9 N s a g.1 g.2.1 g.2.2.1 g.2.2.2.1=some f∧ORep (zu .u64) R g.2.2.2.2 b g.2.2.2.1∧True) (fun g=>g.1) (N,a,1,s,fD) prm ⟨k,(y.mono ((m.trans C).trans V)),trivial⟩ ?_))))
 clear k;rintro⟨S,z,d,t,ac⟩ a0 bl ad ⟨k,w,_⟩;rcases S with _|S;exact qj k;replace k:r9 N s a (S+1) z d t=some f:=k;rw [r9] at k
 refine zt (zl (zb (vi d) (zb (z7k 1 b a.toNat s.length) (z2l rfl (zk (zdo rfl underlying94 rfl w)) fun bm bn e aH=>?_))));obtain rfl:=Eq.symm aH;refine zz (j4 rfl rfl) (z8 (zq rfl k (fun k=>?_) (fun k=>?_)));refine q8 ?_;obtain⟨U,p,k⟩:=zn k
 refine qm (γ:=(Int×List Int)×Frag) (rs [3,4,35,54]) (fun g=>[(3,(vi g.1.1))]) (fun g=>[g.2]++A) (fun g R=>U=g.1∧ORep (zu .u64) R g.2 b g.1.2∧True) ?_ ?_;refine qc (zt ?_);obtain⟨I,aI,K,p⟩:=zkr p
 refine xz 10 [] [phX (z7k 1 b a.toNat s.length),phX (vi d),(fun u _=>uw (zu .u64) b t u (a+d).toNat),phX (.int .u64 (ix t (a+d))),phX (z7k 1 b a.toNat s.length),phX (vi d),phX (vi (d-1)),(fun u _=>uw (zu .u64) b t u (a+(d-1)).toNat),phX (.int .u64 (ix t (a+(d-1)))),phX (.bool (decide ((ix t (a+d))≠(ix t (a+(d-1))))))] mixed (by kernel_rfl) (vw ⟨zg,zg,(fun _ _ _ _ h=>h),zg,zg,zg,zg,(fun _ _ _ _ h=>h),zg,zg,trivial⟩) ⟨?_,?_,?_,?_,?_,?_,?_,?_,?_,?_,trivial⟩ fun bo x=>?_
 intro l bp q H hd;exact zf rfl rfl rfl (zk (za (H 4 rfl)));intro l bq q H hd;exact zf rfl rfl rfl (zk (za (H 5 rfl)));rintro l br q H ⟨L,d1,_⟩
 exact zf rfl rfl rfl (z4n (T:=(zu .u64)) (lo:=a.toNat) (hi:=s.length) (n:=(a+d).toNat) yh (L rfl) ((w.mono e).mono q) (zi (d1 rfl) I.2.1) (zds I) (zdw I) (zbk I));rintro l bs q H ⟨L,_⟩
 exact zf rfl rfl rfl (jb (jh (i:=(a+d).toNat) (j:=0) yg ((w.mono e).mono q) rfl rfl (L rfl) (zx (ze5 I))) (fun _ _ h=>qd.1 h));intro l bt q H hd;exact zf rfl rfl rfl (zk (za (H 4 rfl)));intro l bu q H hd;exact zf rfl rfl rfl (zk (za (H 5 rfl)));rintro l bv q H ⟨L,_⟩
 exact zf rfl rfl rfl (zk (kv (L rfl) rfl aI));rintro l bw q H ⟨L,d1,_⟩;exact zf rfl rfl rfl (z4n (T:=(zu .u64)) (lo:=a.toNat) (hi:=s.length) (n:=(a+(d-1)).toNat) yh (L rfl) ((w.mono e).mono q) (zi (d1 rfl) K.2.1) (zds K) (zdw K) (zbk K));rintro l bx q H ⟨L,_⟩
 exact zf rfl rfl rfl (jb (jh (i:=(a+(d-1)).toNat) (j:=0) yg ((w.mono e).mono q) rfl rfl (L rfl) (zx (ze5 K))) (fun _ _ h=>qd.1 h));rintro l bz q H ⟨L,d1,_⟩;exact zf rfl rfl rfl (zk (u6 (L rfl) (d1 rfl)));intro bA aK bB aL bC bD bE aM bF aN bG aO bH aP bI bJ bK aQ bL aR;obtain rfl:=Eq.symm aK
 obtain rfl:=Eq.symm aL;obtain rfl:=Eq.symm aM;obtain rfl:=Eq.symm aN;obtain rfl:=Eq.symm aO;obtain rfl:=Eq.symm aP;obtain rfl:=Eq.symm aQ;obtain rfl:=Eq.symm aR;refine z8 (zq rfl p (fun p=>?_) (fun p=>?_));refine zl (zb b (zb (vi z) (zb (z7k 1 b a.toNat s.length) (zb (vi d) ?_))));obtain⟨M,p⟩:=ze p
 refine z2l rfl (z4n (T:=(zu .u64)) (lo:=a.toNat) (hi:=s.length) (n:=(a+d).toNat) yh rfl (w.mono (e.trans x)) (zi rfl M.2.1) (zds M) (zdw M) (zbk M)) fun bM bN E aS=>?_;refine z98 (i:=(a+d).toNat) (j:=0) rfl yg (w.mono ((e.trans x).trans E)) rfl rfl aS (zx (ze5 M)) fun a1 af=>?_
 obtain rfl:=qd.1 af;obtain⟨O,p⟩:=ze p;refine z2g (i:=z.toNat) rfl yh rfl (w.mono ((e.trans x).trans E)) (zi rfl O.1) (zx O) fun a2 ag=>?_;refine z5y (i:=z.toNat) (j:=0) yg (w.mono ((e.trans x).trans E)) rfl rfl ag (zx O) rfl (qd.2 rfl) fun ah ai=>?_
 refine z8 (zy (zb (vi z) ?_));obtain⟨aj,p⟩:=ze p;refine zz (qp rfl rfl aj) (zh (vi (z+1)) (z8 ?_));exact⟨dkt,(x.trans E),jd,((z+1,(up t z (ix t (a+d)))),ah),⟨rfl,trivial⟩,prm,(Option.some.inj p).symm,ai,trivial⟩;refine q8 ?_
 exact⟨dkt,x,jd,((z,t),ac),⟨rfl,trivial⟩,prm,(Option.some.inj p).symm,(w.mono (e.trans x)),trivial⟩;rintro⟨U,aT⟩ a3 bO ak ⟨rfl,aU,_⟩;refine zy (zb (vi d) ?_);obtain⟨al,k⟩:=ze k;refine zz (qp rfl rfl al) (zh (vi (d+1)) (z8 ?_))
 exact⟨dkt,(e.trans ak),jd,(S,U.1,d+1,U.2,aT),Nat.lt_succ_self _,⟨rfl,rfl,trivial⟩,prm,k,aU,trivial⟩;refine jc ?_;exact⟨dkt,(ad.trans e),jd,((z,t),ac),⟨rfl,trivial⟩,prm,(Option.some.inj k).symm,(w.mono e),trivial⟩;rintro⟨f,aV⟩ a4 bP am ⟨rfl,an,_⟩;refine zl (zb b (zb (vi f.1) ?_))
 obtain⟨B,c⟩:=ze c;refine z2l rfl (zk (z8t (lo:=f.1.toNat) (hi:=f.2.length) yh rfl an (.inr ⟨_,congrArg some (zi rfl B.1)⟩) (.inl ⟨rfl,rfl,rfl⟩) (z7s B) (z4f B))) fun a5 a6 P ao=>?_;obtain rfl:=Eq.symm ao
 refine zat (Oc:=[aV]) (Or:=[]++A) (List.Perm.refl _) (zab (lo:=f.1.toNat) (hi:=f.2.length) rfl underlying94 zmr (an.mono P) (z7s B) (z4f B) rfl) ?_;rintro a7 a8 aW aX ⟨rfl,a9,rfl,rfl,W⟩;refine qw (zb b (zb (vi f.1) ?_));obtain⟨F,c⟩:=ze c
 refine z9j (v:=b) (lo:=(0:Int).toNat) (hi:=f.1.toNat) (mx:=(capOf b)) rfl yh rfl W (.inl ⟨rfl,rfl⟩) (.inr ⟨_,congrArg some (zi rfl (zcv F))⟩) (.inl ⟨rfl,rfl⟩) (z7s F) (z4f F) (Nat.le_trans (z4f F) (zb3 W)) (Nat.le_refl _) fun G ap aA=>?_;refine zh G (z8 (z02 (i:=0) rfl ap fun aq aa ar=>?_))
 have au:VRep (tSl false (zu .u64)) aq G (cut (z6n f.2 f.1.toNat (List.replicate (f.2.length-f.1.toNat) (0:Int))) 0 f.1):=(z8x ar);refine qf ?_;replace o:=mg c o;obtain rfl:=Option.some.inj o
 refine um (D:=[]) (J:=[]) (O':=[]) (rs:=[.tmp 2]) (vs:=[G]) (((((m.trans C).trans V).trans am).trans P).trans aa) ((List.Perm.refl _)) rfl ⟨rfl,trivial⟩ ?_;exact⟨G,rfl,rfl,au⟩;refine q8 (zy (zb (vi a) ?_));obtain⟨av,c⟩:=ze c;refine zz (qp rfl rfl av) (zh (vi (a+1)) (z8 ?_))
 exact⟨dkt,C,jd,(Q,a+1),Nat.lt_succ_self _,⟨rfl,trivial⟩,prm,c,trivial⟩;refine jc ?_;exact⟨dkt,m,jd,(),trivial,prm,(Option.some.inj c).symm,trivial⟩;rintro o6 ba R8 aw ⟨rfl,_⟩;replace o:=ll o;refine zl (zb b (zh b (z8 (z02 (i:=0) rfl (y.mono aw) fun ax ab ay=>?_))))
 have az:VRep (tSl false (zu .u64)) ax b s:=(z8x ay);refine qf ?_;obtain rfl:=Option.some.inj o;refine um (D:=[]) (J:=[]) (O':=[]) (rs:=[.tmp 2]) (vs:=[b]) (aw.trans ab) ((List.Perm.refl _)) rfl ⟨rfl,trivial⟩ ?_;exact⟨b,rfl,rfl,az⟩
theorem zpf:Enters prog 76:=enters_of func76 rfl (by kernel_rfl)
theorem z7i{N:Nat}{R:RH}{x:Sa}{n:Value}(h:VRep (qa false false) R n x){r:(List Int)}(d:z1s N x=some r):CallP prog 43 #[n] R (fun v R'=>VRep (tSl false (zu .u64)) R' v r):=by
 refine qg (args:=[n]) func43 rfl rfl fun A=>?_;rw [z1s] at d;refine zl (wu (T:=(qa false false)) rfl rfl rfl h fun v1 R3 j h5 h2=>?_);refine zh vs0 (qw (zh vs0 (z8 ?_)));obtain⟨W,a,d⟩:=zn d
 refine qm (γ:=(List Int)×Value×Frag) (rs [3,4,5,7,8,36]) (fun g=>[(3,g.2.1)]) (fun g=>[g.2.2]++A) (fun g R=>W=g.1∧ORep (zu .u64) R g.2.2 g.2.1 g.1∧True) ?_ ?_;refine zl (zz (jo z3b rfl rfl h5 (h.mono j)) (zz (jo z3b rfl rfl h5 (h.mono j)) (zz (su (fs:=[n]) (cs:=[]) rfl rfl) ?_)))
 obtain⟨p,ab,a⟩:=zn a;refine qy rfl zld rfl (z1e (h.mono j) (zaf (fs:=[n]) zlk fun R1 hq z0 u0 y k0 hy=>by obtain rfl:=qd.1 k0;exact CallP.mono (lm ((h.mono j).mono hq) hy) fun v R2 _ hv=>ik.2 hv) ab) fun aL aM k F=>?_
 refine zz (qi rfl underlying40 rfl (jf F)) (zb (vi 0) (z8 (qc (z8f ?_))))
 refine qx (γ:=Nat×(List Int)×Int×Value×Frag) (rs [3,4,5,7,8,9,14,36]) (fun g=>[(3,g.2.2.2.1),(14,(vi g.2.2.1))]) (fun g=>[g.2.2.2.2]++A) (fun g R=>ai N x p g.1 g.2.1 g.2.2.1=some W∧ORep (zu .u64) R g.2.2.2.2 g.2.2.2.1 g.2.1∧True) (fun g=>g.1) (N,[],0,vs0,emp) prm ⟨a,(z4c (T:=(zu .u64))),trivial⟩ ?_
 clear a;rintro⟨q,s,l,G,C⟩ aN aO e ⟨a,H,_⟩;rcases q with _|q;exact qj a;replace a:ai N x p (q+1) s l=some W:=a;rw [ai] at a;refine zl (zz (j4 rfl rfl) (z8 (zt (zq rfl a (fun a=>?_) (fun a=>?_)))));refine q8 (zt (qc (zl ?_)))
 obtain⟨I,a⟩:=ze a;refine jq (i:=l.toNat) rfl z00 rfl (jf (F.mono e)) (zi rfl I.1) (zx I) fun aP ac=>?_;refine j3 rfl ty3 rfl ac fun aQ ad=>?_;obtain rfl:=qd.1 ad;refine zh (vi (ix p l)) (qw (zh (.int .u64 0) (z8 ?_)));obtain⟨c,b,a⟩:=zn a
 refine qm (γ:=Int) (rs [6,7,8,9,18,31]) (fun g=>[(6,(.int .u64 g))]) (fun g=>[C]++A) (fun g R=>c=g∧True) ?_ ?_;refine zl (zz (jo z3b rfl rfl (h5.mono (k.trans e)) (h.mono ((j.trans k).trans e))) (zb (vi (ix p l)) ?_));obtain⟨m,ae,b⟩:=zn b
 refine qy rfl zii rfl (pq (h.mono ((j.trans k).trans e)) ae) fun aR aS K L=>?_
 refine zz (qi rfl underlying40 rfl (jf L)) (zb (vi 0) (z8 (qc (qx (γ:=Nat×Int×Int) (rs [6,7,8,9,22,31]) (fun g=>[(6,(.int .u64 g.2.1)),(22,(vi g.2.2))]) (fun g=>[C]++A) (fun g R=>ak N m g.1 g.2.1 g.2.2=some c∧True) (fun g=>g.1) (N,0,0) prm ⟨b,trivial⟩ ?_))));clear b
 rintro⟨t,o,f⟩ aT aU u ⟨b,_⟩;rcases t with _|t;exact qj b;replace b:ak N m (t+1) o f=some c:=b;rw [ak] at b;refine zl (zz (j4 rfl rfl) (z8 (zt (zq rfl b (fun b=>?_) (fun b=>?_)))));refine q8 (zt (qc (zl ?_)));obtain⟨M,b⟩:=ze b
 refine jq (i:=f.toNat) rfl z00 rfl (jf (L.mono u)) (zi rfl M.1) (zx M) fun aV af=>?_;refine j3 rfl ty3 rfl af fun aW ag=>?_;obtain rfl:=qd.1 ag;refine zh (vi (ix m f)) (z8 (zy (zb (.int .u64 o) (zb (vi (ix m f)) ?_))));obtain⟨ah,b⟩:=ze b;refine zz (zaq rfl rfl ah) ?_
 obtain⟨aj,b⟩:=ze b;refine zz (zhy rfl rfl aj) (zh (.int .u64 (ior o (sj .u64 (1:Int) (ix m f)))) (z8 (zy ?_)));obtain⟨al,b⟩:=ze b;refine zz (qp rfl rfl al) (zb (vi (f+1)) (z8 ?_))
 exact⟨dkt,(RH.le.refl _),jd,(t,ior o (sj .u64 (1:Int) (ix m f)),f+1),Nat.lt_succ_self _,⟨rfl,rfl,trivial⟩,prm,b,trivial⟩;refine jc ?_;exact⟨dkt,(K.trans u),jd,o,⟨rfl,trivial⟩,prm,(Option.some.inj b).symm,trivial⟩;rintro c aX aY w ⟨rfl,_⟩
 refine zy (zb G (zb (.int .u64 c) (bz (T:=(zu .u64)) (X:=([c]:List Int)) (ps:=[(0,(.int .u64 c))]) (css:=[[(.int .u64 c)]]) rfl underlying94 zmr rfl rfl (jl ⟨rfl,trivial⟩) rfl rfl (by decide) fun am aZ E an=>?_)));refine ku (i:=0) rfl an fun ao z ap=>?_
 have aq:VRep (tSl true (zu .u64)) ao am ([c]:List Int):=(z0b ap E);obtain⟨O,a⟩:=ze a;refine z1l (i:=0) (X:=s) (Y:=([c]:List Int)) rfl underlying94 zmr rfl rfl rfl (H.mono (w.trans z)) (jf (Sub.v (B:=(tSl false (zu .u64))) (u7 Sub.refl (fun _=>rfl)) aq)) O.1 O.2 fun P ar au=>?_
 refine zh P (z8 (zy ?_));obtain⟨av,a⟩:=ze a;refine zz (qp rfl rfl av) (zb (vi (l+1)) (z8 ?_));exact⟨dkt,(w.trans z),jd,(q,(s++([c]:List Int)),l+1,P,ar),Nat.lt_succ_self _,⟨rfl,rfl,trivial⟩,prm,a,au,trivial⟩;refine jc ?_
 exact⟨dkt,(k.trans e),jd,(s,G,C),⟨rfl,trivial⟩,prm,(Option.some.inj a).symm,H,trivial⟩;rintro⟨W,Z,aw⟩ a0 R7 ax ⟨rfl,ay,_⟩;refine zl (zb Z ?_);obtain⟨a1,az,d⟩:=zn d
 refine xu (Oc:=[aw]) (Or:=[]++A) (cs:=[]) (vs:=[Z]) rfl zqb rfl rfl ((pk 0 rfl (List.Perm.refl _))) (za1 ay az) fun a2 a3 aF Q aA=>?_;obtain⟨aB,rfl,rfl,aC⟩:=aA;refine qw (zb Z ?_);obtain⟨a4,aD,d⟩:=zn d
 refine xu (Oc:=[aB]) (Or:=[]++A) (cs:=[]) (vs:=[Z]) rfl zpf rfl rfl ((pk 0 rfl (List.Perm.refl _))) (z8n aC aD) fun S a5 aG U aE=>?_;obtain⟨_,rfl,rfl,V⟩:=aE;refine zh S (z8 (qf ?_));obtain rfl:=Option.some.inj d
 refine qb (D:=[]) (J:=[]) (rs:=[.tmp 2]) (vs:=[S]) (((j.trans ax).trans Q).trans U) rfl rfl ⟨rfl,trivial⟩ ?_;exact⟨rfl,V⟩
theorem zp4:Enters prog 43:=enters_of func43 rfl (by kernel_rfl)
theorem zpn: ∀ w,∃ z,(zeroValue 94).run prog w= .ok z w∧z.cells=([.slice none 0 0]:List Value).toArray:=fun w=>⟨vs0,by kernel_rfl,rfl⟩
theorem zps: ∀ w,(sizeOf 94).run prog w= .ok 1 w:=fun w=>by kernel_rfl
theorem zq7: ∀ w,∃ z,(zeroValue 96).run prog w= .ok z w∧z.cells=([.nilFunc]:List Value).toArray:=fun w=>⟨.nilFunc,by kernel_rfl,rfl⟩
theorem zq1: ∀ w,(sizeOf 96).run prog w= .ok 1 w:=fun w=>by kernel_rfl
theorem zp0: ∀ w,(isAgg 96).run prog w= .ok false w:=fun w=>by kernel_rfl
theorem z7m{N:Nat}{R:RH}{s:(List Int)}{c:Value}(k:VRep (tSl false (zu .u64)) R c s){f:Int→Option Bool}{e:Value}(n:FOk1 prog R e (zu .u64) z3z f){r:Int}(b:z1t N s f=some r):CallP prog 77 #[c,e] R (fun v R'=>v=(vi r)):=by
 refine qg (args:=[c,e]) func77 rfl rfl fun A=>?_;rw [z1t] at b;refine zl (zh (vi 0) (z8 ?_));obtain⟨o,a,b⟩:=zn b;refine qm (γ:=Unit) (rs [4,19]) (fun g=>[]) (fun g=>[]++A) (fun g R=>o=Ex.go g∧True) ?_ ?_
 refine zl (zb c (zz (qi rfl underlying94 rfl (jf k)) (zb (vi 0) (z8 (qc (qx (γ:=Nat×Int) (rs [4,6,8,19]) (fun g=>[(8,(vi g.2))]) (fun g=>[]++A) (fun g R=>ah N s f g.1 g.2=some o∧True) (fun g=>g.1) (N,0) prm ⟨a,trivial⟩ ?_))))));clear a;rintro⟨m,d⟩ y H h ⟨a,_⟩
 rcases m with _|m;exact qj a;replace a:ah N s f (m+1) d=some o:=a;rw [ah] at a;refine zl (zz (j4 rfl rfl) (z8 (zt (zq rfl a (fun a=>?_) (fun a=>?_)))))
 refine q8 (zt (qc (zl (zb (vi d) (zh (vi d) (qw (zb e (zb c (zb (vi d) ?_)))))))));obtain⟨l,a⟩:=ze a;refine jq (i:=d.toNat) rfl yh rfl (jf (k.mono h)) (zi rfl l.1) (zx l) fun z p=>?_;refine j3 rfl yg rfl p fun B q=>?_;obtain rfl:=qd.1 q
 obtain⟨C,t,a⟩:=zn a;refine z7l rfl rfl rfl ((n.mono h) _ (RH.le.refl _) (ix s d) _ _ (qd.2 rfl) t) fun E F j u=>?_;obtain rfl:=ik.1 u;refine z8 (zq rfl a (fun a=>?_) (fun a=>?_));refine zl (zb (vi d) (zh (vi d) (z8 (qf ?_))));replace b:=mg a b;obtain rfl:=Option.some.inj b
 refine qb (D:=[]) (J:=[]) (rs:=[.tmp 4]) (vs:=[(vi d)]) (h.trans j) rfl rfl ⟨rfl,trivial⟩ ?_;exact⟨rfl,rfl⟩;refine q8 (zy ?_);obtain⟨w,a⟩:=ze a;refine zz (qp rfl rfl w) (zb (vi (d+1)) (z8 ?_));exact⟨dkt,j,jd,(m,d+1),Nat.lt_succ_self _,⟨rfl,trivial⟩,prm,a,trivial⟩;refine jc ?_
 exact⟨dkt,h,jd,(),trivial,prm,(Option.some.inj a).symm,trivial⟩;rintro I G K x ⟨rfl,_⟩;replace b:=ll b;refine zl (zh (vi (-1)) (z8 (qf ?_)));obtain rfl:=Option.some.inj b;refine qb (D:=[]) (J:=[]) (rs:=[.tmp 4]) (vs:=[(vi (-1))]) x rfl rfl ⟨rfl,trivial⟩ ?_;exact⟨rfl,rfl⟩
theorem zpo:Enters prog 77:=enters_of func77 rfl (by kernel_rfl)
theorem z6b{N:Nat}{R:RH}{s:(List Int)}{a:Value}(d:VRep (tSl false (zu .u64)) R a s){f:Int→Option Bool}{b:Value}(e:FOk1 prog R b (zu .u64) z3z f){r:Bool}(c:z0x N s f=some r):CallP prog 45 #[a,b] R (fun v R'=>v=(.bool r)):=by
 refine qg (args:=[a,b]) func45 rfl rfl fun A=>?_;rw [z0x] at c;refine zl (zh (.bool false) (qw (zb a (zb b ?_))));obtain⟨h,i,c⟩:=zn c;refine qy rfl zpo rfl (z7m d e i) fun k l g j=>?_;obtain rfl:=j
 refine zz (dm rfl rfl) (zh (.bool (decide (0≤h))) (z8 (qf ?_)));obtain rfl:=Option.some.inj c;refine qb (D:=[]) (J:=[]) (rs:=[.tmp 4]) (vs:=[(.bool (decide (0≤h)))]) g rfl rfl ⟨rfl,trivial⟩ ?_;exact⟨rfl,rfl⟩
theorem zoz{a:Bool}:TyOk prog 94 (tSl a (zu .u64)):=by
 obtain⟨i,hi,b⟩: ∃ i,prog.info? 94=some i∧i.size=1:=oz (by kernel_rfl);exact z2w underlying94 hi rfl b
theorem zpu:Enters prog 45:=enters_of func45 rfl (by kernel_rfl)
theorem z94{N:Nat}{R:RH}{set:Int}{p0_:Int}{a:Value}(c:PRep (zu .u64) R a p0_){r:Bool}(b:z2z N set p0_=some r):CallP prog 46 #[(.int .u64 set),a] R (fun v R'=>v=(.bool r)):=by
 refine qg (args:=[(.int .u64 set),a]) func46 rfl rfl fun A=>?_;rw [z2z] at b;refine zl (zh (.bool false) (qw (zb (.int .u64 set) (j3 rfl yg rfl c fun f d=>?_))));obtain rfl:=qd.1 d;obtain⟨e,b⟩:=ze b
 refine zz (zcp rfl rfl e) (zz (ow rfl rfl) (zh (.bool (decide ((z9p set p0_)=0))) (z8 (qf ?_))));obtain rfl:=Option.some.inj b;refine qb (D:=[]) (J:=[]) (rs:=[.tmp 3]) (vs:=[(.bool (decide ((z9p set p0_)=0)))]) (RH.le.refl _) rfl rfl ⟨rfl,trivial⟩ ?_;exact⟨rfl,rfl⟩
theorem zp7:Enters prog 46:=enters_of func46 rfl (by kernel_rfl)
theorem znv{u:Value}:TyOk prog 96 (zlx u):=by
 obtain⟨i,hi,a⟩: ∃ i,prog.info? 96=some i∧i.size=1:=oz (by kernel_rfl);exact z2w underlying96 hi rfl a
theorem zou:Enters prog 44:=enters_of func44 rfl (by kernel_rfl)
theorem z7z{N:Nat}(F:Nat): ∀ {R:RH} {b:Int} {j:Int} {left:Int} {p0_:(List Int)} {e:Value} (s:PRep (tSl false (zu .u64)) R e p0_) {p1_:Int} {k:Value} (t:PRep (zu .i64) R k p1_) {f:Nat} (u:PRep (zlx (.func (.func 44) #[] #[e,k,(.pointer (some ⟨f,0,none⟩))])) R (.pointer (some ⟨f,0,none⟩)) ()) {r:Int×Bool} (d:lh N F b j left p0_ p1_=some r),CallP prog 44 #[(.int .u64 b),(vi j),(vi left),e,k,(.pointer (some ⟨f,0,none⟩))] R (fun v R'=>v= .tuple #[(.int .u64 r.1),(.bool r.2)]):=by
  induction F with
  |zero=>intros;rename_i d;exact qj d
  |succ F ih=>
    intro R b j left p0_ e s p1_ k t f u r d
    refine qg (args:=[(.int .u64 b),(vi j),(vi left),e,k,(.pointer (some ⟨f,0,none⟩))]) func44 rfl rfl fun A=>?_
    rw [lh] at d
    refine zt ?_
    refine zy ?_
    refine zah (T:=(zu .u64)) rfl rfl (qd.2 rfl) fun z R3 q P=>?_
    refine zh (.int .u64 0) ?_
    refine zh (.bool false) ?_
    refine z8 ?_
    refine zt ?_
    refine zt ?_
    refine zy ?_
    refine zb (vi left) ?_
    refine zz (ow rfl rfl) ?_
    refine z8 ?_
    refine zq rfl d (fun d=>?_) (fun d=>?_)
    · refine zt ?_
      obtain⟨O,c7,d⟩:=zn d
      refine xz 7 [] [phX (.int .u64 b),phR (tSl false (zu .u64)) p0_,phX (.func (.func 46) #[] #[z]),phX (.bool O),phX (.bool (!O)),phX (.int .u64 b),phX (.bool (!O))] mixed (by kernel_rfl) (vw ⟨zg,z1b,zg,zg,zg,zg,zg,trivial⟩) ⟨?_,?_,?_,?_,?_,?_,?_,trivial⟩ fun R8 Q=>?_
      · intro l S a m C
        have I:l 6=z:=m 6 rfl
        exact zf rfl rfl rfl (jb (oh yg I (P.mono a)) (fun _ _ h=>qd.1 h))
      · intro l U a m C
        have a3:l 3=e:=m 3 rfl
        exact zf rfl rfl rfl (oh zoz a3 ((s.mono q).mono a))
      · intro l V a m C
        have I:l 6=z:=m 6 rfl
        exact zf rfl rfl rfl (zk (su (fs:=[]) (cs:=[z]) rfl (by simp only [List.map,ev,I]<;>rfl)))
      · rintro l W a m ⟨n,w,_⟩
        have X:=n rfl
        have Y:l 18=(.func (.func 46) #[] #[z]):=w rfl
        exact zf rfl rfl rfl (kw (vs:=[(l 17),(.func (.func 46) #[] #[z])]) zpu (by simp only [List.map,ev,Y]<;>rfl) (z6b X ((zaj (cs:=[z]) zp7 fun R1 hq z0 u0 y k0 hy=>by obtain rfl:=qd.1 k0;exact CallP.mono (z94 (P.mono hq) hy) fun v R2 _ hv=>ik.2 hv).mono a) c7) (fun _ _ h=>h))
      · rintro l Z a m ⟨n,w,_⟩
        have aa:=n rfl
        exact zf rfl rfl rfl (zk (au aa))
      · rintro l ab a m ⟨n,w,K,L,d4,d5,d6,_⟩
        have af:=n rfl
        exact zf rfl rfl rfl (zk (ig af))
      · rintro l ag a m ⟨n,w,K,L,d4,d5,d6,d7,_⟩
        have ah:=n rfl
        exact zf rfl rfl rfl (zk (ig ah))
      intro bn ai
      intro bo bp
      intro bq aj
      intro br ak
      intro bs al
      intro bt am
      intro bu an
      obtain rfl:=Eq.symm ai
      obtain rfl:=Eq.symm aj
      obtain rfl:=Eq.symm ak
      obtain rfl:=Eq.symm al
      obtain rfl:=Eq.symm am
      obtain rfl:=Eq.symm an
      refine z8 ?_
      refine qf ?_
      obtain rfl:=Option.some.inj d
      refine qb (D:=[]) (J:=[]) (rs:=[.tmp 9,.tmp 10]) (vs:=[(.int .u64 b),(.bool (!O))]) (q.trans Q) rfl rfl ⟨rfl,rfl,trivial⟩ ?_
      exact⟨rfl,rfl⟩
    · refine q8 ?_
      obtain⟨E,c,d⟩:=zn d
      refine qm (γ:=Unit) (rs [9,14,21,44]) (fun g=>[]) (fun g=>[]++A) (fun g R=>E=Ex.go g∧True) ?_ ?_
      · refine zt ?_
        refine zy ?_
        refine zb (vi j) ?_
        refine zh (vi j) ?_
        refine z8 ?_
        refine qc ?_
        refine qx (γ:=Nat×Int) (rs [9,14,22,44]) (fun g=>[(11,(vi g.2))]) (fun g=>[]++A) (fun g R=>z09 N (lh N F) b left p0_ p1_ g.1 g.2=some E∧True) (fun g=>g.1) (N,j) prm ⟨c,trivial⟩ ?_
        clear c
        rintro⟨x,i⟩ bv bw o ⟨c,_⟩
        rcases x with _|x
        · exact qj c
        replace c:z09 N (lh N F) b left p0_ p1_ (x+1) i=some E:=c;rw [z09] at c
        refine zt ?_
        refine zt ?_
        refine zy ?_
        refine zb (vi i) ?_
        refine j3 rfl ty3 rfl (t.mono (q.trans o)) fun bx ao=>?_
        obtain rfl:=qd.1 ao
        refine zb (vi left) ?_
        obtain⟨ap,c⟩:=ze c
        refine zz (kv rfl rfl ap) ?_
        refine zz (z4x rfl rfl) ?_
        refine z8 ?_
        refine zq rfl c (fun c=>?_) (fun c=>?_)
        · refine q8 ?_
          refine zt ?_
          refine qc ?_
          refine zt ?_
          obtain⟨aq,ar,av,aw,c⟩:=zkv c
          obtain⟨p,ax,c⟩:=zn c
          refine xz 15 [] [phX (.func (.func 44) #[] #[e,k,(.pointer (some ⟨f,0,none⟩))]),phX (.int .u64 b),phX (vi i),phX (.int .u64 (sj .u64 (1:Int) i)),phX (.int .u64 (ior b (sj .u64 (1:Int) i))),phX (vi i),phX (vi (i+1)),phX (vi left),phX (vi (left-1)),phX (.tuple #[(.int .u64 p.1),(.bool p.2)]),phX (.tuple #[(.int .u64 p.1),(.bool p.2)]),phX (.int .u64 p.1),phX (.bool p.2),phX (.int .u64 p.1),phX (.bool p.2)] mixed (by kernel_rfl) (vw ⟨zg,zg,zg,zg,zg,zg,zg,zg,zg,zg,zg,zg,zg,zg,zg,trivial⟩) ⟨?_,?_,?_,?_,?_,?_,?_,?_,?_,?_,?_,?_,?_,?_,?_,trivial⟩ fun bz B=>?_
          · intro l S a m C
            have a5:l 5=(.pointer (some ⟨f,0,none⟩)):=m 5 rfl
            exact zf rfl rfl rfl (jb (oh znv a5 ((u.mono (q.trans o)).mono a)) (fun _ _ h=>zjy h))
          · intro l U a m C
            have I:l 6=z:=m 6 rfl
            exact zf rfl rfl rfl (jb (oh yg I ((P.mono o).mono a)) (fun _ _ h=>qd.1 h))
          · intro l V a m C
            have G:l 11=(vi i):=m 11 rfl
            exact zf rfl rfl rfl (zk (za G))
          · rintro l W a m ⟨n,_⟩
            have ay:=n rfl
            exact zf rfl rfl rfl (zk (zaq rfl ay aq))
          · rintro l Z a m ⟨n,w,_⟩
            have az:=n rfl
            have aA:=w rfl
            exact zf rfl rfl rfl (zk (zhy az aA ar))
          · intro l ab a m C
            have G:l 11=(vi i):=m 11 rfl
            exact zf rfl rfl rfl (zk (za G))
          · rintro l ag a m ⟨n,_⟩
            have aB:=n rfl
            exact zf rfl rfl rfl (zk (qp aB rfl av))
          · intro l bB a m C
            have a2:l 2=(vi left):=m 2 rfl
            exact zf rfl rfl rfl (zk (za a2))
          · rintro l bD a m ⟨n,_⟩
            have aC:=n rfl
            exact zf rfl rfl rfl (zk (kv aC rfl aw))
          · rintro l bE a m ⟨n,w,K,L,_⟩
            have aD:=n rfl
            have aE:l 34=(.int .u64 (ior b (sj .u64 (1:Int) i))):=w rfl
            have aF:l 36=(vi (i+1)):=K rfl
            have aG:l 38=(vi (left-1)):=L rfl
            exact zf rfl rfl rfl (zkt (cs:=[e,k,(.pointer (some ⟨f,0,none⟩))]) (vs:=[(.int .u64 (ior b (sj .u64 (1:Int) i))),(vi (i+1)),(vi (left-1))]) zou aD (by simp only [List.map,ev,aE,aF,aG]<;>rfl) (ih ((s.mono (q.trans o)).mono a) ((t.mono (q.trans o)).mono a) ((u.mono (q.trans o)).mono a) ax) (fun _ _ h=>h))
          · rintro l bb a m ⟨n,_⟩
            have aH:=n rfl
            exact zf rfl rfl rfl (zk (za aH))
          · rintro l bc a m ⟨n,_⟩
            have H:=n rfl
            have ht:=H
            exact zf rfl rfl rfl (zk (ja ht rfl))
          · rintro l be a m ⟨n,w,_⟩
            have H:=n rfl
            have ht:=H
            exact zf rfl rfl rfl (zk (ja ht rfl))
          · rintro l bf a m ⟨n,w,K,L,d4,d5,d6,d7,d8,d9,aJ,aK,aL,aM,aN,_⟩
            have aO:=n rfl
            exact zf rfl rfl rfl (zk (ig aO))
          · rintro l bg a m ⟨n,w,K,L,d4,d5,d6,d7,d8,d9,aJ,aK,aL,aM,aN,bH,_⟩
            have aP:=n rfl
            exact zf rfl rfl rfl (zk (ig aP))
          intro bI aQ
          intro bJ aR
          intro bK aS
          intro bL aT
          intro bM aU
          intro bN aV
          intro bO aW
          intro bP aX
          intro bQ aY
          intro bR aZ
          intro bS a0
          intro bT a1
          intro bU a4
          intro bV a7
          intro bW a8
          obtain rfl:=Eq.symm aQ
          obtain rfl:=Eq.symm aR
          obtain rfl:=Eq.symm aS
          obtain rfl:=Eq.symm aT
          obtain rfl:=Eq.symm aU
          obtain rfl:=Eq.symm aV
          obtain rfl:=Eq.symm aW
          obtain rfl:=Eq.symm aX
          obtain rfl:=Eq.symm aY
          obtain rfl:=Eq.symm aZ
          obtain rfl:=Eq.symm a0
          obtain rfl:=Eq.symm a1
          obtain rfl:=Eq.symm a4
          obtain rfl:=Eq.symm a7
          obtain rfl:=Eq.symm a8
          refine z8 ?_
          refine zt ?_
          refine zy ?_
          refine zb (.bool p.2) ?_
          refine z8 ?_
          refine zq rfl c (fun c=>?_) (fun c=>?_)
          · refine zt ?_
            refine zy ?_
            refine zb (.int .u64 p.1) ?_
            refine zh (.int .u64 p.1) ?_
            refine zh (.bool true) ?_
            refine z8 ?_
            refine qf ?_
            replace d:=mg c d
            obtain rfl:=Option.some.inj d
            refine qb (D:=[]) (J:=[]) (rs:=[.tmp 9,.tmp 10]) (vs:=[(.int .u64 p.1),(.bool true)]) ((q.trans o).trans B) rfl rfl ⟨rfl,rfl,trivial⟩ ?_
            exact⟨rfl,rfl⟩
          · refine q8 ?_
            refine zy ?_
            refine zb (vi i) ?_
            obtain⟨a9,c⟩:=ze c
            refine zz (qp rfl rfl a9) ?_
            refine zh (vi (i+1)) ?_
            refine z8 ?_
            exact⟨dkt,B,jd,(x,i+1),Nat.lt_succ_self _,⟨rfl,trivial⟩,prm,c,trivial⟩
        · refine jc ?_
          exact⟨dkt,o,jd,(),trivial,prm,(Option.some.inj c).symm,trivial⟩
      · rintro bX bY bZ M ⟨rfl,_⟩
        replace d:=ll d
        refine zt ?_
        refine zy ?_
        refine zh (.int .u64 0) ?_
        refine zh (.bool false) ?_
        refine z8 ?_
        refine qf ?_
        obtain rfl:=Option.some.inj d
        refine qb (D:=[]) (J:=[]) (rs:=[.tmp 9,.tmp 10]) (vs:=[(.int .u64 0),(.bool false)]) (q.trans M) rfl rfl ⟨rfl,rfl,trivial⟩ ?_
        exact⟨rfl,rfl⟩
theorem za5{N:Nat}{R:RH}{d:Int}{e:Int}{left:Int}{p0_:(List Int)}{a:Value}(f:PRep (tSl false (zu .u64)) R a p0_){p1_:Int}{b:Value}(g:PRep (zu .i64) R b p1_){c:Nat}(h:PRep (zlx (.func (.func 44) #[] #[a,b,(.pointer (some ⟨c,0,none⟩))])) R (.pointer (some ⟨c,0,none⟩)) ()){r:Int×Bool}(i:lh N N d e left p0_ p1_=some r):CallP prog 44 #[(.int .u64 d),(vi e),(vi left),a,b,(.pointer (some ⟨c,0,none⟩))] R (fun v R'=>v= .tuple #[(.int .u64 r.1),(.bool r.2)]):=z7z N f g h i
theorem z7j{N:Nat}{R:RH}{x:Sa}{H:Value}(p:VRep (qa false false) R H x){r:(List Int)×Int}(b:z3q N x=some r):CallP prog 19 #[H] R (fun v R'=> ∃ u0,v= .tuple #[u0,(vi r.2)]∧VRep (tSl true (zu .i64)) R' u0 r.1):=by
 refine qg (args:=[H]) func19 rfl rfl fun A=>?_;rw [z3q] at b;refine zl (wu (T:=(qa false false)) rfl rfl rfl p fun v1 R3 h h5 h2=>?_);refine zh vs0 (zh (vi 0) (z8 (zt (zl (zz (jo z3b rfl rfl h5 (p.mono h)) ?_)))));obtain⟨U,c7,b⟩:=zn b
 refine qy rfl zim rfl (z0f (p.mono h) c7) fun v8 aQ d h9=>?_;obtain rfl:=h9;refine zh (vi U) (qw (zb (vi U) (zz (u6 rfl rfl) (z8 (zq rfl b (fun b=>?_) (fun b=>?_))))));refine zl (zb (vi U) (zh vs0 (zh (vi U) (z8 (qf ?_)))));obtain rfl:=Option.some.inj b
 refine qb (D:=[]) (J:=[]) (rs:=[.tmp 2,.tmp 3]) (vs:=[vs0,(vi U)]) (h.trans d) rfl rfl ⟨rfl,rfl,trivial⟩ ?_;exact⟨rfl,⟨vs0,rfl,z1c⟩⟩;refine q8 (zl (zz (jo z3b rfl rfl (h5.mono d) (p.mono (h.trans d))) ?_));obtain⟨m,ao,b⟩:=zn b
 refine qy rfl zk4 rfl (ol (p.mono (h.trans d)) ao) fun aS aT l ap=>?_;obtain rfl:=ap;refine df rfl za3 fun j=>?_;refine ut (i:=0) (vs:=[(vi m)]) sz3 rfl rfl rfl rfl rfl rfl (ji rfl yo) ?_
 refine z8 (zt (zl (zz (uu (i:=0) ag3 rfl rfl rfl) (zz (vz rfl rfl) (z8 (zq rfl b (fun b=>?_) (fun b=>?_)))))));refine zl (zh vs0 (zh (vi 3) (z8 (qf ?_))));obtain rfl:=Option.some.inj b
 refine qb (D:=[]) (J:=[box j [(vi m)] 3]) (rs:=[.tmp 2,.tmp 3]) (vs:=[vs0,(vi 3)]) ((h.trans d).trans l) rfl rfl ⟨rfl,rfl,trivial⟩ ?_;exact⟨rfl,⟨vs0,rfl,z1c⟩⟩;refine q8 (zl (zz (jo z3b rfl rfl (h5.mono (d.trans l)) (p.mono ((h.trans d).trans l))) ?_))
 obtain⟨V,aq,b⟩:=zn b;refine qy rfl zp4 rfl (z7i (p.mono ((h.trans d).trans l)) aq) fun z aU F I=>?_;refine df rfl zpn fun n=>?_;refine ut (i:=0) (vs:=[z]) zps rfl rfl (gp I) rfl rfl rfl (ji (zd3 I) yo) ?_;refine qw (df rfl zq7 fun o=>?_)
 refine qw (zz (su (fs:=[]) (cs:=[(.pointer (some ⟨n,0,none⟩)),(.pointer (some ⟨j,0,none⟩)),(.pointer (some ⟨o,0,none⟩))]) rfl rfl) (ut (i:=0) (vs:=[(.func (.func 44) #[] #[(.pointer (some ⟨n,0,none⟩)),(.pointer (some ⟨j,0,none⟩)),(.pointer (some ⟨o,0,none⟩))])]) zq1 rfl rfl rfl rfl rfl rfl (ji rfl yo) ?_));refine z8 ?_
 obtain⟨K,a,b⟩:=zn b;refine qm (γ:=Unit) (rs [2,4,8,13,25,54]) (fun g=>[]) (fun g=>[]++A) (fun g R=>K=Ex.go g∧True) ?_ ?_;refine zl (zz (uu (i:=2) ag3 rfl rfl rfl) ?_);obtain⟨ar,a⟩:=ze a
 refine zz (qp rfl rfl ar) (zb (vi 0) (z8 (qc (qx (γ:=Nat×Int) (rs [2,4,8,13,27,54]) (fun g=>[(27,(vi g.2))]) (fun g=>[box j [(vi m)] 3,box o [(.func (.func 44) #[] #[(.pointer (some ⟨n,0,none⟩)),(.pointer (some ⟨j,0,none⟩)),(.pointer (some ⟨o,0,none⟩))])] 96,box n [z] 94]++A) (fun g R=>z0u N m V g.1 g.2=some K∧True) (fun g=>g.1) (N,0) ⟨[],(pk 2 rfl (pk 0 rfl (pk 0 rfl (List.Perm.refl _))))⟩ ⟨a,trivial⟩ ?_))))
 clear a;rintro⟨C,q⟩ aL aV s ⟨a,_⟩;rcases C with _|C;exact qj a;replace a:z0u N m V (C+1) q=some K:=a;rw [z0u] at a;refine zl (zz (j4 rfl rfl) (z8 (zt (zq rfl a (fun a=>?_) (fun a=>?_)))))
 refine q8 (zt (qc (zl (zb (vi q) (zh (vi q) (qw (zz (uu (i:=1) zp0 rfl rfl rfl) (zb (vi q) ?_))))))));obtain⟨k,au,a⟩:=zn a
 refine z6v (cs:=[(.pointer (some ⟨n,0,none⟩)),(.pointer (some ⟨j,0,none⟩)),(.pointer (some ⟨o,0,none⟩))]) (vs:=[(.int .u64 0),(vi 0),(vi q)]) (φ:=fun v=>v= .tuple #[(.int .u64 k.1),(.bool k.2)]) rfl zou rfl rfl (fun aW W t=>za5 (z9d (zeo 2 rfl t) (jr (T:=(tSl false (zu .u64))) rfl ((I.mono s).mono W))) (z9d (zeo 0 rfl t) rfl) (z9d (zeo 1 rfl t) ⟨rfl,rfl⟩) au) fun aX av=>?_
 obtain rfl:=av;refine zb (.tuple #[(.int .u64 k.1),(.bool k.2)]) (zz (ja rfl rfl) (zz (ja rfl rfl) (zh (.int .u64 k.1) (zh (.bool k.2) (qw (zb (.bool k.2) (z8 (zq rfl a (fun a=>?_) (fun a=>?_)))))))));refine zl (zh vs0 (z8 ?_));obtain⟨u,c,a⟩:=zn a
 refine qm (γ:=(List Int)×Value×Frag) (rs [11,13,37,51]) (fun g=>[(11,g.2.1)]) (fun g=>[g.2.2]++A) (fun g R=>u=g.1∧ORep (zu .i64) R g.2.2 g.2.1 g.1∧True) ?_ ?_;refine zl (zz (uu (i:=0) ag3 rfl rfl rfl) (zb (vi 0) (z8 (qc (z8f ?_)))))
 refine qx (γ:=Nat×(List Int)×Int×Value×Frag) (rs [11,13,38,51]) (fun g=>[(11,g.2.2.2.1),(38,(vi g.2.2.1))]) (fun g=>[g.2.2.2.2]++A) (fun g R=>z0s N m k g.1 g.2.1 g.2.2.1=some u∧ORep (zu .i64) R g.2.2.2.2 g.2.2.2.1 g.2.1∧True) (fun g=>g.1) (N,[],0,vs0,emp) ⟨[box j [(vi m)] 3,box o [(.func (.func 44) #[] #[(.pointer (some ⟨n,0,none⟩)),(.pointer (some ⟨j,0,none⟩)),(.pointer (some ⟨o,0,none⟩))])] 96,box n [z] 94],(pk 1 rfl (pk 1 rfl (pk 1 rfl (pk 0 rfl (List.Perm.refl _)))))⟩ ⟨c,(z4c (T:=(zu .i64))),trivial⟩ ?_
 clear c;rintro⟨E,w,e,L,Z⟩ aY aZ aa ⟨c,M,_⟩;rcases E with _|E;exact qj c;replace c:z0s N m k (E+1) w e=some u:=c;rw [z0s] at c;refine zl (zz (j4 rfl rfl) (z8 (zt (zq rfl c (fun c=>?_) (fun c=>?_)))));refine q8 ?_;obtain⟨O,f,c⟩:=zn c
 refine qm (γ:=(List Int)×Value×Frag) (rs [11,13,40,50]) (fun g=>[(11,g.2.1)]) (fun g=>[g.2.2]++A) (fun g R=>O=g.1∧ORep (zu .i64) R g.2.2 g.2.1 g.1∧True) ?_ ?_;refine qc (zl (zb (vi e) (zh (vi e) (qw (zb (.int .u64 k.1) (zb (vi e) ?_))))));obtain⟨aw,f⟩:=ze f;refine zz (zar rfl rfl aw) ?_
 obtain⟨ax,f⟩:=ze f;refine zz (zcp rfl rfl ax) (zz (ow rfl rfl) (z8 (zq rfl f (fun f=>?_) (fun f=>?_))))
 refine zy (zb L (zb (vi e) (bz (T:=(zu .i64)) (X:=([e]:List Int)) (ps:=[(0,(vi e))]) (css:=[[(vi e)]]) rfl underlying40 zo3 rfl rfl (jl ⟨rfl,trivial⟩) rfl rfl (by decide) fun ay a0 P az=>?_)));refine ku (i:=0) rfl az fun aA G aB=>?_
 have aC:VRep (tSl true (zu .i64)) aA ay ([e]:List Int):=(z0b aB P);obtain⟨ab,f⟩:=ze f;refine z1l (i:=0) (X:=w) (Y:=([e]:List Int)) rfl underlying40 zo3 rfl rfl rfl (M.mono G) (jf (Sub.v (B:=(tSl false (zu .i64))) (u7 Sub.refl (fun _=>rfl)) aC)) ab.1 ab.2 fun ac aD aE=>?_;refine zh ac (z8 ?_)
 exact⟨dkt,G,jd,((w++([e]:List Int)),ac,aD),⟨rfl,trivial⟩,prm,(Option.some.inj f).symm,aE,trivial⟩;refine q8 ?_;exact⟨dkt,(RH.le.refl _),jd,(w,L,Z),⟨rfl,trivial⟩,prm,(Option.some.inj f).symm,M,trivial⟩;rintro⟨O,aF,aG⟩ a1 a2 ad ⟨rfl,aH,_⟩;refine zy ?_;obtain⟨aI,c⟩:=ze c
 refine zz (qp rfl rfl aI) (zb (vi (e+1)) (z8 ?_));exact⟨dkt,ad,jd,(E,O,e+1,aF,aG),Nat.lt_succ_self _,⟨rfl,rfl,trivial⟩,prm,c,aH,trivial⟩;refine jc ?_;exact⟨dkt,aa,jd,(w,L,Z),⟨rfl,trivial⟩,prm,(Option.some.inj c).symm,M,trivial⟩;rintro⟨u,ae,a3⟩ a4 a5 af ⟨rfl,aJ,_⟩
 refine zl (zb ae (ku (i:=0) rfl aJ fun ag Q ah=>?_));have ai:VRep (tSl false (zu .i64)) ag ae u:=(z8x ah);obtain⟨aM,aj,a⟩:=zn a;refine qy rfl zmw rfl (z6s ai aj) fun y aN S ak=>?_;refine zh y (zh (vi 0) (z8 (qf ?_)));replace b:=mg a b
 obtain rfl:=Option.some.inj b;refine qb (D:=[]) (J:=[]) (rs:=[.tmp 2,.tmp 3]) (vs:=[y,(vi 0)]) (((((((h.trans d).trans l).trans F).trans s).trans af).trans Q).trans S) rfl rfl ⟨rfl,rfl,trivial⟩ ?_;exact⟨rfl,⟨y,rfl,ak⟩⟩;refine q8 (zy ?_);obtain⟨al,a⟩:=ze a
 refine zz (qp rfl rfl al) (zb (vi (q+1)) (z8 ?_));exact⟨dkt,(RH.le.refl _),jd,(C,q+1),Nat.lt_succ_self _,⟨rfl,trivial⟩,prm,a,trivial⟩;refine jc ?_
 exact⟨dkt,s,jd,(),trivial,⟨[box j [(vi m)] 3,box o [(.func (.func 44) #[] #[(.pointer (some ⟨n,0,none⟩)),(.pointer (some ⟨j,0,none⟩)),(.pointer (some ⟨o,0,none⟩))])] 96,box n [z] 94],(List.Perm.refl _)⟩,(Option.some.inj a).symm,trivial⟩;rintro a6 aO a7 am ⟨rfl,_⟩;replace b:=ll b
 refine zl (zh vs0 (zh (vi 0) (z8 (qf ?_))));obtain rfl:=Option.some.inj b;refine qb (D:=[]) (J:=[]) (rs:=[.tmp 2,.tmp 3]) (vs:=[vs0,(vi 0)]) ((((h.trans d).trans l).trans F).trans am) rfl rfl ⟨rfl,rfl,trivial⟩ ?_;exact⟨rfl,⟨vs0,rfl,z1c⟩⟩
theorem zoq:Enters prog 19:=enters_of func19 rfl (by kernel_rfl)
theorem zbh{N:Nat}{R:RH}{x:(List Int)}{d:Value}(h:VRep (tSl false (zu .i64)) R d x){r:Int}(b:slices_Max_int N x=some r):CallP prog 78 #[d] R (fun v R'=>v=(vi r)):=by
 refine qg (args:=[d]) func78 rfl rfl fun A=>?_;rw [slices_Max_int] at b;refine zl (zh (vi 0) (z8 (zt (zl (zb d (zz (qi rfl underlying40 rfl (jf h)) (zz (j4 rfl rfl) (z8 (zq rfl b (fun b=>?_) (fun b=>?_))))))))));exact qj b;refine q8 (zl (zb d ?_));obtain⟨q,b⟩:=ze b
 refine jq (i:=(0:Int).toNat) rfl z00 rfl (jf h) (zi rfl q.1) (zx q) fun C s=>?_;refine j3 rfl ty3 rfl s fun E t=>?_;obtain rfl:=qd.1 t;refine zh (vi (ix x 0)) (z8 ?_);obtain⟨k,a,b⟩:=zn b
 refine qm (γ:=Int) (rs [3,5,12,24]) (fun g=>[(3,(vi g))]) (fun g=>[]++A) (fun g R=>k=g∧True) ?_ ?_
 refine zl (zh (vi 1) (z8 (qc (qx (γ:=Nat×Int×Int) (rs [3,5,12,24]) (fun g=>[(3,(vi g.2.1)),(4,(vi g.2.2))]) (fun g=>[]++A) (fun g R=>z0r N x g.1 g.2.1 g.2.2=some k∧True) (fun g=>g.1) (N,(ix x 0),1) prm ⟨a,trivial⟩ ?_))));clear a;rintro⟨j,e,c⟩ u w f ⟨a,_⟩;rcases j with _|j
 exact qj a;replace a:z0r N x (j+1) e c=some k:=a;rw [z0r] at a;refine zt (zl (zb (vi c) (zb d (zz (qi rfl underlying40 rfl (jf (h.mono f))) (zz (j4 rfl rfl) (z8 (zq rfl a (fun a=>?_) (fun a=>?_))))))))
 refine q8 (zt (qc (zy (zb (vi e) (zb d (zb (vi c) ?_))))));obtain⟨l,a⟩:=ze a;refine jq (i:=c.toNat) rfl z00 rfl (jf (h.mono f)) (zi rfl l.1) (zx l) fun y m=>?_;refine j3 rfl ty3 rfl m fun z n=>?_;obtain rfl:=qd.1 n
 refine zz (zfa rfl underlying3 rfl rfl) (zh (vi (max e (ix x c))) (z8 (zy (zb (vi c) ?_))));obtain⟨o,a⟩:=ze a;refine zz (qp rfl rfl o) (zh (vi (c+1)) (z8 ?_));exact⟨dkt,(RH.le.refl _),jd,(j,max e (ix x c),c+1),Nat.lt_succ_self _,⟨rfl,rfl,trivial⟩,prm,a,trivial⟩;refine jc ?_
 exact⟨dkt,f,jd,e,⟨rfl,trivial⟩,prm,(Option.some.inj a).symm,trivial⟩;rintro k B F p ⟨rfl,_⟩;refine zl (zb (vi k) (zh (vi k) (z8 (qf ?_))));obtain rfl:=Option.some.inj b;refine qb (D:=[]) (J:=[]) (rs:=[.tmp 2]) (vs:=[(vi k)]) p rfl rfl ⟨rfl,trivial⟩ ?_;exact⟨rfl,rfl⟩
theorem zq8:Enters prog 78:=enters_of func78 rfl (by kernel_rfl)
theorem za8{N:Nat}{R:RH}{s:(List Int)}{c:Value}(h:VRep (tSl false (zu .i64)) R c s){f:Int}{r:Int}(b:slices_Index_int N s f=some r):CallP prog 79 #[c,(vi f)] R (fun v R'=>v=(vi r)):=by
 refine qg (args:=[c,(vi f)]) func79 rfl rfl fun A=>?_;rw [slices_Index_int] at b;refine zl (zh (vi 0) (z8 ?_));obtain⟨l,a,b⟩:=zn b;refine qm (γ:=Unit) (rs [4,19]) (fun g=>[]) (fun g=>[]++A) (fun g R=>l=Ex.go g∧True) ?_ ?_
 refine zl (zb c (zz (qi rfl underlying40 rfl (jf h)) (zb (vi 0) (z8 (qc (qx (γ:=Nat×Int) (rs [4,6,8,19]) (fun g=>[(8,(vi g.2))]) (fun g=>[]++A) (fun g R=>z07 N s f g.1 g.2=some l∧True) (fun g=>g.1) (N,0) prm ⟨a,trivial⟩ ?_))))));clear a;rintro⟨k,d⟩ q x e ⟨a,_⟩;rcases k with _|k
 exact qj a;replace a:z07 N s f (k+1) d=some l:=a;rw [z07] at a;refine zl (zz (j4 rfl rfl) (z8 (zt (zq rfl a (fun a=>?_) (fun a=>?_)))));refine q8 (zt (qc (zl (zb (vi d) (zh (vi d) (qw (zb (vi f) (zb c (zb (vi d) ?_)))))))))
 obtain⟨j,a⟩:=ze a;refine jq (i:=d.toNat) rfl z00 rfl (jf (h.mono e)) (zi rfl j.1) (zx j) fun t m=>?_;refine j3 rfl ty3 rfl m fun u n=>?_;obtain rfl:=qd.1 n;refine zz (ow rfl rfl) (z8 (zq rfl a (fun a=>?_) (fun a=>?_)))
 refine zl (zb (vi d) (zh (vi d) (z8 (qf ?_))));replace b:=mg a b;obtain rfl:=Option.some.inj b;refine qb (D:=[]) (J:=[]) (rs:=[.tmp 4]) (vs:=[(vi d)]) e rfl rfl ⟨rfl,trivial⟩ ?_;exact⟨rfl,rfl⟩;refine q8 (zy ?_);obtain⟨o,a⟩:=ze a
 refine zz (qp rfl rfl o) (zb (vi (d+1)) (z8 ?_));exact⟨dkt,(RH.le.refl _),jd,(k,d+1),Nat.lt_succ_self _,⟨rfl,trivial⟩,prm,a,trivial⟩;refine jc ?_;exact⟨dkt,e,jd,(),trivial,prm,(Option.some.inj a).symm,trivial⟩;rintro y w z p ⟨rfl,_⟩;replace b:=ll b;refine zl (zh (vi (-1)) (z8 (qf ?_)))
 obtain rfl:=Option.some.inj b;refine qb (D:=[]) (J:=[]) (rs:=[.tmp 4]) (vs:=[(vi (-1))]) p rfl rfl ⟨rfl,trivial⟩ ?_;exact⟨rfl,rfl⟩
theorem zqc:Enters prog 79:=enters_of func79 rfl (by kernel_rfl)
theorem zc0{N:Nat}{R:RH}{h:(List Int)}{b:Value}(c:VRep (tSl false (zu .i64)) R b h){r:Int×Bool}(a:z7d N h=some r):CallP prog 50 #[b] R (fun v R'=>v= .tuple #[(vi r.1),(.bool r.2)]):=by
 refine qg (args:=[b]) func50 rfl rfl fun A=>?_;rw [z7d] at a;refine zl (zh (vi 0) (zh (.bool false) (z8 (zt (zl (zb b (zz (qi rfl underlying40 rfl (jf c)) (zz (ow rfl rfl) (z8 (zq rfl a (fun a=>?_) (fun a=>?_)))))))))))
 refine zl (zh (vi 0) (zh (.bool false) (z8 (qf ?_))));obtain rfl:=Option.some.inj a;refine qb (D:=[]) (J:=[]) (rs:=[.tmp 2,.tmp 3]) (vs:=[(vi 0),(.bool false)]) (RH.le.refl _) rfl rfl ⟨rfl,rfl,trivial⟩ ?_;exact⟨rfl,rfl⟩;refine q8 (zl (zb b ?_));obtain⟨d,j,a⟩:=zn a
 refine qy rfl zq8 rfl (zbh c j) fun o p e k=>?_;obtain rfl:=k;refine zh (vi d) (qw (zb b (zb (vi d) ?_)));obtain⟨i,l,a⟩:=zn a;refine qy rfl zqc rfl (za8 (c.mono e) l) fun m n f g=>?_;obtain rfl:=g
 refine zb (vi d) (zz (vz rfl rfl) (zh (vi i) (zh (.bool (decide (0<d))) (z8 (qf ?_)))));obtain rfl:=Option.some.inj a;refine qb (D:=[]) (J:=[]) (rs:=[.tmp 2,.tmp 3]) (vs:=[(vi i),(.bool (decide (0<d)))]) (e.trans f) rfl rfl ⟨rfl,rfl,trivial⟩ ?_;exact⟨rfl,rfl⟩
theorem zq0:Enters prog 50:=enters_of func50 rfl (by kernel_rfl)
theorem z7f{N:Nat}{R:RH}{x:Sa}{m:Value}(G:VRep (qa false false) R m x){is:Int→Option Bool}{d:Value}(s:FOk1 prog R d (zu .i64) z3z is){r:(List Int)}(h:z1a N x is=some r):CallG prog 48 #[m,d] R [] (fun v R' O'=> ∃ u0_0 g0_0,v=u0_0∧O'=[g0_0]∧ORep (zu .i64) R' g0_0 u0_0 r):=by
 refine ym (args:=[m,d]) func48 rfl rfl fun A=>?_;rw [z1a] at h;refine zl (wu (T:=(qa false false)) rfl rfl rfl G fun v1 R3 t h5 h2=>?_);refine zh vs0 (z8 ?_);obtain⟨E,a,h⟩:=zn h
 refine qm (γ:=(List Int)×Value×Frag) (rs [4,20]) (fun g=>[(4,g.2.1)]) (fun g=>[g.2.2]++A) (fun g R=>E=g.1∧ORep (zu .i64) R g.2.2 g.2.1 g.1∧True) ?_ ?_;refine zl (xy rfl z2e uq rfl h2 fun af H=>?_);refine j3 rfl zc3 rfl H fun ag I=>?_
 refine zz (qi rfl underlying38 rfl (jf I)) (zb (vi 0) (z8 (qc (z8f ?_))))
 refine qx (γ:=Nat×(List Int)×Int×Value×Frag) (rs [4,6,9,20]) (fun g=>[(4,g.2.2.2.1),(9,(vi g.2.2.1))]) (fun g=>[g.2.2.2.2]++A) (fun g R=>og N x is g.1 g.2.1 g.2.2.1=some E∧ORep (zu .i64) R g.2.2.2.2 g.2.2.2.1 g.2.1∧True) (fun g=>g.1) (N,[],0,vs0,emp) prm ⟨a,(z4c (T:=(zu .i64))),trivial⟩ ?_
 clear a;rintro⟨j,f,b,n,u⟩ ah ai k ⟨a,o,_⟩;rcases j with _|j;exact qj a;replace a:og N x is (j+1) f b=some E:=a;rw [og] at a;refine zl (zz (j4 rfl rfl) (z8 (zt (zq rfl a (fun a=>?_) (fun a=>?_)))));refine q8 ?_;obtain⟨p,c,a⟩:=zn a
 refine qm (γ:=(List Int)×Value×Frag) (rs [4,6,11,19]) (fun g=>[(4,g.2.1)]) (fun g=>[g.2.2]++A) (fun g R=>p=g.1∧ORep (zu .i64) R g.2.2 g.2.1 g.1∧True) ?_ ?_;refine qc (zl (zb (vi b) (zh (vi b) (qw (zb d (zb (vi b) ?_))))));obtain⟨aj,K,c⟩:=zn c
 refine z7l rfl rfl rfl ((s.mono (t.trans k)) _ (RH.le.refl _) b _ _ (qd.2 rfl) K) fun ak al e L=>?_;obtain rfl:=ik.1 L;refine z8 (zq rfl c (fun c=>?_) (fun c=>?_))
 refine zy (zb n (zb (vi b) (bz (T:=(zu .i64)) (X:=([b]:List Int)) (ps:=[(0,(vi b))]) (css:=[[(vi b)]]) rfl underlying40 zo3 rfl rfl (jl ⟨rfl,trivial⟩) rfl rfl (by decide) fun M am q O=>?_)));refine ku (i:=0) rfl O fun P l Q=>?_
 have S:VRep (tSl true (zu .i64)) P M ([b]:List Int):=(z0b Q q);obtain⟨w,c⟩:=ze c;refine z1l (i:=0) (X:=f) (Y:=([b]:List Int)) rfl underlying40 zo3 rfl rfl rfl (o.mono (e.trans l)) (jf (Sub.v (B:=(tSl false (zu .i64))) (u7 Sub.refl (fun _=>rfl)) S)) w.1 w.2 fun y U V=>?_;refine zh y (z8 ?_)
 exact⟨dkt,(e.trans l),jd,((f++([b]:List Int)),y,U),⟨rfl,trivial⟩,prm,(Option.some.inj c).symm,V,trivial⟩;refine q8 ?_;exact⟨dkt,e,jd,(f,n,u),⟨rfl,trivial⟩,prm,(Option.some.inj c).symm,(o.mono e),trivial⟩;rintro⟨p,W,Z⟩ an ao z ⟨rfl,aa,_⟩;refine zy ?_;obtain⟨ab,a⟩:=ze a
 refine zz (qp rfl rfl ab) (zb (vi (b+1)) (z8 ?_));exact⟨dkt,z,jd,(j,p,b+1,W,Z),Nat.lt_succ_self _,⟨rfl,rfl,trivial⟩,prm,a,aa,trivial⟩;refine jc ?_;exact⟨dkt,k,jd,(f,n,u),⟨rfl,trivial⟩,prm,(Option.some.inj a).symm,o,trivial⟩;rintro⟨E,F,C⟩ ap R7 ac ⟨rfl,ad,_⟩
 refine zl (zb F (zh F (z8 (qf ?_))));obtain rfl:=Option.some.inj h;refine um (D:=[]) (J:=[]) (O':=[C]) (rs:=[.tmp 4]) (vs:=[F]) (t.trans ac) ((pk 0 rfl (List.Perm.refl _))) rfl ⟨rfl,trivial⟩ ?_;exact⟨F,C,rfl,rfl,ad⟩
theorem z5z{N:Nat}{R:RH}{x:Sa}{I:Value}(s:VRep (qa false false) R I x){rows:(List Int)}{f:Value}(p:VRep (tSl false (zu .i64)) R f rows){r:(List Int)}(l:z0y N x rows=some r):CallG prog 51 #[I,f] R [] (fun v R' O'=> ∃ u0_0 g0_0,v=u0_0∧O'=[g0_0]∧ORep (zu .i64) R' g0_0 u0_0 r∧capOf u0_0=r.length):=by
 refine ym (args:=[I,f]) func51 rfl rfl fun A=>?_;rw [z0y] at l;refine zl (wu (T:=(qa false false)) rfl rfl rfl s fun v1 R3 o h5 h2=>?_);refine zh vs0 (qw (zz (jo z3b rfl rfl h5 (s.mono o)) ?_));obtain⟨y6,c7,l⟩:=zn l
 refine qy rfl zk4 rfl (ol (s.mono o) c7) fun v8 az k h9=>?_;obtain rfl:=h9;obtain⟨w,l⟩:=ze l;refine zc9 (T:=(zu .i64)) (m:=y6.toNat) (c:=y6.toNat) rfl underlying40 zo3 (zi rfl w.1) (zi rfl w.1) (Nat.le_refl _) (ze4 w) (ze8 w) fun d ac K ad=>?_;refine zh d (z8 ?_)
 obtain⟨y,b,l⟩:=zn l;refine qm (γ:=(List Int)×Frag) (rs [7,8,9,10,13,35]) (fun g=>[]) (fun g=>[g.2]++A) (fun g R=>y=g.1∧ORep (zu .i64) R g.2 d g.1∧capOf d=g.1.length∧True) ?_ ?_
 refine zl (zb f (zz (qi rfl underlying40 rfl (jf (p.mono (o.trans k)))) (zb (vi 0) (z8 (qc (qx (γ:=Nat×Int×(List Int)×Frag) (rs [7,8,9,10,15,35]) (fun g=>[(15,(vi g.2.1))]) (fun g=>[g.2.2.2]++A) (fun g R=>ni N x rows g.1 g.2.1 g.2.2.1=some y∧ORep (zu .i64) R g.2.2.2 d g.2.2.1∧capOf d=g.2.2.1.length∧True) (fun g=>g.1) (N,0,(mk y6 (0:Int)),ac) prm ⟨b,ad,(K.trans List.length_replicate.symm),trivial⟩ ?_))))))
 clear b;rintro⟨z,q,L,P⟩ aB aC n ⟨b,Q,E,_⟩;rcases z with _|z;exact qj b;replace b:ni N x rows (z+1) q L=some y:=b;rw [ni] at b;refine zl (zz (j4 rfl rfl) (z8 (zt (zq rfl b (fun b=>?_) (fun b=>?_)))));refine q8 ?_
 obtain⟨t,a,b⟩:=zn b;refine qm (γ:=(List Int)×Frag) (rs [7,8,9,10,17,34]) (fun g=>[]) (fun g=>[g.2]++A) (fun g R=>t=g.1∧ORep (zu .i64) R g.2 d g.1∧capOf d=g.1.length∧True) ?_ ?_;refine qc (zl ?_);obtain⟨S,a⟩:=ze a
 refine jq (i:=q.toNat) rfl z00 rfl (jf (p.mono ((o.trans k).trans n))) (zi rfl S.1) (zx S) fun aD ae=>?_;refine j3 rfl ty3 rfl ae fun aE af=>?_;obtain rfl:=qd.1 af
 refine zh (vi (ix rows q)) (qw (zz (jo z3b rfl rfl (h5.mono (k.trans n)) (s.mono ((o.trans k).trans n))) (zb (vi (ix rows q)) ?_)));obtain⟨h,ag,a⟩:=zn a;refine qy rfl zii rfl (pq (s.mono ((o.trans k).trans n)) ag) fun aF aG F U=>?_
 refine zz (qi rfl underlying40 rfl (jf U)) (zb (vi 0) (z8 (qc (qx (γ:=Nat×Int×(List Int)×Frag) (rs [9,10,23,34]) (fun g=>[(23,(vi g.2.1))]) (fun g=>[g.2.2.2]++A) (fun g R=>nk N h g.1 g.2.1 g.2.2.1=some t∧ORep (zu .i64) R g.2.2.2 d g.2.2.1∧capOf d=g.2.2.1.length∧True) (fun g=>g.1) (N,0,L,P) prm ⟨a,(Q.mono F),E,trivial⟩ ?_))))
 clear a;rintro⟨B,e,C,ah⟩ aH aI G ⟨a,u,H,_⟩;rcases B with _|B;exact qj a;replace a:nk N h (B+1) e C=some t:=a;rw [nk] at a;refine zl (zz (j4 rfl rfl) (z8 (zt (zq rfl a (fun a=>?_) (fun a=>?_)))));refine q8 (zt (qc (zl ?_)))
 obtain⟨V,a⟩:=ze a;refine jq (i:=e.toNat) rfl z00 rfl (jf (U.mono G)) (zi rfl V.1) (zx V) fun aJ ai=>?_;refine j3 rfl ty3 rfl ai fun aK aj=>?_;obtain rfl:=qd.1 aj;refine zh (vi (ix h e)) (z8 (zy (zb d (zb (vi (ix h e)) ?_))));obtain⟨M,a⟩:=ze a
 refine z2g (i:=(ix h e).toNat) rfl z00 rfl u (zi rfl M.1) (zx M) fun aL ak=>?_;refine z98 (i:=(ix h e).toNat) (j:=0) rfl ty3 u rfl rfl ak (zx M) fun aM al=>?_;obtain rfl:=qd.1 al;obtain⟨am,a⟩:=ze a;refine zz (qp rfl rfl am) ?_;obtain⟨O,a⟩:=ze a
 refine z2g (i:=(ix h e).toNat) rfl z00 rfl u (zi rfl O.1) (zx O) fun aN an=>?_;refine z5y (i:=(ix h e).toNat) (j:=0) ty3 u rfl rfl an (zx O) rfl (qd.2 rfl) fun ao ap=>?_;refine z8 (zy ?_);obtain⟨aq,a⟩:=ze a;refine zz (qp rfl rfl aq) (zb (vi (e+1)) (z8 ?_))
 exact⟨dkt,(RH.le.refl _),jd,(B,e+1,(up C (ix h e) ((ix C (ix h e))+1)),ao),Nat.lt_succ_self _,⟨rfl,trivial⟩,prm,a,ap,(H.trans List.length_set.symm),trivial⟩;refine jc ?_;exact⟨dkt,(F.trans G),jd,(C,ah),trivial,prm,(Option.some.inj a).symm,u,H,trivial⟩;rintro⟨t,ar⟩ aO aP W ⟨rfl,au,X,_⟩;refine zy ?_
 obtain⟨av,b⟩:=ze b;refine zz (qp rfl rfl av) (zb (vi (q+1)) (z8 ?_));exact⟨dkt,W,jd,(z,q+1,t,ar),Nat.lt_succ_self _,⟨rfl,trivial⟩,prm,b,au,X,trivial⟩;refine jc ?_;exact⟨dkt,n,jd,(L,P),trivial,prm,(Option.some.inj b).symm,Q,E,trivial⟩;rintro⟨y,Y⟩ aQ aR Z ⟨rfl,aw,aa,_⟩
 refine zl (zb d (zh d (z8 (qf ?_))));obtain rfl:=Option.some.inj l;refine um (D:=[]) (J:=[]) (O':=[Y]) (rs:=[.tmp 4]) (vs:=[d]) ((o.trans k).trans Z) ((pk 0 rfl (List.Perm.refl _))) rfl ⟨rfl,trivial⟩ ?_;exact⟨d,Y,rfl,rfl,aw,aa⟩
end GV
end Go.Proofs.YtkhihcleegljhaaGreat
