import Derived.Test.YtjmlpkkbmnjhcaaShWd
import Derived.Test.YtjmlpkkbmnjhcaaRows
set_option linter.unusedVariables false
set_option linter.unusedSimpArgs false
set_option linter.unusedSectionVars false
namespace Go.Proofs.Ytjmlpkkbmnjhcaa
namespace GV
open _root_.Go.Proofs.Try
open Go.IntWalk
set_option maxRecDepth 100000
set_option maxHeartbeats 20000000
theorem zyy:Enters prog 95:=enters_of func95 rfl (by kernel_rfl)
theorem zvh:Enters prog 68:=enters_of func68 rfl (by kernel_rfl)
theorem z4k{N:Nat}(F:Nat): ∀ {R:RH} {data:List Int} {c:Value} {fE:Frag} (G:ORep (q8 .u16) R fE c data) {a:Int} {b:Int} {limit:Int} {r:List Int} (d:uk N F data a b limit=some r),CallG prog 68 #[c,(vi a),(vi b),(vi limit)] R [fE] (fun v R' O'=> ∃ H,v= .tuple #[]∧O'=[H]∧ORep (q8 .u16) R' H c r):=by
  induction F with
  |zero=>intros;rename_i d;exact qy d
  |succ F ih=>
    intro R data c fE G a b limit r d
    refine tu (args:=[c,(vi a),(vi b),(vi limit)]) func68 rfl rfl fun A=>?_
    rw [uk] at d
    refine qb ?_
    refine zz ?_
    refine zi (.bool true) ?_
    refine za ?_
    refine qb ?_
    refine zz ?_
    refine zi (.bool true) ?_
    refine za ?_
    refine qd ?_
    refine j4 (γ:=Nat×Int×Int×Int×Bool×Bool×(List Int)×Frag) (rs [1,4,8,134]) (fun g=>[(1,(vi g.2.1)),(2,(vi g.2.2.1)),(3,(vi g.2.2.2.1)),(8,(.bool g.2.2.2.2.1)),(9,(.bool g.2.2.2.2.2.1))]) (fun g=>[g.2.2.2.2.2.2.2]++A) (fun g R=>u7 N (uk N F) g.1 g.2.1 g.2.2.1 g.2.2.2.1 g.2.2.2.2.1 g.2.2.2.2.2.1 g.2.2.2.2.2.2.1=some r∧ORep (q8 .u16) R g.2.2.2.2.2.2.2 c g.2.2.2.2.2.2.1∧True) (fun g=>g.1) (N,a,b,limit,true,true,data,fE) prm ⟨d,G,trivial⟩ ?_
    clear d
    rintro⟨F1,f,m,x4,x5,x6,x7,U⟩ bZ R8 aa ⟨d,V,_⟩
    rcases F1 with _|F1
    · exact qy d
    replace d:u7 N (uk N F) (F1+1) f m x4 x5 x6 x7=some r:=d;rw [u7] at d
    refine qd ?_
    refine qb ?_
    refine zz ?_
    refine zf (vi m) ?_
    refine zf (vi f) ?_
    obtain⟨bh,d⟩:=zb d
    refine zy (ul rfl rfl bh) ?_
    refine zi (vi (m-f)) ?_
    refine za ?_
    refine qb ?_
    refine qb ?_
    refine zz ?_
    refine zf (vi (m-f)) ?_
    refine zy (z2p rfl rfl) ?_
    refine za ?_
    refine qa rfl d (fun d=>?_) (fun d=>?_)
    · refine qb ?_
      refine zz ?_
      refine zf c ?_
      refine zf (vi f) ?_
      refine zf (vi m) ?_
      obtain⟨cL,bi,d⟩:=zx d
      refine ic (Oc:=[U]) (Or:=[]++A) (cs:=[]) (vs:=[c,(vi f),(vi m)]) rfl zys rfl rfl ((pk 0 rfl (List.Perm.refl _))) (z3v V bi) fun cM cN b0 ai bj=>?_
      obtain⟨aj,rfl,rfl,bk⟩:=bj
      refine za ?_
      refine qm ?_
      obtain rfl:=Option.some.inj d
      refine yu (D:=[]) (J:=[]) (O':=[aj]) (rs:=[]) (vs:=[]) (aa.trans ai) ((pk 0 rfl (List.Perm.refl _))) rfl trivial ?_
      exact⟨aj,rfl,rfl,bk⟩
    · refine qf ?_
      refine qb ?_
      refine qb ?_
      refine zz ?_
      refine zf (vi x4) ?_
      refine zy (o7 rfl rfl) ?_
      refine za ?_
      refine qa rfl d (fun d=>?_) (fun d=>?_)
      · refine qb ?_
        refine zz ?_
        refine zf c ?_
        refine zf (vi f) ?_
        refine zf (vi m) ?_
        obtain⟨cO,bl,d⟩:=zx d
        refine ic (Oc:=[U]) (Or:=[]++A) (cs:=[]) (vs:=[c,(vi f),(vi m)]) rfl zz9 rfl rfl ((pk 0 rfl (List.Perm.refl _))) (z5n V bl) fun cP cQ b1 ak bm=>?_
        obtain⟨al,rfl,rfl,bo⟩:=bm
        refine za ?_
        refine qm ?_
        obtain rfl:=Option.some.inj d
        refine yu (D:=[]) (J:=[]) (O':=[al]) (rs:=[]) (vs:=[]) (aa.trans ak) ((pk 0 rfl (List.Perm.refl _))) rfl trivial ?_
        exact⟨al,rfl,rfl,bo⟩
      · refine qf ?_
        obtain⟨t,k,d⟩:=zx d
        refine qo (γ:=(Int×List Int)×Frag) (rs [3,4,34,42]) (fun g=>[(3,(vi g.1.1))]) (fun g=>[g.2]++A) (fun g R=>t=g.1∧ORep (q8 .u16) R g.2 c g.1.2∧True) ?_ ?_
        · refine qb ?_
          refine zz ?_
          refine zf (.bool x5) ?_
          refine zy (lg rfl) ?_
          refine za ?_
          refine qa rfl k (fun k=>?_) (fun k=>?_)
          · refine qb ?_
            refine zz ?_
            refine zf c ?_
            refine zf (vi f) ?_
            refine zf (vi m) ?_
            obtain⟨bp,br,k⟩:=zx k
            refine ic (Oc:=[U]) (Or:=[]++A) (cs:=[]) (vs:=[c,(vi f),(vi m)]) rfl zzv rfl rfl ((pk 0 rfl (List.Perm.refl _))) (z3w V br) fun cR cS b2 am bs=>?_
            obtain⟨bt,rfl,rfl,bu⟩:=bs
            refine za ?_
            refine zz ?_
            refine zf (vi x4) ?_
            obtain⟨bv,k⟩:=zb k
            refine zy (ul rfl rfl bv) ?_
            refine zi (vi (x4-1)) ?_
            refine za ?_
            exact⟨dkt,am,je,((x4-1,bp),bt),⟨rfl,trivial⟩,prm,(Option.some.inj k).symm,bu,trivial⟩
          · refine qf ?_
            exact⟨dkt,(RH.le.refl _),je,((x4,x7),U),⟨rfl,trivial⟩,prm,(Option.some.inj k).symm,V,trivial⟩
        · rintro⟨t,an⟩ cT cU I ⟨rfl,ab,_⟩
          refine qb ?_
          refine zz ?_
          refine zf c ?_
          refine zf (vi f) ?_
          refine zf (vi m) ?_
          obtain⟨s,bw,d⟩:=zx d
          refine za0 (cs:=[]) (vs:=[c,(vi f),(vi m)]) (φ:=fun v=>v= .tuple #[(vi s.1),(vi s.2)]) rfl zzh rfl rfl (fun bx ao ap=>z4j (z7k ((z5v 0 rfl ab ao ap):VRep (xg (q8 .u16)) bx c t.2)) bw) fun cV bz=>?_
          obtain rfl:=bz
          refine zf (.tuple #[(vi s.1),(vi s.2)]) ?_
          refine zy (qx rfl rfl) ?_
          refine zy (qx rfl rfl) ?_
          refine zi (vi s.1) ?_
          refine zi (vi s.2) ?_
          refine za ?_
          obtain⟨n,k,d⟩:=zx d
          refine qo (γ:=(Int×Int×List Int)×Frag) (rs [11,13,49,61]) (fun g=>[(11,(vi g.1.1)),(12,(vi g.1.2.1))]) (fun g=>[g.2]++A) (fun g R=>n=g.1∧ORep (q8 .u16) R g.2 c g.1.2.2∧True) ?_ ?_
          · refine qb ?_
            refine zz ?_
            refine zf (vi s.2) ?_
            refine zy (o7 rfl rfl) ?_
            refine za ?_
            refine qa rfl k (fun k=>?_) (fun k=>?_)
            · refine qb ?_
              refine zz ?_
              refine zf c ?_
              refine zf (vi f) ?_
              refine zf (vi m) ?_
              obtain⟨bA,bB,k⟩:=zx k
              refine ic (Oc:=[an]) (Or:=[]++A) (cs:=[]) (vs:=[c,(vi f),(vi m)]) rfl q02 rfl rfl ((pk 0 rfl (List.Perm.refl _))) (z4f ab bB) fun cW cX b3 aq bC=>?_
              obtain⟨bD,rfl,rfl,bE⟩:=bC
              refine za ?_
              refine qb ?_
              refine zz ?_
              refine zf (vi m) ?_
              obtain⟨bF,k⟩:=zb k
              refine zy (ul rfl rfl bF) ?_
              refine zf (vi s.1) ?_
              refine zf (vi f) ?_
              obtain⟨bG,k⟩:=zb k
              refine zy (ul rfl rfl bG) ?_
              obtain⟨bH,k⟩:=zb k
              refine zy (ul rfl rfl bH) ?_
              refine zi (vi ((m-1)-(s.1-f))) ?_
              refine za ?_
              refine zz ?_
              refine zi (vi 1) ?_
              refine za ?_
              exact⟨dkt,aq,je,(((m-1)-(s.1-f),1,bA),bD),⟨rfl,rfl,trivial⟩,prm,(Option.some.inj k).symm,bE,trivial⟩
            · refine qf ?_
              exact⟨dkt,(RH.le.refl _),je,((s.1,s.2,t.2),an),⟨rfl,rfl,trivial⟩,prm,(Option.some.inj k).symm,ab,trivial⟩
          · rintro⟨n,ar⟩ cY cZ K ⟨rfl,au,_⟩
            obtain⟨bI,k,d⟩:=zx d
            refine qo (γ:=(List Int)×Frag) (rs [61,73]) (fun g=>[]) (fun g=>[g.2]++A) (fun g R=>bI=Ex.go g.1∧ORep (q8 .u16) R g.2 c g.1∧True) ?_ ?_
            · refine qb ?_
              refine zz ?_
              refine jg (v:=(.bool x5)) rfl (z8 rfl) ?_
              refine jg (v:=(.bool x5)) rfl (z8 rfl) ?_
              refine ja rfl rfl rfl rfl (fun p=>qp (v:=(.bool x6)) (z8 rfl)) fun c0 bJ=>?_
              refine jg rfl (xn rfl (fun hb=>(bJ.1 (zo rfl hb))) rfl) ?_
              refine jg (v:=(.bool (x5&&x6))) rfl (z8 rfl) ?_
              refine ja rfl rfl rfl rfl (fun p=>qp (v:=(vi n.2.1)) (z8 rfl)) fun c1 bK=>?_
              refine ja rfl rfl rfl rfl (fun p=>qp (o7 (bK.1 (zo rfl p)) rfl)) fun c2 bL=>?_
              refine jg rfl (xn rfl (fun hb=>(bL.1 (zo rfl hb))) rfl) ?_
              refine za ?_
              refine qa rfl k (fun k=>?_) (fun k=>?_)
              · refine qb ?_
                refine zz ?_
                refine zf c ?_
                refine zf (vi f) ?_
                refine zf (vi m) ?_
                obtain⟨aw,ax,k⟩:=zx k
                refine ic (Oc:=[ar]) (Or:=[]++A) (cs:=[]) (vs:=[c,(vi f),(vi m)]) rfl q0a rfl rfl ((pk 0 rfl (List.Perm.refl _))) (z2k au ax) fun b4 b5 bM M ay=>?_
                obtain⟨O,rfl,rfl,W⟩:=ay
                refine za ?_
                refine qa rfl k (fun k=>?_) (fun k=>?_)
                · refine qm ?_
                  replace d:=z1e k d
                  obtain rfl:=Option.some.inj d
                  refine yu (D:=[]) (J:=[]) (O':=[O]) (rs:=[]) (vs:=[]) (((aa.trans I).trans K).trans M) ((pk 0 rfl (List.Perm.refl _))) rfl trivial ?_
                  exact⟨O,rfl,rfl,W⟩
                · refine qf ?_
                  exact⟨dkt,M,je,(aw.2,O),trivial,prm,(Option.some.inj k).symm,W,trivial⟩
              · refine qf ?_
                exact⟨dkt,(RH.le.refl _),je,(n.2.2,ar),trivial,prm,(Option.some.inj k).symm,au,trivial⟩
            · rintro⟨x,az⟩ b6 c3 P ⟨rfl,L,_⟩
              replace d:=z1x d
              refine qb ?_
              refine qb ?_
              obtain⟨aA,Q,S,d⟩:=zs3 d
              obtain⟨B,aB,d⟩:=zx d
              refine oz 15 [] [phX (vi f),phX (.bool (decide (0<f))),phX (.bool (decide (0<f))),phG (true&&((decide (0<f))==true)) (phX c),phG (true&&((decide (0<f))==true)) (phX (vi f)),phG (true&&((decide (0<f))==true)) (phX (vi (f-1))),phG (true&&((decide (0<f))==true)) ((fun u _=>yh (q8 .u16) c x u (f-1).toNat)),phG (true&&((decide (0<f))==true)) (phX (.int .u16 (ix x (f-1)))),phG (true&&((decide (0<f))==true)) (phX c),phG (true&&((decide (0<f))==true)) (phX (vi n.1)),phG (true&&((decide (0<f))==true)) ((fun u _=>yh (q8 .u16) c x u n.1.toNat)),phG (true&&((decide (0<f))==true)) (phX (.int .u16 (ix x n.1))),phG (true&&((decide (0<f))==true)) (phX (.bool (B.getD default))),phG (true&&((decide (0<f))==true)) (phX (.bool (!(B.getD default)))),phX (.bool ((decide (0<f))&&(!(B.getD default))))] mixed (by kernel_rfl) (dw ⟨zh,zh,zh,(qi zh),(qi zh),(qi zh),(qi (fun _ _ _ _ h=>h)),(qi zh),(qi zh),(qi zh),(qi (fun _ _ _ _ h=>h)),(qi zh),(qi zh),(qi zh),zh,trivial⟩) ⟨?_,?_,?_,?_,?_,?_,?_,?_,?_,?_,?_,?_,?_,?_,?_,trivial⟩ fun b7 w=>?_
              · intro l c4 o y hd
                have a1:l 1=(vi f):=y 1 rfl
                exact zg rfl rfl rfl (zn (z8 a1))
              · rintro l c5 o y ⟨q,_⟩
                have bO:=q rfl
                exact zg rfl rfl rfl (zn (z0l bO rfl))
              · rintro l c6 o y ⟨q,_⟩
                have bP:=q rfl
                exact zg rfl rfl rfl (zn (z8 bP))
              · rintro l c7 o y ⟨q,_⟩
                have a0:l 0=c:=y 0 rfl
                exact zq (Gj:=true) (Bj:=decide (0<f)) rfl rfl rfl (jd (q rfl)) rfl (fun z p=>zn (z8 a0))
              · rintro l c8 o y ⟨q,_⟩
                have a1:l 1=(vi f):=y 1 rfl
                exact zq (Gj:=true) (Bj:=decide (0<f)) rfl rfl rfl (jd (q rfl)) rfl (fun z p=>zn (z8 a1))
              · rintro l c9 o y ⟨q,E,_⟩
                have aC:=q rfl
                exact zq (Gj:=true) (Bj:=decide (0<f)) rfl rfl rfl (jd (E rfl)) rfl (fun z p=>zn (ul (show l 77=(vi f) from aC.1 (zo rfl p)) rfl (aA (zo z p))))
              · rintro l da o y ⟨q,E,d2,_⟩
                have aE:=q rfl
                have aF:=E rfl
                exact zq (Gj:=true) (Bj:=decide (0<f)) rfl rfl rfl (jd (d2 rfl)) rfl (fun z p=>qj (i:=(f-1).toNat) bn (show l 76=c from aE.1 (zo rfl p)) (L.mono o) (zl (show l 78=(vi (f-1)) from aF.1 (zo rfl p)) (Q (zo z p)).1) (zw (Q (zo z p))))
              · rintro l db o y ⟨q,E,_⟩
                have aG:=q rfl
                exact zq (Gj:=true) (Bj:=decide (0<f)) rfl rfl rfl (jd (E rfl)) rfl (fun z p=>j3 (jq (i:=(f-1).toNat) (j:=0) bq (L.mono o) rfl rfl (aG.1 (zo rfl p)) (zw (Q (zo z p)))) (fun _ _ h=>qc.1 h))
              · rintro l dc o y ⟨q,_⟩
                have a0:l 0=c:=y 0 rfl
                exact zq (Gj:=true) (Bj:=decide (0<f)) rfl rfl rfl (jd (q rfl)) rfl (fun z p=>zn (z8 a0))
              · rintro l dd o y ⟨q,_⟩
                have bR:l 11=(vi n.1):=y 11 rfl
                exact zq (Gj:=true) (Bj:=decide (0<f)) rfl rfl rfl (jd (q rfl)) rfl (fun z p=>zn (z8 bR))
              · rintro l b8 o y ⟨q,E,d2,_⟩
                have aH:=q rfl
                have aI:=E rfl
                exact zq (Gj:=true) (Bj:=decide (0<f)) rfl rfl rfl (jd (d2 rfl)) rfl (fun z p=>qj (i:=n.1.toNat) bn (show l 81=c from aH.1 (zo rfl p)) (L.mono o) (zl (show l 82=(vi n.1) from aI.1 (zo rfl p)) (S (zo z p)).1) (zw (S (zo z p))))
              · rintro l b9 o y ⟨q,E,_⟩
                have aJ:=q rfl
                exact zq (Gj:=true) (Bj:=decide (0<f)) rfl rfl rfl (jd (E rfl)) rfl (fun z p=>j3 (jq (i:=n.1.toNat) (j:=0) bq (L.mono o) rfl rfl (aJ.1 (zo rfl p)) (zw (S (zo z p)))) (fun _ _ h=>qc.1 h))
              · rintro l X o y ⟨q,E,d2,d3,_⟩
                have aK:phG (true&&((decide (0<f))==true)) (phX (.int .u16 (ix x (f-1)))) (l 80) X:=q rfl
                have aL:phG (true&&((decide (0<f))==true)) (phX (.int .u16 (ix x n.1))) (l 84) X:=E rfl
                exact zq (Gj:=true) (Bj:=decide (0<f)) rfl rfl rfl (jd (d2 rfl)) rfl (fun z p=>yc (vs:=[(.int .u16 (ix x (f-1))),(.int .u16 (ix x n.1))]) zcx (by simp only [List.map,ev,(show l 80=(.int .u16 (ix x (f-1))) from aK.1 (zo rfl p)),(show l 84=(.int .u16 (ix x n.1)) from aL.1 (zo rfl p))]<;>rfl) ((by have bS:=(fw aB (zo z p));exact xh  bS)) (fun _ _ h=>h))
              · rintro l ca o y ⟨q,E,_⟩
                have aM:=q rfl
                exact zq (Gj:=true) (Bj:=decide (0<f)) rfl rfl rfl (jd (E rfl)) rfl (fun z p=>zn (lg (show l 85=(.bool (B.getD default)) from aM.1 (zo rfl p))))
              · rintro l cb o y ⟨q,E,_⟩
                have bT:=q rfl
                have aN:=E rfl
                exact zg rfl rfl rfl (zn (xn bT (fun hb=>(show l 86=(.bool (!(B.getD default))) from aN.1 (zo rfl hb))) rfl))
              intro cc aO
              intro cd aP
              intro ce aQ
              intro cf cg
              intro ch ci
              intro cj ck
              intro cl cm
              intro cn co
              intro cp cq
              intro cr ct
              intro cu cv
              intro cw cx
              intro cy cz
              intro cA cB
              intro cC aR
              obtain rfl:=Eq.symm aO
              obtain rfl:=Eq.symm aP
              obtain rfl:=Eq.symm aQ
              obtain rfl:=Eq.symm aR
              refine za ?_
              refine qa rfl d (fun d=>?_) (fun d=>?_)
              · refine qb ?_
                refine zz ?_
                refine zf c ?_
                refine zf (vi f) ?_
                refine zf (vi m) ?_
                refine zf (vi n.1) ?_
                obtain⟨C,aS,d⟩:=zx d
                refine ic (Oc:=[az]) (Or:=[]++A) (cs:=[]) (vs:=[c,(vi f),(vi m),(vi n.1)]) rfl zzn rfl rfl ((pk 0 rfl (List.Perm.refl _))) (z3r (L.mono w) aS) fun cD cE bU ac aT=>?_
                obtain⟨aU,rfl,rfl,aV⟩:=aT
                refine zi (vi C.1) ?_
                refine za ?_
                refine qb ?_
                refine zz ?_
                refine zf (vi C.1) ?_
                refine zi (vi C.1) ?_
                refine za ?_
                refine jl ?_
                exact⟨dkt,((((I.trans K).trans P).trans w).trans ac),je,(F1,C.1,m,t.1,x5,x6,C.2,aU),Nat.lt_succ_self _,⟨rfl,rfl,rfl,rfl,rfl,trivial⟩,prm,d,aV,trivial⟩
              · refine qf ?_
                refine qb ?_
                refine zz ?_
                refine zf c ?_
                refine zf (vi f) ?_
                refine zf (vi m) ?_
                refine zf (vi n.1) ?_
                obtain⟨e,aW,d⟩:=zx d
                refine ic (Oc:=[az]) (Or:=[]++A) (cs:=[]) (vs:=[c,(vi f),(vi m),(vi n.1)]) rfl zyy rfl rfl ((pk 0 rfl (List.Perm.refl _))) (z5d (L.mono w) aW) fun cF cG bV T aX=>?_
                obtain⟨Y,rfl,rfl,Z⟩:=aX
                refine zf (.tuple #[(vi e.1),(.bool e.2.1)]) ?_
                refine zy (qx rfl rfl) ?_
                refine zy (qx rfl rfl) ?_
                refine zi (vi e.1) ?_
                refine zi (.bool e.2.1) ?_
                refine za ?_
                refine qb ?_
                refine zz ?_
                refine zf (.bool e.2.1) ?_
                refine zi (.bool e.2.1) ?_
                refine za ?_
                refine qb ?_
                refine zz ?_
                refine zf (vi e.1) ?_
                refine zf (vi f) ?_
                obtain⟨aY,d⟩:=zb d
                refine zy (ul rfl rfl aY) ?_
                refine zf (vi m) ?_
                refine zf (vi e.1) ?_
                obtain⟨aZ,d⟩:=zb d
                refine zy (ul rfl rfl aZ) ?_
                refine zi (vi (e.1-f)) ?_
                refine zi (vi (m-e.1)) ?_
                refine za ?_
                refine qb ?_
                refine zz ?_
                refine zf (vi (m-f)) ?_
                obtain⟨a2,d⟩:=zb d
                refine zy (z4b rfl rfl a2) ?_
                refine zi (vi ((m-f)/8)) ?_
                refine za ?_
                refine qb ?_
                refine zz ?_
                refine zf (vi (e.1-f)) ?_
                refine zf (vi (m-e.1)) ?_
                refine zy (ji rfl rfl) ?_
                refine za ?_
                refine qa rfl d (fun d=>?_) (fun d=>?_)
                · refine qb ?_
                  refine zz ?_
                  refine zf (vi (e.1-f)) ?_
                  refine zf (vi ((m-f)/8)) ?_
                  refine zy (lh rfl rfl) ?_
                  refine zi (.bool (decide (((m-f)/8)≤(e.1-f)))) ?_
                  refine za ?_
                  refine qb ?_
                  refine zz ?_
                  refine zf c ?_
                  refine zf (vi f) ?_
                  refine zf (vi e.1) ?_
                  refine zf (vi t.1) ?_
                  obtain⟨a3,a4,d⟩:=zx d
                  refine ic (Oc:=[Y]) (Or:=[]++A) (cs:=[]) (vs:=[c,(vi f),(vi e.1),(vi t.1)]) rfl zvh rfl rfl ((pk 0 rfl (List.Perm.refl _))) (ih Z a4) fun cH cI bW ad a5=>?_
                  obtain⟨a6,rfl,rfl,a7⟩:=a5
                  refine za ?_
                  refine zz ?_
                  refine zf (vi e.1) ?_
                  obtain⟨a8,d⟩:=zb d
                  refine zy (qz rfl rfl a8) ?_
                  refine zi (vi (e.1+1)) ?_
                  refine za ?_
                  exact⟨dkt,(((((I.trans K).trans P).trans w).trans T).trans ad),je,(F1,e.1+1,m,t.1,decide (((m-f)/8)≤(e.1-f)),e.2.1,a3,a6),Nat.lt_succ_self _,⟨rfl,rfl,rfl,rfl,rfl,trivial⟩,prm,d,a7,trivial⟩
                · refine qb ?_
                  refine zz ?_
                  refine zf (vi (m-e.1)) ?_
                  refine zf (vi ((m-f)/8)) ?_
                  refine zy (lh rfl rfl) ?_
                  refine zi (.bool (decide (((m-f)/8)≤(m-e.1)))) ?_
                  refine za ?_
                  refine qb ?_
                  refine zz ?_
                  refine zf c ?_
                  refine zf (vi e.1) ?_
                  obtain⟨a9,d⟩:=zb d
                  refine zy (qz rfl rfl a9) ?_
                  refine zf (vi m) ?_
                  refine zf (vi t.1) ?_
                  obtain⟨ba,bb,d⟩:=zx d
                  refine ic (Oc:=[Y]) (Or:=[]++A) (cs:=[]) (vs:=[c,(vi (e.1+1)),(vi m),(vi t.1)]) rfl zvh rfl rfl ((pk 0 rfl (List.Perm.refl _))) (ih Z bb) fun cJ cK bX ae bc=>?_
                  obtain⟨be,rfl,rfl,bf⟩:=bc
                  refine za ?_
                  refine zz ?_
                  refine zf (vi e.1) ?_
                  refine zi (vi e.1) ?_
                  refine za ?_
                  exact⟨dkt,(((((I.trans K).trans P).trans w).trans T).trans ae),je,(F1,f,e.1,t.1,decide (((m-f)/8)≤(m-e.1)),e.2.1,ba,be),Nat.lt_succ_self _,⟨rfl,rfl,rfl,rfl,rfl,trivial⟩,prm,d,bf,trivial⟩
theorem z5t{N:Nat}{R:RH}{data:List Int}{c:Value}{fE:Frag}(e:ORep (q8 .u16) R fE c data){a:Int}{b:Int}{limit:Int}{r:List Int}(f:uk N N data a b limit=some r):CallG prog 68 #[c,(vi a),(vi b),(vi limit)] R [fE] (fun v R' O'=> ∃ d,v= .tuple #[]∧O'=[d]∧ORep (q8 .u16) R' d c r):=z4k N e f
theorem zas{N:Nat}{R:RH}{x:List Int}{a:Value}{fH:Frag}(c:ORep (q8 .u16) R fH a x){r:List Int}(b:z16 N x=some r):CallG prog 56 #[a] R [fH] (fun v R' O'=> ∃ d,v= .tuple #[]∧O'=[d]∧ORep (q8 .u16) R' d a r):=by
 refine tu (args:=[a]) func56 rfl rfl fun A=>?_;rw [z16] at b;refine zu (zf a (zy (z1p rfl underlying23 rfl c) (zi (vi (↑x.length:Int)) (za (zz (zf a (zf (vi (↑x.length:Int)) (zf (vi (↑x.length:Int)) (zy (z1c underlying3 underlying66 rfl) ?_)))))))))
 obtain⟨k,l,b⟩:=zx b;refine jh rfl zxf rfl (zaf  l) fun p q e m=>?_;obtain rfl:=m;obtain⟨s,n,b⟩:=zx b
 refine ic (Oc:=[fH]) (Or:=[]++A) (cs:=[]) (vs:=[a,(vi 0),(vi (↑x.length:Int)),(vi k)]) rfl zvh rfl rfl ((pk 0 rfl (List.Perm.refl _))) (z5t (c.mono e) n) fun t o j f h=>?_;obtain⟨g,rfl,rfl,i⟩:=h;refine za ?_;show z8x _ _ _ _ _ .ret _ [] _ _;obtain rfl:=Option.some.inj b
 refine yu (D:=[]) (J:=[]) (O':=[g]) (rs:=[]) (vs:=[]) (e.trans f) ((pk 0 rfl (List.Perm.refl _))) rfl trivial ?_;exact⟨g,rfl,rfl,i⟩
theorem zzp:Enters prog 56:=enters_of func56 rfl (by kernel_rfl)
theorem z8z{N:Nat}{R:RH}{s:List Int}{b:Value}{fM:Frag}(y:ORep (q8 .u16) R fM b s){r:(List Int)}(o:z0f N s=some r):CallG prog 57 #[b] R [fM] (fun v R' O'=> ∃ u0,v=u0∧O'=[]∧VRep (tSl false (q8 .u16)) R' u0 r):=by
 refine tu (args:=[b]) func57 rfl rfl fun A=>?_;rw [z0f] at o;refine zu (zi vs0 (za (qb (zu (zf b (zy (z1p rfl underlying23 rfl y) (zy (ji rfl rfl) (za (qa rfl o (fun o=>?_) (fun o=>?_))))))))))
 refine zu (zf b (zi b (za (z2g (i:=0) rfl y fun R2 aB h4=>?_))));have h5:VRep (tSl false (q8 .u16)) R2 b s:=(z7k h4);refine qm ?_;obtain rfl:=Option.some.inj o;refine yu (D:=[]) (J:=[]) (O':=[]) (rs:=[.tmp 2]) (vs:=[b]) aB ((List.Perm.refl _)) rfl ⟨rfl,trivial⟩ ?_;exact⟨b,rfl,rfl,h5⟩;refine qf ?_
 obtain⟨q7,c,o⟩:=zx o;refine qo (γ:=Unit) (rs [2,6,10,60]) (fun g=>[]) (fun g=>[fM]++A) (fun g R=>q7=Ex.go g∧True) ?_ ?_
 refine zu (zi (vi 1) (za (qd (j4 (γ:=Nat×Int) (rs [2,6,10,60]) (fun g=>[(3,(vi g.2))]) (fun g=>[fM]++A) (fun g R=>xu N s g.1 g.2=some q7∧True) (fun g=>g.1) (N,1) prm ⟨c,trivial⟩ ?_))));clear c;rintro⟨Q,a⟩ aY be m ⟨c,_⟩;rcases Q with _|Q;exact qy c
 replace c:xu N s (Q+1) a=some q7:=c;rw [xu] at c;refine qb (zu (zf (vi a) (zf b (zy (z1p rfl underlying23 rfl (y.mono m)) (zy (ji rfl rfl) (za (qa rfl c (fun c=>?_) (fun c=>?_))))))))
 refine qf (qb (qd (qb (z2s 10 mixed (by kernel_rfl) (by kernel_rfl) ?_))));refine w9 (v:=b) (z8 rfl) ?_;refine w9 (v:=(vi a)) (z8 rfl) ?_;obtain⟨X,c⟩:=zb c;refine z01 (z5w (i:=a.toNat) bn rfl (y.mono m) (zl rfl X.1) (zw X)) fun bf aD=>?_
 refine w9 (fu (zbf (i:=a.toNat) (j:=0) bq (y.mono m) rfl rfl aD (zw X))) ?_;refine w9 (v:=b) (z8 rfl) ?_;refine w9 (v:=(vi a)) (z8 rfl) ?_;obtain⟨aE,c⟩:=zb c;refine w9 (ul rfl rfl aE) ?_;obtain⟨Y,c⟩:=zb c
 refine z01 (z5w (i:=(a-1).toNat) bn rfl (y.mono m) (zl rfl Y.1) (zw Y)) fun bg aF=>?_;refine w9 (fu (zbf (i:=(a-1).toNat) (j:=0) bq (y.mono m) rfl rfl aF (zw Y))) ?_;refine w9 (o7 rfl rfl) ?_;intro bh C;refine za (qa rfl c (fun c=>?_) (fun c=>?_))
 refine zu (zf b (zf (vi a) ?_));obtain⟨Z,c⟩:=zb c;refine z10 rfl (zn (zcq (lo:=a.toNat) (hi:=s.length) bn rfl (y.mono (m.trans C)) (.inr ⟨_,congrArg some (zl rfl Z.1)⟩) (.inl ⟨rfl,rfl,rfl⟩) (zc4 Z) (z8f Z))) fun bi bj V aG=>?_;obtain rfl:=Eq.symm aG;refine zi (z98 1 b a.toNat s.length) (za ?_)
 obtain⟨f,k,c⟩:=zx c;refine qo (γ:=(Int×List Int)×Frag) (rs [3,4,5,6,29,54]) (fun g=>[(3,(vi g.1.1))]) (fun g=>[g.2]++A) (fun g R=>f=g.1∧ORep (q8 .u16) R g.2 b g.1.2∧True) ?_ ?_
 refine zu (zi (vi 1) (za (qd (j4 (γ:=Nat×Int×Int×(List Int)×Frag) (rs [3,4,5,6,29,54]) (fun g=>[(3,(vi g.2.1)),(5,(vi g.2.2.1))]) (fun g=>[g.2.2.2.2]++A) (fun g R=>dm N s a g.1 g.2.1 g.2.2.1 g.2.2.2.1=some f∧ORep (q8 .u16) R g.2.2.2.2 b g.2.2.2.1∧True) (fun g=>g.1) (N,a,1,s,fM) prm ⟨k,(y.mono ((m.trans C).trans V)),trivial⟩ ?_))))
 clear k;rintro⟨S,z,d,t,ac⟩ aZ bk ad ⟨k,w,_⟩;rcases S with _|S;exact qy k;replace k:dm N s a (S+1) z d t=some f:=k;rw [dm] at k
 refine qb (zu (zf (vi d) (zf (z98 1 b a.toNat s.length) (z10 rfl (zn (zh7 rfl underlying23 rfl w)) fun bl bm e aH=>?_))));obtain rfl:=Eq.symm aH;refine zy (ji rfl rfl) (za (qa rfl k (fun k=>?_) (fun k=>?_)));refine qf ?_;obtain⟨U,p,k⟩:=zx k
 refine qo (γ:=(Int×List Int)×Frag) (rs [3,4,35,54]) (fun g=>[(3,(vi g.1.1))]) (fun g=>[g.2]++A) (fun g R=>U=g.1∧ORep (q8 .u16) R g.2 b g.1.2∧True) ?_ ?_;refine qd (qb ?_);obtain⟨I,aI,K,p⟩:=zs3 p
 refine oz 10 [] [phX (z98 1 b a.toNat s.length),phX (vi d),(fun u _=>yh (q8 .u16) b t u (a+d).toNat),phX (.int .u16 (ix t (a+d))),phX (z98 1 b a.toNat s.length),phX (vi d),phX (vi (d-1)),(fun u _=>yh (q8 .u16) b t u (a+(d-1)).toNat),phX (.int .u16 (ix t (a+(d-1)))),phX (.bool (decide ((ix t (a+d))≠(ix t (a+(d-1))))))] mixed (by kernel_rfl) (dw ⟨zh,zh,(fun _ _ _ _ h=>h),zh,zh,zh,zh,(fun _ _ _ _ h=>h),zh,zh,trivial⟩) ⟨?_,?_,?_,?_,?_,?_,?_,?_,?_,?_,trivial⟩ fun bo x=>?_
 intro l bp q H hd;exact zg rfl rfl rfl (zn (z8 (H 4 rfl)));intro l br q H hd;exact zg rfl rfl rfl (zn (z8 (H 5 rfl)));rintro l bs q H ⟨L,d1,_⟩
 exact zg rfl rfl rfl (z5u (T:=(q8 .u16)) (lo:=a.toNat) (hi:=s.length) (n:=(a+d).toNat) bn (L rfl) ((w.mono e).mono q) (zl (d1 rfl) I.2.1) (zi1 I) (zhz I) (ze2 I));rintro l bt q H ⟨L,_⟩
 exact zg rfl rfl rfl (j3 (jq (i:=(a+d).toNat) (j:=0) bq ((w.mono e).mono q) rfl rfl (L rfl) (zw (zi0 I))) (fun _ _ h=>qc.1 h));intro l bu q H hd;exact zg rfl rfl rfl (zn (z8 (H 4 rfl)));intro l bv q H hd;exact zg rfl rfl rfl (zn (z8 (H 5 rfl)));rintro l bw q H ⟨L,_⟩
 exact zg rfl rfl rfl (zn (ul (L rfl) rfl aI));rintro l bx q H ⟨L,d1,_⟩;exact zg rfl rfl rfl (z5u (T:=(q8 .u16)) (lo:=a.toNat) (hi:=s.length) (n:=(a+(d-1)).toNat) bn (L rfl) ((w.mono e).mono q) (zl (d1 rfl) K.2.1) (zi1 K) (zhz K) (ze2 K));rintro l bz q H ⟨L,_⟩
 exact zg rfl rfl rfl (j3 (jq (i:=(a+(d-1)).toNat) (j:=0) bq ((w.mono e).mono q) rfl rfl (L rfl) (zw (zi0 K))) (fun _ _ h=>qc.1 h));rintro l bA q H ⟨L,d1,_⟩;exact zg rfl rfl rfl (zn (yl (L rfl) (d1 rfl)));intro bB aJ bC aK bD bE bF aL bG aM bH aN bI aO bJ bK bL aP bM aQ;obtain rfl:=Eq.symm aJ
 obtain rfl:=Eq.symm aK;obtain rfl:=Eq.symm aL;obtain rfl:=Eq.symm aM;obtain rfl:=Eq.symm aN;obtain rfl:=Eq.symm aO;obtain rfl:=Eq.symm aP;obtain rfl:=Eq.symm aQ;refine za (qa rfl p (fun p=>?_) (fun p=>?_));refine zu (zf b (zf (vi z) (zf (z98 1 b a.toNat s.length) (zf (vi d) ?_))));obtain⟨M,p⟩:=zb p
 refine z10 rfl (z5u (T:=(q8 .u16)) (lo:=a.toNat) (hi:=s.length) (n:=(a+d).toNat) bn rfl (w.mono (e.trans x)) (zl rfl M.2.1) (zi1 M) (zhz M) (ze2 M)) fun bN bO E aR=>?_;refine z6k (i:=(a+d).toNat) (j:=0) rfl bq (w.mono ((e.trans x).trans E)) rfl rfl aR (zw (zi0 M)) fun a0 af=>?_
 obtain rfl:=qc.1 af;obtain⟨O,p⟩:=zb p;refine z1l (i:=z.toNat) rfl bn rfl (w.mono ((e.trans x).trans E)) (zl rfl O.1) (zw O) fun a1 ag=>?_;refine z7c (i:=z.toNat) (j:=0) bq (w.mono ((e.trans x).trans E)) rfl rfl ag (zw O) rfl (qc.2 rfl) fun ah ai=>?_
 refine za (zz (zf (vi z) ?_));obtain⟨aj,p⟩:=zb p;refine zy (qz rfl rfl aj) (zi (vi (z+1)) (za ?_));exact⟨dkt,(x.trans E),je,((z+1,(up t z (ix t (a+d)))),ah),⟨rfl,trivial⟩,prm,(Option.some.inj p).symm,ai,trivial⟩;refine qf ?_
 exact⟨dkt,x,je,((z,t),ac),⟨rfl,trivial⟩,prm,(Option.some.inj p).symm,(w.mono (e.trans x)),trivial⟩;rintro⟨U,aS⟩ a2 bP ak ⟨rfl,aT,_⟩;refine zz (zf (vi d) ?_);obtain⟨al,k⟩:=zb k;refine zy (qz rfl rfl al) (zi (vi (d+1)) (za ?_))
 exact⟨dkt,(e.trans ak),je,(S,U.1,d+1,U.2,aS),Nat.lt_succ_self _,⟨rfl,rfl,trivial⟩,prm,k,aT,trivial⟩;refine jl ?_;exact⟨dkt,(ad.trans e),je,((z,t),ac),⟨rfl,trivial⟩,prm,(Option.some.inj k).symm,(w.mono e),trivial⟩;rintro⟨f,aU⟩ a3 bQ am ⟨rfl,an,_⟩;refine zu (zf b (zf (vi f.1) ?_))
 obtain⟨B,c⟩:=zb c;refine z10 rfl (zn (zcq (lo:=f.1.toNat) (hi:=f.2.length) bn rfl an (.inr ⟨_,congrArg some (zl rfl B.1)⟩) (.inl ⟨rfl,rfl,rfl⟩) (zc4 B) (z8f B))) fun a4 a5 P ao=>?_;obtain rfl:=Eq.symm ao
 refine zav (Oc:=[aU]) (Or:=[]++A) (List.Perm.refl _) (zgk (lo:=f.1.toNat) (hi:=f.2.length) rfl underlying23 zp9 (an.mono P) (zc4 B) (z8f B) rfl) ?_;rintro a6 a7 aV aW ⟨rfl,a8,rfl,rfl,W⟩;refine qw (zf b (zf (vi f.1) ?_));obtain⟨F,c⟩:=zb c
 refine zha (v:=b) (lo:=(0:Int).toNat) (hi:=f.1.toNat) (mx:=(capOf b)) rfl bn rfl W (.inl ⟨rfl,rfl⟩) (.inr ⟨_,congrArg some (zl rfl (zhx F))⟩) (.inl ⟨rfl,rfl⟩) (zc4 F) (z8f F) (Nat.le_trans (z8f F) (zl0 W)) (Nat.le_refl _) fun G ap aA=>?_;refine zi G (za (z2g (i:=0) rfl ap fun aq aa ar=>?_))
 have au:VRep (tSl false (q8 .u16)) aq G (cut (z7o f.2 f.1.toNat (List.replicate (f.2.length-f.1.toNat) (0:Int))) 0 f.1):=(z7k ar);refine qm ?_;replace o:=z1e c o;obtain rfl:=Option.some.inj o
 refine yu (D:=[]) (J:=[]) (O':=[]) (rs:=[.tmp 2]) (vs:=[G]) (((((m.trans C).trans V).trans am).trans P).trans aa) ((List.Perm.refl _)) rfl ⟨rfl,trivial⟩ ?_;exact⟨G,rfl,rfl,au⟩;refine qf (zz (zf (vi a) ?_));obtain⟨av,c⟩:=zb c;refine zy (qz rfl rfl av) (zi (vi (a+1)) (za ?_))
 exact⟨dkt,C,je,(Q,a+1),Nat.lt_succ_self _,⟨rfl,trivial⟩,prm,c,trivial⟩;refine jl ?_;exact⟨dkt,m,je,(),trivial,prm,(Option.some.inj c).symm,trivial⟩;rintro o6 a9 R8 aw ⟨rfl,_⟩;replace o:=z1x o;refine zu (zf b (zi b (za (z2g (i:=0) rfl (y.mono aw) fun ax ab ay=>?_))))
 have az:VRep (tSl false (q8 .u16)) ax b s:=(z7k ay);refine qm ?_;obtain rfl:=Option.some.inj o;refine yu (D:=[]) (J:=[]) (O':=[]) (rs:=[.tmp 2]) (vs:=[b]) (aw.trans ab) ((List.Perm.refl _)) rfl ⟨rfl,trivial⟩ ?_;exact⟨b,rfl,rfl,az⟩
theorem zzk:Enters prog 57:=enters_of func57 rfl (by kernel_rfl)
theorem z7u{N:Nat}{R:RH}{l:Sg}{w:Value}(ap:VRep (lv false false) R w l){O:(List Int)}{s:Value}(P:VRep (tSl false (q8 .u16)) R s O){i:Int}{r:(List Int)}(n:il N l O i=some r):CallP prog 31 #[w,s,(vi i)] R (fun v R'=>VRep (tSl false (q8 .u16)) R' v r):=by
 refine ql (args:=[w,s,(vi i)]) func31 rfl rfl fun A=>?_;rw [il] at n;refine zu (ah (T:=(lv false false)) rfl rfl rfl ap fun v1 R3 ab h5 h2=>?_);refine zi vs0 (qw (zi vs0 (za ?_)));obtain⟨o6,h,n⟩:=zx n
 refine qo (γ:=(List Int)×Value×Frag) (rs [7,8,9,13,14,64]) (fun g=>[(7,g.2.1)]) (fun g=>[g.2.2]++A) (fun g R=>o6=g.1∧ORep (q8 .u16) R g.2.2 g.2.1 g.1∧True) ?_ ?_;refine zu (zf s (zy (jb rfl underlying23 rfl (jv (P.mono ab))) (zf (vi 0) (za (qd (z5f ?_))))))
 refine j4 (γ:=Nat×(List Int)×Int×Value×Frag) (rs [7,8,9,13,14,15,17,64]) (fun g=>[(7,g.2.2.2.1),(17,(vi g.2.2.1))]) (fun g=>[g.2.2.2.2]++A) (fun g R=>oo N l O i g.1 g.2.1 g.2.2.1=some o6∧ORep (q8 .u16) R g.2.2.2.2 g.2.2.2.1 g.2.1∧True) (fun g=>g.1) (N,[],0,vs0,emp) prm ⟨h,(z2d (T:=(q8 .u16))),trivial⟩ ?_
 clear h;rintro⟨K,ac,x16,aq,y⟩ bp bL C ⟨h,ar,_⟩;rcases K with _|K;exact qy h;replace h:oo N l O i (K+1) ac x16=some o6:=h;rw [oo] at h;refine zu (zy (ji rfl rfl) (za (qb (qa rfl h (fun h=>?_) (fun h=>?_)))));refine qf ?_;obtain⟨E,d,h⟩:=zx h
 refine qo (γ:=(List Int)×Value×Frag) (rs [7,8,9,13,14,15,19,63]) (fun g=>[(7,g.2.1)]) (fun g=>[g.2.2]++A) (fun g R=>E=g.1∧ORep (q8 .u16) R g.2.2 g.2.1 g.1∧True) ?_ ?_;refine qd (zu ?_);obtain⟨au,d⟩:=zb d;refine eu (i:=x16.toNat) rfl bn rfl (jv (P.mono (ab.trans C))) (zl rfl au.1) (zw au) fun bM a2=>?_
 refine jf rfl bq rfl a2 fun bN a3=>?_;obtain rfl:=qc.1 a3;refine zi (.int .u16 (ix O x16)) (qw (aj rfl zwu fun u=>?_));refine za ?_;obtain⟨f,a,d⟩:=zx d;refine qo (γ:=((Arr 16 Int))) (rs [11,13,21,51]) (fun g=>[]) (fun g=>[y,box u (z1u g) 100]++A) (fun g R=>f=g∧True) ?_ ?_
 refine zu (uy rfl zis z3p rfl (h2.mono C) fun bO a4=>?_);refine uy rfl mi yz rfl a4 fun bP a5=>?_;refine jf rfl z3b rfl a5 fun bQ av=>?_
 refine zy (jb rfl underlying26 rfl (jv av)) (zf (vi 0) (za (qd (j4 (γ:=Nat×Int×((Arr 16 Int))) (rs [11,13,25,51]) (fun g=>[(25,(vi g.2.1))]) (fun g=>[y,box u (z1u g.2.2) 100]++A) (fun g R=>ou N l O i x16 g.1 g.2.1 g.2.2=some f∧True) (fun g=>g.1) (N,0,(zhg 16 (List.replicate 16 (0:Int)))) ⟨[],(pk 1 rfl (pk 0 rfl (List.Perm.refl _)))⟩ ⟨a,trivial⟩ ?_))))
 clear a;rintro⟨L,b,k⟩ br bR Q ⟨a,_⟩;rcases L with _|L;exact qy a;replace a:ou N l O i x16 (L+1) b k=some f:=a;rw [ou] at a;refine zu (zy (ji rfl rfl) (za (qb (qa rfl a (fun a=>?_) (fun a=>?_)))));refine qf ?_;obtain⟨ad,c,a⟩:=zx a
 refine qo (γ:=((Arr 16 Int))) (rs [11,13,27,50]) (fun g=>[]) (fun g=>[y,box u (z1u g) 100]++A) (fun g R=>ad=g∧True) ?_ ?_;refine qd (zu (zf (vi b) ?_));obtain⟨aw,c⟩:=zb c;refine eu (i:=b.toNat) rfl za4 rfl (jv (av.mono Q)) (zl rfl aw.1) (zw aw) fun bS a6=>?_
 refine jf rfl z8y rfl a6 fun ae az=>?_;refine zi (vi b) (zi ae (qw (zf (.int .u16 (ix O x16)) (zf (vi b) ?_))));obtain⟨a7,c⟩:=zb c;refine zy (z3e rfl rfl a7) ?_;obtain⟨a8,c⟩:=zb c;refine zy (z4e rfl rfl a8) (zy (o7 rfl rfl) (za (qa rfl c (fun c=>?_) (fun c=>?_))))
 refine z2s 15 mixed (by kernel_rfl) (by kernel_rfl) ?_;refine w9 (v:=ae) (z8 rfl) ?_;refine w9 (v:=(vi i)) (z8 rfl) ?_;obtain⟨aA,c⟩:=zb c;refine z01 (dn (i:=i.toNat) z8s rfl (jv az) (zl rfl aA.1) (zw aA)) fun bT a9=>?_;refine z01 (mh zgi zcw rfl a9) fun bU ba=>?_
 refine w9 (fu (ky ty3 rfl ba)) ?_;obtain⟨af,c⟩:=zb c;refine w9 (v:=(.pointer (some ⟨u,0+((ix (ix l.fG.rows b) i).out).toNat*1,none⟩))) (zbl (i:=((ix (ix l.fG.rows b) i).out).toNat) zuo rfl (zl rfl af.1) (Nat.lt_of_lt_of_eq (zw af) k.2)) ?_
 refine w9 (v:=(.int .u16 (ix k.1 ((ix (ix l.fG.rows b) i).out)))) (zmu (sz:=1) (cl:=(fun x:Int=>[Value.int .u16 x])) (i:=((ix (ix l.fG.rows b) i).out).toNat) (j:=1) (X:=k) (o:=0) (v:=(.int .u16 (ix k.1 ((ix (ix l.fG.rows b) i).out)))) cells_int.len ztw rfl (by omega) rfl (Nat.lt_of_lt_of_eq (zw af) k.2) rfl) ?_
 refine w9 (v:=ae) (z8 rfl) ?_;refine w9 (v:=(vi i)) (z8 rfl) ?_;obtain⟨aB,c⟩:=zb c;refine z01 (dn (i:=i.toNat) z8s rfl (jv az) (zl rfl aB.1) (zw aB)) fun bV bb=>?_;refine z01 (mh z3a z1h rfl bb) fun bW bc=>?_;refine w9 (fu (ky ty3 rfl bc)) ?_;obtain⟨be,c⟩:=zb c
 refine w9 (z9k rfl rfl be) ?_;obtain⟨bf,c⟩:=zb c;refine w9 (zmz rfl rfl bf) ?_;obtain⟨ag,c⟩:=zb c;refine w9 (v:=(.pointer (some ⟨u,0+((ix (ix l.fG.rows b) i).out).toNat*1,none⟩))) (zbl (i:=((ix (ix l.fG.rows b) i).out).toNat) zuo rfl (zl rfl ag.1) (Nat.lt_of_lt_of_eq (zw ag) k.2)) ?_;intro bX ak
 refine zp6 (sz:=1) (cl:=(fun x:Int=>[Value.int .u16 x])) (z:=ior (ix k.1 ((ix (ix l.fG.rows b) i).out)) (ax .u16 (1:Int) ((ix (ix l.fG.rows b) i).to))) (vs:=[(.int .u16 (ior (ix k.1 ((ix (ix l.fG.rows b) i).out)) (ax .u16 (1:Int) ((ix (ix l.fG.rows b) i).to))))]) (q:=(ix (ix l.fG.rows b) i).out) (i:=((ix (ix l.fG.rows b) i).out).toNat) (o:=0) (j:=1) (X:=k) cells_int.len zx2 rfl rfl (by omega) rfl (Nat.lt_of_lt_of_eq (zw ag) k.2) rfl rfl rfl (jk rfl ay) rfl rfl ?_
 refine za ?_;exact⟨dkt,ak,je,(zfa k ((ix (ix l.fG.rows b) i).out) (ior (ix k.1 ((ix (ix l.fG.rows b) i).out)) (ax .u16 (1:Int) ((ix (ix l.fG.rows b) i).to)))),trivial,prm,(Option.some.inj c).symm,trivial⟩;refine qf ?_;exact⟨dkt,(RH.le.refl _),je,k,trivial,prm,(Option.some.inj c).symm,trivial⟩;rintro ad bs bY aC ⟨rfl,_⟩
 refine zz ?_;obtain⟨aD,a⟩:=zb a;refine zy (qz rfl rfl aD) (zf (vi (b+1)) (za ?_));exact⟨dkt,aC,je,(L,b+1,ad),Nat.lt_succ_self _,⟨rfl,trivial⟩,prm,a,trivial⟩;refine jl ?_;exact⟨dkt,Q,je,k,trivial,prm,(Option.some.inj a).symm,trivial⟩;rintro f bt bZ S ⟨rfl,_⟩
 refine zu (zy (zk2 (j:=1) (v:=(zgm f)) zxn zxy rfl rfl (co_A16tIntu16.len _) rfl) (zf (vi 0) (za (qd (j4 (γ:=Nat×Int×(List Int)×Value×Frag) (rs [7,8,14,15,52,63]) (fun g=>[(7,g.2.2.2.1),(52,(vi g.2.1))]) (fun g=>[g.2.2.2.2]++A) (fun g R=>om N f g.1 g.2.1 g.2.2.1=some E∧ORep (q8 .u16) R g.2.2.2.2 g.2.2.2.1 g.2.2.1∧True) (fun g=>g.1) (N,0,ac,aq,y) ⟨[box u (z1u f) 100],(pk 1 rfl (pk 0 rfl (List.Perm.refl _)))⟩ ⟨d,(ar.mono S),trivial⟩ ?_)))))
 clear d;rintro⟨t,e,p,F,U⟩ bu bv al ⟨d,G,_⟩;rcases t with _|t;exact qy d;replace d:om N f (t+1) e p=some E:=d;rw [om] at d;refine zu (zy (ji rfl rfl) (za (qb (qa rfl d (fun d=>?_) (fun d=>?_)))));refine qf ?_;obtain⟨H,a,d⟩:=zx d
 refine qo (γ:=(List Int)×Value×Frag) (rs [7,8,14,15,54,62]) (fun g=>[(7,g.2.1)]) (fun g=>[g.2.2]++A) (fun g R=>H=g.1∧ORep (q8 .u16) R g.2.2 g.2.1 g.1∧True) ?_ ?_;refine qd (zu ?_);obtain⟨V,a⟩:=zb a
 refine zy (zla (i:=e.toNat) (X:=f) underlying100 zx2 ztw rfl (zl rfl V.1) (Nat.lt_of_lt_of_eq (zw V) f.2)) (zi (.int .u16 (ix f.1 e)) (qw (zf (.int .u16 (ix f.1 e)) ?_)));obtain⟨bw,aE,a⟩:=zx a;refine jh rfl zy2 rfl (z4r  aE) fun bx bz m aF=>?_;obtain rfl:=aF
 refine zy (z0l rfl rfl) (za (qa rfl a (fun a=>?_) (fun a=>?_)))
 refine zz (zf F (zf (.int .u16 (ix f.1 e)) (ai (T:=(q8 .u16)) (X:=([(ix f.1 e)]:List Int)) (ps:=[(0,(.int .u16 (ix f.1 e)))]) (css:=[[(.int .u16 (ix f.1 e))]]) rfl underlying23 zp9 rfl rfl (ko ⟨rfl,trivial⟩) rfl rfl (by decide) fun aG bA M aH=>?_)));refine xy (i:=0) rfl aH fun aI I aJ=>?_
 have aK:VRep (tSl true (q8 .u16)) aI aG ([(ix f.1 e)]:List Int):=(z1y aJ M);obtain⟨W,a⟩:=zb a
 refine z0j (i:=0) (X:=p) (Y:=([(ix f.1 e)]:List Int)) rfl underlying23 zp9 rfl rfl rfl (G.mono (m.trans I)) (jv (Sub.v (B:=(tSl false (q8 .u16))) (wm Sub.refl (fun _=>rfl)) aK)) W.1 W.2 fun Z aL aM=>?_;refine zi Z (za ?_)
 exact⟨dkt,(m.trans I),je,((p++([(ix f.1 e)]:List Int)),Z,aL),⟨rfl,trivial⟩,prm,(Option.some.inj a).symm,aM,trivial⟩;refine qf ?_;exact⟨dkt,m,je,(p,F,U),⟨rfl,trivial⟩,prm,(Option.some.inj a).symm,(G.mono m),trivial⟩;rintro⟨H,aN,aO⟩ bB bC am ⟨rfl,aP,_⟩;refine zz ?_
 obtain⟨aQ,d⟩:=zb d;refine zy (qz rfl rfl aQ) (zf (vi (e+1)) (za ?_));exact⟨dkt,am,je,(t,e+1,H,aN,aO),Nat.lt_succ_self _,⟨rfl,rfl,trivial⟩,prm,d,aP,trivial⟩;refine jl ?_;exact⟨dkt,(S.trans al),je,(p,F,U),⟨rfl,trivial⟩,prm,(Option.some.inj d).symm,G,trivial⟩
 rintro⟨E,bg,bh⟩ bD b0 aR ⟨rfl,bi,_⟩;refine zz ?_;obtain⟨aS,h⟩:=zb h;refine zy (qz rfl rfl aS) (zf (vi (x16+1)) (za ?_));exact⟨dkt,aR,je,(K,E,x16+1,bg,bh),Nat.lt_succ_self _,⟨rfl,rfl,trivial⟩,prm,h,bi,trivial⟩;refine jl ?_
 exact⟨dkt,C,je,(ac,aq,y),⟨rfl,trivial⟩,prm,(Option.some.inj h).symm,ar,trivial⟩;rintro⟨o6,v9,bj⟩ bE R7 bk ⟨rfl,bl,_⟩;refine zu (zf v9 ?_);obtain⟨bF,aT,n⟩:=zx n
 refine ic (Oc:=[bj]) (Or:=[]++A) (cs:=[]) (vs:=[v9]) rfl zzp rfl rfl ((pk 0 rfl (List.Perm.refl _))) (zas bl aT) fun bG bH bm an aU=>?_;obtain⟨aV,rfl,rfl,aW⟩:=aU;refine qw (zf v9 ?_);obtain⟨bI,aX,n⟩:=zx n
 refine ic (Oc:=[aV]) (Or:=[]++A) (cs:=[]) (vs:=[v9]) rfl zzk rfl rfl ((pk 0 rfl (List.Perm.refl _))) (z8z aW aX) fun aa bJ bo ao aY=>?_;obtain⟨_,rfl,rfl,aZ⟩:=aY;refine zi aa (za (qm ?_));obtain rfl:=Option.some.inj n
 refine qg (D:=[]) (J:=[]) (rs:=[.tmp 6]) (vs:=[aa]) (((ab.trans bk).trans an).trans ao) rfl rfl ⟨rfl,trivial⟩ ?_;exact⟨rfl,aZ⟩
theorem zx7:Enters prog 31:=enters_of func31 rfl (by kernel_rfl)
theorem zbn{N:Nat}{R:RH}{m:Mach}{n:Value}(f:VRep (wz false false) R n m){r:(List Int)×Int}(a:z1o N m=some r):CallP prog 13 #[n] R (fun v R'=> ∃ q,v= .tuple #[q,(vi r.2)]∧VRep (tSl true (q8 .i64)) R' q r.1):=by
 refine ql (args:=[n]) func13 rfl rfl fun A=>?_;rw [z1o] at a;refine zu (ah (T:=(wz false false)) rfl rfl rfl f fun v1 R3 c H I=>?_);refine zi vs0 (zi (vi 0) (za (qb (zu (zy (xz z5i rfl rfl H (f.mono c)) ?_)))));obtain⟨s,c7,a⟩:=zx a
 refine jh rfl zot rfl (z2y (f.mono c) c7) fun v8 am b h9=>?_;obtain rfl:=h9;refine zi (vi s) (qw (zf (vi s) (zy (yl rfl rfl) (za (qa rfl a (fun a=>?_) (fun a=>?_))))));refine zu (zf (vi s) (zi vs0 (zi (vi s) (za (qm ?_)))));obtain rfl:=Option.some.inj a
 refine qg (D:=[]) (J:=[]) (rs:=[.tmp 2,.tmp 3]) (vs:=[vs0,(vi s)]) (c.trans b) rfl rfl ⟨rfl,rfl,trivial⟩ ?_;exact⟨rfl,⟨vs0,rfl,z0p⟩⟩;refine qf (qb (zu (uy rfl mi yz rfl (I.mono b) fun ao K=>?_)));refine jf rfl z3b rfl K fun ap L=>?_
 refine zy (jb rfl underlying26 rfl (jv L)) (zy (z0l rfl rfl) (za (qa rfl a (fun a=>?_) (fun a=>?_))));refine zu (zi vs0 (zi (vi 3) (za (qm ?_))));obtain rfl:=Option.some.inj a
 refine qg (D:=[]) (J:=[]) (rs:=[.tmp 2,.tmp 3]) (vs:=[vs0,(vi 3)]) (c.trans b) rfl rfl ⟨rfl,rfl,trivial⟩ ?_;exact⟨rfl,⟨vs0,rfl,z0p⟩⟩;refine qf (zu (zy (xz z5i rfl rfl (H.mono b) (f.mono (c.trans b))) ?_));obtain⟨j,M,a⟩:=zx a
 refine jh rfl zwc rfl (zb0 (f.mono (c.trans b)) M) fun aq ar d O=>?_;obtain rfl:=O;refine ai (T:=(q8 .u16)) (X:=([j]:List Int)) (ps:=[(0,(.int .u16 j))]) (css:=[[(.int .u16 j)]]) rfl underlying23 zp9 rfl rfl (ko ⟨rfl,trivial⟩) rfl rfl (by decide) fun t u P Q=>?_;refine zi t (za ?_)
 obtain⟨o,h,a⟩:=zx a;refine qo (γ:=(List Int)×Value×Frag) [19,20,21,22,5] (fun g=>[(5,g.2.1)]) (fun g=>[g.2.2]++A) (fun g R=>o=g.1∧ORep (q8 .u16) R g.2.2 g.2.1 g.1∧True) ?_ ?_;refine zu (uy rfl mi yz rfl (I.mono (b.trans d)) fun au S=>?_);refine jf rfl z3b rfl S fun av U=>?_
 refine zy (jb rfl underlying26 rfl (jv U)) (zy (o7 rfl rfl) (za (qa rfl h (fun h=>?_) (fun h=>?_))));refine zz (zi vs0 (zw5 ?_));refine za ?_
 exact⟨dkt,(RH.le.refl _),je,(([]:List Int),vs0,emp),⟨rfl,trivial⟩,⟨[u],(pk 1 rfl (pk 0 rfl (List.Perm.refl _)))⟩,(Option.some.inj h).symm,(z2d (T:=(q8 .u16))),trivial⟩;refine qf ?_;exact⟨dkt,(RH.le.refl _),je,(([j]:List Int),t,u),⟨rfl,trivial⟩,prm,(Option.some.inj h).symm,Q,trivial⟩
 rintro⟨o,x,aw⟩ ax ay e ⟨rfl,V,_⟩;refine zu (zi (.func (.func 35) #[] #[]) (za (qb ?_)));obtain⟨k,rfl,z⟩:=z3m (f.mono (((c.trans b).trans d).trans e));refine zz (uy rfl z1k z1z rfl (I.mono ((b.trans d).trans e)) fun az W=>?_);refine jf rfl ty3 rfl W fun aA Y=>?_;obtain rfl:=qc.1 Y
 refine zf x (zf (.func (.func 35) #[] #[]) (zy (xz z5i rfl rfl (H.mono ((b.trans d).trans e)) (⟨_,⟨_,_,rfl,rfl,⟨_,_,rfl,rfl,(u6 rfl z)⟩⟩,rfl⟩:VRep (wz false false) _ _ (⟨m.inputs,m.outputs,m.rows⟩:Mach))) (zy (bi (ps:=[(0,(.agg #[(vi m.inputs),(vi m.outputs),k]))]) (v:=(.agg #[(vi m.inputs),(vi m.outputs),k])) rfl (fun w=>by kernel_rfl)) (zy (z1v (fs:=[(.agg #[(vi m.inputs),(vi m.outputs),k])]) (cs:=[]) rfl rfl) (xy (i:=0) rfl V fun Z l aa=>?_)))))
 have ab:VRep (tSl false (q8 .u16)) Z x o:=(z7k aa);obtain⟨B,ac,a⟩:=zx a
 refine jh rfl zzm rfl (z9s ab (z7a (cs:=[]) zxq fun R1 hq z0 q y C E=>by exact CallP.mono (zdd C E) fun v R2 _ F=>z5j.2 F) (z7a (cs:=[]) zz1 fun R1 hq z0 q y C E=>by exact CallP.mono (zdw C E) fun v R2 _ F=>z04.2 F) (zft (fs:=[(.agg #[(vi m.inputs),(vi m.outputs),k])]) zx7 fun R1 hq z0 z1 q u1 y C k1 E=>by obtain rfl:=qc.1 k1;exact CallP.mono (z7u (VRep.mono (⟨_,⟨_,_,rfl,rfl,⟨_,_,rfl,rfl,(u6 rfl (z.mono l))⟩⟩,rfl⟩:VRep (lv false false) _ _ (⟨(⟨m.inputs,m.outputs,m.rows⟩:Mach)⟩:Sg)) hq) C E) fun v R2 _ F=>F) ac) fun aC aD G ae=>?_
 obtain⟨p,rfl,af⟩:=ae;refine zy (qx rfl rfl) (zy (qx rfl rfl) (zi p (zi (vi B.2) (za (qm ?_)))));obtain rfl:=Option.some.inj a;refine qg (D:=[]) (J:=[]) (rs:=[.tmp 2,.tmp 3]) (vs:=[p,(vi B.2)]) (((((c.trans b).trans d).trans e).trans l).trans G) rfl rfl ⟨rfl,rfl,trivial⟩ ?_
 exact⟨rfl,⟨p,rfl,af⟩⟩
theorem zx0:Enters prog 13:=enters_of func13 rfl (by kernel_rfl)
theorem zr7{a:Bool}:ZeroOk prog 108 (uh a) (⟨(0:Int),([]:List Int)⟩:Sc) 32:=by
 obtain⟨i,zv,hi,c,d,f,g⟩:=z14 (P:=prog) (e:=108) (zv:=(.agg #[(.int .u16 0),vs0])) (k:=2) (b:=32) (by kernel_rfl);exact⟨i,zv,hi,c,d,f,fun R=>by subst g;exact⟨_,_,rfl,rfl,(u6 rfl z0p)⟩⟩
theorem zun{a:Bool}:TyOk prog 108 (uh a):=by
 obtain⟨i,hi,b⟩: ∃ i,prog.info? 108=some i∧i.size=2:=yf (by kernel_rfl);exact z1n underlying108 hi rfl b
theorem zxs{a:Bool}:SlOk prog 109 108 (uh a):=⟨underlying109,zun⟩
theorem zx9: ∀ w,∃ z,(zeroValue 108).run prog w= .ok z w∧z.cells=([.int .u16 0,.slice none 0 0]:List Value).toArray:=fun w=>⟨(.agg #[(.int .u16 0),vs0]),by kernel_rfl,rfl⟩
theorem zx8: ∀ w,(sizeOf 108).run prog w= .ok 2 w:=fun w=>by kernel_rfl
theorem znk:FieldOk prog 108 0 0:=by
 obtain⟨i,hi,a⟩: ∃ i,prog.info? 67=some i∧i.size=1:=yf (by kernel_rfl);exact fe underlying108 rfl rfl hi (by rw [a];rfl)
theorem znx:FieldOk prog 108 1 1:=by
 obtain⟨i,hi,a⟩: ∃ i,prog.info? 30=some i∧i.size=1:=yf (by kernel_rfl);exact fe underlying108 rfl rfl hi (by rw [a];rfl)
theorem zao{N:Nat}{R:RH}{inputs:Int}{from_:Int}{key:Int→Option (List UInt8)}{o:Value}(Q:FOk1 prog R o (q8 .u16) zto key){is:Int→Option Bool}{K:Value}(aG:FOk1 prog R K (q8 .u16) z07 is){next:Int→Int→Option Int}{n:Value}(ac:FOk2 prog R n (q8 .u16) (q8 .i64) (q8 .u16) next){r:(List Int)×Int}(p:z3x N inputs from_ key is next=some r):CallP prog 40 #[(vi inputs),(.int .u16 from_),o,K,n] R (fun v R'=> ∃ u0,v= .tuple #[u0,(vi r.2)]∧VRep (tSl true (q8 .i64)) R' u0 r.1):=by
 refine ql (args:=[(vi inputs),(.int .u16 from_),o,K,n]) func40 rfl rfl fun A=>?_;rw [z3x] at p
 refine zu (zi vs0 (zi (vi 0) (qw (zf (.int .u16 from_) (zy (bi (ps:=[(0,(.int .u16 from_))]) (v:=(.agg #[(.int .u16 from_),vs0])) rfl (fun w=>by kernel_rfl)) (ai (T:=(uh false)) (X:=([(⟨from_,[]⟩:Sc)]:List Sc)) (ps:=[(0,(.agg #[(.int .u16 from_),vs0]))]) (css:=[[(.int .u16 from_),vs0]]) rfl underlying109 zr7 rfl rfl (ko ⟨⟨_,_,rfl,rfl,(u6 rfl z0p)⟩,trivial⟩) rfl rfl (by decide) fun v1 f2 bP h4=>?_))))))
 refine zi v1 (qw (zcp (ke:=z0e) (ve:=Value.bool) rfl fun v6 f7 h8=>?_));refine zf o (zf (.int .u16 from_) ?_);obtain⟨aH,br,p⟩:=zx p;refine z1g rfl rfl rfl (Q _ (RH.le.refl _) from_ _ _ (qc.2 rfl) br) fun cd ce q bs=>?_;obtain rfl:=z5j.1 bs
 refine z9l (i:=0) (k:=aH) (u:=true) underlying88 ko9 rfl (h8.mono q) rfl rfl rfl fun bt bu=>?_;refine zf v6 (zi v6 (za ?_));obtain⟨ar,c,p⟩:=zx p;refine qo (γ:=Unit) (rs [10,13,14,16,17,21,29,83]) (fun g=>[]) (fun g=>[]++A) (fun g R=>ar=Ex.go g∧True) ?_ ?_
 refine zu (zi (vi 0) (za (qd (j4 (γ:=Nat×(List Sc)×Int×(List ((List UInt8)×Bool))×Value×Frag×Frag) (rs [10,13,14,16,17,21,29,83]) (fun g=>[(12,g.2.2.2.2.1),(14,(vi g.2.2.1))]) (fun g=>[g.2.2.2.2.2.2,g.2.2.2.2.2.1]++A) (fun g R=>z0b N inputs key is next g.1 g.2.1 g.2.2.1 g.2.2.2.1=some ar∧ORep (uh false) R g.2.2.2.2.2.1 g.2.2.2.2.1 g.2.1∧MRep z0e Value.bool R g.2.2.2.2.2.2 v6 g.2.2.2.1∧True) (fun g=>g.1) (N,([(⟨from_,[]⟩:Sc)]:List Sc),0,(z3y ([]:List ((List UInt8)×Bool)) aH true),v1,f2,bt) prm ⟨c,(h4.mono q),bu,trivial⟩ ?_))))
 clear c;rintro⟨ad,x23,S,aI,aJ,F,aK⟩ bQ cf C ⟨c,ae,bv,_⟩;rcases ad with _|ad;exact qy c;replace c:z0b N inputs key is next (ad+1) x23 S aI=some ar:=c;rw [z0b] at c
 refine qb (zu (jg (v:=aJ) rfl (z8 rfl) (jg rfl (z1p rfl underlying109 rfl ae) (jg rfl (z0l rfl rfl) (jg (v:=(.bool (decide (0<(↑x23.length:Int))))) rfl (z8 rfl) (ja rfl rfl rfl rfl (fun hB=>qp (v:=(vi S)) (z8 rfl)) fun cg bw=>?_))))))
 refine ja rfl rfl rfl rfl (fun hB=>qp (z2p (bw.1 (zo rfl hB)) rfl)) fun ch bx=>?_;refine jg rfl (xn rfl (fun hb=>(bx.1 (zo rfl hb))) rfl) (za (qa rfl c (fun c=>?_) (fun c=>?_)));refine qf (qb (qd (zu (zi vs0 (za ?_)))));obtain⟨au,d,c⟩:=zx c
 refine qo (γ:=(List Sc×List ((List UInt8)×Bool))×Value×Frag×Frag) (rs [10,12,15,16,17,21,38,82]) (fun g=>[(15,g.2.1)]) (fun g=>[g.2.2.2,g.2.2.1]++A) (fun g R=>au=Ex.go g.1∧ORep (uh false) R g.2.2.1 g.2.1 g.1.1∧MRep z0e Value.bool R g.2.2.2 v6 g.1.2∧True) ?_ ?_
 refine zu (zf aJ (zy (z1p rfl underlying109 rfl ae) (zf (vi 0) (za (qd (z5f ?_))))))
 refine j4 (γ:=Nat×(List Sc)×Int×(List ((List UInt8)×Bool))×Value×Frag×Frag) (rs [10,12,15,16,17,21,40,82]) (fun g=>[(15,g.2.2.2.2.1),(40,(vi g.2.2.1))]) (fun g=>[g.2.2.2.2.2.2,F,g.2.2.2.2.2.1]++A) (fun g R=>z0c N inputs key is next x23 g.1 g.2.1 g.2.2.1 g.2.2.2.1=some au∧ORep (uh false) R g.2.2.2.2.2.1 g.2.2.2.2.1 g.2.1∧MRep z0e Value.bool R g.2.2.2.2.2.2 v6 g.2.2.2.1∧True) (fun g=>g.1) (N,[],0,aI,vs0,emp,aK) ⟨[],(pk 1 rfl (pk 1 rfl (pk 0 rfl (List.Perm.refl _))))⟩ ⟨d,(z2d (T:=(uh false))),bv,trivial⟩ ?_
 clear d;rintro⟨af,av,x62,aw,aL,ax,az⟩ bS cj s ⟨d,aM,aN,_⟩;rcases af with _|af;exact qy d;replace d:z0c N inputs key is next x23 (af+1) av x62 aw=some au:=d;rw [z0c] at d;refine zu (zy (ji rfl rfl) (za (qb (qa rfl d (fun d=>?_) (fun d=>?_)))));refine qf ?_
 obtain⟨aA,a,d⟩:=zx d;refine qo (γ:=(List ((List UInt8)×Bool)×List Sc)×Frag×Value×Frag) (rs [10,12,15,16,17,21,42,81]) (fun g=>[(15,g.2.2.1)]) (fun g=>[g.2.1,g.2.2.2,F]++A) (fun g R=>aA=Ex.go g.1∧MRep z0e Value.bool R g.2.1 v6 g.1.1∧ORep (uh false) R g.2.2.2 g.2.2.1 g.1.2∧True) ?_ ?_
 refine qd (zu ?_);obtain⟨aB,a⟩:=zb a;refine z1l (i:=x62.toNat) rfl zxs rfl (ae.mono s) (zl rfl aB.1) (zw aB) fun ck bz=>?_;refine z6k (i:=x62.toNat) (j:=1) rfl zun (ae.mono s) rfl rfl bz (zw aB) fun cl bA=>?_;refine aj rfl zx9 fun ag=>?_;obtain⟨U,rfl,aC⟩:=z81 bA
 refine oh (i:=0) (vs:=[(.int .u16 ((ix x23 x62).fH)),U]) zx8 rfl rfl rfl rfl rfl rfl (jk rfl (jk (z9h aC) ay)) ?_;refine za (qb (zu (zf K (zy (uq znk rfl) (zy (ku (i:=0) ztw rfl rfl rfl) ?_)))));obtain⟨cm,bB,a⟩:=zx a
 refine z1g rfl rfl rfl ((aG.mono ((q.trans C).trans s)) _ (RH.le.refl _) ((ix x23 x62).fH) _ _ (qc.2 rfl) bB) fun cn co m bC=>?_;obtain rfl:=z04.1 bC;refine za (qa rfl a (fun a=>?_) (fun a=>?_));refine zu (zy (uq znx rfl) (zy (ku (i:=0) zpl rfl rfl rfl) ?_));obtain⟨cp,bD,a⟩:=zx a
 refine jh rfl zmh rfl (z09 (aC.mono m) bD) fun V bT aD aO=>?_;refine zi V (zi (vi 0) (za (qm ?_)));replace d:=z1e a d;replace c:=z1e d c;replace p:=z1e c p;obtain rfl:=Option.some.inj p
 refine qg (D:=[]) (J:=[box ag [(.int .u16 ((ix x23 x62).fH)),U] 108,az,F,ax]) (rs:=[.tmp 10,.tmp 11]) (vs:=[V,(vi 0)]) ((((q.trans C).trans s).trans m).trans aD) rfl rfl ⟨rfl,rfl,trivial⟩ ?_;exact⟨rfl,⟨V,rfl,aO⟩⟩
 refine qf (zu (zf (vi inputs) (zf (vi 0) (za (qd (j4 (γ:=Nat×Int×(List ((List UInt8)×Bool))×(List Sc)×Frag×Value×Frag) (rs [15,16,18,21,52,81]) (fun g=>[(15,g.2.2.2.2.2.1),(52,(vi g.2.1))]) (fun g=>[g.2.2.2.2.1,g.2.2.2.2.2.2,box ag [(.int .u16 ((ix x23 x62).fH)),U] 108,F]++A) (fun g R=>z08 N inputs key next x23 x62 g.1 g.2.1 g.2.2.1 g.2.2.2.1=some aA∧MRep z0e Value.bool R g.2.2.2.2.1 v6 g.2.2.1∧ORep (uh false) R g.2.2.2.2.2.2 g.2.2.2.2.2.1 g.2.2.2.1∧True) (fun g=>g.1) (N,0,aw,av,az,aL,ax) ⟨[],(pk 1 rfl (pk 2 rfl (pk 0 rfl (pk 0 rfl (List.Perm.refl _)))))⟩ ⟨a,(aN.mono m),(aM.mono m),trivial⟩ ?_))))))
 clear a;rintro⟨L,b,M,E,al,W,am⟩ bU bV y ⟨a,O,Z,_⟩;rcases L with _|L;exact qy a;replace a:z08 N inputs key next x23 x62 (L+1) b M E=some aA:=a;rw [z08] at a;refine zu (zy (ji rfl rfl) (za (qb (qa rfl a (fun a=>?_) (fun a=>?_)))))
 refine qf ?_;obtain⟨P,l,a⟩:=zx a
 refine qo (γ:=(List ((List UInt8)×Bool)×List Sc)×Frag×Value×Frag) (rs [15,16,18,21,54,80]) (fun g=>[(15,g.2.2.1)]) (fun g=>[g.2.1,g.2.2.2,box ag [(.int .u16 ((ix x23 x62).fH)),U] 108,F]++A) (fun g R=>P=g.1∧MRep z0e Value.bool R g.2.1 v6 g.1.1∧ORep (uh false) R g.2.2.2 g.2.2.1 g.1.2∧True) ?_ ?_
 refine qd (zu (zf (vi b) (zi (vi b) (qw (zf n (zy (uq znk rfl) (zy (ku (i:=2) ztw rfl rfl rfl) (zf (vi b) ?_))))))));obtain⟨h,aP,l⟩:=zx l
 refine z1g rfl rfl rfl ((ac.mono ((((q.trans C).trans s).trans m).trans y)) _ (RH.le.refl _) ((ix x23 x62).fH) b _ _ _ (qc.2 rfl) (qc.2 rfl) aP) fun bW bX e aQ=>?_;obtain rfl:=qc.1 aQ;refine zi (.int .u16 h) (qw (zf o (zf (.int .u16 h) ?_)));obtain⟨t,aR,l⟩:=zx l
 refine z1g rfl rfl rfl ((Q.mono (((((q.trans C).trans s).trans m).trans y).trans e)) _ (RH.le.refl _) h _ _ (qc.2 rfl) aR) fun bY bZ f aS=>?_;obtain rfl:=z5j.1 aS
 refine zi (z0e t) (qw (zf v6 (zf (z0e t) (zy (zce (k:=t) underlying88 ko9 mz4 (zi9 (i:=0) rfl (O.mono (e.trans f))) rfl rfl) (zy (lg rfl) (za (qa rfl l (fun l=>?_) (fun l=>?_))))))))
 refine zu (zf v6 (zf (z0e t) (z9g (i:=0) (k:=t) (u:=true) underlying88 ko9 rfl (O.mono (e.trans f)) rfl rfl rfl fun aT aU=>?_)));refine za (zz (zf W (zf (.int .u16 h) (zy (uq znx rfl) (zy (ku (i:=2) zpl rfl rfl rfl) ?_)))));obtain⟨an,aV,l⟩:=zx l
 refine jh rfl zmh rfl (z09 (aC.mono (((m.trans y).trans e).trans f)) aV) fun b0 b1 G aW=>?_;refine zf (vi b) (ai (T:=(q8 .i64)) (X:=([b]:List Int)) (ps:=[(0,(vi b))]) (css:=[[(vi b)]]) rfl underlying30 zo3 rfl rfl (ko ⟨rfl,trivial⟩) rfl rfl (by decide) fun aX b2 ah aY=>?_)
 refine xy (i:=0) rfl aY fun aZ z a0=>?_;have a1:VRep (tSl true (q8 .i64)) aZ aX ([b]:List Int):=(z1y a0 ah);obtain⟨aa,l⟩:=zb l;refine zfq rfl underlying30 zo3 rfl rfl (aW.mono z) (jv (Sub.v (B:=(tSl false (q8 .i64))) (wm Sub.refl (fun _=>rfl)) a1)) aa.1.1 aa.1.2 aa.2 fun x b3 ao=>?_
 refine zy (z5p [(0,(.int .u16 h)),(1,(.agg #[x]))] (ps:=[(0,(.int .u16 h)),(1,x)]) (v:=(.agg #[(.int .u16 h),x])) rfl (by simp only [List.map_cons,List.map_nil,z2q ao];rfl) (fun w=>by kernel_rfl)) (xy (i:=0) rfl ao fun a2 H a3=>?_);have a4:VRep (tSl false (q8 .i64)) a2 x (an++([b]:List Int)):=(z7k a3)
 let G1:=([(⟨h,(an++([b]:List Int))⟩:Sc)]:List Sc);refine ai (T:=(uh false)) (X:=G1) (ps:=[(0,(.agg #[(.int .u16 h),x]))]) (css:=[[(.int .u16 h),x]]) rfl underlying109 zr7 rfl rfl (ko ⟨⟨_,_,rfl,rfl,(u6 rfl a4)⟩,trivial⟩) rfl rfl (by decide) fun a5 b4 ak a6=>?_
 refine xy (i:=0) rfl a6 fun a7 I a8=>?_;have a9:VRep (tSl true (uh false)) a7 a5 G1:=(z1y a8 ak);obtain⟨ap,l⟩:=zb l
 refine z0j (i:=1) (X:=E) (Y:=G1) rfl underlying109 zr7 rfl rfl rfl (Z.mono (((((e.trans f).trans G).trans z).trans H).trans I)) (jv (Sub.v (B:=(tSl false (uh false))) (wm Sub.refl (fun _=>rfl)) a9)) ap.1 ap.2 fun aq ba bb=>?_;refine zi aq (za ?_)
 exact⟨dkt,(((((e.trans f).trans G).trans z).trans H).trans I),je,(((z3y M t true),(E++G1)),aT,aq,ba),⟨rfl,trivial⟩,prm,(Option.some.inj l).symm,(aU.mono (((G.trans z).trans H).trans I)),bb,trivial⟩;refine qf ?_
 exact⟨dkt,(e.trans f),je,((M,E),al,W,am),⟨rfl,trivial⟩,prm,(Option.some.inj l).symm,(O.mono (e.trans f)),(Z.mono (e.trans f)),trivial⟩;rintro⟨P,bc,be,bf⟩ b5 b6 aE ⟨rfl,bg,bh,_⟩;refine zz ?_;obtain⟨bj,a⟩:=zb a;refine zy (qz rfl rfl bj) (zf (vi (b+1)) (za ?_))
 exact⟨dkt,aE,je,(L,b+1,P.1,P.2,bc,be,bf),Nat.lt_succ_self _,⟨rfl,rfl,trivial⟩,prm,a,bg,bh,trivial⟩;refine jl ?_
 exact⟨dkt,(m.trans y),je,((M,E),al,W,am),⟨rfl,trivial⟩,⟨[box ag [(.int .u16 ((ix x23 x62).fH)),U] 108],(pk 2 rfl (pk 0 rfl (pk 0 rfl (pk 0 rfl (List.Perm.refl _)))))⟩,(Option.some.inj a).symm,O,Z,trivial⟩;rintro⟨bk,bE,bF,bG⟩ b7 cq bl ⟨rfl,bH,bI,_⟩;replace d:=z1x d;refine zz ?_;obtain⟨bm,d⟩:=zb d
 refine zy (qz rfl rfl bm) (zf (vi (x62+1)) (za ?_));exact⟨dkt,bl,je,(af,bk.2,x62+1,bk.1,bF,bG,bE),Nat.lt_succ_self _,⟨rfl,rfl,trivial⟩,⟨[],(pk 0 rfl (pk 1 rfl (pk 0 rfl (List.Perm.refl _))))⟩,d,bI,bH,trivial⟩;refine jl ?_
 exact⟨dkt,s,je,((av,aw),aL,ax,az),⟨rfl,trivial⟩,⟨[F],(pk 1 rfl (pk 0 rfl (pk 0 rfl (List.Perm.refl _))))⟩,(Option.some.inj d).symm,aM,aN,trivial⟩;rintro⟨bn,aF,bJ,bK⟩ b8 cr bo ⟨rfl,bL,bM,_⟩;replace c:=z1x c;refine zz (zf aF (zi aF (za (zz (zf (vi S) ?_)))));obtain⟨bp,c⟩:=zb c
 refine zy (qz rfl rfl bp) (zi (vi (S+1)) (za ?_));exact⟨dkt,bo,je,(ad,bn.1,S+1,bn.2,aF,bJ,bK),Nat.lt_succ_self _,⟨rfl,rfl,trivial⟩,prm,c,bL,bM,trivial⟩;refine jl ?_;exact⟨dkt,C,je,(),trivial,⟨[aK,F],(List.Perm.refl _)⟩,(Option.some.inj c).symm,trivial⟩;rintro cs b9 ct bq ⟨rfl,_⟩;replace p:=z1x p
 refine zu (zi vs0 (zi (vi 7) (za (qm ?_))));obtain rfl:=Option.some.inj p;refine qg (D:=[]) (J:=[]) (rs:=[.tmp 10,.tmp 11]) (vs:=[vs0,(vi 7)]) (q.trans bq) rfl rfl ⟨rfl,rfl,trivial⟩ ?_;exact⟨rfl,⟨vs0,rfl,z0p⟩⟩
theorem q06:Enters prog 40:=enters_of func40 rfl (by kernel_rfl)
theorem zg3{N:Nat}{R:RH}{x:Int}{r:(List UInt8)}(a:za1 N x=some r):CallP prog 41 #[(.int .u16 x)] R (fun v R'=>v=(z0e r)):=by
 refine ql (args:=[(.int .u16 x)]) func41 rfl rfl fun A=>?_;rw [za1] at a;refine zu (zi (z0e []) (qw (zf (.int .u16 x) (ai (T:=(q8 .u16)) (X:=([x]:List Int)) (ps:=[(0,(.int .u16 x))]) (css:=[[(.int .u16 x)]]) rfl underlying23 zp9 rfl rfl (ko ⟨rfl,trivial⟩) rfl rfl (by decide) fun h i b j=>?_))))
 obtain⟨c,d,a⟩:=zx a;refine za0 (cs:=[]) (vs:=[h]) (φ:=fun v=>v=(z0e c)) rfl zxq rfl rfl (fun k e f=>zdd (Sub.v (B:=(tSl false (q8 .u16))) (wm Sub.refl (fun _=>rfl)) (z1y (t:=true) ((z5v 0 rfl j e f):VRep (xg (q8 .u16)) k h ([x]:List Int)) b)) d) fun l g=>?_;obtain rfl:=g
 refine zi (z0e c) (za (qm ?_));obtain rfl:=Option.some.inj a;refine qg (D:=[]) (J:=[i]) (rs:=[.tmp 2]) (vs:=[(z0e c)]) (RH.le.refl _) rfl rfl ⟨rfl,trivial⟩ ?_;exact⟨rfl,rfl⟩
theorem q03:Enters prog 41:=enters_of func41 rfl (by kernel_rfl)
theorem zfh{N:Nat}{R:RH}{x:Int}{r:Bool}(a:za2 N x=some r):CallP prog 38 #[(.int .u16 x)] R (fun v R'=>v=(.bool r)):=by
 refine ql (args:=[(.int .u16 x)]) func38 rfl rfl fun A=>?_;rw [za2] at a;refine zu (zi (.bool false) (qw (zf (.int .u16 x) ?_)));obtain⟨c,d,a⟩:=zx a;refine jh rfl zy2 rfl (z4r  d) fun f g b e=>?_;obtain rfl:=e;refine zy (o7 rfl rfl) (zi (.bool (decide (c=1))) (za (qm ?_)))
 obtain rfl:=Option.some.inj a;refine qg (D:=[]) (J:=[]) (rs:=[.tmp 2]) (vs:=[(.bool (decide (c=1)))]) b rfl rfl ⟨rfl,trivial⟩ ?_;exact⟨rfl,rfl⟩
theorem q0g:Enters prog 38:=enters_of func38 rfl (by kernel_rfl)
theorem zcs{N:Nat}{R:RH}{l:Sg}{d:Value}(m:VRep (lv false false) R d l){x:Int}{i:Int}{r:Int}(e:z6u N l x i=some r):CallP prog 42 #[d,(.int .u16 x),(vi i)] R (fun v R'=>v=(.int .u16 r)):=by
 refine ql (args:=[d,(.int .u16 x),(vi i)]) func42 rfl rfl fun A=>?_;rw [z6u] at e;refine zu (ah (T:=(lv false false)) rfl rfl rfl m fun v1 R3 t h5 M=>?_);refine zi (.int .u16 0) (za ?_);obtain⟨j,b,e⟩:=zx e
 refine qo (γ:=Int) (rs [6,32]) (fun g=>[(6,(.int .u16 g))]) (fun g=>[]++A) (fun g R=>j=g∧True) ?_ ?_;refine zu (uy rfl zis z3p rfl M fun v9 u=>?_);refine uy rfl mi yz rfl u fun O w=>?_;refine jf rfl z3b rfl w fun P n=>?_
 refine zy (jb rfl underlying26 rfl (jv n)) (zf (vi 0) (za (qd (j4 (γ:=Nat×Int×Int) (rs [6,9,13,32]) (fun g=>[(6,(.int .u16 g.2.1)),(13,(vi g.2.2))]) (fun g=>[]++A) (fun g R=>z1a N l x i g.1 g.2.1 g.2.2=some j∧True) (fun g=>g.1) (N,0,0) prm ⟨b,trivial⟩ ?_))));clear b
 rintro⟨f,x16,c⟩ Q S h ⟨b,_⟩;rcases f with _|f;exact qy b;replace b:z1a N l x i (f+1) x16 c=some j:=b;rw [z1a] at b;refine zu (zy (ji rfl rfl) (za (qb (qa rfl b (fun b=>?_) (fun b=>?_)))));refine qf ?_;obtain⟨k,a,b⟩:=zx b
 refine qo (γ:=Int) (rs [6,9,15,31]) (fun g=>[(6,(.int .u16 g))]) (fun g=>[]++A) (fun g R=>k=g∧True) ?_ ?_;refine qd (zu (zf (vi c) ?_));obtain⟨o,a⟩:=zb a;refine eu (i:=c.toNat) rfl za4 rfl (jv (n.mono h)) (zl rfl o.1) (zw o) fun U y=>?_;refine jf rfl z8y rfl y fun p z=>?_
 refine zi (vi c) (zi p (qw (zf (.int .u16 x) (zf (vi c) ?_))));obtain⟨B,a⟩:=zb a;refine zy (z3e rfl rfl B) ?_;obtain⟨C,a⟩:=zb a;refine zy (z4e rfl rfl C) (zy (o7 rfl rfl) (za (qa rfl a (fun a=>?_) (fun a=>?_))));refine zz (zf (.int .u16 x16) (zf p (zf (vi i) ?_)))
 obtain⟨q,a⟩:=zb a;refine eu (i:=i.toNat) rfl z8s rfl (jv z) (zl rfl q.1) (zw q) fun V E=>?_;refine uy rfl z3a z1h rfl E fun W F=>?_;refine jf rfl ty3 rfl F fun X G=>?_;obtain rfl:=qc.1 G;obtain⟨H,a⟩:=zb a;refine zy (z9k rfl rfl H) ?_;obtain⟨I,a⟩:=zb a
 refine zy (zmz rfl rfl I) (zi (.int .u16 (ior x16 (ax .u16 (1:Int) ((ix (ix l.fG.rows c) i).to)))) (za ?_));exact⟨dkt,(RH.le.refl _),je,ior x16 (ax .u16 (1:Int) ((ix (ix l.fG.rows c) i).to)),⟨rfl,trivial⟩,prm,(Option.some.inj a).symm,trivial⟩;refine qf ?_;exact⟨dkt,(RH.le.refl _),je,x16,⟨rfl,trivial⟩,prm,(Option.some.inj a).symm,trivial⟩
 rintro k Y Z s ⟨rfl,_⟩;refine zz ?_;obtain⟨K,b⟩:=zb b;refine zy (qz rfl rfl K) (zf (vi (c+1)) (za ?_));exact⟨dkt,s,je,(f,k,c+1),Nat.lt_succ_self _,⟨rfl,rfl,trivial⟩,prm,b,trivial⟩;refine jl ?_;exact⟨dkt,h,je,x16,⟨rfl,trivial⟩,prm,(Option.some.inj b).symm,trivial⟩;rintro j aa R7 L ⟨rfl,_⟩
 refine zu (zf (.int .u16 j) (zi (.int .u16 j) (za (qm ?_))));obtain rfl:=Option.some.inj e;refine qg (D:=[]) (J:=[]) (rs:=[.tmp 6]) (vs:=[(.int .u16 j)]) (t.trans L) rfl rfl ⟨rfl,trivial⟩ ?_;exact⟨rfl,rfl⟩
theorem zyw:Enters prog 42:=enters_of func42 rfl (by kernel_rfl)
theorem zcz{N:Nat}{R:RH}{m:Mach}{p:Value}(n:VRep (wz false false) R p m){r:(List Int)×Int}(b:z9i N m=some r):CallP prog 14 #[p] R (fun v R'=> ∃ k,v= .tuple #[k,(vi r.2)]∧VRep (tSl true (q8 .i64)) R' k r.1):=by
 refine ql (args:=[p]) func14 rfl rfl fun A=>?_;rw [z9i] at b;refine zu (ah (T:=(wz false false)) rfl rfl rfl n fun v1 R3 j F h2=>?_);refine zi vs0 (zi (vi 0) (za (qb (zu (zy (xz z5i rfl rfl F (n.mono j)) ?_)))));obtain⟨u,c7,b⟩:=zx b
 refine jh rfl zot rfl (z2y (n.mono j) c7) fun v8 aA d h9=>?_;obtain rfl:=h9;refine zi (vi u) (qw (zf (vi u) (zy (yl rfl rfl) (za (qa rfl b (fun b=>?_) (fun b=>?_))))));refine zu (zf (vi u) (zi vs0 (zi (vi u) (za (qm ?_)))));obtain rfl:=Option.some.inj b
 refine qg (D:=[]) (J:=[]) (rs:=[.tmp 2,.tmp 3]) (vs:=[vs0,(vi u)]) (j.trans d) rfl rfl ⟨rfl,rfl,trivial⟩ ?_;exact⟨rfl,⟨vs0,rfl,z0p⟩⟩;refine qf (qb (zu (uy rfl mi yz rfl (h2.mono d) fun aC G=>?_)));refine jf rfl z3b rfl G fun aD H=>?_
 refine zy (jb rfl underlying26 rfl (jv H)) (zy (z0l rfl rfl) (za (qa rfl b (fun b=>?_) (fun b=>?_))));refine zu (zi vs0 (zi (vi 3) (za (qm ?_))));obtain rfl:=Option.some.inj b
 refine qg (D:=[]) (J:=[]) (rs:=[.tmp 2,.tmp 3]) (vs:=[vs0,(vi 3)]) (j.trans d) rfl rfl ⟨rfl,rfl,trivial⟩ ?_;exact⟨rfl,⟨vs0,rfl,z0p⟩⟩;refine qf (zu (zi (.func (.func 38) #[] #[]) (za (qb ?_))));obtain⟨c,rfl,o⟩:=z3m (n.mono (j.trans d));obtain⟨q,I,b⟩:=zx b
 obtain⟨i,K,b⟩:=zx b
 refine oz 13 [] [phP (q8 .i64) m.inputs,phX (vi m.inputs),phX (.agg #[(vi m.inputs),(vi m.outputs),c]),phX (.int .u16 q),phX (.func (.func 38) #[] #[]),phX (.agg #[(vi m.inputs),(vi m.outputs),c]),phX (.agg #[(vi m.inputs),(vi m.outputs),c]),phX (.func (.func 42) #[(.agg #[(vi m.inputs),(vi m.outputs),c])] #[]),(fun v R=> ∃ k,v= .tuple #[k,(vi i.2)]∧VRep (tSl true (q8 .i64)) R k i.1),phR (tSl true (q8 .i64)) i.1,phX (vi i.2),phR (tSl true (q8 .i64)) i.1,phX (vi i.2)] mixed (by kernel_rfl) (dw ⟨lc,zh,zh,zh,zh,zh,zh,zh,(fun _ _ _ le ⟨k,e,s⟩=>⟨k,e,s.mono le⟩),z1d,zh,z1d,zh,trivial⟩) ⟨?_,?_,?_,?_,?_,?_,?_,?_,?_,?_,?_,?_,?_,trivial⟩ fun aE x=>?_
 intro l aF a g hd;exact zg rfl rfl rfl (lm z1k z1z (g 1 rfl) ((h2.mono d).mono a));rintro l aG a g ⟨f,_⟩;exact zg rfl rfl rfl (j3 (mo ty3 rfl (f rfl)) (fun _ _ h=>qc.1 h));intro l aH a g hd
 exact zg rfl rfl rfl (zn (xz z5i rfl (g 1 rfl) ((F.mono d).mono a) (⟨_,⟨_,_,rfl,rfl,⟨_,_,rfl,rfl,(u6 rfl (o.mono a))⟩⟩,rfl⟩:VRep (wz false false) _ _ (⟨m.inputs,m.outputs,m.rows⟩:Mach))));rintro l aI a g ⟨f,_⟩;have L:l 17=(.agg #[(vi m.inputs),(vi m.outputs),c]):=f rfl
 exact zg rfl rfl rfl (yc (vs:=[(.agg #[(vi m.inputs),(vi m.outputs),c])]) zwc (by simp only [List.map,ev,L]<;>rfl) (zb0 (⟨_,⟨_,_,rfl,rfl,⟨_,_,rfl,rfl,(u6 rfl (o.mono a))⟩⟩,rfl⟩:VRep (wz false false) _ _ (⟨m.inputs,m.outputs,m.rows⟩:Mach)) I) (fun _ _ h=>h));intro l aJ a g hd
 exact zg rfl rfl rfl (zn (z8 (g 5 rfl)));intro l aK a g hd;exact zg rfl rfl rfl (zn (xz z5i rfl (g 1 rfl) ((F.mono d).mono a) (⟨_,⟨_,_,rfl,rfl,⟨_,_,rfl,rfl,(u6 rfl (o.mono a))⟩⟩,rfl⟩:VRep (wz false false) _ _ (⟨m.inputs,m.outputs,m.rows⟩:Mach))));rintro l aL a g ⟨f,_⟩
 have M:l 20=(.agg #[(vi m.inputs),(vi m.outputs),c]):=f rfl;exact zg rfl rfl rfl (zn (bi (ps:=[(0,(.agg #[(vi m.inputs),(vi m.outputs),c]))]) (v:=(.agg #[(vi m.inputs),(vi m.outputs),c])) (by simp only [List.map,ev,M]<;>rfl) (fun w=>by kernel_rfl)));rintro l aM a g ⟨f,_⟩
 have O:l 21=(.agg #[(vi m.inputs),(vi m.outputs),c]):=f rfl;exact zg rfl rfl rfl (zn (z1v (fs:=[(.agg #[(vi m.inputs),(vi m.outputs),c])]) (cs:=[]) (by simp only [List.map,ev,O]<;>rfl) rfl));rintro l aN a g ⟨f,P,Q,S,d4,_⟩;have U:l 16=(vi m.inputs):=f rfl
 have V:l 18=(.int .u16 q):=P rfl;have W:l 19=(.func (.func 38) #[] #[]):=Q rfl;have X:l 22=(.func (.func 42) #[(.agg #[(vi m.inputs),(vi m.outputs),c])] #[]):=S rfl
 exact zg rfl rfl rfl (yc (vs:=[(vi m.inputs),(.int .u16 q),(.func (.func 41) #[] #[]),(.func (.func 38) #[] #[]),(.func (.func 42) #[(.agg #[(vi m.inputs),(vi m.outputs),c])] #[])]) q06 (by simp only [List.map,ev,U,V,W,X]<;>rfl) (zao ((z7a (cs:=[]) q03 fun R1 Y z0 k y s z=>by obtain rfl:=qc.1 s;exact CallP.mono (zg3  z) fun v R2 _ B=>z5j.2 B).mono a) ((z7a (cs:=[]) q0g fun R1 Y z0 k y s z=>by obtain rfl:=qc.1 s;exact CallP.mono (zfh  z) fun v R2 _ B=>z04.2 B).mono a) ((zft (fs:=[(.agg #[(vi m.inputs),(vi m.outputs),c])]) zyw fun R1 Y z0 z1 k u1 y s k1 z=>by obtain rfl:=qc.1 s;obtain rfl:=qc.1 k1;exact CallP.mono (zcs (VRep.mono (⟨_,⟨_,_,rfl,rfl,⟨_,_,rfl,rfl,(u6 rfl o)⟩⟩,rfl⟩:VRep (lv false false) _ _ (⟨(⟨m.inputs,m.outputs,m.rows⟩:Mach)⟩:Sg)) Y) z) fun v R2 _ B=>qc.2 B).mono a) K) (fun _ _ h=>h))
 rintro l aP a g ⟨f,_⟩;have t:=f rfl;obtain⟨k,Z,C⟩:=t;exact zg rfl rfl rfl (zm9 (qx Z rfl) C);rintro l aw a g ⟨f,_⟩;have t:=f rfl;obtain⟨k,Z,C⟩:=t;exact zg rfl rfl rfl (zn (qx Z rfl));rintro l ax a g ⟨f,P,Q,S,d4,d5,d6,d7,d8,d9,aa,ab,ac,_⟩
 exact zg rfl rfl rfl (zm9 (ry rfl) (f rfl));rintro l ay a g ⟨f,P,Q,S,d4,d5,d6,d7,d8,d9,aa,ab,ac,aV,_⟩;exact zg rfl rfl rfl (zn (ry (f rfl)));intro aW aX aY ad aZ ae a0 af a1 ag a2 ai a3 aj a4 ak a5 al a6 a7 a8 am E an a9 ao;obtain rfl:=Eq.symm ad;obtain rfl:=Eq.symm ae;obtain rfl:=Eq.symm af
 obtain rfl:=Eq.symm ag;obtain rfl:=Eq.symm ai;obtain rfl:=Eq.symm aj;obtain rfl:=Eq.symm ak;obtain⟨ba,rfl,bb⟩:=al;obtain rfl:=Eq.symm am;obtain rfl:=Eq.symm ao;refine za (qm ?_);obtain rfl:=Option.some.inj b;refine qg (D:=[]) (J:=[]) (rs:=[.tmp 2,.tmp 3]) (vs:=[E,(vi i.2)]) ((j.trans d).trans x) rfl rfl ⟨rfl,rfl,trivial⟩ ?_
 exact⟨rfl,⟨E,rfl,an⟩⟩
theorem zy4:Enters prog 14:=enters_of func14 rfl (by kernel_rfl)
theorem zo4:ZeroOk prog 4 z07 false 1:=by
 obtain⟨i,zv,hi,a,c,d,f⟩:=z14 (P:=prog) (e:=4) (zv:=(.bool false)) (k:=1) (b:=1) (by kernel_rfl);exact⟨i,zv,hi,a,c,d,fun R=>by subst f;exact rfl⟩
theorem z96{N:Nat}{R:RH}{x:Int}{r:Int}(a:z3d N x=some r):CallP prog 54 #[(.int .u64 x)] R (fun v R'=>v=(vi r)):=by
 refine ql (args:=[(.int .u64 x)]) func54 rfl rfl fun A=>?_;rw [z3d] at a;refine zu (zi (vi 0) (qw (zf (.int .u64 x) ?_)));obtain⟨f,a⟩:=zb a;refine zy (z3e rfl rfl f) ?_;obtain⟨g,a⟩:=zb a;refine zy (z4e rfl rfl g) (zf (.int .u64 x) ?_);obtain⟨h,a⟩:=zb a
 refine zy (z4e rfl rfl h) (zy (z7v rfl rfl) (zi (.int .u64 (IntKind.u64.wrap ((ze (zt x (1:Int)) 6148914691236517205)+(ze x 6148914691236517205)))) (qw (zf (.int .u64 (IntKind.u64.wrap ((ze (zt x (1:Int)) 6148914691236517205)+(ze x 6148914691236517205)))) ?_))));obtain⟨i,a⟩:=zb a;refine zy (z3e rfl rfl i) ?_
 obtain⟨j,a⟩:=zb a;refine zy (z4e rfl rfl j) (zf (.int .u64 (IntKind.u64.wrap ((ze (zt x (1:Int)) 6148914691236517205)+(ze x 6148914691236517205)))) ?_);obtain⟨k,a⟩:=zb a
 refine zy (z4e rfl rfl k) (zy (z7v rfl rfl) (zi (.int .u64 (IntKind.u64.wrap ((ze (zt (IntKind.u64.wrap ((ze (zt x (1:Int)) 6148914691236517205)+(ze x 6148914691236517205))) (2:Int)) 3689348814741910323)+(ze (IntKind.u64.wrap ((ze (zt x (1:Int)) 6148914691236517205)+(ze x 6148914691236517205))) 3689348814741910323)))) (qw (zf (.int .u64 (IntKind.u64.wrap ((ze (zt (IntKind.u64.wrap ((ze (zt x (1:Int)) 6148914691236517205)+(ze x 6148914691236517205))) (2:Int)) 3689348814741910323)+(ze (IntKind.u64.wrap ((ze (zt x (1:Int)) 6148914691236517205)+(ze x 6148914691236517205))) 3689348814741910323)))) ?_))))
 obtain⟨l,a⟩:=zb a
 refine zy (z3e rfl rfl l) (zf (.int .u64 (IntKind.u64.wrap ((ze (zt (IntKind.u64.wrap ((ze (zt x (1:Int)) 6148914691236517205)+(ze x 6148914691236517205))) (2:Int)) 3689348814741910323)+(ze (IntKind.u64.wrap ((ze (zt x (1:Int)) 6148914691236517205)+(ze x 6148914691236517205))) 3689348814741910323)))) (zy (z7v rfl rfl) ?_))
 obtain⟨m,a⟩:=zb a;refine zy (z4e rfl rfl m) ?_
 refine zi (.int .u64 (ze (IntKind.u64.wrap ((zt (IntKind.u64.wrap ((ze (zt (IntKind.u64.wrap ((ze (zt x (1:Int)) 6148914691236517205)+(ze x 6148914691236517205))) (2:Int)) 3689348814741910323)+(ze (IntKind.u64.wrap ((ze (zt x (1:Int)) 6148914691236517205)+(ze x 6148914691236517205))) 3689348814741910323))) (4:Int))+(IntKind.u64.wrap ((ze (zt (IntKind.u64.wrap ((ze (zt x (1:Int)) 6148914691236517205)+(ze x 6148914691236517205))) (2:Int)) 3689348814741910323)+(ze (IntKind.u64.wrap ((ze (zt x (1:Int)) 6148914691236517205)+(ze x 6148914691236517205))) 3689348814741910323))))) 1085102592571150095)) (qw (zf (.int .u64 (ze (IntKind.u64.wrap ((zt (IntKind.u64.wrap ((ze (zt (IntKind.u64.wrap ((ze (zt x (1:Int)) 6148914691236517205)+(ze x 6148914691236517205))) (2:Int)) 3689348814741910323)+(ze (IntKind.u64.wrap ((ze (zt x (1:Int)) 6148914691236517205)+(ze x 6148914691236517205))) 3689348814741910323))) (4:Int))+(IntKind.u64.wrap ((ze (zt (IntKind.u64.wrap ((ze (zt x (1:Int)) 6148914691236517205)+(ze x 6148914691236517205))) (2:Int)) 3689348814741910323)+(ze (IntKind.u64.wrap ((ze (zt x (1:Int)) 6148914691236517205)+(ze x 6148914691236517205))) 3689348814741910323))))) 1085102592571150095)) (zf (.int .u64 (ze (IntKind.u64.wrap ((zt (IntKind.u64.wrap ((ze (zt (IntKind.u64.wrap ((ze (zt x (1:Int)) 6148914691236517205)+(ze x 6148914691236517205))) (2:Int)) 3689348814741910323)+(ze (IntKind.u64.wrap ((ze (zt x (1:Int)) 6148914691236517205)+(ze x 6148914691236517205))) 3689348814741910323))) (4:Int))+(IntKind.u64.wrap ((ze (zt (IntKind.u64.wrap ((ze (zt x (1:Int)) 6148914691236517205)+(ze x 6148914691236517205))) (2:Int)) 3689348814741910323)+(ze (IntKind.u64.wrap ((ze (zt x (1:Int)) 6148914691236517205)+(ze x 6148914691236517205))) 3689348814741910323))))) 1085102592571150095)) ?_)))
 obtain⟨n,a⟩:=zb a
 refine zy (z3e rfl rfl n) (zy (z7v rfl rfl) (zi (.int .u64 (IntKind.u64.wrap ((ze (IntKind.u64.wrap ((zt (IntKind.u64.wrap ((ze (zt (IntKind.u64.wrap ((ze (zt x (1:Int)) 6148914691236517205)+(ze x 6148914691236517205))) (2:Int)) 3689348814741910323)+(ze (IntKind.u64.wrap ((ze (zt x (1:Int)) 6148914691236517205)+(ze x 6148914691236517205))) 3689348814741910323))) (4:Int))+(IntKind.u64.wrap ((ze (zt (IntKind.u64.wrap ((ze (zt x (1:Int)) 6148914691236517205)+(ze x 6148914691236517205))) (2:Int)) 3689348814741910323)+(ze (IntKind.u64.wrap ((ze (zt x (1:Int)) 6148914691236517205)+(ze x 6148914691236517205))) 3689348814741910323))))) 1085102592571150095)+(zt (ze (IntKind.u64.wrap ((zt (IntKind.u64.wrap ((ze (zt (IntKind.u64.wrap ((ze (zt x (1:Int)) 6148914691236517205)+(ze x 6148914691236517205))) (2:Int)) 3689348814741910323)+(ze (IntKind.u64.wrap ((ze (zt x (1:Int)) 6148914691236517205)+(ze x 6148914691236517205))) 3689348814741910323))) (4:Int))+(IntKind.u64.wrap ((ze (zt (IntKind.u64.wrap ((ze (zt x (1:Int)) 6148914691236517205)+(ze x 6148914691236517205))) (2:Int)) 3689348814741910323)+(ze (IntKind.u64.wrap ((ze (zt x (1:Int)) 6148914691236517205)+(ze x 6148914691236517205))) 3689348814741910323))))) 1085102592571150095) (8:Int))))) (qw ?_)))
 refine zf (.int .u64 (IntKind.u64.wrap ((ze (IntKind.u64.wrap ((zt (IntKind.u64.wrap ((ze (zt (IntKind.u64.wrap ((ze (zt x (1:Int)) 6148914691236517205)+(ze x 6148914691236517205))) (2:Int)) 3689348814741910323)+(ze (IntKind.u64.wrap ((ze (zt x (1:Int)) 6148914691236517205)+(ze x 6148914691236517205))) 3689348814741910323))) (4:Int))+(IntKind.u64.wrap ((ze (zt (IntKind.u64.wrap ((ze (zt x (1:Int)) 6148914691236517205)+(ze x 6148914691236517205))) (2:Int)) 3689348814741910323)+(ze (IntKind.u64.wrap ((ze (zt x (1:Int)) 6148914691236517205)+(ze x 6148914691236517205))) 3689348814741910323))))) 1085102592571150095)+(zt (ze (IntKind.u64.wrap ((zt (IntKind.u64.wrap ((ze (zt (IntKind.u64.wrap ((ze (zt x (1:Int)) 6148914691236517205)+(ze x 6148914691236517205))) (2:Int)) 3689348814741910323)+(ze (IntKind.u64.wrap ((ze (zt x (1:Int)) 6148914691236517205)+(ze x 6148914691236517205))) 3689348814741910323))) (4:Int))+(IntKind.u64.wrap ((ze (zt (IntKind.u64.wrap ((ze (zt x (1:Int)) 6148914691236517205)+(ze x 6148914691236517205))) (2:Int)) 3689348814741910323)+(ze (IntKind.u64.wrap ((ze (zt x (1:Int)) 6148914691236517205)+(ze x 6148914691236517205))) 3689348814741910323))))) 1085102592571150095) (8:Int))))) (zf (.int .u64 (IntKind.u64.wrap ((ze (IntKind.u64.wrap ((zt (IntKind.u64.wrap ((ze (zt (IntKind.u64.wrap ((ze (zt x (1:Int)) 6148914691236517205)+(ze x 6148914691236517205))) (2:Int)) 3689348814741910323)+(ze (IntKind.u64.wrap ((ze (zt x (1:Int)) 6148914691236517205)+(ze x 6148914691236517205))) 3689348814741910323))) (4:Int))+(IntKind.u64.wrap ((ze (zt (IntKind.u64.wrap ((ze (zt x (1:Int)) 6148914691236517205)+(ze x 6148914691236517205))) (2:Int)) 3689348814741910323)+(ze (IntKind.u64.wrap ((ze (zt x (1:Int)) 6148914691236517205)+(ze x 6148914691236517205))) 3689348814741910323))))) 1085102592571150095)+(zt (ze (IntKind.u64.wrap ((zt (IntKind.u64.wrap ((ze (zt (IntKind.u64.wrap ((ze (zt x (1:Int)) 6148914691236517205)+(ze x 6148914691236517205))) (2:Int)) 3689348814741910323)+(ze (IntKind.u64.wrap ((ze (zt x (1:Int)) 6148914691236517205)+(ze x 6148914691236517205))) 3689348814741910323))) (4:Int))+(IntKind.u64.wrap ((ze (zt (IntKind.u64.wrap ((ze (zt x (1:Int)) 6148914691236517205)+(ze x 6148914691236517205))) (2:Int)) 3689348814741910323)+(ze (IntKind.u64.wrap ((ze (zt x (1:Int)) 6148914691236517205)+(ze x 6148914691236517205))) 3689348814741910323))))) 1085102592571150095) (8:Int))))) ?_)
 obtain⟨b,a⟩:=zb a;refine zy (z3e rfl rfl b) (zy (z7v rfl rfl) ?_)
 refine zi (.int .u64 (IntKind.u64.wrap ((IntKind.u64.wrap ((ze (IntKind.u64.wrap ((zt (IntKind.u64.wrap ((ze (zt (IntKind.u64.wrap ((ze (zt x (1:Int)) 6148914691236517205)+(ze x 6148914691236517205))) (2:Int)) 3689348814741910323)+(ze (IntKind.u64.wrap ((ze (zt x (1:Int)) 6148914691236517205)+(ze x 6148914691236517205))) 3689348814741910323))) (4:Int))+(IntKind.u64.wrap ((ze (zt (IntKind.u64.wrap ((ze (zt x (1:Int)) 6148914691236517205)+(ze x 6148914691236517205))) (2:Int)) 3689348814741910323)+(ze (IntKind.u64.wrap ((ze (zt x (1:Int)) 6148914691236517205)+(ze x 6148914691236517205))) 3689348814741910323))))) 1085102592571150095)+(zt (ze (IntKind.u64.wrap ((zt (IntKind.u64.wrap ((ze (zt (IntKind.u64.wrap ((ze (zt x (1:Int)) 6148914691236517205)+(ze x 6148914691236517205))) (2:Int)) 3689348814741910323)+(ze (IntKind.u64.wrap ((ze (zt x (1:Int)) 6148914691236517205)+(ze x 6148914691236517205))) 3689348814741910323))) (4:Int))+(IntKind.u64.wrap ((ze (zt (IntKind.u64.wrap ((ze (zt x (1:Int)) 6148914691236517205)+(ze x 6148914691236517205))) (2:Int)) 3689348814741910323)+(ze (IntKind.u64.wrap ((ze (zt x (1:Int)) 6148914691236517205)+(ze x 6148914691236517205))) 3689348814741910323))))) 1085102592571150095) (8:Int))))+(zt (IntKind.u64.wrap ((ze (IntKind.u64.wrap ((zt (IntKind.u64.wrap ((ze (zt (IntKind.u64.wrap ((ze (zt x (1:Int)) 6148914691236517205)+(ze x 6148914691236517205))) (2:Int)) 3689348814741910323)+(ze (IntKind.u64.wrap ((ze (zt x (1:Int)) 6148914691236517205)+(ze x 6148914691236517205))) 3689348814741910323))) (4:Int))+(IntKind.u64.wrap ((ze (zt (IntKind.u64.wrap ((ze (zt x (1:Int)) 6148914691236517205)+(ze x 6148914691236517205))) (2:Int)) 3689348814741910323)+(ze (IntKind.u64.wrap ((ze (zt x (1:Int)) 6148914691236517205)+(ze x 6148914691236517205))) 3689348814741910323))))) 1085102592571150095)+(zt (ze (IntKind.u64.wrap ((zt (IntKind.u64.wrap ((ze (zt (IntKind.u64.wrap ((ze (zt x (1:Int)) 6148914691236517205)+(ze x 6148914691236517205))) (2:Int)) 3689348814741910323)+(ze (IntKind.u64.wrap ((ze (zt x (1:Int)) 6148914691236517205)+(ze x 6148914691236517205))) 3689348814741910323))) (4:Int))+(IntKind.u64.wrap ((ze (zt (IntKind.u64.wrap ((ze (zt x (1:Int)) 6148914691236517205)+(ze x 6148914691236517205))) (2:Int)) 3689348814741910323)+(ze (IntKind.u64.wrap ((ze (zt x (1:Int)) 6148914691236517205)+(ze x 6148914691236517205))) 3689348814741910323))))) 1085102592571150095) (8:Int)))) (16:Int))))) (qw ?_)
 refine zf (.int .u64 (IntKind.u64.wrap ((IntKind.u64.wrap ((ze (IntKind.u64.wrap ((zt (IntKind.u64.wrap ((ze (zt (IntKind.u64.wrap ((ze (zt x (1:Int)) 6148914691236517205)+(ze x 6148914691236517205))) (2:Int)) 3689348814741910323)+(ze (IntKind.u64.wrap ((ze (zt x (1:Int)) 6148914691236517205)+(ze x 6148914691236517205))) 3689348814741910323))) (4:Int))+(IntKind.u64.wrap ((ze (zt (IntKind.u64.wrap ((ze (zt x (1:Int)) 6148914691236517205)+(ze x 6148914691236517205))) (2:Int)) 3689348814741910323)+(ze (IntKind.u64.wrap ((ze (zt x (1:Int)) 6148914691236517205)+(ze x 6148914691236517205))) 3689348814741910323))))) 1085102592571150095)+(zt (ze (IntKind.u64.wrap ((zt (IntKind.u64.wrap ((ze (zt (IntKind.u64.wrap ((ze (zt x (1:Int)) 6148914691236517205)+(ze x 6148914691236517205))) (2:Int)) 3689348814741910323)+(ze (IntKind.u64.wrap ((ze (zt x (1:Int)) 6148914691236517205)+(ze x 6148914691236517205))) 3689348814741910323))) (4:Int))+(IntKind.u64.wrap ((ze (zt (IntKind.u64.wrap ((ze (zt x (1:Int)) 6148914691236517205)+(ze x 6148914691236517205))) (2:Int)) 3689348814741910323)+(ze (IntKind.u64.wrap ((ze (zt x (1:Int)) 6148914691236517205)+(ze x 6148914691236517205))) 3689348814741910323))))) 1085102592571150095) (8:Int))))+(zt (IntKind.u64.wrap ((ze (IntKind.u64.wrap ((zt (IntKind.u64.wrap ((ze (zt (IntKind.u64.wrap ((ze (zt x (1:Int)) 6148914691236517205)+(ze x 6148914691236517205))) (2:Int)) 3689348814741910323)+(ze (IntKind.u64.wrap ((ze (zt x (1:Int)) 6148914691236517205)+(ze x 6148914691236517205))) 3689348814741910323))) (4:Int))+(IntKind.u64.wrap ((ze (zt (IntKind.u64.wrap ((ze (zt x (1:Int)) 6148914691236517205)+(ze x 6148914691236517205))) (2:Int)) 3689348814741910323)+(ze (IntKind.u64.wrap ((ze (zt x (1:Int)) 6148914691236517205)+(ze x 6148914691236517205))) 3689348814741910323))))) 1085102592571150095)+(zt (ze (IntKind.u64.wrap ((zt (IntKind.u64.wrap ((ze (zt (IntKind.u64.wrap ((ze (zt x (1:Int)) 6148914691236517205)+(ze x 6148914691236517205))) (2:Int)) 3689348814741910323)+(ze (IntKind.u64.wrap ((ze (zt x (1:Int)) 6148914691236517205)+(ze x 6148914691236517205))) 3689348814741910323))) (4:Int))+(IntKind.u64.wrap ((ze (zt (IntKind.u64.wrap ((ze (zt x (1:Int)) 6148914691236517205)+(ze x 6148914691236517205))) (2:Int)) 3689348814741910323)+(ze (IntKind.u64.wrap ((ze (zt x (1:Int)) 6148914691236517205)+(ze x 6148914691236517205))) 3689348814741910323))))) 1085102592571150095) (8:Int)))) (16:Int))))) ?_
 refine zf (.int .u64 (IntKind.u64.wrap ((IntKind.u64.wrap ((ze (IntKind.u64.wrap ((zt (IntKind.u64.wrap ((ze (zt (IntKind.u64.wrap ((ze (zt x (1:Int)) 6148914691236517205)+(ze x 6148914691236517205))) (2:Int)) 3689348814741910323)+(ze (IntKind.u64.wrap ((ze (zt x (1:Int)) 6148914691236517205)+(ze x 6148914691236517205))) 3689348814741910323))) (4:Int))+(IntKind.u64.wrap ((ze (zt (IntKind.u64.wrap ((ze (zt x (1:Int)) 6148914691236517205)+(ze x 6148914691236517205))) (2:Int)) 3689348814741910323)+(ze (IntKind.u64.wrap ((ze (zt x (1:Int)) 6148914691236517205)+(ze x 6148914691236517205))) 3689348814741910323))))) 1085102592571150095)+(zt (ze (IntKind.u64.wrap ((zt (IntKind.u64.wrap ((ze (zt (IntKind.u64.wrap ((ze (zt x (1:Int)) 6148914691236517205)+(ze x 6148914691236517205))) (2:Int)) 3689348814741910323)+(ze (IntKind.u64.wrap ((ze (zt x (1:Int)) 6148914691236517205)+(ze x 6148914691236517205))) 3689348814741910323))) (4:Int))+(IntKind.u64.wrap ((ze (zt (IntKind.u64.wrap ((ze (zt x (1:Int)) 6148914691236517205)+(ze x 6148914691236517205))) (2:Int)) 3689348814741910323)+(ze (IntKind.u64.wrap ((ze (zt x (1:Int)) 6148914691236517205)+(ze x 6148914691236517205))) 3689348814741910323))))) 1085102592571150095) (8:Int))))+(zt (IntKind.u64.wrap ((ze (IntKind.u64.wrap ((zt (IntKind.u64.wrap ((ze (zt (IntKind.u64.wrap ((ze (zt x (1:Int)) 6148914691236517205)+(ze x 6148914691236517205))) (2:Int)) 3689348814741910323)+(ze (IntKind.u64.wrap ((ze (zt x (1:Int)) 6148914691236517205)+(ze x 6148914691236517205))) 3689348814741910323))) (4:Int))+(IntKind.u64.wrap ((ze (zt (IntKind.u64.wrap ((ze (zt x (1:Int)) 6148914691236517205)+(ze x 6148914691236517205))) (2:Int)) 3689348814741910323)+(ze (IntKind.u64.wrap ((ze (zt x (1:Int)) 6148914691236517205)+(ze x 6148914691236517205))) 3689348814741910323))))) 1085102592571150095)+(zt (ze (IntKind.u64.wrap ((zt (IntKind.u64.wrap ((ze (zt (IntKind.u64.wrap ((ze (zt x (1:Int)) 6148914691236517205)+(ze x 6148914691236517205))) (2:Int)) 3689348814741910323)+(ze (IntKind.u64.wrap ((ze (zt x (1:Int)) 6148914691236517205)+(ze x 6148914691236517205))) 3689348814741910323))) (4:Int))+(IntKind.u64.wrap ((ze (zt (IntKind.u64.wrap ((ze (zt x (1:Int)) 6148914691236517205)+(ze x 6148914691236517205))) (2:Int)) 3689348814741910323)+(ze (IntKind.u64.wrap ((ze (zt x (1:Int)) 6148914691236517205)+(ze x 6148914691236517205))) 3689348814741910323))))) 1085102592571150095) (8:Int)))) (16:Int))))) ?_
 obtain⟨c,a⟩:=zb a;refine zy (z3e rfl rfl c) (zy (z7v rfl rfl) ?_)
 refine zi (.int .u64 (IntKind.u64.wrap ((IntKind.u64.wrap ((IntKind.u64.wrap ((ze (IntKind.u64.wrap ((zt (IntKind.u64.wrap ((ze (zt (IntKind.u64.wrap ((ze (zt x (1:Int)) 6148914691236517205)+(ze x 6148914691236517205))) (2:Int)) 3689348814741910323)+(ze (IntKind.u64.wrap ((ze (zt x (1:Int)) 6148914691236517205)+(ze x 6148914691236517205))) 3689348814741910323))) (4:Int))+(IntKind.u64.wrap ((ze (zt (IntKind.u64.wrap ((ze (zt x (1:Int)) 6148914691236517205)+(ze x 6148914691236517205))) (2:Int)) 3689348814741910323)+(ze (IntKind.u64.wrap ((ze (zt x (1:Int)) 6148914691236517205)+(ze x 6148914691236517205))) 3689348814741910323))))) 1085102592571150095)+(zt (ze (IntKind.u64.wrap ((zt (IntKind.u64.wrap ((ze (zt (IntKind.u64.wrap ((ze (zt x (1:Int)) 6148914691236517205)+(ze x 6148914691236517205))) (2:Int)) 3689348814741910323)+(ze (IntKind.u64.wrap ((ze (zt x (1:Int)) 6148914691236517205)+(ze x 6148914691236517205))) 3689348814741910323))) (4:Int))+(IntKind.u64.wrap ((ze (zt (IntKind.u64.wrap ((ze (zt x (1:Int)) 6148914691236517205)+(ze x 6148914691236517205))) (2:Int)) 3689348814741910323)+(ze (IntKind.u64.wrap ((ze (zt x (1:Int)) 6148914691236517205)+(ze x 6148914691236517205))) 3689348814741910323))))) 1085102592571150095) (8:Int))))+(zt (IntKind.u64.wrap ((ze (IntKind.u64.wrap ((zt (IntKind.u64.wrap ((ze (zt (IntKind.u64.wrap ((ze (zt x (1:Int)) 6148914691236517205)+(ze x 6148914691236517205))) (2:Int)) 3689348814741910323)+(ze (IntKind.u64.wrap ((ze (zt x (1:Int)) 6148914691236517205)+(ze x 6148914691236517205))) 3689348814741910323))) (4:Int))+(IntKind.u64.wrap ((ze (zt (IntKind.u64.wrap ((ze (zt x (1:Int)) 6148914691236517205)+(ze x 6148914691236517205))) (2:Int)) 3689348814741910323)+(ze (IntKind.u64.wrap ((ze (zt x (1:Int)) 6148914691236517205)+(ze x 6148914691236517205))) 3689348814741910323))))) 1085102592571150095)+(zt (ze (IntKind.u64.wrap ((zt (IntKind.u64.wrap ((ze (zt (IntKind.u64.wrap ((ze (zt x (1:Int)) 6148914691236517205)+(ze x 6148914691236517205))) (2:Int)) 3689348814741910323)+(ze (IntKind.u64.wrap ((ze (zt x (1:Int)) 6148914691236517205)+(ze x 6148914691236517205))) 3689348814741910323))) (4:Int))+(IntKind.u64.wrap ((ze (zt (IntKind.u64.wrap ((ze (zt x (1:Int)) 6148914691236517205)+(ze x 6148914691236517205))) (2:Int)) 3689348814741910323)+(ze (IntKind.u64.wrap ((ze (zt x (1:Int)) 6148914691236517205)+(ze x 6148914691236517205))) 3689348814741910323))))) 1085102592571150095) (8:Int)))) (16:Int))))+(zt (IntKind.u64.wrap ((IntKind.u64.wrap ((ze (IntKind.u64.wrap ((zt (IntKind.u64.wrap ((ze (zt (IntKind.u64.wrap ((ze (zt x (1:Int)) 6148914691236517205)+(ze x 6148914691236517205))) (2:Int)) 3689348814741910323)+(ze (IntKind.u64.wrap ((ze (zt x (1:Int)) 6148914691236517205)+(ze x 6148914691236517205))) 3689348814741910323))) (4:Int))+(IntKind.u64.wrap ((ze (zt (IntKind.u64.wrap ((ze (zt x (1:Int)) 6148914691236517205)+(ze x 6148914691236517205))) (2:Int)) 3689348814741910323)+(ze (IntKind.u64.wrap ((ze (zt x (1:Int)) 6148914691236517205)+(ze x 6148914691236517205))) 3689348814741910323))))) 1085102592571150095)+(zt (ze (IntKind.u64.wrap ((zt (IntKind.u64.wrap ((ze (zt (IntKind.u64.wrap ((ze (zt x (1:Int)) 6148914691236517205)+(ze x 6148914691236517205))) (2:Int)) 3689348814741910323)+(ze (IntKind.u64.wrap ((ze (zt x (1:Int)) 6148914691236517205)+(ze x 6148914691236517205))) 3689348814741910323))) (4:Int))+(IntKind.u64.wrap ((ze (zt (IntKind.u64.wrap ((ze (zt x (1:Int)) 6148914691236517205)+(ze x 6148914691236517205))) (2:Int)) 3689348814741910323)+(ze (IntKind.u64.wrap ((ze (zt x (1:Int)) 6148914691236517205)+(ze x 6148914691236517205))) 3689348814741910323))))) 1085102592571150095) (8:Int))))+(zt (IntKind.u64.wrap ((ze (IntKind.u64.wrap ((zt (IntKind.u64.wrap ((ze (zt (IntKind.u64.wrap ((ze (zt x (1:Int)) 6148914691236517205)+(ze x 6148914691236517205))) (2:Int)) 3689348814741910323)+(ze (IntKind.u64.wrap ((ze (zt x (1:Int)) 6148914691236517205)+(ze x 6148914691236517205))) 3689348814741910323))) (4:Int))+(IntKind.u64.wrap ((ze (zt (IntKind.u64.wrap ((ze (zt x (1:Int)) 6148914691236517205)+(ze x 6148914691236517205))) (2:Int)) 3689348814741910323)+(ze (IntKind.u64.wrap ((ze (zt x (1:Int)) 6148914691236517205)+(ze x 6148914691236517205))) 3689348814741910323))))) 1085102592571150095)+(zt (ze (IntKind.u64.wrap ((zt (IntKind.u64.wrap ((ze (zt (IntKind.u64.wrap ((ze (zt x (1:Int)) 6148914691236517205)+(ze x 6148914691236517205))) (2:Int)) 3689348814741910323)+(ze (IntKind.u64.wrap ((ze (zt x (1:Int)) 6148914691236517205)+(ze x 6148914691236517205))) 3689348814741910323))) (4:Int))+(IntKind.u64.wrap ((ze (zt (IntKind.u64.wrap ((ze (zt x (1:Int)) 6148914691236517205)+(ze x 6148914691236517205))) (2:Int)) 3689348814741910323)+(ze (IntKind.u64.wrap ((ze (zt x (1:Int)) 6148914691236517205)+(ze x 6148914691236517205))) 3689348814741910323))))) 1085102592571150095) (8:Int)))) (16:Int)))) (32:Int))))) (qw ?_)
 refine zf (.int .u64 (IntKind.u64.wrap ((IntKind.u64.wrap ((IntKind.u64.wrap ((ze (IntKind.u64.wrap ((zt (IntKind.u64.wrap ((ze (zt (IntKind.u64.wrap ((ze (zt x (1:Int)) 6148914691236517205)+(ze x 6148914691236517205))) (2:Int)) 3689348814741910323)+(ze (IntKind.u64.wrap ((ze (zt x (1:Int)) 6148914691236517205)+(ze x 6148914691236517205))) 3689348814741910323))) (4:Int))+(IntKind.u64.wrap ((ze (zt (IntKind.u64.wrap ((ze (zt x (1:Int)) 6148914691236517205)+(ze x 6148914691236517205))) (2:Int)) 3689348814741910323)+(ze (IntKind.u64.wrap ((ze (zt x (1:Int)) 6148914691236517205)+(ze x 6148914691236517205))) 3689348814741910323))))) 1085102592571150095)+(zt (ze (IntKind.u64.wrap ((zt (IntKind.u64.wrap ((ze (zt (IntKind.u64.wrap ((ze (zt x (1:Int)) 6148914691236517205)+(ze x 6148914691236517205))) (2:Int)) 3689348814741910323)+(ze (IntKind.u64.wrap ((ze (zt x (1:Int)) 6148914691236517205)+(ze x 6148914691236517205))) 3689348814741910323))) (4:Int))+(IntKind.u64.wrap ((ze (zt (IntKind.u64.wrap ((ze (zt x (1:Int)) 6148914691236517205)+(ze x 6148914691236517205))) (2:Int)) 3689348814741910323)+(ze (IntKind.u64.wrap ((ze (zt x (1:Int)) 6148914691236517205)+(ze x 6148914691236517205))) 3689348814741910323))))) 1085102592571150095) (8:Int))))+(zt (IntKind.u64.wrap ((ze (IntKind.u64.wrap ((zt (IntKind.u64.wrap ((ze (zt (IntKind.u64.wrap ((ze (zt x (1:Int)) 6148914691236517205)+(ze x 6148914691236517205))) (2:Int)) 3689348814741910323)+(ze (IntKind.u64.wrap ((ze (zt x (1:Int)) 6148914691236517205)+(ze x 6148914691236517205))) 3689348814741910323))) (4:Int))+(IntKind.u64.wrap ((ze (zt (IntKind.u64.wrap ((ze (zt x (1:Int)) 6148914691236517205)+(ze x 6148914691236517205))) (2:Int)) 3689348814741910323)+(ze (IntKind.u64.wrap ((ze (zt x (1:Int)) 6148914691236517205)+(ze x 6148914691236517205))) 3689348814741910323))))) 1085102592571150095)+(zt (ze (IntKind.u64.wrap ((zt (IntKind.u64.wrap ((ze (zt (IntKind.u64.wrap ((ze (zt x (1:Int)) 6148914691236517205)+(ze x 6148914691236517205))) (2:Int)) 3689348814741910323)+(ze (IntKind.u64.wrap ((ze (zt x (1:Int)) 6148914691236517205)+(ze x 6148914691236517205))) 3689348814741910323))) (4:Int))+(IntKind.u64.wrap ((ze (zt (IntKind.u64.wrap ((ze (zt x (1:Int)) 6148914691236517205)+(ze x 6148914691236517205))) (2:Int)) 3689348814741910323)+(ze (IntKind.u64.wrap ((ze (zt x (1:Int)) 6148914691236517205)+(ze x 6148914691236517205))) 3689348814741910323))))) 1085102592571150095) (8:Int)))) (16:Int))))+(zt (IntKind.u64.wrap ((IntKind.u64.wrap ((ze (IntKind.u64.wrap ((zt (IntKind.u64.wrap ((ze (zt (IntKind.u64.wrap ((ze (zt x (1:Int)) 6148914691236517205)+(ze x 6148914691236517205))) (2:Int)) 3689348814741910323)+(ze (IntKind.u64.wrap ((ze (zt x (1:Int)) 6148914691236517205)+(ze x 6148914691236517205))) 3689348814741910323))) (4:Int))+(IntKind.u64.wrap ((ze (zt (IntKind.u64.wrap ((ze (zt x (1:Int)) 6148914691236517205)+(ze x 6148914691236517205))) (2:Int)) 3689348814741910323)+(ze (IntKind.u64.wrap ((ze (zt x (1:Int)) 6148914691236517205)+(ze x 6148914691236517205))) 3689348814741910323))))) 1085102592571150095)+(zt (ze (IntKind.u64.wrap ((zt (IntKind.u64.wrap ((ze (zt (IntKind.u64.wrap ((ze (zt x (1:Int)) 6148914691236517205)+(ze x 6148914691236517205))) (2:Int)) 3689348814741910323)+(ze (IntKind.u64.wrap ((ze (zt x (1:Int)) 6148914691236517205)+(ze x 6148914691236517205))) 3689348814741910323))) (4:Int))+(IntKind.u64.wrap ((ze (zt (IntKind.u64.wrap ((ze (zt x (1:Int)) 6148914691236517205)+(ze x 6148914691236517205))) (2:Int)) 3689348814741910323)+(ze (IntKind.u64.wrap ((ze (zt x (1:Int)) 6148914691236517205)+(ze x 6148914691236517205))) 3689348814741910323))))) 1085102592571150095) (8:Int))))+(zt (IntKind.u64.wrap ((ze (IntKind.u64.wrap ((zt (IntKind.u64.wrap ((ze (zt (IntKind.u64.wrap ((ze (zt x (1:Int)) 6148914691236517205)+(ze x 6148914691236517205))) (2:Int)) 3689348814741910323)+(ze (IntKind.u64.wrap ((ze (zt x (1:Int)) 6148914691236517205)+(ze x 6148914691236517205))) 3689348814741910323))) (4:Int))+(IntKind.u64.wrap ((ze (zt (IntKind.u64.wrap ((ze (zt x (1:Int)) 6148914691236517205)+(ze x 6148914691236517205))) (2:Int)) 3689348814741910323)+(ze (IntKind.u64.wrap ((ze (zt x (1:Int)) 6148914691236517205)+(ze x 6148914691236517205))) 3689348814741910323))))) 1085102592571150095)+(zt (ze (IntKind.u64.wrap ((zt (IntKind.u64.wrap ((ze (zt (IntKind.u64.wrap ((ze (zt x (1:Int)) 6148914691236517205)+(ze x 6148914691236517205))) (2:Int)) 3689348814741910323)+(ze (IntKind.u64.wrap ((ze (zt x (1:Int)) 6148914691236517205)+(ze x 6148914691236517205))) 3689348814741910323))) (4:Int))+(IntKind.u64.wrap ((ze (zt (IntKind.u64.wrap ((ze (zt x (1:Int)) 6148914691236517205)+(ze x 6148914691236517205))) (2:Int)) 3689348814741910323)+(ze (IntKind.u64.wrap ((ze (zt x (1:Int)) 6148914691236517205)+(ze x 6148914691236517205))) 3689348814741910323))))) 1085102592571150095) (8:Int)))) (16:Int)))) (32:Int))))) ?_
 obtain⟨d,a⟩:=zb a;refine zy (z1b underlying98 underlying3 rfl d) ?_;obtain⟨e,a⟩:=zb a;refine zy (z4e rfl rfl e) ?_
 refine zi (vi (ze (IntKind.u64.wrap ((IntKind.u64.wrap ((IntKind.u64.wrap ((ze (IntKind.u64.wrap ((zt (IntKind.u64.wrap ((ze (zt (IntKind.u64.wrap ((ze (zt x (1:Int)) 6148914691236517205)+(ze x 6148914691236517205))) (2:Int)) 3689348814741910323)+(ze (IntKind.u64.wrap ((ze (zt x (1:Int)) 6148914691236517205)+(ze x 6148914691236517205))) 3689348814741910323))) (4:Int))+(IntKind.u64.wrap ((ze (zt (IntKind.u64.wrap ((ze (zt x (1:Int)) 6148914691236517205)+(ze x 6148914691236517205))) (2:Int)) 3689348814741910323)+(ze (IntKind.u64.wrap ((ze (zt x (1:Int)) 6148914691236517205)+(ze x 6148914691236517205))) 3689348814741910323))))) 1085102592571150095)+(zt (ze (IntKind.u64.wrap ((zt (IntKind.u64.wrap ((ze (zt (IntKind.u64.wrap ((ze (zt x (1:Int)) 6148914691236517205)+(ze x 6148914691236517205))) (2:Int)) 3689348814741910323)+(ze (IntKind.u64.wrap ((ze (zt x (1:Int)) 6148914691236517205)+(ze x 6148914691236517205))) 3689348814741910323))) (4:Int))+(IntKind.u64.wrap ((ze (zt (IntKind.u64.wrap ((ze (zt x (1:Int)) 6148914691236517205)+(ze x 6148914691236517205))) (2:Int)) 3689348814741910323)+(ze (IntKind.u64.wrap ((ze (zt x (1:Int)) 6148914691236517205)+(ze x 6148914691236517205))) 3689348814741910323))))) 1085102592571150095) (8:Int))))+(zt (IntKind.u64.wrap ((ze (IntKind.u64.wrap ((zt (IntKind.u64.wrap ((ze (zt (IntKind.u64.wrap ((ze (zt x (1:Int)) 6148914691236517205)+(ze x 6148914691236517205))) (2:Int)) 3689348814741910323)+(ze (IntKind.u64.wrap ((ze (zt x (1:Int)) 6148914691236517205)+(ze x 6148914691236517205))) 3689348814741910323))) (4:Int))+(IntKind.u64.wrap ((ze (zt (IntKind.u64.wrap ((ze (zt x (1:Int)) 6148914691236517205)+(ze x 6148914691236517205))) (2:Int)) 3689348814741910323)+(ze (IntKind.u64.wrap ((ze (zt x (1:Int)) 6148914691236517205)+(ze x 6148914691236517205))) 3689348814741910323))))) 1085102592571150095)+(zt (ze (IntKind.u64.wrap ((zt (IntKind.u64.wrap ((ze (zt (IntKind.u64.wrap ((ze (zt x (1:Int)) 6148914691236517205)+(ze x 6148914691236517205))) (2:Int)) 3689348814741910323)+(ze (IntKind.u64.wrap ((ze (zt x (1:Int)) 6148914691236517205)+(ze x 6148914691236517205))) 3689348814741910323))) (4:Int))+(IntKind.u64.wrap ((ze (zt (IntKind.u64.wrap ((ze (zt x (1:Int)) 6148914691236517205)+(ze x 6148914691236517205))) (2:Int)) 3689348814741910323)+(ze (IntKind.u64.wrap ((ze (zt x (1:Int)) 6148914691236517205)+(ze x 6148914691236517205))) 3689348814741910323))))) 1085102592571150095) (8:Int)))) (16:Int))))+(zt (IntKind.u64.wrap ((IntKind.u64.wrap ((ze (IntKind.u64.wrap ((zt (IntKind.u64.wrap ((ze (zt (IntKind.u64.wrap ((ze (zt x (1:Int)) 6148914691236517205)+(ze x 6148914691236517205))) (2:Int)) 3689348814741910323)+(ze (IntKind.u64.wrap ((ze (zt x (1:Int)) 6148914691236517205)+(ze x 6148914691236517205))) 3689348814741910323))) (4:Int))+(IntKind.u64.wrap ((ze (zt (IntKind.u64.wrap ((ze (zt x (1:Int)) 6148914691236517205)+(ze x 6148914691236517205))) (2:Int)) 3689348814741910323)+(ze (IntKind.u64.wrap ((ze (zt x (1:Int)) 6148914691236517205)+(ze x 6148914691236517205))) 3689348814741910323))))) 1085102592571150095)+(zt (ze (IntKind.u64.wrap ((zt (IntKind.u64.wrap ((ze (zt (IntKind.u64.wrap ((ze (zt x (1:Int)) 6148914691236517205)+(ze x 6148914691236517205))) (2:Int)) 3689348814741910323)+(ze (IntKind.u64.wrap ((ze (zt x (1:Int)) 6148914691236517205)+(ze x 6148914691236517205))) 3689348814741910323))) (4:Int))+(IntKind.u64.wrap ((ze (zt (IntKind.u64.wrap ((ze (zt x (1:Int)) 6148914691236517205)+(ze x 6148914691236517205))) (2:Int)) 3689348814741910323)+(ze (IntKind.u64.wrap ((ze (zt x (1:Int)) 6148914691236517205)+(ze x 6148914691236517205))) 3689348814741910323))))) 1085102592571150095) (8:Int))))+(zt (IntKind.u64.wrap ((ze (IntKind.u64.wrap ((zt (IntKind.u64.wrap ((ze (zt (IntKind.u64.wrap ((ze (zt x (1:Int)) 6148914691236517205)+(ze x 6148914691236517205))) (2:Int)) 3689348814741910323)+(ze (IntKind.u64.wrap ((ze (zt x (1:Int)) 6148914691236517205)+(ze x 6148914691236517205))) 3689348814741910323))) (4:Int))+(IntKind.u64.wrap ((ze (zt (IntKind.u64.wrap ((ze (zt x (1:Int)) 6148914691236517205)+(ze x 6148914691236517205))) (2:Int)) 3689348814741910323)+(ze (IntKind.u64.wrap ((ze (zt x (1:Int)) 6148914691236517205)+(ze x 6148914691236517205))) 3689348814741910323))))) 1085102592571150095)+(zt (ze (IntKind.u64.wrap ((zt (IntKind.u64.wrap ((ze (zt (IntKind.u64.wrap ((ze (zt x (1:Int)) 6148914691236517205)+(ze x 6148914691236517205))) (2:Int)) 3689348814741910323)+(ze (IntKind.u64.wrap ((ze (zt x (1:Int)) 6148914691236517205)+(ze x 6148914691236517205))) 3689348814741910323))) (4:Int))+(IntKind.u64.wrap ((ze (zt (IntKind.u64.wrap ((ze (zt x (1:Int)) 6148914691236517205)+(ze x 6148914691236517205))) (2:Int)) 3689348814741910323)+(ze (IntKind.u64.wrap ((ze (zt x (1:Int)) 6148914691236517205)+(ze x 6148914691236517205))) 3689348814741910323))))) 1085102592571150095) (8:Int)))) (16:Int)))) (32:Int)))) 127)) (za (qm ?_))
 obtain rfl:=Option.some.inj a
 refine qg (D:=[]) (J:=[]) (rs:=[.tmp 2]) (vs:=[(vi (ze (IntKind.u64.wrap ((IntKind.u64.wrap ((IntKind.u64.wrap ((ze (IntKind.u64.wrap ((zt (IntKind.u64.wrap ((ze (zt (IntKind.u64.wrap ((ze (zt x (1:Int)) 6148914691236517205)+(ze x 6148914691236517205))) (2:Int)) 3689348814741910323)+(ze (IntKind.u64.wrap ((ze (zt x (1:Int)) 6148914691236517205)+(ze x 6148914691236517205))) 3689348814741910323))) (4:Int))+(IntKind.u64.wrap ((ze (zt (IntKind.u64.wrap ((ze (zt x (1:Int)) 6148914691236517205)+(ze x 6148914691236517205))) (2:Int)) 3689348814741910323)+(ze (IntKind.u64.wrap ((ze (zt x (1:Int)) 6148914691236517205)+(ze x 6148914691236517205))) 3689348814741910323))))) 1085102592571150095)+(zt (ze (IntKind.u64.wrap ((zt (IntKind.u64.wrap ((ze (zt (IntKind.u64.wrap ((ze (zt x (1:Int)) 6148914691236517205)+(ze x 6148914691236517205))) (2:Int)) 3689348814741910323)+(ze (IntKind.u64.wrap ((ze (zt x (1:Int)) 6148914691236517205)+(ze x 6148914691236517205))) 3689348814741910323))) (4:Int))+(IntKind.u64.wrap ((ze (zt (IntKind.u64.wrap ((ze (zt x (1:Int)) 6148914691236517205)+(ze x 6148914691236517205))) (2:Int)) 3689348814741910323)+(ze (IntKind.u64.wrap ((ze (zt x (1:Int)) 6148914691236517205)+(ze x 6148914691236517205))) 3689348814741910323))))) 1085102592571150095) (8:Int))))+(zt (IntKind.u64.wrap ((ze (IntKind.u64.wrap ((zt (IntKind.u64.wrap ((ze (zt (IntKind.u64.wrap ((ze (zt x (1:Int)) 6148914691236517205)+(ze x 6148914691236517205))) (2:Int)) 3689348814741910323)+(ze (IntKind.u64.wrap ((ze (zt x (1:Int)) 6148914691236517205)+(ze x 6148914691236517205))) 3689348814741910323))) (4:Int))+(IntKind.u64.wrap ((ze (zt (IntKind.u64.wrap ((ze (zt x (1:Int)) 6148914691236517205)+(ze x 6148914691236517205))) (2:Int)) 3689348814741910323)+(ze (IntKind.u64.wrap ((ze (zt x (1:Int)) 6148914691236517205)+(ze x 6148914691236517205))) 3689348814741910323))))) 1085102592571150095)+(zt (ze (IntKind.u64.wrap ((zt (IntKind.u64.wrap ((ze (zt (IntKind.u64.wrap ((ze (zt x (1:Int)) 6148914691236517205)+(ze x 6148914691236517205))) (2:Int)) 3689348814741910323)+(ze (IntKind.u64.wrap ((ze (zt x (1:Int)) 6148914691236517205)+(ze x 6148914691236517205))) 3689348814741910323))) (4:Int))+(IntKind.u64.wrap ((ze (zt (IntKind.u64.wrap ((ze (zt x (1:Int)) 6148914691236517205)+(ze x 6148914691236517205))) (2:Int)) 3689348814741910323)+(ze (IntKind.u64.wrap ((ze (zt x (1:Int)) 6148914691236517205)+(ze x 6148914691236517205))) 3689348814741910323))))) 1085102592571150095) (8:Int)))) (16:Int))))+(zt (IntKind.u64.wrap ((IntKind.u64.wrap ((ze (IntKind.u64.wrap ((zt (IntKind.u64.wrap ((ze (zt (IntKind.u64.wrap ((ze (zt x (1:Int)) 6148914691236517205)+(ze x 6148914691236517205))) (2:Int)) 3689348814741910323)+(ze (IntKind.u64.wrap ((ze (zt x (1:Int)) 6148914691236517205)+(ze x 6148914691236517205))) 3689348814741910323))) (4:Int))+(IntKind.u64.wrap ((ze (zt (IntKind.u64.wrap ((ze (zt x (1:Int)) 6148914691236517205)+(ze x 6148914691236517205))) (2:Int)) 3689348814741910323)+(ze (IntKind.u64.wrap ((ze (zt x (1:Int)) 6148914691236517205)+(ze x 6148914691236517205))) 3689348814741910323))))) 1085102592571150095)+(zt (ze (IntKind.u64.wrap ((zt (IntKind.u64.wrap ((ze (zt (IntKind.u64.wrap ((ze (zt x (1:Int)) 6148914691236517205)+(ze x 6148914691236517205))) (2:Int)) 3689348814741910323)+(ze (IntKind.u64.wrap ((ze (zt x (1:Int)) 6148914691236517205)+(ze x 6148914691236517205))) 3689348814741910323))) (4:Int))+(IntKind.u64.wrap ((ze (zt (IntKind.u64.wrap ((ze (zt x (1:Int)) 6148914691236517205)+(ze x 6148914691236517205))) (2:Int)) 3689348814741910323)+(ze (IntKind.u64.wrap ((ze (zt x (1:Int)) 6148914691236517205)+(ze x 6148914691236517205))) 3689348814741910323))))) 1085102592571150095) (8:Int))))+(zt (IntKind.u64.wrap ((ze (IntKind.u64.wrap ((zt (IntKind.u64.wrap ((ze (zt (IntKind.u64.wrap ((ze (zt x (1:Int)) 6148914691236517205)+(ze x 6148914691236517205))) (2:Int)) 3689348814741910323)+(ze (IntKind.u64.wrap ((ze (zt x (1:Int)) 6148914691236517205)+(ze x 6148914691236517205))) 3689348814741910323))) (4:Int))+(IntKind.u64.wrap ((ze (zt (IntKind.u64.wrap ((ze (zt x (1:Int)) 6148914691236517205)+(ze x 6148914691236517205))) (2:Int)) 3689348814741910323)+(ze (IntKind.u64.wrap ((ze (zt x (1:Int)) 6148914691236517205)+(ze x 6148914691236517205))) 3689348814741910323))))) 1085102592571150095)+(zt (ze (IntKind.u64.wrap ((zt (IntKind.u64.wrap ((ze (zt (IntKind.u64.wrap ((ze (zt x (1:Int)) 6148914691236517205)+(ze x 6148914691236517205))) (2:Int)) 3689348814741910323)+(ze (IntKind.u64.wrap ((ze (zt x (1:Int)) 6148914691236517205)+(ze x 6148914691236517205))) 3689348814741910323))) (4:Int))+(IntKind.u64.wrap ((ze (zt (IntKind.u64.wrap ((ze (zt x (1:Int)) 6148914691236517205)+(ze x 6148914691236517205))) (2:Int)) 3689348814741910323)+(ze (IntKind.u64.wrap ((ze (zt x (1:Int)) 6148914691236517205)+(ze x 6148914691236517205))) 3689348814741910323))))) 1085102592571150095) (8:Int)))) (16:Int)))) (32:Int)))) 127))]) (RH.le.refl _) rfl rfl ⟨rfl,trivial⟩ ?_
 exact⟨rfl,rfl⟩
end GV
end Go.Proofs.Ytjmlpkkbmnjhcaa
