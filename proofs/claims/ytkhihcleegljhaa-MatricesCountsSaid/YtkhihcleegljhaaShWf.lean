import Derived.Test.YtkhihcleegljhaaShWe
import Derived.Test.YtkhihcleegljhaaRows
set_option linter.unusedVariables false
set_option linter.unusedSimpArgs false
namespace Go.Proofs.Ytkhihcleegljhaa
namespace GV
open _root_.Go.Proofs.Try
open Go.IntWalk
set_option maxRecDepth 100000
set_option maxHeartbeats 20000000
theorem znc:Enters prog 96:=enters_of func96 rfl (by kernel_rfl)
theorem zlq:Enters prog 75:=enters_of func75 rfl (by kernel_rfl)
theorem z3g{N:Nat}(F:Nat): ∀ {R:RH} {data:List Int} {c:Value} {fD:Frag} (G:ORep (zu .u64) R fD c data) {a:Int} {b:Int} {limit:Int} {r:List Int} (d:yx N F data a b limit=some r),CallG prog 75 #[c,(vi a),(vi b),(vi limit)] R [fD] (fun v R' O'=> ∃ H,v= .tuple #[]∧O'=[H]∧ORep (zu .u64) R' H c r):=by
  induction F with
  |zero=>intros;rename_i d;exact qo d
  |succ F ih=>
    intro R data c fD G a b limit r d
    refine yn (args:=[c,(vi a),(vi b),(vi limit)]) func75 rfl rfl fun A=>?_
    rw [yx] at d
    refine zz ?_
    refine zw ?_
    refine zh (.bool true) ?_
    refine z8 ?_
    refine zz ?_
    refine zw ?_
    refine zh (.bool true) ?_
    refine z8 ?_
    refine qb ?_
    refine qy (γ:=Nat×Int×Int×Int×Bool×Bool×(List Int)×Frag) (rs [1,4,8,134]) (fun g=>[(1,(vi g.2.1)),(2,(vi g.2.2.1)),(3,(vi g.2.2.2.1)),(8,(.bool g.2.2.2.2.1)),(9,(.bool g.2.2.2.2.2.1))]) (fun g=>[g.2.2.2.2.2.2.2]++A) (fun g R=>uy N (yx N F) g.1 g.2.1 g.2.2.1 g.2.2.2.1 g.2.2.2.2.1 g.2.2.2.2.2.1 g.2.2.2.2.2.2.1=some r∧ORep (zu .u64) R g.2.2.2.2.2.2.2 c g.2.2.2.2.2.2.1∧True) (fun g=>g.1) (N,a,b,limit,true,true,data,fD) prm ⟨d,G,trivial⟩ ?_
    clear d
    rintro⟨F1,f,m,x4,x5,x6,x7,U⟩ bY R8 aa ⟨d,V,_⟩
    rcases F1 with _|F1
    · exact qo d
    replace d:uy N (yx N F) (F1+1) f m x4 x5 x6 x7=some r:=d;rw [uy] at d
    refine qb ?_
    refine zz ?_
    refine zw ?_
    refine ze (vi m) ?_
    refine ze (vi f) ?_
    obtain⟨bi,d⟩:=zb d
    refine zy (ko rfl rfl bi) ?_
    refine zh (vi (m-f)) ?_
    refine z8 ?_
    refine zz ?_
    refine zz ?_
    refine zw ?_
    refine ze (vi (m-f)) ?_
    refine zy (z3u rfl rfl) ?_
    refine z8 ?_
    refine zx rfl d (fun d=>?_) (fun d=>?_)
    · refine zz ?_
      refine zw ?_
      refine ze c ?_
      refine ze (vi f) ?_
      refine ze (vi m) ?_
      obtain⟨cK,bj,d⟩:=zo d
      refine xq (Oc:=[U]) (Or:=[]++A) (cs:=[]) (vs:=[c,(vi f),(vi m)]) rfl zo5 rfl rfl ((pk 0 rfl (List.Perm.refl _))) (z2e V bj) fun cL cM bZ ai bk=>?_
      obtain⟨aj,rfl,rfl,bl⟩:=bk
      refine z8 ?_
      refine qd ?_
      obtain rfl:=Option.some.inj d
      refine ug (D:=[]) (J:=[]) (O':=[aj]) (rs:=[]) (vs:=[]) (aa.trans ai) ((pk 0 rfl (List.Perm.refl _))) rfl trivial ?_
      exact⟨aj,rfl,rfl,bl⟩
    · refine qa ?_
      refine zz ?_
      refine zz ?_
      refine zw ?_
      refine ze (vi x4) ?_
      refine zy (mo rfl rfl) ?_
      refine z8 ?_
      refine zx rfl d (fun d=>?_) (fun d=>?_)
      · refine zz ?_
        refine zw ?_
        refine ze c ?_
        refine ze (vi f) ?_
        refine ze (vi m) ?_
        obtain⟨cN,bm,d⟩:=zo d
        refine xq (Oc:=[U]) (Or:=[]++A) (cs:=[]) (vs:=[c,(vi f),(vi m)]) rfl znt rfl rfl ((pk 0 rfl (List.Perm.refl _))) (z4b V bm) fun cO cP b0 ak bn=>?_
        obtain⟨al,rfl,rfl,bo⟩:=bn
        refine z8 ?_
        refine qd ?_
        obtain rfl:=Option.some.inj d
        refine ug (D:=[]) (J:=[]) (O':=[al]) (rs:=[]) (vs:=[]) (aa.trans ak) ((pk 0 rfl (List.Perm.refl _))) rfl trivial ?_
        exact⟨al,rfl,rfl,bo⟩
      · refine qa ?_
        obtain⟨t,k,d⟩:=zo d
        refine qj (γ:=(Int×List Int)×Frag) (rs [3,4,34,42]) (fun g=>[(3,(vi g.1.1))]) (fun g=>[g.2]++A) (fun g R=>t=g.1∧ORep (zu .u64) R g.2 c g.1.2∧True) ?_ ?_
        · refine zz ?_
          refine zw ?_
          refine ze (.bool x5) ?_
          refine zy (dz rfl) ?_
          refine z8 ?_
          refine zx rfl k (fun k=>?_) (fun k=>?_)
          · refine zz ?_
            refine zw ?_
            refine ze c ?_
            refine ze (vi f) ?_
            refine ze (vi m) ?_
            obtain⟨bp,bq,k⟩:=zo k
            refine xq (Oc:=[U]) (Or:=[]++A) (cs:=[]) (vs:=[c,(vi f),(vi m)]) rfl zo7 rfl rfl ((pk 0 rfl (List.Perm.refl _))) (z2i V bq) fun cQ cR b1 am br=>?_
            obtain⟨bs,rfl,rfl,bt⟩:=br
            refine z8 ?_
            refine zw ?_
            refine ze (vi x4) ?_
            obtain⟨bu,k⟩:=zb k
            refine zy (ko rfl rfl bu) ?_
            refine zh (vi (x4-1)) ?_
            refine z8 ?_
            exact⟨dkt,am,jc,((x4-1,bp),bs),⟨rfl,trivial⟩,prm,(Option.some.inj k).symm,bt,trivial⟩
          · refine qa ?_
            exact⟨dkt,(RH.le.refl _),jc,((x4,x7),U),⟨rfl,trivial⟩,prm,(Option.some.inj k).symm,V,trivial⟩
        · rintro⟨t,an⟩ cS cT I ⟨rfl,ab,_⟩
          refine zz ?_
          refine zw ?_
          refine ze c ?_
          refine ze (vi f) ?_
          refine ze (vi m) ?_
          obtain⟨s,bv,d⟩:=zo d
          refine z3v (cs:=[]) (vs:=[c,(vi f),(vi m)]) (φ:=fun v=>v= .tuple #[(vi s.1),(vi s.2)]) rfl zoe rfl rfl (fun bw ao ap=>z3b (z6k ((z5z 0 rfl ab ao ap):VRep (yo (zu .u64)) bw c t.2)) bv) fun cU bx=>?_
          obtain rfl:=bx
          refine ze (.tuple #[(vi s.1),(vi s.2)]) ?_
          refine zy (qw rfl rfl) ?_
          refine zy (qw rfl rfl) ?_
          refine zh (vi s.1) ?_
          refine zh (vi s.2) ?_
          refine z8 ?_
          obtain⟨n,k,d⟩:=zo d
          refine qj (γ:=(Int×Int×List Int)×Frag) (rs [11,13,49,61]) (fun g=>[(11,(vi g.1.1)),(12,(vi g.1.2.1))]) (fun g=>[g.2]++A) (fun g R=>n=g.1∧ORep (zu .u64) R g.2 c g.1.2.2∧True) ?_ ?_
          · refine zz ?_
            refine zw ?_
            refine ze (vi s.2) ?_
            refine zy (mo rfl rfl) ?_
            refine z8 ?_
            refine zx rfl k (fun k=>?_) (fun k=>?_)
            · refine zz ?_
              refine zw ?_
              refine ze c ?_
              refine ze (vi f) ?_
              refine ze (vi m) ?_
              obtain⟨bz,bA,k⟩:=zo k
              refine xq (Oc:=[an]) (Or:=[]++A) (cs:=[]) (vs:=[c,(vi f),(vi m)]) rfl zov rfl rfl ((pk 0 rfl (List.Perm.refl _))) (z2s ab bA) fun cV cW b2 aq bB=>?_
              obtain⟨bC,rfl,rfl,bD⟩:=bB
              refine z8 ?_
              refine zz ?_
              refine zw ?_
              refine ze (vi m) ?_
              obtain⟨bE,k⟩:=zb k
              refine zy (ko rfl rfl bE) ?_
              refine ze (vi s.1) ?_
              refine ze (vi f) ?_
              obtain⟨bF,k⟩:=zb k
              refine zy (ko rfl rfl bF) ?_
              obtain⟨bG,k⟩:=zb k
              refine zy (ko rfl rfl bG) ?_
              refine zh (vi ((m-1)-(s.1-f))) ?_
              refine z8 ?_
              refine zw ?_
              refine zh (vi 1) ?_
              refine z8 ?_
              exact⟨dkt,aq,jc,(((m-1)-(s.1-f),1,bz),bC),⟨rfl,rfl,trivial⟩,prm,(Option.some.inj k).symm,bD,trivial⟩
            · refine qa ?_
              exact⟨dkt,(RH.le.refl _),jc,((s.1,s.2,t.2),an),⟨rfl,rfl,trivial⟩,prm,(Option.some.inj k).symm,ab,trivial⟩
          · rintro⟨n,ar⟩ cX cY K ⟨rfl,au,_⟩
            obtain⟨bH,k,d⟩:=zo d
            refine qj (γ:=(List Int)×Frag) (rs [61,73]) (fun g=>[]) (fun g=>[g.2]++A) (fun g R=>bH=Ex.go g.1∧ORep (zu .u64) R g.2 c g.1∧True) ?_ ?_
            · refine zz ?_
              refine zw ?_
              refine jl (v:=(.bool x5)) rfl (za rfl) ?_
              refine jl (v:=(.bool x5)) rfl (za rfl) ?_
              refine j4 rfl rfl rfl rfl (fun p=>ql (v:=(.bool x6)) (za rfl)) fun cZ bI=>?_
              refine jl rfl (pq rfl (fun hb=>(bI.1 (zq rfl hb))) rfl) ?_
              refine jl (v:=(.bool (x5&&x6))) rfl (za rfl) ?_
              refine j4 rfl rfl rfl rfl (fun p=>ql (v:=(vi n.2.1)) (za rfl)) fun c0 bJ=>?_
              refine j4 rfl rfl rfl rfl (fun p=>ql (mo (bJ.1 (zq rfl p)) rfl)) fun c1 bK=>?_
              refine jl rfl (pq rfl (fun hb=>(bK.1 (zq rfl hb))) rfl) ?_
              refine z8 ?_
              refine zx rfl k (fun k=>?_) (fun k=>?_)
              · refine zz ?_
                refine zw ?_
                refine ze c ?_
                refine ze (vi f) ?_
                refine ze (vi m) ?_
                obtain⟨aw,ax,k⟩:=zo k
                refine xq (Oc:=[ar]) (Or:=[]++A) (cs:=[]) (vs:=[c,(vi f),(vi m)]) rfl znu rfl rfl ((pk 0 rfl (List.Perm.refl _))) (z0v au ax) fun b3 b4 bL M ay=>?_
                obtain⟨O,rfl,rfl,W⟩:=ay
                refine z8 ?_
                refine zx rfl k (fun k=>?_) (fun k=>?_)
                · refine qd ?_
                  replace d:=ic k d
                  obtain rfl:=Option.some.inj d
                  refine ug (D:=[]) (J:=[]) (O':=[O]) (rs:=[]) (vs:=[]) (((aa.trans I).trans K).trans M) ((pk 0 rfl (List.Perm.refl _))) rfl trivial ?_
                  exact⟨O,rfl,rfl,W⟩
                · refine qa ?_
                  exact⟨dkt,M,jc,(aw.2,O),trivial,prm,(Option.some.inj k).symm,W,trivial⟩
              · refine qa ?_
                exact⟨dkt,(RH.le.refl _),jc,(n.2.2,ar),trivial,prm,(Option.some.inj k).symm,au,trivial⟩
            · rintro⟨x,az⟩ b5 c2 P ⟨rfl,L,_⟩
              replace d:=lv d
              refine zz ?_
              refine zz ?_
              obtain⟨aA,Q,S,d⟩:=zjy d
              obtain⟨B,aB,d⟩:=zo d
              refine bf 15 [] [phX (vi f),phX (.bool (decide (0<f))),phX (.bool (decide (0<f))),phG (true&&((decide (0<f))==true)) (phX c),phG (true&&((decide (0<f))==true)) (phX (vi f)),phG (true&&((decide (0<f))==true)) (phX (vi (f-1))),phG (true&&((decide (0<f))==true)) ((fun u _=>ut (zu .u64) c x u (f-1).toNat)),phG (true&&((decide (0<f))==true)) (phX (.int .u64 (ix x (f-1)))),phG (true&&((decide (0<f))==true)) (phX c),phG (true&&((decide (0<f))==true)) (phX (vi n.1)),phG (true&&((decide (0<f))==true)) ((fun u _=>ut (zu .u64) c x u n.1.toNat)),phG (true&&((decide (0<f))==true)) (phX (.int .u64 (ix x n.1))),phG (true&&((decide (0<f))==true)) (phX (.bool (B.getD default))),phG (true&&((decide (0<f))==true)) (phX (.bool (!(B.getD default)))),phX (.bool ((decide (0<f))&&(!(B.getD default))))] mixed (by kernel_rfl) (vz ⟨zf,zf,zf,(qh zf),(qh zf),(qh zf),(qh (fun _ _ _ _ h=>h)),(qh zf),(qh zf),(qh zf),(qh (fun _ _ _ _ h=>h)),(qh zf),(qh zf),(qh zf),zf,trivial⟩) ⟨?_,?_,?_,?_,?_,?_,?_,?_,?_,?_,?_,?_,?_,?_,?_,trivial⟩ fun b6 w=>?_
              · intro l c3 o y hd
                have a1:l 1=(vi f):=y 1 rfl
                exact zg rfl rfl rfl (zk (za a1))
              · rintro l c4 o y ⟨q,_⟩
                have bN:=q rfl
                exact zg rfl rfl rfl (zk (oq bN rfl))
              · rintro l c5 o y ⟨q,_⟩
                have bO:=q rfl
                exact zg rfl rfl rfl (zk (za bO))
              · rintro l c6 o y ⟨q,_⟩
                have a0:l 0=c:=y 0 rfl
                exact zt (Gj:=true) (Bj:=decide (0<f)) rfl rfl rfl (je (q rfl)) rfl (fun z p=>zk (za a0))
              · rintro l c7 o y ⟨q,_⟩
                have a1:l 1=(vi f):=y 1 rfl
                exact zt (Gj:=true) (Bj:=decide (0<f)) rfl rfl rfl (je (q rfl)) rfl (fun z p=>zk (za a1))
              · rintro l c8 o y ⟨q,E,_⟩
                have aC:=q rfl
                exact zt (Gj:=true) (Bj:=decide (0<f)) rfl rfl rfl (je (E rfl)) rfl (fun z p=>zk (ko (show l 77=(vi f) from aC.1 (zq rfl p)) rfl (aA (zq z p))))
              · rintro l c9 o y ⟨q,E,d2,_⟩
                have aE:=q rfl
                have aF:=E rfl
                exact zt (Gj:=true) (Bj:=decide (0<f)) rfl rfl rfl (je (d2 rfl)) rfl (fun z p=>qf (i:=(f-1).toNat) yl (show l 76=c from aE.1 (zq rfl p)) (L.mono o) (zi (show l 78=(vi (f-1)) from aF.1 (zq rfl p)) (Q (zq z p)).1) (q8 (Q (zq z p))))
              · rintro l da o y ⟨q,E,_⟩
                have aG:=q rfl
                exact zt (Gj:=true) (Bj:=decide (0<f)) rfl rfl rfl (je (E rfl)) rfl (fun z p=>qx (jd (i:=(f-1).toNat) (j:=0) yf (L.mono o) rfl rfl (aG.1 (zq rfl p)) (q8 (Q (zq z p)))) (fun _ _ h=>q9.1 h))
              · rintro l db o y ⟨q,_⟩
                have a0:l 0=c:=y 0 rfl
                exact zt (Gj:=true) (Bj:=decide (0<f)) rfl rfl rfl (je (q rfl)) rfl (fun z p=>zk (za a0))
              · rintro l dc o y ⟨q,_⟩
                have bQ:l 11=(vi n.1):=y 11 rfl
                exact zt (Gj:=true) (Bj:=decide (0<f)) rfl rfl rfl (je (q rfl)) rfl (fun z p=>zk (za bQ))
              · rintro l b7 o y ⟨q,E,d2,_⟩
                have aH:=q rfl
                have aI:=E rfl
                exact zt (Gj:=true) (Bj:=decide (0<f)) rfl rfl rfl (je (d2 rfl)) rfl (fun z p=>qf (i:=n.1.toNat) yl (show l 81=c from aH.1 (zq rfl p)) (L.mono o) (zi (show l 82=(vi n.1) from aI.1 (zq rfl p)) (S (zq z p)).1) (q8 (S (zq z p))))
              · rintro l b8 o y ⟨q,E,_⟩
                have aJ:=q rfl
                exact zt (Gj:=true) (Bj:=decide (0<f)) rfl rfl rfl (je (E rfl)) rfl (fun z p=>qx (jd (i:=n.1.toNat) (j:=0) yf (L.mono o) rfl rfl (aJ.1 (zq rfl p)) (q8 (S (zq z p)))) (fun _ _ h=>q9.1 h))
              · rintro l X o y ⟨q,E,d2,d3,_⟩
                have aK:phG (true&&((decide (0<f))==true)) (phX (.int .u64 (ix x (f-1)))) (l 80) X:=q rfl
                have aL:phG (true&&((decide (0<f))==true)) (phX (.int .u64 (ix x n.1))) (l 84) X:=E rfl
                exact zt (Gj:=true) (Bj:=decide (0<f)) rfl rfl rfl (je (d2 rfl)) rfl (fun z p=>kv (vs:=[(.int .u64 (ix x (f-1))),(.int .u64 (ix x n.1))]) z9v (by simp only [List.map,ev,(show l 80=(.int .u64 (ix x (f-1))) from aK.1 (zq rfl p)),(show l 84=(.int .u64 (ix x n.1)) from aL.1 (zq rfl p))]<;>rfl) ((by have bR:=(mi aB (zq z p));exact yu  bR)) (fun _ _ h=>h))
              · rintro l b9 o y ⟨q,E,_⟩
                have aM:=q rfl
                exact zt (Gj:=true) (Bj:=decide (0<f)) rfl rfl rfl (je (E rfl)) rfl (fun z p=>zk (dz (show l 85=(.bool (B.getD default)) from aM.1 (zq rfl p))))
              · rintro l ca o y ⟨q,E,_⟩
                have bS:=q rfl
                have aN:=E rfl
                exact zg rfl rfl rfl (zk (pq bS (fun hb=>(show l 86=(.bool (!(B.getD default))) from aN.1 (zq rfl hb))) rfl))
              intro cb aO
              intro cc aP
              intro cd aQ
              intro ce cf
              intro cg ch
              intro ci cj
              intro ck cl
              intro cm cn
              intro co cp
              intro cq cr
              intro ct cu
              intro cv cw
              intro cx cy
              intro cz cA
              intro cB aR
              obtain rfl:=Eq.symm aO
              obtain rfl:=Eq.symm aP
              obtain rfl:=Eq.symm aQ
              obtain rfl:=Eq.symm aR
              refine z8 ?_
              refine zx rfl d (fun d=>?_) (fun d=>?_)
              · refine zz ?_
                refine zw ?_
                refine ze c ?_
                refine ze (vi f) ?_
                refine ze (vi m) ?_
                refine ze (vi n.1) ?_
                obtain⟨C,aS,d⟩:=zo d
                refine xq (Oc:=[az]) (Or:=[]++A) (cs:=[]) (vs:=[c,(vi f),(vi m),(vi n.1)]) rfl zoy rfl rfl ((pk 0 rfl (List.Perm.refl _))) (z1y (L.mono w) aS) fun cC cD bT ac aT=>?_
                obtain⟨aU,rfl,rfl,aV⟩:=aT
                refine zh (vi C.1) ?_
                refine z8 ?_
                refine zz ?_
                refine zw ?_
                refine ze (vi C.1) ?_
                refine zh (vi C.1) ?_
                refine z8 ?_
                refine ja ?_
                exact⟨dkt,((((I.trans K).trans P).trans w).trans ac),jc,(F1,C.1,m,t.1,x5,x6,C.2,aU),Nat.lt_succ_self _,⟨rfl,rfl,rfl,rfl,rfl,trivial⟩,prm,d,aV,trivial⟩
              · refine qa ?_
                refine zz ?_
                refine zw ?_
                refine ze c ?_
                refine ze (vi f) ?_
                refine ze (vi m) ?_
                refine ze (vi n.1) ?_
                obtain⟨e,aW,d⟩:=zo d
                refine xq (Oc:=[az]) (Or:=[]++A) (cs:=[]) (vs:=[c,(vi f),(vi m),(vi n.1)]) rfl znc rfl rfl ((pk 0 rfl (List.Perm.refl _))) (z3s (L.mono w) aW) fun cE cF bU T aX=>?_
                obtain⟨Y,rfl,rfl,Z⟩:=aX
                refine ze (.tuple #[(vi e.1),(.bool e.2.1)]) ?_
                refine zy (qw rfl rfl) ?_
                refine zy (qw rfl rfl) ?_
                refine zh (vi e.1) ?_
                refine zh (.bool e.2.1) ?_
                refine z8 ?_
                refine zz ?_
                refine zw ?_
                refine ze (.bool e.2.1) ?_
                refine zh (.bool e.2.1) ?_
                refine z8 ?_
                refine zz ?_
                refine zw ?_
                refine ze (vi e.1) ?_
                refine ze (vi f) ?_
                obtain⟨aY,d⟩:=zb d
                refine zy (ko rfl rfl aY) ?_
                refine ze (vi m) ?_
                refine ze (vi e.1) ?_
                obtain⟨aZ,d⟩:=zb d
                refine zy (ko rfl rfl aZ) ?_
                refine zh (vi (e.1-f)) ?_
                refine zh (vi (m-e.1)) ?_
                refine z8 ?_
                refine zz ?_
                refine zw ?_
                refine ze (vi (m-f)) ?_
                obtain⟨a2,d⟩:=zb d
                refine zy (z4y rfl rfl a2) ?_
                refine zh (vi ((m-f)/8)) ?_
                refine z8 ?_
                refine zz ?_
                refine zw ?_
                refine ze (vi (e.1-f)) ?_
                refine ze (vi (m-e.1)) ?_
                refine zy (j5 rfl rfl) ?_
                refine z8 ?_
                refine zx rfl d (fun d=>?_) (fun d=>?_)
                · refine zz ?_
                  refine zw ?_
                  refine ze (vi (e.1-f)) ?_
                  refine ze (vi ((m-f)/8)) ?_
                  refine zy (nu rfl rfl) ?_
                  refine zh (.bool (decide (((m-f)/8)≤(e.1-f)))) ?_
                  refine z8 ?_
                  refine zz ?_
                  refine zw ?_
                  refine ze c ?_
                  refine ze (vi f) ?_
                  refine ze (vi e.1) ?_
                  refine ze (vi t.1) ?_
                  obtain⟨a3,a4,d⟩:=zo d
                  refine xq (Oc:=[Y]) (Or:=[]++A) (cs:=[]) (vs:=[c,(vi f),(vi e.1),(vi t.1)]) rfl zlq rfl rfl ((pk 0 rfl (List.Perm.refl _))) (ih Z a4) fun cG cH bV ad a5=>?_
                  obtain⟨a6,rfl,rfl,a7⟩:=a5
                  refine z8 ?_
                  refine zw ?_
                  refine ze (vi e.1) ?_
                  obtain⟨a8,d⟩:=zb d
                  refine zy (qi rfl rfl a8) ?_
                  refine zh (vi (e.1+1)) ?_
                  refine z8 ?_
                  exact⟨dkt,(((((I.trans K).trans P).trans w).trans T).trans ad),jc,(F1,e.1+1,m,t.1,decide (((m-f)/8)≤(e.1-f)),e.2.1,a3,a6),Nat.lt_succ_self _,⟨rfl,rfl,rfl,rfl,rfl,trivial⟩,prm,d,a7,trivial⟩
                · refine zz ?_
                  refine zw ?_
                  refine ze (vi (m-e.1)) ?_
                  refine ze (vi ((m-f)/8)) ?_
                  refine zy (nu rfl rfl) ?_
                  refine zh (.bool (decide (((m-f)/8)≤(m-e.1)))) ?_
                  refine z8 ?_
                  refine zz ?_
                  refine zw ?_
                  refine ze c ?_
                  refine ze (vi e.1) ?_
                  obtain⟨a9,d⟩:=zb d
                  refine zy (qi rfl rfl a9) ?_
                  refine ze (vi m) ?_
                  refine ze (vi t.1) ?_
                  obtain⟨ba,bb,d⟩:=zo d
                  refine xq (Oc:=[Y]) (Or:=[]++A) (cs:=[]) (vs:=[c,(vi (e.1+1)),(vi m),(vi t.1)]) rfl zlq rfl rfl ((pk 0 rfl (List.Perm.refl _))) (ih Z bb) fun cI cJ bW ae bc=>?_
                  obtain⟨be,rfl,rfl,bg⟩:=bc
                  refine z8 ?_
                  refine zw ?_
                  refine ze (vi e.1) ?_
                  refine zh (vi e.1) ?_
                  refine z8 ?_
                  exact⟨dkt,(((((I.trans K).trans P).trans w).trans T).trans ae),jc,(F1,f,e.1,t.1,decide (((m-f)/8)≤(m-e.1)),e.2.1,ba,be),Nat.lt_succ_self _,⟨rfl,rfl,rfl,rfl,rfl,trivial⟩,prm,d,bg,trivial⟩
theorem z4i{N:Nat}{R:RH}{data:List Int}{c:Value}{fD:Frag}(e:ORep (zu .u64) R fD c data){a:Int}{b:Int}{limit:Int}{r:List Int}(f:yx N N data a b limit=some r):CallG prog 75 #[c,(vi a),(vi b),(vi limit)] R [fD] (fun v R' O'=> ∃ d,v= .tuple #[]∧O'=[d]∧ORep (zu .u64) R' d c r):=z3g N e f
theorem z9p{N:Nat}{R:RH}{x:List Int}{a:Value}{fJ:Frag}(c:ORep (zu .u64) R fJ a x){r:List Int}(b:z3p N x=some r):CallG prog 53 #[a] R [fJ] (fun v R' O'=> ∃ d,v= .tuple #[]∧O'=[d]∧ORep (zu .u64) R' d a r):=by
 refine yn (args:=[a]) func53 rfl rfl fun A=>?_;rw [z3p] at b;refine zm (ze a (zy (z3c rfl underlying71 rfl c) (zh (vi (↑x.length:Int)) (z8 (zw (ze a (ze (vi (↑x.length:Int)) (ze (vi (↑x.length:Int)) (zy (z4t underlying3 underlying55 rfl) ?_)))))))))
 obtain⟨k,l,b⟩:=zo b;refine j3 rfl zmo rfl (z7k  l) fun p q e m=>?_;obtain rfl:=m;obtain⟨s,n,b⟩:=zo b
 refine xq (Oc:=[fJ]) (Or:=[]++A) (cs:=[]) (vs:=[a,(vi 0),(vi (↑x.length:Int)),(vi k)]) rfl zlq rfl rfl ((pk 0 rfl (List.Perm.refl _))) (z4i (c.mono e) n) fun t o j f h=>?_;obtain⟨g,rfl,rfl,i⟩:=h;refine z8 ?_;show z7i _ _ _ _ _ .ret _ [] _ _;obtain rfl:=Option.some.inj b
 refine ug (D:=[]) (J:=[]) (O':=[g]) (rs:=[]) (vs:=[]) (e.trans f) ((pk 0 rfl (List.Perm.refl _))) rfl trivial ?_;exact⟨g,rfl,rfl,i⟩
theorem znx:Enters prog 53:=enters_of func53 rfl (by kernel_rfl)
theorem z7p{N:Nat}{R:RH}{s:List Int}{b:Value}{fF:Frag}(y:ORep (zu .u64) R fF b s){r:(List Int)}(o:z1v N s=some r):CallG prog 54 #[b] R [fF] (fun v R' O'=> ∃ u0,v=u0∧O'=[]∧VRep (tSl false (zu .u64)) R' u0 r):=by
 refine yn (args:=[b]) func54 rfl rfl fun A=>?_;rw [z1v] at o;refine zm (zh vs0 (z8 (zz (zm (ze b (zy (z3c rfl underlying71 rfl y) (zy (j5 rfl rfl) (z8 (zx rfl o (fun o=>?_) (fun o=>?_))))))))));refine zm (ze b (zh b (z8 (lm (i:=0) rfl y fun R2 aD h4=>?_))))
 have h5:VRep (tSl false (zu .u64)) R2 b s:=(z6k h4);refine qd ?_;obtain rfl:=Option.some.inj o;refine ug (D:=[]) (J:=[]) (O':=[]) (rs:=[.tmp 2]) (vs:=[b]) aD ((List.Perm.refl _)) rfl ⟨rfl,trivial⟩ ?_;exact⟨b,rfl,rfl,h5⟩;refine qa ?_;obtain⟨q7,c,o⟩:=zo o
 refine qj (γ:=Unit) (rs [2,6,10,60]) (fun g=>[]) (fun g=>[fF]++A) (fun g R=>q7=Ex.go g∧True) ?_ ?_;refine zm (zh (vi 1) (z8 (qb (qy (γ:=Nat×Int) (rs [2,6,10,60]) (fun g=>[(3,(vi g.2))]) (fun g=>[fF]++A) (fun g R=>av N s g.1 g.2=some q7∧True) (fun g=>g.1) (N,1) prm ⟨c,trivial⟩ ?_))));clear c
 rintro⟨Q,a⟩ a1 bi m ⟨c,_⟩;rcases Q with _|Q;exact qo c;replace c:av N s (Q+1) a=some q7:=c;rw [av] at c;refine zz (zm (ze (vi a) (ze b (zy (z3c rfl underlying71 rfl (y.mono m)) (zy (j5 rfl rfl) (z8 (zx rfl c (fun c=>?_) (fun c=>?_))))))))
 refine qa (zz (qb (zz (z5d 10 mixed (by kernel_rfl) (by kernel_rfl) ?_))));refine oo (v:=b) (za rfl) ?_;refine oo (v:=(vi a)) (za rfl) ?_;obtain⟨X,c⟩:=zb c;refine zcv (z8w (i:=a.toNat) yl rfl (y.mono m) (zi rfl X.1) (q8 X)) fun bj aF=>?_
 refine oo (z0q (z9t (i:=a.toNat) (j:=0) yf (y.mono m) rfl rfl aF (q8 X))) ?_;refine oo (v:=b) (za rfl) ?_;refine oo (v:=(vi a)) (za rfl) ?_;obtain⟨aG,c⟩:=zb c;refine oo (ko rfl rfl aG) ?_;obtain⟨Y,c⟩:=zb c
 refine zcv (z8w (i:=(a-1).toNat) yl rfl (y.mono m) (zi rfl Y.1) (q8 Y)) fun bk aH=>?_;refine oo (z0q (z9t (i:=(a-1).toNat) (j:=0) yf (y.mono m) rfl rfl aH (q8 Y))) ?_;refine oo (mo rfl rfl) ?_;intro bl C;refine z8 (zx rfl c (fun c=>?_) (fun c=>?_))
 refine zm (ze b (ze (vi a) ?_));obtain⟨Z,c⟩:=zb c;refine z2h rfl (zk (z7v (lo:=a.toNat) (hi:=s.length) yl rfl (y.mono (m.trans C)) (.inr ⟨_,congrArg some (zi rfl Z.1)⟩) (.inl ⟨rfl,rfl,rfl⟩) (z5p Z) (z2q Z))) fun bm bn V aI=>?_;obtain rfl:=Eq.symm aI;refine zh (z6s 1 b a.toNat s.length) (z8 ?_)
 obtain⟨f,k,c⟩:=zo c;refine qj (γ:=(Int×List Int)×Frag) (rs [3,4,5,6,29,54]) (fun g=>[(3,(vi g.1.1))]) (fun g=>[g.2]++A) (fun g R=>f=g.1∧ORep (zu .u64) R g.2 b g.1.2∧True) ?_ ?_
 refine zm (zh (vi 1) (z8 (qb (qy (γ:=Nat×Int×Int×(List Int)×Frag) (rs [3,4,5,6,29,54]) (fun g=>[(3,(vi g.2.1)),(5,(vi g.2.2.1))]) (fun g=>[g.2.2.2.2]++A) (fun g R=>aj N s a g.1 g.2.1 g.2.2.1 g.2.2.2.1=some f∧ORep (zu .u64) R g.2.2.2.2 b g.2.2.2.1∧True) (fun g=>g.1) (N,a,1,s,fF) prm ⟨k,(y.mono ((m.trans C).trans V)),trivial⟩ ?_))))
 clear k;rintro⟨S,z,d,t,ac⟩ a2 bo ad ⟨k,w,_⟩;rcases S with _|S;exact qo k;replace k:aj N s a (S+1) z d t=some f:=k;rw [aj] at k
 refine zz (zm (ze (vi d) (ze (z6s 1 b a.toNat s.length) (z2h rfl (zk (zdl rfl underlying71 rfl w)) fun bp bq e aJ=>?_))));obtain rfl:=Eq.symm aJ;refine zy (j5 rfl rfl) (z8 (zx rfl k (fun k=>?_) (fun k=>?_)));refine qa ?_;obtain⟨U,p,k⟩:=zo k
 refine qj (γ:=(Int×List Int)×Frag) (rs [3,4,35,54]) (fun g=>[(3,(vi g.1.1))]) (fun g=>[g.2]++A) (fun g R=>U=g.1∧ORep (zu .u64) R g.2 b g.1.2∧True) ?_ ?_;refine qb (zz ?_);obtain⟨I,aK,K,p⟩:=zjy p
 refine bf 10 [] [phX (z6s 1 b a.toNat s.length),phX (vi d),(fun u _=>ut (zu .u64) b t u (a+d).toNat),phX (.int .u64 (ix t (a+d))),phX (z6s 1 b a.toNat s.length),phX (vi d),phX (vi (d-1)),(fun u _=>ut (zu .u64) b t u (a+(d-1)).toNat),phX (.int .u64 (ix t (a+(d-1)))),phX (.bool (decide ((ix t (a+d))≠(ix t (a+(d-1))))))] mixed (by kernel_rfl) (vz ⟨zf,zf,(fun _ _ _ _ h=>h),zf,zf,zf,zf,(fun _ _ _ _ h=>h),zf,zf,trivial⟩) ⟨?_,?_,?_,?_,?_,?_,?_,?_,?_,?_,trivial⟩ fun br x=>?_
 intro l bs q H hd;exact zg rfl rfl rfl (zk (za (H 4 rfl)));intro l bt q H hd;exact zg rfl rfl rfl (zk (za (H 5 rfl)));rintro l bu q H ⟨L,d1,_⟩
 exact zg rfl rfl rfl (z3t (T:=(zu .u64)) (lo:=a.toNat) (hi:=s.length) (n:=(a+d).toNat) yl (L rfl) ((w.mono e).mono q) (zi (d1 rfl) I.2.1) (zda I) (zd5 I) (zau I));rintro l bv q H ⟨L,_⟩
 exact zg rfl rfl rfl (qx (jd (i:=(a+d).toNat) (j:=0) yf ((w.mono e).mono q) rfl rfl (L rfl) (q8 (zcz I))) (fun _ _ h=>q9.1 h));intro l bw q H hd;exact zg rfl rfl rfl (zk (za (H 4 rfl)));intro l bx q H hd;exact zg rfl rfl rfl (zk (za (H 5 rfl)));rintro l bz q H ⟨L,_⟩
 exact zg rfl rfl rfl (zk (ko (L rfl) rfl aK));rintro l bA q H ⟨L,d1,_⟩;exact zg rfl rfl rfl (z3t (T:=(zu .u64)) (lo:=a.toNat) (hi:=s.length) (n:=(a+(d-1)).toNat) yl (L rfl) ((w.mono e).mono q) (zi (d1 rfl) K.2.1) (zda K) (zd5 K) (zau K));rintro l bB q H ⟨L,_⟩
 exact zg rfl rfl rfl (qx (jd (i:=(a+(d-1)).toNat) (j:=0) yf ((w.mono e).mono q) rfl rfl (L rfl) (q8 (zcz K))) (fun _ _ h=>q9.1 h));rintro l bC q H ⟨L,d1,_⟩;exact zg rfl rfl rfl (zk (uq (L rfl) (d1 rfl)));intro bD aM bE aN bF bG bH aO bI aP bJ aQ bK aR bL bM bN aS bO aT;obtain rfl:=Eq.symm aM
 obtain rfl:=Eq.symm aN;obtain rfl:=Eq.symm aO;obtain rfl:=Eq.symm aP;obtain rfl:=Eq.symm aQ;obtain rfl:=Eq.symm aR;obtain rfl:=Eq.symm aS;obtain rfl:=Eq.symm aT;refine z8 (zx rfl p (fun p=>?_) (fun p=>?_));refine zm (ze b (ze (vi z) (ze (z6s 1 b a.toNat s.length) (ze (vi d) ?_))));obtain⟨M,p⟩:=zb p
 refine z2h rfl (z3t (T:=(zu .u64)) (lo:=a.toNat) (hi:=s.length) (n:=(a+d).toNat) yl rfl (w.mono (e.trans x)) (zi rfl M.2.1) (zda M) (zd5 M) (zau M)) fun bP bQ E aU=>?_;refine z8j (i:=(a+d).toNat) (j:=0) rfl yf (w.mono ((e.trans x).trans E)) rfl rfl aU (q8 (zcz M)) fun a3 af=>?_
 obtain rfl:=q9.1 af;obtain⟨O,p⟩:=zb p;refine z1r (i:=z.toNat) rfl yl rfl (w.mono ((e.trans x).trans E)) (zi rfl O.1) (q8 O) fun a4 ag=>?_;refine z4p (i:=z.toNat) (j:=0) yf (w.mono ((e.trans x).trans E)) rfl rfl ag (q8 O) rfl (q9.2 rfl) fun ah ai=>?_
 refine z8 (zw (ze (vi z) ?_));obtain⟨ak,p⟩:=zb p;refine zy (qi rfl rfl ak) (zh (vi (z+1)) (z8 ?_));exact⟨dkt,(x.trans E),jc,((z+1,(up t z (ix t (a+d)))),ah),⟨rfl,trivial⟩,prm,(Option.some.inj p).symm,ai,trivial⟩;refine qa ?_
 exact⟨dkt,x,jc,((z,t),ac),⟨rfl,trivial⟩,prm,(Option.some.inj p).symm,(w.mono (e.trans x)),trivial⟩;rintro⟨U,aV⟩ a5 bR al ⟨rfl,aW,_⟩;refine zw (ze (vi d) ?_);obtain⟨am,k⟩:=zb k;refine zy (qi rfl rfl am) (zh (vi (d+1)) (z8 ?_))
 exact⟨dkt,(e.trans al),jc,(S,U.1,d+1,U.2,aV),Nat.lt_succ_self _,⟨rfl,rfl,trivial⟩,prm,k,aW,trivial⟩;refine ja ?_;exact⟨dkt,(ad.trans e),jc,((z,t),ac),⟨rfl,trivial⟩,prm,(Option.some.inj k).symm,(w.mono e),trivial⟩;rintro⟨f,aX⟩ a6 bS an ⟨rfl,ao,_⟩;refine zm (ze b (ze (vi f.1) ?_))
 obtain⟨B,c⟩:=zb c;refine z2h rfl (zk (z7v (lo:=f.1.toNat) (hi:=f.2.length) yl rfl ao (.inr ⟨_,congrArg some (zi rfl B.1)⟩) (.inl ⟨rfl,rfl,rfl⟩) (z5p B) (z2q B))) fun a7 a8 P ap=>?_;obtain rfl:=Eq.symm ap
 refine za6 (Oc:=[aX]) (Or:=[]++A) (List.Perm.refl _) (z9n (lo:=f.1.toNat) (hi:=f.2.length) rfl underlying71 zli (ao.mono P) (z5p B) (z2q B) rfl) ?_;rintro a9 ba aY aZ ⟨rfl,bb,rfl,rfl,W⟩;refine qp (ze b (ze (vi f.1) ?_));obtain⟨F,c⟩:=zb c
 refine z8v (v:=b) (lo:=(0:Int).toNat) (hi:=f.1.toNat) (mx:=(capOf b)) rfl yl rfl W (.inl ⟨rfl,rfl⟩) (.inr ⟨_,congrArg some (zi rfl (zb7 F))⟩) (.inl ⟨rfl,rfl⟩) (z5p F) (z2q F) (Nat.le_trans (z2q F) (z9x W)) (Nat.le_refl _) fun G aq aC=>?_;refine zh G (z8 (lm (i:=0) rfl aq fun ar aa au=>?_))
 have aw:VRep (tSl false (zu .u64)) ar G (cut (z5h f.2 f.1.toNat (List.replicate (f.2.length-f.1.toNat) (0:Int))) 0 f.1):=(z6k au);refine qd ?_;replace o:=ic c o;obtain rfl:=Option.some.inj o
 refine ug (D:=[]) (J:=[]) (O':=[]) (rs:=[.tmp 2]) (vs:=[G]) (((((m.trans C).trans V).trans an).trans P).trans aa) ((List.Perm.refl _)) rfl ⟨rfl,trivial⟩ ?_;exact⟨G,rfl,rfl,aw⟩;refine qa (zw (ze (vi a) ?_));obtain⟨ax,c⟩:=zb c;refine zy (qi rfl rfl ax) (zh (vi (a+1)) (z8 ?_))
 exact⟨dkt,C,jc,(Q,a+1),Nat.lt_succ_self _,⟨rfl,trivial⟩,prm,c,trivial⟩;refine ja ?_;exact⟨dkt,m,jc,(),trivial,prm,(Option.some.inj c).symm,trivial⟩;rintro o6 bc R8 ay ⟨rfl,_⟩;replace o:=lv o;refine zm (ze b (zh b (z8 (lm (i:=0) rfl (y.mono ay) fun az ab aA=>?_))))
 have aB:VRep (tSl false (zu .u64)) az b s:=(z6k aA);refine qd ?_;obtain rfl:=Option.some.inj o;refine ug (D:=[]) (J:=[]) (O':=[]) (rs:=[.tmp 2]) (vs:=[b]) (ay.trans ab) ((List.Perm.refl _)) rfl ⟨rfl,trivial⟩ ?_;exact⟨b,rfl,rfl,aB⟩
theorem zoo:Enters prog 54:=enters_of func54 rfl (by kernel_rfl)
theorem z6p{N:Nat}{R:RH}{x:Sa}{n:Value}(h:VRep (zn false false) R n x){r:(List Int)}(d:z15 N x=some r):CallP prog 40 #[n] R (fun v R'=>VRep (tSl false (zu .u64)) R' v r):=by
 refine qg (args:=[n]) func40 rfl rfl fun A=>?_;rw [z15] at d;refine zm (vv (T:=(zn false false)) rfl rfl rfl h fun v1 R3 j h5 h2=>?_);refine zh vs0 (qp (zh vs0 (z8 ?_)));obtain⟨W,a,d⟩:=zo d
 refine qj (γ:=(List Int)×Value×Frag) (rs [3,4,5,7,8,36]) (fun g=>[(3,g.2.1)]) (fun g=>[g.2.2]++A) (fun g R=>W=g.1∧ORep (zu .u64) R g.2.2 g.2.1 g.1∧True) ?_ ?_;refine zm (zy (jq z1o rfl rfl h5 (h.mono j)) (zy (jq z1o rfl rfl h5 (h.mono j)) (zy (ah (fs:=[n]) (cs:=[]) rfl rfl) ?_)))
 obtain⟨p,ab,a⟩:=zo a;refine j3 rfl zkl rfl (z0m (h.mono j) (za2 (fs:=[n]) zl3 fun R1 hq z0 u0 y k0 hy=>by obtain rfl:=q9.1 k0;exact CallP.mono (ru ((h.mono j).mono hq) hy) fun v R2 _ hv=>mq.2 hv) ab) fun aL aM k F=>?_
 refine zy (qm rfl underlying33 rfl (jk F)) (ze (vi 0) (z8 (qb (z7d ?_))))
 refine qy (γ:=Nat×(List Int)×Int×Value×Frag) (rs [3,4,5,7,8,9,14,36]) (fun g=>[(3,g.2.2.2.1),(14,(vi g.2.2.1))]) (fun g=>[g.2.2.2.2]++A) (fun g R=>oh N x p g.1 g.2.1 g.2.2.1=some W∧ORep (zu .u64) R g.2.2.2.2 g.2.2.2.1 g.2.1∧True) (fun g=>g.1) (N,[],0,vs0,emp) prm ⟨a,(z2v (T:=(zu .u64))),trivial⟩ ?_
 clear a;rintro⟨q,s,l,G,C⟩ aN aO e ⟨a,H,_⟩;rcases q with _|q;exact qo a;replace a:oh N x p (q+1) s l=some W:=a;rw [oh] at a;refine zm (zy (j5 rfl rfl) (z8 (zz (zx rfl a (fun a=>?_) (fun a=>?_)))));refine qa (zz (qb (zm ?_)))
 obtain⟨I,a⟩:=zb a;refine jy (i:=l.toNat) rfl l5 rfl (jk (F.mono e)) (zi rfl I.1) (q8 I) fun aP ac=>?_;refine qz rfl ty3 rfl ac fun aQ ad=>?_;obtain rfl:=q9.1 ad;refine zh (vi (ix p l)) (qp (zh (.int .u64 0) (z8 ?_)));obtain⟨c,b,a⟩:=zo a
 refine qj (γ:=Int) (rs [6,7,8,9,18,31]) (fun g=>[(6,(.int .u64 g))]) (fun g=>[C]++A) (fun g R=>c=g∧True) ?_ ?_;refine zm (zy (jq z1o rfl rfl (h5.mono (k.trans e)) (h.mono ((j.trans k).trans e))) (ze (vi (ix p l)) ?_));obtain⟨m,af,b⟩:=zo b
 refine j3 rfl zi4 rfl (p9 (h.mono ((j.trans k).trans e)) af) fun aR aS K L=>?_
 refine zy (qm rfl underlying33 rfl (jk L)) (ze (vi 0) (z8 (qb (qy (γ:=Nat×Int×Int) (rs [6,7,8,9,22,31]) (fun g=>[(6,(.int .u64 g.2.1)),(22,(vi g.2.2))]) (fun g=>[C]++A) (fun g R=>tq N m g.1 g.2.1 g.2.2=some c∧True) (fun g=>g.1) (N,0,0) prm ⟨b,trivial⟩ ?_))));clear b
 rintro⟨t,o,f⟩ aT aU u ⟨b,_⟩;rcases t with _|t;exact qo b;replace b:tq N m (t+1) o f=some c:=b;rw [tq] at b;refine zm (zy (j5 rfl rfl) (z8 (zz (zx rfl b (fun b=>?_) (fun b=>?_)))));refine qa (zz (qb (zm ?_)));obtain⟨M,b⟩:=zb b
 refine jy (i:=f.toNat) rfl l5 rfl (jk (L.mono u)) (zi rfl M.1) (q8 M) fun aV ag=>?_;refine qz rfl ty3 rfl ag fun aW ai=>?_;obtain rfl:=q9.1 ai;refine zh (vi (ix m f)) (z8 (zw (ze (.int .u64 o) (ze (vi (ix m f)) ?_))));obtain⟨aj,b⟩:=zb b;refine zy (z9s rfl rfl aj) ?_
 obtain⟨ak,b⟩:=zb b;refine zy (zh3 rfl rfl ak) (zh (.int .u64 (ior o (ae .u64 (1:Int) (ix m f)))) (z8 (zw ?_)));obtain⟨al,b⟩:=zb b;refine zy (qi rfl rfl al) (ze (vi (f+1)) (z8 ?_))
 exact⟨dkt,(RH.le.refl _),jc,(t,ior o (ae .u64 (1:Int) (ix m f)),f+1),Nat.lt_succ_self _,⟨rfl,rfl,trivial⟩,prm,b,trivial⟩;refine ja ?_;exact⟨dkt,(K.trans u),jc,o,⟨rfl,trivial⟩,prm,(Option.some.inj b).symm,trivial⟩;rintro c aX aY w ⟨rfl,_⟩
 refine zw (ze G (ze (.int .u64 c) (bg (T:=(zu .u64)) (X:=([c]:List Int)) (ps:=[(0,(.int .u64 c))]) (css:=[[(.int .u64 c)]]) rfl underlying71 zli rfl rfl (jh ⟨rfl,trivial⟩) rfl rfl (by decide) fun am aZ E an=>?_)));refine kg (i:=0) rfl an fun ao z ap=>?_
 have aq:VRep (tSl true (zu .u64)) ao am ([c]:List Int):=(fo ap E);obtain⟨O,a⟩:=zb a;refine z10 (i:=0) (X:=s) (Y:=([c]:List Int)) rfl underlying71 zli rfl rfl rfl (H.mono (w.trans z)) (jk (Sub.v (B:=(tSl false (zu .u64))) (ui Sub.refl (fun _=>rfl)) aq)) O.1 O.2 fun P ar au=>?_
 refine zh P (z8 (zw ?_));obtain⟨av,a⟩:=zb a;refine zy (qi rfl rfl av) (ze (vi (l+1)) (z8 ?_));exact⟨dkt,(w.trans z),jc,(q,(s++([c]:List Int)),l+1,P,ar),Nat.lt_succ_self _,⟨rfl,rfl,trivial⟩,prm,a,au,trivial⟩;refine ja ?_
 exact⟨dkt,(k.trans e),jc,(s,G,C),⟨rfl,trivial⟩,prm,(Option.some.inj a).symm,H,trivial⟩;rintro⟨W,Z,aw⟩ a0 R7 ax ⟨rfl,ay,_⟩;refine zm (ze Z ?_);obtain⟨a1,az,d⟩:=zo d
 refine xq (Oc:=[aw]) (Or:=[]++A) (cs:=[]) (vs:=[Z]) rfl znx rfl rfl ((pk 0 rfl (List.Perm.refl _))) (z9p ay az) fun a2 a3 aF Q aA=>?_;obtain⟨aB,rfl,rfl,aC⟩:=aA;refine qp (ze Z ?_);obtain⟨a4,aD,d⟩:=zo d
 refine xq (Oc:=[aB]) (Or:=[]++A) (cs:=[]) (vs:=[Z]) rfl zoo rfl rfl ((pk 0 rfl (List.Perm.refl _))) (z7p aC aD) fun S a5 aG U aE=>?_;obtain⟨_,rfl,rfl,V⟩:=aE;refine zh S (z8 (qd ?_));obtain rfl:=Option.some.inj d
 refine qc (D:=[]) (J:=[]) (rs:=[.tmp 2]) (vs:=[S]) (((j.trans ax).trans Q).trans U) rfl rfl ⟨rfl,trivial⟩ ?_;exact⟨rfl,V⟩
theorem zoq:Enters prog 40:=enters_of func40 rfl (by kernel_rfl)
theorem znd: ∀ w,∃ z,(zeroValue 71).run prog w= .ok z w∧z.cells=([.slice none 0 0]:List Value).toArray:=fun w=>⟨vs0,by kernel_rfl,rfl⟩
theorem zoc: ∀ w,(sizeOf 71).run prog w= .ok 1 w:=fun w=>by kernel_rfl
theorem zoh: ∀ w,∃ z,(zeroValue 73).run prog w= .ok z w∧z.cells=([.nilFunc]:List Value).toArray:=fun w=>⟨.nilFunc,by kernel_rfl,rfl⟩
theorem zou: ∀ w,(sizeOf 73).run prog w= .ok 1 w:=fun w=>by kernel_rfl
theorem znw: ∀ w,(isAgg 73).run prog w= .ok false w:=fun w=>by kernel_rfl
theorem z6u{N:Nat}{R:RH}{s:(List Int)}{c:Value}(k:VRep (tSl false (zu .u64)) R c s){f:Int→Option Bool}{e:Value}(n:FOk1 prog R e (zu .u64) z2n f){r:Int}(b:z11 N s f=some r):CallP prog 55 #[c,e] R (fun v R'=>v=(vi r)):=by
 refine qg (args:=[c,e]) func55 rfl rfl fun A=>?_;rw [z11] at b;refine zm (zh (vi 0) (z8 ?_));obtain⟨o,a,b⟩:=zo b;refine qj (γ:=Unit) (rs [4,19]) (fun g=>[]) (fun g=>[]++A) (fun g R=>o=Ex.go g∧True) ?_ ?_
 refine zm (ze c (zy (qm rfl underlying71 rfl (jk k)) (ze (vi 0) (z8 (qb (qy (γ:=Nat×Int) (rs [4,6,8,19]) (fun g=>[(8,(vi g.2))]) (fun g=>[]++A) (fun g R=>tu N s f g.1 g.2=some o∧True) (fun g=>g.1) (N,0) prm ⟨a,trivial⟩ ?_))))));clear a;rintro⟨m,d⟩ y H h ⟨a,_⟩;rcases m with _|m
 exact qo a;replace a:tu N s f (m+1) d=some o:=a;rw [tu] at a;refine zm (zy (j5 rfl rfl) (z8 (zz (zx rfl a (fun a=>?_) (fun a=>?_)))));refine qa (zz (qb (zm (ze (vi d) (zh (vi d) (qp (ze e (ze c (ze (vi d) ?_)))))))))
 obtain⟨l,a⟩:=zb a;refine jy (i:=d.toNat) rfl yl rfl (jk (k.mono h)) (zi rfl l.1) (q8 l) fun z p=>?_;refine qz rfl yf rfl p fun B q=>?_;obtain rfl:=q9.1 q;obtain⟨C,t,a⟩:=zo a;refine z6f rfl rfl rfl ((n.mono h) _ (RH.le.refl _) (ix s d) _ _ (q9.2 rfl) t) fun E F j u=>?_
 obtain rfl:=mq.1 u;refine z8 (zx rfl a (fun a=>?_) (fun a=>?_));refine zm (ze (vi d) (zh (vi d) (z8 (qd ?_))));replace b:=ic a b;obtain rfl:=Option.some.inj b;refine qc (D:=[]) (J:=[]) (rs:=[.tmp 4]) (vs:=[(vi d)]) (h.trans j) rfl rfl ⟨rfl,trivial⟩ ?_;exact⟨rfl,rfl⟩
 refine qa (zw ?_);obtain⟨w,a⟩:=zb a;refine zy (qi rfl rfl w) (ze (vi (d+1)) (z8 ?_));exact⟨dkt,j,jc,(m,d+1),Nat.lt_succ_self _,⟨rfl,trivial⟩,prm,a,trivial⟩;refine ja ?_;exact⟨dkt,h,jc,(),trivial,prm,(Option.some.inj a).symm,trivial⟩;rintro I G K x ⟨rfl,_⟩;replace b:=lv b
 refine zm (zh (vi (-1)) (z8 (qd ?_)));obtain rfl:=Option.some.inj b;refine qc (D:=[]) (J:=[]) (rs:=[.tmp 4]) (vs:=[(vi (-1))]) x rfl rfl ⟨rfl,trivial⟩ ?_;exact⟨rfl,rfl⟩
theorem znk:Enters prog 55:=enters_of func55 rfl (by kernel_rfl)
theorem z4w{N:Nat}{R:RH}{s:(List Int)}{a:Value}(d:VRep (tSl false (zu .u64)) R a s){f:Int→Option Bool}{b:Value}(e:FOk1 prog R b (zu .u64) z2n f){r:Bool}(c:z0c N s f=some r):CallP prog 42 #[a,b] R (fun v R'=>v=(.bool r)):=by
 refine qg (args:=[a,b]) func42 rfl rfl fun A=>?_;rw [z0c] at c;refine zm (zh (.bool false) (qp (ze a (ze b ?_))));obtain⟨h,i,c⟩:=zo c;refine j3 rfl znk rfl (z6u d e i) fun k l g j=>?_;obtain rfl:=j
 refine zy (nu rfl rfl) (zh (.bool (decide (0≤h))) (z8 (qd ?_)));obtain rfl:=Option.some.inj c;refine qc (D:=[]) (J:=[]) (rs:=[.tmp 4]) (vs:=[(.bool (decide (0≤h)))]) g rfl rfl ⟨rfl,trivial⟩ ?_;exact⟨rfl,rfl⟩
theorem zo1{a:Bool}:TyOk prog 71 (tSl a (zu .u64)):=by
 obtain⟨i,hi,b⟩: ∃ i,prog.info? 71=some i∧i.size=1:=gm (by kernel_rfl);exact z0d underlying71 hi rfl b
theorem zop:Enters prog 42:=enters_of func42 rfl (by kernel_rfl)
theorem z7y{N:Nat}{R:RH}{set:Int}{p0_:Int}{a:Value}(c:PRep (zu .u64) R a p0_){r:Bool}(b:z2j N set p0_=some r):CallP prog 43 #[(.int .u64 set),a] R (fun v R'=>v=(.bool r)):=by
 refine qg (args:=[(.int .u64 set),a]) func43 rfl rfl fun A=>?_;rw [z2j] at b;refine zm (zh (.bool false) (qp (ze (.int .u64 set) (qz rfl yf rfl c fun f d=>?_))));obtain rfl:=q9.1 d;obtain⟨e,b⟩:=zb b
 refine zy (zcf rfl rfl e) (zy (mo rfl rfl) (zh (.bool (decide ((z90 set p0_)=0))) (z8 (qd ?_))));obtain rfl:=Option.some.inj b;refine qc (D:=[]) (J:=[]) (rs:=[.tmp 3]) (vs:=[(.bool (decide ((z90 set p0_)=0)))]) (RH.le.refl _) rfl rfl ⟨rfl,trivial⟩ ?_;exact⟨rfl,rfl⟩
theorem znm:Enters prog 43:=enters_of func43 rfl (by kernel_rfl)
theorem zmx{u:Value}:TyOk prog 73 (zl2 u):=by
 obtain⟨i,hi,a⟩: ∃ i,prog.info? 73=some i∧i.size=1:=gm (by kernel_rfl);exact z0d underlying73 hi rfl a
theorem zm8:Enters prog 41:=enters_of func41 rfl (by kernel_rfl)
theorem z7g{N:Nat}(F:Nat): ∀ {R:RH} {b:Int} {j:Int} {left:Int} {p0_:(List Int)} {e:Value} (s:PRep (tSl false (zu .u64)) R e p0_) {p1_:Int} {k:Value} (t:PRep (zu .i64) R k p1_) {f:Nat} (u:PRep (zl2 (.func (.func 41) #[] #[e,k,(.pointer (some ⟨f,0,none⟩))])) R (.pointer (some ⟨f,0,none⟩)) ()) {r:Int×Bool} (d:rf N F b j left p0_ p1_=some r),CallP prog 41 #[(.int .u64 b),(vi j),(vi left),e,k,(.pointer (some ⟨f,0,none⟩))] R (fun v R'=>v= .tuple #[(.int .u64 r.1),(.bool r.2)]):=by
  induction F with
  |zero=>intros;rename_i d;exact qo d
  |succ F ih=>
    intro R b j left p0_ e s p1_ k t f u r d
    refine qg (args:=[(.int .u64 b),(vi j),(vi left),e,k,(.pointer (some ⟨f,0,none⟩))]) func41 rfl rfl fun A=>?_
    rw [rf] at d
    refine zz ?_
    refine zw ?_
    refine za9 (T:=(zu .u64)) rfl rfl (q9.2 rfl) fun z R3 q P=>?_
    refine zh (.int .u64 0) ?_
    refine zh (.bool false) ?_
    refine z8 ?_
    refine zz ?_
    refine zz ?_
    refine zw ?_
    refine ze (vi left) ?_
    refine zy (mo rfl rfl) ?_
    refine z8 ?_
    refine zx rfl d (fun d=>?_) (fun d=>?_)
    · refine zz ?_
      obtain⟨O,c7,d⟩:=zo d
      refine bf 7 [] [phX (.int .u64 b),phR (tSl false (zu .u64)) p0_,phX (.func (.func 43) #[] #[z]),phX (.bool O),phX (.bool (!O)),phX (.int .u64 b),phX (.bool (!O))] mixed (by kernel_rfl) (vz ⟨zf,z2d,zf,zf,zf,zf,zf,trivial⟩) ⟨?_,?_,?_,?_,?_,?_,?_,trivial⟩ fun R8 Q=>?_
      · intro l S a m C
        have I:l 6=z:=m 6 rfl
        exact zg rfl rfl rfl (qx (oz yf I (P.mono a)) (fun _ _ h=>q9.1 h))
      · intro l U a m C
        have a3:l 3=e:=m 3 rfl
        exact zg rfl rfl rfl (oz zo1 a3 ((s.mono q).mono a))
      · intro l V a m C
        have I:l 6=z:=m 6 rfl
        exact zg rfl rfl rfl (zk (ah (fs:=[]) (cs:=[z]) rfl (by simp only [List.map,ev,I]<;>rfl)))
      · rintro l W a m ⟨n,w,_⟩
        have X:=n rfl
        have Y:l 18=(.func (.func 43) #[] #[z]):=w rfl
        exact zg rfl rfl rfl (kv (vs:=[(l 17),(.func (.func 43) #[] #[z])]) zop (by simp only [List.map,ev,Y]<;>rfl) (z4w X ((z9w (cs:=[z]) znm fun R1 hq z0 u0 y k0 hy=>by obtain rfl:=q9.1 k0;exact CallP.mono (z7y (P.mono hq) hy) fun v R2 _ hv=>mq.2 hv).mono a) c7) (fun _ _ h=>h))
      · rintro l Z a m ⟨n,w,_⟩
        have aa:=n rfl
        exact zg rfl rfl rfl (zk (dz aa))
      · rintro l ab a m ⟨n,w,K,L,d4,d5,d6,_⟩
        have ag:=n rfl
        exact zg rfl rfl rfl (zk (ai ag))
      · rintro l aj a m ⟨n,w,K,L,d4,d5,d6,d7,_⟩
        have ak:=n rfl
        exact zg rfl rfl rfl (zk (ai ak))
      intro bq al
      intro br bs
      intro bt am
      intro bu an
      intro bv ao
      intro bw ap
      intro bx aq
      obtain rfl:=Eq.symm al
      obtain rfl:=Eq.symm am
      obtain rfl:=Eq.symm an
      obtain rfl:=Eq.symm ao
      obtain rfl:=Eq.symm ap
      obtain rfl:=Eq.symm aq
      refine z8 ?_
      refine qd ?_
      obtain rfl:=Option.some.inj d
      refine qc (D:=[]) (J:=[]) (rs:=[.tmp 9,.tmp 10]) (vs:=[(.int .u64 b),(.bool (!O))]) (q.trans Q) rfl rfl ⟨rfl,rfl,trivial⟩ ?_
      exact⟨rfl,rfl⟩
    · refine qa ?_
      obtain⟨E,c,d⟩:=zo d
      refine qj (γ:=Unit) (rs [9,14,21,44]) (fun g=>[]) (fun g=>[]++A) (fun g R=>E=Ex.go g∧True) ?_ ?_
      · refine zz ?_
        refine zw ?_
        refine ze (vi j) ?_
        refine zh (vi j) ?_
        refine z8 ?_
        refine qb ?_
        refine qy (γ:=Nat×Int) (rs [9,14,22,44]) (fun g=>[(11,(vi g.2))]) (fun g=>[]++A) (fun g R=>l9 N (rf N F) b left p0_ p1_ g.1 g.2=some E∧True) (fun g=>g.1) (N,j) prm ⟨c,trivial⟩ ?_
        clear c
        rintro⟨x,i⟩ bz bA o ⟨c,_⟩
        rcases x with _|x
        · exact qo c
        replace c:l9 N (rf N F) b left p0_ p1_ (x+1) i=some E:=c;rw [l9] at c
        refine zz ?_
        refine zz ?_
        refine zw ?_
        refine ze (vi i) ?_
        refine qz rfl ty3 rfl (t.mono (q.trans o)) fun bB ar=>?_
        obtain rfl:=q9.1 ar
        refine ze (vi left) ?_
        obtain⟨au,c⟩:=zb c
        refine zy (ko rfl rfl au) ?_
        refine zy (z3u rfl rfl) ?_
        refine z8 ?_
        refine zx rfl c (fun c=>?_) (fun c=>?_)
        · refine qa ?_
          refine zz ?_
          refine qb ?_
          refine zz ?_
          obtain⟨av,aw,ax,ay,c⟩:=zk7 c
          obtain⟨p,az,c⟩:=zo c
          refine bf 15 [] [phX (.func (.func 41) #[] #[e,k,(.pointer (some ⟨f,0,none⟩))]),phX (.int .u64 b),phX (vi i),phX (.int .u64 (ae .u64 (1:Int) i)),phX (.int .u64 (ior b (ae .u64 (1:Int) i))),phX (vi i),phX (vi (i+1)),phX (vi left),phX (vi (left-1)),phX (.tuple #[(.int .u64 p.1),(.bool p.2)]),phX (.tuple #[(.int .u64 p.1),(.bool p.2)]),phX (.int .u64 p.1),phX (.bool p.2),phX (.int .u64 p.1),phX (.bool p.2)] mixed (by kernel_rfl) (vz ⟨zf,zf,zf,zf,zf,zf,zf,zf,zf,zf,zf,zf,zf,zf,zf,trivial⟩) ⟨?_,?_,?_,?_,?_,?_,?_,?_,?_,?_,?_,?_,?_,?_,?_,trivial⟩ fun bC B=>?_
          · intro l S a m C
            have a5:l 5=(.pointer (some ⟨f,0,none⟩)):=m 5 rfl
            exact zg rfl rfl rfl (qx (oz zmx a5 ((u.mono (q.trans o)).mono a)) (fun _ _ h=>zk0 h))
          · intro l U a m C
            have I:l 6=z:=m 6 rfl
            exact zg rfl rfl rfl (qx (oz yf I ((P.mono o).mono a)) (fun _ _ h=>q9.1 h))
          · intro l V a m C
            have G:l 11=(vi i):=m 11 rfl
            exact zg rfl rfl rfl (zk (za G))
          · rintro l W a m ⟨n,_⟩
            have aA:=n rfl
            exact zg rfl rfl rfl (zk (z9s rfl aA av))
          · rintro l Z a m ⟨n,w,_⟩
            have aB:=n rfl
            have aC:=w rfl
            exact zg rfl rfl rfl (zk (zh3 aB aC aw))
          · intro l ab a m C
            have G:l 11=(vi i):=m 11 rfl
            exact zg rfl rfl rfl (zk (za G))
          · rintro l aj a m ⟨n,_⟩
            have aD:=n rfl
            exact zg rfl rfl rfl (zk (qi aD rfl ax))
          · intro l bE a m C
            have a2:l 2=(vi left):=m 2 rfl
            exact zg rfl rfl rfl (zk (za a2))
          · rintro l bG a m ⟨n,_⟩
            have aE:=n rfl
            exact zg rfl rfl rfl (zk (ko aE rfl ay))
          · rintro l bH a m ⟨n,w,K,L,_⟩
            have aF:=n rfl
            have aG:l 34=(.int .u64 (ior b (ae .u64 (1:Int) i))):=w rfl
            have aH:l 36=(vi (i+1)):=K rfl
            have aI:l 38=(vi (left-1)):=L rfl
            exact zg rfl rfl rfl (ziu (cs:=[e,k,(.pointer (some ⟨f,0,none⟩))]) (vs:=[(.int .u64 (ior b (ae .u64 (1:Int) i))),(vi (i+1)),(vi (left-1))]) zm8 aF (by simp only [List.map,ev,aG,aH,aI]<;>rfl) (ih ((s.mono (q.trans o)).mono a) ((t.mono (q.trans o)).mono a) ((u.mono (q.trans o)).mono a) az) (fun _ _ h=>h))
          · rintro l be a m ⟨n,_⟩
            have aJ:=n rfl
            exact zg rfl rfl rfl (zk (za aJ))
          · rintro l bg a m ⟨n,_⟩
            have H:=n rfl
            have ht:=H
            exact zg rfl rfl rfl (zk (qw ht rfl))
          · rintro l bh a m ⟨n,w,_⟩
            have H:=n rfl
            have ht:=H
            exact zg rfl rfl rfl (zk (qw ht rfl))
          · rintro l bi a m ⟨n,w,K,L,d4,d5,d6,d7,d8,d9,aL,aM,aN,aO,aP,_⟩
            have aQ:=n rfl
            exact zg rfl rfl rfl (zk (ai aQ))
          · rintro l bj a m ⟨n,w,K,L,d4,d5,d6,d7,d8,d9,aL,aM,aN,aO,aP,bK,_⟩
            have aR:=n rfl
            exact zg rfl rfl rfl (zk (ai aR))
          intro bL aS
          intro bM aT
          intro bN aU
          intro bO aV
          intro bP aW
          intro bQ aX
          intro bR aY
          intro bS aZ
          intro bT a0
          intro bU a1
          intro bV a4
          intro bW a7
          intro bX a8
          intro bY a9
          intro bZ ba
          obtain rfl:=Eq.symm aS
          obtain rfl:=Eq.symm aT
          obtain rfl:=Eq.symm aU
          obtain rfl:=Eq.symm aV
          obtain rfl:=Eq.symm aW
          obtain rfl:=Eq.symm aX
          obtain rfl:=Eq.symm aY
          obtain rfl:=Eq.symm aZ
          obtain rfl:=Eq.symm a0
          obtain rfl:=Eq.symm a1
          obtain rfl:=Eq.symm a4
          obtain rfl:=Eq.symm a7
          obtain rfl:=Eq.symm a8
          obtain rfl:=Eq.symm a9
          obtain rfl:=Eq.symm ba
          refine z8 ?_
          refine zz ?_
          refine zw ?_
          refine ze (.bool p.2) ?_
          refine z8 ?_
          refine zx rfl c (fun c=>?_) (fun c=>?_)
          · refine zz ?_
            refine zw ?_
            refine ze (.int .u64 p.1) ?_
            refine zh (.int .u64 p.1) ?_
            refine zh (.bool true) ?_
            refine z8 ?_
            refine qd ?_
            replace d:=ic c d
            obtain rfl:=Option.some.inj d
            refine qc (D:=[]) (J:=[]) (rs:=[.tmp 9,.tmp 10]) (vs:=[(.int .u64 p.1),(.bool true)]) ((q.trans o).trans B) rfl rfl ⟨rfl,rfl,trivial⟩ ?_
            exact⟨rfl,rfl⟩
          · refine qa ?_
            refine zw ?_
            refine ze (vi i) ?_
            obtain⟨bb,c⟩:=zb c
            refine zy (qi rfl rfl bb) ?_
            refine zh (vi (i+1)) ?_
            refine z8 ?_
            exact⟨dkt,B,jc,(x,i+1),Nat.lt_succ_self _,⟨rfl,trivial⟩,prm,c,trivial⟩
        · refine ja ?_
          exact⟨dkt,o,jc,(),trivial,prm,(Option.some.inj c).symm,trivial⟩
      · rintro b0 b1 b2 M ⟨rfl,_⟩
        replace d:=lv d
        refine zz ?_
        refine zw ?_
        refine zh (.int .u64 0) ?_
        refine zh (.bool false) ?_
        refine z8 ?_
        refine qd ?_
        obtain rfl:=Option.some.inj d
        refine qc (D:=[]) (J:=[]) (rs:=[.tmp 9,.tmp 10]) (vs:=[(.int .u64 0),(.bool false)]) (q.trans M) rfl rfl ⟨rfl,rfl,trivial⟩ ?_
        exact⟨rfl,rfl⟩
theorem z9f{N:Nat}{R:RH}{d:Int}{e:Int}{left:Int}{p0_:(List Int)}{a:Value}(f:PRep (tSl false (zu .u64)) R a p0_){p1_:Int}{b:Value}(g:PRep (zu .i64) R b p1_){c:Nat}(h:PRep (zl2 (.func (.func 41) #[] #[a,b,(.pointer (some ⟨c,0,none⟩))])) R (.pointer (some ⟨c,0,none⟩)) ()){r:Int×Bool}(i:rf N N d e left p0_ p1_=some r):CallP prog 41 #[(.int .u64 d),(vi e),(vi left),a,b,(.pointer (some ⟨c,0,none⟩))] R (fun v R'=>v= .tuple #[(.int .u64 r.1),(.bool r.2)]):=z7g N f g h i
theorem z6r{N:Nat}{R:RH}{x:Sa}{H:Value}(p:VRep (zn false false) R H x){r:(List Int)×Int}(b:z2z N x=some r):CallP prog 20 #[H] R (fun v R'=> ∃ u0,v= .tuple #[u0,(vi r.2)]∧VRep (tSl true (zu .i64)) R' u0 r.1):=by
 refine qg (args:=[H]) func20 rfl rfl fun A=>?_;rw [z2z] at b;refine zm (vv (T:=(zn false false)) rfl rfl rfl p fun v1 R3 h h5 h2=>?_);refine zh vs0 (zh (vi 0) (z8 (zz (zm (zy (jq z1o rfl rfl h5 (p.mono h)) ?_)))));obtain⟨U,c7,b⟩:=zo b
 refine j3 rfl zif rfl (ll (p.mono h) c7) fun v8 aR d h9=>?_;obtain rfl:=h9;refine zh (vi U) (qp (ze (vi U) (zy (uq rfl rfl) (z8 (zx rfl b (fun b=>?_) (fun b=>?_))))));refine zm (ze (vi U) (zh vs0 (zh (vi U) (z8 (qd ?_)))));obtain rfl:=Option.some.inj b
 refine qc (D:=[]) (J:=[]) (rs:=[.tmp 2,.tmp 3]) (vs:=[vs0,(vi U)]) (h.trans d) rfl rfl ⟨rfl,rfl,trivial⟩ ?_;exact⟨rfl,⟨vs0,rfl,z0p⟩⟩;refine qa (zm (zy (jq z1o rfl rfl (h5.mono d) (p.mono (h.trans d))) ?_));obtain⟨m,ap,b⟩:=zo b
 refine j3 rfl zjs rfl (nz (p.mono (h.trans d)) ap) fun aT aU l aq=>?_;obtain rfl:=aq;refine cz rfl za3 fun j=>?_;refine w9 (i:=0) (vs:=[(vi m)]) sz3 rfl rfl rfl rfl rfl rfl (jm rfl xu) ?_
 refine z8 (zz (zm (zy (xe (i:=0) ag3 rfl rfl rfl) (zy (oq rfl rfl) (z8 (zx rfl b (fun b=>?_) (fun b=>?_)))))));refine zm (zh vs0 (zh (vi 3) (z8 (qd ?_))));obtain rfl:=Option.some.inj b
 refine qc (D:=[]) (J:=[box j [(vi m)] 3]) (rs:=[.tmp 2,.tmp 3]) (vs:=[vs0,(vi 3)]) ((h.trans d).trans l) rfl rfl ⟨rfl,rfl,trivial⟩ ?_;exact⟨rfl,⟨vs0,rfl,z0p⟩⟩;refine qa (zm (zy (jq z1o rfl rfl (h5.mono (d.trans l)) (p.mono ((h.trans d).trans l))) ?_))
 obtain⟨V,ar,b⟩:=zo b;refine j3 rfl zoq rfl (z6p (p.mono ((h.trans d).trans l)) ar) fun z aV F I=>?_;refine cz rfl znd fun n=>?_;refine w9 (i:=0) (vs:=[z]) zoc rfl rfl (xw I) rfl rfl rfl (jm (zb1 I) xu) ?_;refine qp (cz rfl zoh fun o=>?_)
 refine qp (zy (ah (fs:=[]) (cs:=[(.pointer (some ⟨n,0,none⟩)),(.pointer (some ⟨j,0,none⟩)),(.pointer (some ⟨o,0,none⟩))]) rfl rfl) (w9 (i:=0) (vs:=[(.func (.func 41) #[] #[(.pointer (some ⟨n,0,none⟩)),(.pointer (some ⟨j,0,none⟩)),(.pointer (some ⟨o,0,none⟩))])]) zou rfl rfl rfl rfl rfl rfl (jm rfl xu) ?_));refine z8 ?_
 obtain⟨K,a,b⟩:=zo b;refine qj (γ:=Unit) (rs [2,4,8,13,25,54]) (fun g=>[]) (fun g=>[]++A) (fun g R=>K=Ex.go g∧True) ?_ ?_;refine zm (zy (xe (i:=2) ag3 rfl rfl rfl) ?_);obtain⟨au,a⟩:=zb a
 refine zy (qi rfl rfl au) (ze (vi 0) (z8 (qb (qy (γ:=Nat×Int) (rs [2,4,8,13,27,54]) (fun g=>[(27,(vi g.2))]) (fun g=>[box j [(vi m)] 3,box o [(.func (.func 41) #[] #[(.pointer (some ⟨n,0,none⟩)),(.pointer (some ⟨j,0,none⟩)),(.pointer (some ⟨o,0,none⟩))])] 73,box n [z] 71]++A) (fun g R=>z0a N m V g.1 g.2=some K∧True) (fun g=>g.1) (N,0) ⟨[],(pk 2 rfl (pk 0 rfl (pk 0 rfl (List.Perm.refl _))))⟩ ⟨a,trivial⟩ ?_))))
 clear a;rintro⟨C,q⟩ aM aW s ⟨a,_⟩;rcases C with _|C;exact qo a;replace a:z0a N m V (C+1) q=some K:=a;rw [z0a] at a;refine zm (zy (j5 rfl rfl) (z8 (zz (zx rfl a (fun a=>?_) (fun a=>?_)))))
 refine qa (zz (qb (zm (ze (vi q) (zh (vi q) (qp (zy (xe (i:=1) znw rfl rfl rfl) (ze (vi q) ?_))))))));obtain⟨k,av,a⟩:=zo a
 refine z3v (cs:=[(.pointer (some ⟨n,0,none⟩)),(.pointer (some ⟨j,0,none⟩)),(.pointer (some ⟨o,0,none⟩))]) (vs:=[(.int .u64 0),(vi 0),(vi q)]) (φ:=fun v=>v= .tuple #[(.int .u64 k.1),(.bool k.2)]) rfl zm8 rfl rfl (fun aX W t=>z9f (z8m (ze7 2 rfl t) (jf (T:=(tSl false (zu .u64))) rfl ((I.mono s).mono W))) (z8m (ze7 0 rfl t) rfl) (z8m (ze7 1 rfl t) ⟨rfl,rfl⟩) av) fun aY aw=>?_
 obtain rfl:=aw;refine ze (.tuple #[(.int .u64 k.1),(.bool k.2)]) (zy (qw rfl rfl) (zy (qw rfl rfl) (zh (.int .u64 k.1) (zh (.bool k.2) (qp (ze (.bool k.2) (z8 (zx rfl a (fun a=>?_) (fun a=>?_)))))))));refine zm (zh vs0 (z8 ?_));obtain⟨u,c,a⟩:=zo a
 refine qj (γ:=(List Int)×Value×Frag) (rs [11,13,37,51]) (fun g=>[(11,g.2.1)]) (fun g=>[g.2.2]++A) (fun g R=>u=g.1∧ORep (zu .i64) R g.2.2 g.2.1 g.1∧True) ?_ ?_;refine zm (zy (xe (i:=0) ag3 rfl rfl rfl) (ze (vi 0) (z8 (qb (z7d ?_)))))
 refine qy (γ:=Nat×(List Int)×Int×Value×Frag) (rs [11,13,38,51]) (fun g=>[(11,g.2.2.2.1),(38,(vi g.2.2.1))]) (fun g=>[g.2.2.2.2]++A) (fun g R=>z09 N m k g.1 g.2.1 g.2.2.1=some u∧ORep (zu .i64) R g.2.2.2.2 g.2.2.2.1 g.2.1∧True) (fun g=>g.1) (N,[],0,vs0,emp) ⟨[box j [(vi m)] 3,box o [(.func (.func 41) #[] #[(.pointer (some ⟨n,0,none⟩)),(.pointer (some ⟨j,0,none⟩)),(.pointer (some ⟨o,0,none⟩))])] 73,box n [z] 71],(pk 1 rfl (pk 1 rfl (pk 1 rfl (pk 0 rfl (List.Perm.refl _)))))⟩ ⟨c,(z2v (T:=(zu .i64))),trivial⟩ ?_
 clear c;rintro⟨E,w,e,L,Z⟩ aZ a0 aa ⟨c,M,_⟩;rcases E with _|E;exact qo c;replace c:z09 N m k (E+1) w e=some u:=c;rw [z09] at c;refine zm (zy (j5 rfl rfl) (z8 (zz (zx rfl c (fun c=>?_) (fun c=>?_)))));refine qa ?_;obtain⟨O,f,c⟩:=zo c
 refine qj (γ:=(List Int)×Value×Frag) (rs [11,13,40,50]) (fun g=>[(11,g.2.1)]) (fun g=>[g.2.2]++A) (fun g R=>O=g.1∧ORep (zu .i64) R g.2.2 g.2.1 g.1∧True) ?_ ?_;refine qb (zm (ze (vi e) (zh (vi e) (qp (ze (.int .u64 k.1) (ze (vi e) ?_))))));obtain⟨ax,f⟩:=zb f;refine zy (z5l rfl rfl ax) ?_
 obtain⟨ay,f⟩:=zb f;refine zy (zcf rfl rfl ay) (zy (mo rfl rfl) (z8 (zx rfl f (fun f=>?_) (fun f=>?_))))
 refine zw (ze L (ze (vi e) (bg (T:=(zu .i64)) (X:=([e]:List Int)) (ps:=[(0,(vi e))]) (css:=[[(vi e)]]) rfl underlying33 zo3 rfl rfl (jh ⟨rfl,trivial⟩) rfl rfl (by decide) fun az a1 P aA=>?_)));refine kg (i:=0) rfl aA fun aB G aC=>?_
 have aD:VRep (tSl true (zu .i64)) aB az ([e]:List Int):=(fo aC P);obtain⟨ab,f⟩:=zb f;refine z10 (i:=0) (X:=w) (Y:=([e]:List Int)) rfl underlying33 zo3 rfl rfl rfl (M.mono G) (jk (Sub.v (B:=(tSl false (zu .i64))) (ui Sub.refl (fun _=>rfl)) aD)) ab.1 ab.2 fun ac aE aF=>?_;refine zh ac (z8 ?_)
 exact⟨dkt,G,jc,((w++([e]:List Int)),ac,aE),⟨rfl,trivial⟩,prm,(Option.some.inj f).symm,aF,trivial⟩;refine qa ?_;exact⟨dkt,(RH.le.refl _),jc,(w,L,Z),⟨rfl,trivial⟩,prm,(Option.some.inj f).symm,M,trivial⟩;rintro⟨O,aG,aH⟩ a2 a3 ad ⟨rfl,aI,_⟩;refine zw ?_;obtain⟨aJ,c⟩:=zb c
 refine zy (qi rfl rfl aJ) (ze (vi (e+1)) (z8 ?_));exact⟨dkt,ad,jc,(E,O,e+1,aG,aH),Nat.lt_succ_self _,⟨rfl,rfl,trivial⟩,prm,c,aI,trivial⟩;refine ja ?_;exact⟨dkt,aa,jc,(w,L,Z),⟨rfl,trivial⟩,prm,(Option.some.inj c).symm,M,trivial⟩;rintro⟨u,ae,a4⟩ a5 a6 af ⟨rfl,aK,_⟩
 refine zm (ze ae (kg (i:=0) rfl aK fun ag Q ai=>?_));have aj:VRep (tSl false (zu .i64)) ag ae u:=(z6k ai);obtain⟨aN,ak,a⟩:=zo a;refine j3 rfl zly rfl (z5r aj ak) fun y aO S al=>?_;refine zh y (zh (vi 0) (z8 (qd ?_)));replace b:=ic a b
 obtain rfl:=Option.some.inj b;refine qc (D:=[]) (J:=[]) (rs:=[.tmp 2,.tmp 3]) (vs:=[y,(vi 0)]) (((((((h.trans d).trans l).trans F).trans s).trans af).trans Q).trans S) rfl rfl ⟨rfl,rfl,trivial⟩ ?_;exact⟨rfl,⟨y,rfl,al⟩⟩;refine qa (zw ?_);obtain⟨am,a⟩:=zb a
 refine zy (qi rfl rfl am) (ze (vi (q+1)) (z8 ?_));exact⟨dkt,(RH.le.refl _),jc,(C,q+1),Nat.lt_succ_self _,⟨rfl,trivial⟩,prm,a,trivial⟩;refine ja ?_
 exact⟨dkt,s,jc,(),trivial,⟨[box j [(vi m)] 3,box o [(.func (.func 41) #[] #[(.pointer (some ⟨n,0,none⟩)),(.pointer (some ⟨j,0,none⟩)),(.pointer (some ⟨o,0,none⟩))])] 73,box n [z] 71],(List.Perm.refl _)⟩,(Option.some.inj a).symm,trivial⟩;rintro a7 aP a8 an ⟨rfl,_⟩;replace b:=lv b
 refine zm (zh vs0 (zh (vi 0) (z8 (qd ?_))));obtain rfl:=Option.some.inj b;refine qc (D:=[]) (J:=[]) (rs:=[.tmp 2,.tmp 3]) (vs:=[vs0,(vi 0)]) ((((h.trans d).trans l).trans F).trans an) rfl rfl ⟨rfl,rfl,trivial⟩ ?_;exact⟨rfl,⟨vs0,rfl,z0p⟩⟩
theorem zmp:Enters prog 20:=enters_of func20 rfl (by kernel_rfl)
theorem zaz{N:Nat}{R:RH}{x:(List Int)}{d:Value}(h:VRep (tSl false (zu .i64)) R d x){r:Int}(b:slices_Max_int N x=some r):CallP prog 51 #[d] R (fun v R'=>v=(vi r)):=by
 refine qg (args:=[d]) func51 rfl rfl fun A=>?_;rw [slices_Max_int] at b;refine zm (zh (vi 0) (z8 (zz (zm (ze d (zy (qm rfl underlying33 rfl (jk h)) (zy (j5 rfl rfl) (z8 (zx rfl b (fun b=>?_) (fun b=>?_))))))))));exact qo b;refine qa (zm (ze d ?_));obtain⟨q,b⟩:=zb b
 refine jy (i:=(0:Int).toNat) rfl l5 rfl (jk h) (zi rfl q.1) (q8 q) fun C s=>?_;refine qz rfl ty3 rfl s fun E t=>?_;obtain rfl:=q9.1 t;refine zh (vi (ix x 0)) (z8 ?_);obtain⟨k,a,b⟩:=zo b
 refine qj (γ:=Int) (rs [3,5,12,24]) (fun g=>[(3,(vi g))]) (fun g=>[]++A) (fun g R=>k=g∧True) ?_ ?_
 refine zm (zh (vi 1) (z8 (qb (qy (γ:=Nat×Int×Int) (rs [3,5,12,24]) (fun g=>[(3,(vi g.2.1)),(4,(vi g.2.2))]) (fun g=>[]++A) (fun g R=>z07 N x g.1 g.2.1 g.2.2=some k∧True) (fun g=>g.1) (N,(ix x 0),1) prm ⟨a,trivial⟩ ?_))));clear a;rintro⟨j,e,c⟩ u w f ⟨a,_⟩;rcases j with _|j
 exact qo a;replace a:z07 N x (j+1) e c=some k:=a;rw [z07] at a;refine zz (zm (ze (vi c) (ze d (zy (qm rfl underlying33 rfl (jk (h.mono f))) (zy (j5 rfl rfl) (z8 (zx rfl a (fun a=>?_) (fun a=>?_))))))))
 refine qa (zz (qb (zw (ze (vi e) (ze d (ze (vi c) ?_))))));obtain⟨l,a⟩:=zb a;refine jy (i:=c.toNat) rfl l5 rfl (jk (h.mono f)) (zi rfl l.1) (q8 l) fun y m=>?_;refine qz rfl ty3 rfl m fun z n=>?_;obtain rfl:=q9.1 n
 refine zy (zc3 rfl underlying3 rfl rfl) (zh (vi (max e (ix x c))) (z8 (zw (ze (vi c) ?_))));obtain⟨o,a⟩:=zb a;refine zy (qi rfl rfl o) (zh (vi (c+1)) (z8 ?_));exact⟨dkt,(RH.le.refl _),jc,(j,max e (ix x c),c+1),Nat.lt_succ_self _,⟨rfl,rfl,trivial⟩,prm,a,trivial⟩;refine ja ?_
 exact⟨dkt,f,jc,e,⟨rfl,trivial⟩,prm,(Option.some.inj a).symm,trivial⟩;rintro k B F p ⟨rfl,_⟩;refine zm (ze (vi k) (zh (vi k) (z8 (qd ?_))));obtain rfl:=Option.some.inj b;refine qc (D:=[]) (J:=[]) (rs:=[.tmp 2]) (vs:=[(vi k)]) p rfl rfl ⟨rfl,trivial⟩ ?_;exact⟨rfl,rfl⟩
theorem zot:Enters prog 51:=enters_of func51 rfl (by kernel_rfl)
theorem z9a{N:Nat}{R:RH}{s:(List Int)}{c:Value}(h:VRep (tSl false (zu .i64)) R c s){f:Int}{r:Int}(b:slices_Index_int N s f=some r):CallP prog 52 #[c,(vi f)] R (fun v R'=>v=(vi r)):=by
 refine qg (args:=[c,(vi f)]) func52 rfl rfl fun A=>?_;rw [slices_Index_int] at b;refine zm (zh (vi 0) (z8 ?_));obtain⟨l,a,b⟩:=zo b;refine qj (γ:=Unit) (rs [4,19]) (fun g=>[]) (fun g=>[]++A) (fun g R=>l=Ex.go g∧True) ?_ ?_
 refine zm (ze c (zy (qm rfl underlying33 rfl (jk h)) (ze (vi 0) (z8 (qb (qy (γ:=Nat×Int) (rs [4,6,8,19]) (fun g=>[(8,(vi g.2))]) (fun g=>[]++A) (fun g R=>l7 N s f g.1 g.2=some l∧True) (fun g=>g.1) (N,0) prm ⟨a,trivial⟩ ?_))))));clear a;rintro⟨k,d⟩ q x e ⟨a,_⟩;rcases k with _|k
 exact qo a;replace a:l7 N s f (k+1) d=some l:=a;rw [l7] at a;refine zm (zy (j5 rfl rfl) (z8 (zz (zx rfl a (fun a=>?_) (fun a=>?_)))));refine qa (zz (qb (zm (ze (vi d) (zh (vi d) (qp (ze (vi f) (ze c (ze (vi d) ?_)))))))))
 obtain⟨j,a⟩:=zb a;refine jy (i:=d.toNat) rfl l5 rfl (jk (h.mono e)) (zi rfl j.1) (q8 j) fun t m=>?_;refine qz rfl ty3 rfl m fun u n=>?_;obtain rfl:=q9.1 n;refine zy (mo rfl rfl) (z8 (zx rfl a (fun a=>?_) (fun a=>?_)))
 refine zm (ze (vi d) (zh (vi d) (z8 (qd ?_))));replace b:=ic a b;obtain rfl:=Option.some.inj b;refine qc (D:=[]) (J:=[]) (rs:=[.tmp 4]) (vs:=[(vi d)]) e rfl rfl ⟨rfl,trivial⟩ ?_;exact⟨rfl,rfl⟩;refine qa (zw ?_);obtain⟨o,a⟩:=zb a
 refine zy (qi rfl rfl o) (ze (vi (d+1)) (z8 ?_));exact⟨dkt,(RH.le.refl _),jc,(k,d+1),Nat.lt_succ_self _,⟨rfl,trivial⟩,prm,a,trivial⟩;refine ja ?_;exact⟨dkt,e,jc,(),trivial,prm,(Option.some.inj a).symm,trivial⟩;rintro y w z p ⟨rfl,_⟩;replace b:=lv b;refine zm (zh (vi (-1)) (z8 (qd ?_)))
 obtain rfl:=Option.some.inj b;refine qc (D:=[]) (J:=[]) (rs:=[.tmp 4]) (vs:=[(vi (-1))]) p rfl rfl ⟨rfl,trivial⟩ ?_;exact⟨rfl,rfl⟩
theorem zno:Enters prog 52:=enters_of func52 rfl (by kernel_rfl)
theorem zbc{N:Nat}{R:RH}{h:(List Int)}{b:Value}(c:VRep (tSl false (zu .i64)) R b h){r:Int×Bool}(a:z6b N h=some r):CallP prog 37 #[b] R (fun v R'=>v= .tuple #[(vi r.1),(.bool r.2)]):=by
 refine qg (args:=[b]) func37 rfl rfl fun A=>?_;rw [z6b] at a;refine zm (zh (vi 0) (zh (.bool false) (z8 (zz (zm (ze b (zy (qm rfl underlying33 rfl (jk c)) (zy (mo rfl rfl) (z8 (zx rfl a (fun a=>?_) (fun a=>?_)))))))))))
 refine zm (zh (vi 0) (zh (.bool false) (z8 (qd ?_))));obtain rfl:=Option.some.inj a;refine qc (D:=[]) (J:=[]) (rs:=[.tmp 2,.tmp 3]) (vs:=[(vi 0),(.bool false)]) (RH.le.refl _) rfl rfl ⟨rfl,rfl,trivial⟩ ?_;exact⟨rfl,rfl⟩;refine qa (zm (ze b ?_));obtain⟨d,j,a⟩:=zo a
 refine j3 rfl zot rfl (zaz c j) fun o p e k=>?_;obtain rfl:=k;refine zh (vi d) (qp (ze b (ze (vi d) ?_)));obtain⟨i,l,a⟩:=zo a;refine j3 rfl zno rfl (z9a (c.mono e) l) fun m n f g=>?_;obtain rfl:=g
 refine ze (vi d) (zy (oq rfl rfl) (zh (vi i) (zh (.bool (decide (0<d))) (z8 (qd ?_)))));obtain rfl:=Option.some.inj a;refine qc (D:=[]) (J:=[]) (rs:=[.tmp 2,.tmp 3]) (vs:=[(vi i),(.bool (decide (0<d)))]) (e.trans f) rfl rfl ⟨rfl,rfl,trivial⟩ ?_;exact⟨rfl,rfl⟩
theorem znb:Enters prog 37:=enters_of func37 rfl (by kernel_rfl)
theorem z5v{N:Nat}{R:RH}{x:Sa}{m:Value}(G:VRep (zn false false) R m x){is:Int→Option Bool}{d:Value}(s:FOk1 prog R d (zu .i64) z2n is){r:(List Int)}(h:z0o N x is=some r):CallG prog 26 #[m,d] R [] (fun v R' O'=> ∃ u0_0 g0_0,v=u0_0∧O'=[g0_0]∧ORep (zu .i64) R' g0_0 u0_0 r):=by
 refine yn (args:=[m,d]) func26 rfl rfl fun A=>?_;rw [z0o] at h;refine zm (vv (T:=(zn false false)) rfl rfl rfl G fun v1 R3 t h5 h2=>?_);refine zh vs0 (z8 ?_);obtain⟨E,a,h⟩:=zo h
 refine qj (γ:=(List Int)×Value×Frag) (rs [4,20]) (fun g=>[(4,g.2.1)]) (fun g=>[g.2.2]++A) (fun g R=>E=g.1∧ORep (zu .i64) R g.2.2 g.2.1 g.1∧True) ?_ ?_;refine zm (xn rfl ry ji rfl h2 fun af H=>?_);refine qz rfl z7n rfl H fun ag I=>?_
 refine zy (qm rfl underlying25 rfl (jk I)) (ze (vi 0) (z8 (qb (z7d ?_))))
 refine qy (γ:=Nat×(List Int)×Int×Value×Frag) (rs [4,6,9,20]) (fun g=>[(4,g.2.2.2.1),(9,(vi g.2.2.1))]) (fun g=>[g.2.2.2.2]++A) (fun g R=>ny N x is g.1 g.2.1 g.2.2.1=some E∧ORep (zu .i64) R g.2.2.2.2 g.2.2.2.1 g.2.1∧True) (fun g=>g.1) (N,[],0,vs0,emp) prm ⟨a,(z2v (T:=(zu .i64))),trivial⟩ ?_
 clear a;rintro⟨j,f,b,n,u⟩ ah ai k ⟨a,o,_⟩;rcases j with _|j;exact qo a;replace a:ny N x is (j+1) f b=some E:=a;rw [ny] at a;refine zm (zy (j5 rfl rfl) (z8 (zz (zx rfl a (fun a=>?_) (fun a=>?_)))));refine qa ?_;obtain⟨p,c,a⟩:=zo a
 refine qj (γ:=(List Int)×Value×Frag) (rs [4,6,11,19]) (fun g=>[(4,g.2.1)]) (fun g=>[g.2.2]++A) (fun g R=>p=g.1∧ORep (zu .i64) R g.2.2 g.2.1 g.1∧True) ?_ ?_;refine qb (zm (ze (vi b) (zh (vi b) (qp (ze d (ze (vi b) ?_))))));obtain⟨aj,K,c⟩:=zo c
 refine z6f rfl rfl rfl ((s.mono (t.trans k)) _ (RH.le.refl _) b _ _ (q9.2 rfl) K) fun ak al e L=>?_;obtain rfl:=mq.1 L;refine z8 (zx rfl c (fun c=>?_) (fun c=>?_))
 refine zw (ze n (ze (vi b) (bg (T:=(zu .i64)) (X:=([b]:List Int)) (ps:=[(0,(vi b))]) (css:=[[(vi b)]]) rfl underlying33 zo3 rfl rfl (jh ⟨rfl,trivial⟩) rfl rfl (by decide) fun M am q O=>?_)));refine kg (i:=0) rfl O fun P l Q=>?_
 have S:VRep (tSl true (zu .i64)) P M ([b]:List Int):=(fo Q q);obtain⟨w,c⟩:=zb c;refine z10 (i:=0) (X:=f) (Y:=([b]:List Int)) rfl underlying33 zo3 rfl rfl rfl (o.mono (e.trans l)) (jk (Sub.v (B:=(tSl false (zu .i64))) (ui Sub.refl (fun _=>rfl)) S)) w.1 w.2 fun y U V=>?_;refine zh y (z8 ?_)
 exact⟨dkt,(e.trans l),jc,((f++([b]:List Int)),y,U),⟨rfl,trivial⟩,prm,(Option.some.inj c).symm,V,trivial⟩;refine qa ?_;exact⟨dkt,e,jc,(f,n,u),⟨rfl,trivial⟩,prm,(Option.some.inj c).symm,(o.mono e),trivial⟩;rintro⟨p,W,Z⟩ an ao z ⟨rfl,aa,_⟩;refine zw ?_;obtain⟨ab,a⟩:=zb a
 refine zy (qi rfl rfl ab) (ze (vi (b+1)) (z8 ?_));exact⟨dkt,z,jc,(j,p,b+1,W,Z),Nat.lt_succ_self _,⟨rfl,rfl,trivial⟩,prm,a,aa,trivial⟩;refine ja ?_;exact⟨dkt,k,jc,(f,n,u),⟨rfl,trivial⟩,prm,(Option.some.inj a).symm,o,trivial⟩;rintro⟨E,F,C⟩ ap R7 ac ⟨rfl,ad,_⟩
 refine zm (ze F (zh F (z8 (qd ?_))));obtain rfl:=Option.some.inj h;refine ug (D:=[]) (J:=[]) (O':=[C]) (rs:=[.tmp 4]) (vs:=[F]) (t.trans ac) ((pk 0 rfl (List.Perm.refl _))) rfl ⟨rfl,trivial⟩ ?_;exact⟨F,C,rfl,rfl,ad⟩
theorem z4u{N:Nat}{R:RH}{x:Sa}{I:Value}(s:VRep (zn false false) R I x){rows:(List Int)}{f:Value}(p:VRep (tSl false (zu .i64)) R f rows){r:(List Int)}(l:z0b N x rows=some r):CallG prog 25 #[I,f] R [] (fun v R' O'=> ∃ u0_0 g0_0,v=u0_0∧O'=[g0_0]∧ORep (zu .i64) R' g0_0 u0_0 r∧capOf u0_0=r.length):=by
 refine yn (args:=[I,f]) func25 rfl rfl fun A=>?_;rw [z0b] at l;refine zm (vv (T:=(zn false false)) rfl rfl rfl s fun v1 R3 o h5 h2=>?_);refine zh vs0 (qp (zy (jq z1o rfl rfl h5 (s.mono o)) ?_));obtain⟨y6,c7,l⟩:=zo l
 refine j3 rfl zjs rfl (nz (s.mono o) c7) fun v8 az k h9=>?_;obtain rfl:=h9;obtain⟨w,l⟩:=zb l;refine zbl (T:=(zu .i64)) (m:=y6.toNat) (c:=y6.toNat) rfl underlying33 zo3 (zi rfl w.1) (zi rfl w.1) (Nat.le_refl _) (zdb w) (zdj w) fun d ac K ad=>?_;refine zh d (z8 ?_)
 obtain⟨y,b,l⟩:=zo l;refine qj (γ:=(List Int)×Frag) (rs [7,8,9,10,13,35]) (fun g=>[]) (fun g=>[g.2]++A) (fun g R=>y=g.1∧ORep (zu .i64) R g.2 d g.1∧capOf d=g.1.length∧True) ?_ ?_
 refine zm (ze f (zy (qm rfl underlying33 rfl (jk (p.mono (o.trans k)))) (ze (vi 0) (z8 (qb (qy (γ:=Nat×Int×(List Int)×Frag) (rs [7,8,9,10,15,35]) (fun g=>[(15,(vi g.2.1))]) (fun g=>[g.2.2.2]++A) (fun g R=>dw N x rows g.1 g.2.1 g.2.2.1=some y∧ORep (zu .i64) R g.2.2.2 d g.2.2.1∧capOf d=g.2.2.1.length∧True) (fun g=>g.1) (N,0,(mk y6 (0:Int)),ac) prm ⟨b,ad,(K.trans List.length_replicate.symm),trivial⟩ ?_))))))
 clear b;rintro⟨z,q,L,P⟩ aB aC n ⟨b,Q,E,_⟩;rcases z with _|z;exact qo b;replace b:dw N x rows (z+1) q L=some y:=b;rw [dw] at b;refine zm (zy (j5 rfl rfl) (z8 (zz (zx rfl b (fun b=>?_) (fun b=>?_)))));refine qa ?_
 obtain⟨t,a,b⟩:=zo b;refine qj (γ:=(List Int)×Frag) (rs [7,8,9,10,17,34]) (fun g=>[]) (fun g=>[g.2]++A) (fun g R=>t=g.1∧ORep (zu .i64) R g.2 d g.1∧capOf d=g.1.length∧True) ?_ ?_;refine qb (zm ?_);obtain⟨S,a⟩:=zb a
 refine jy (i:=q.toNat) rfl l5 rfl (jk (p.mono ((o.trans k).trans n))) (zi rfl S.1) (q8 S) fun aD ae=>?_;refine qz rfl ty3 rfl ae fun aE af=>?_;obtain rfl:=q9.1 af
 refine zh (vi (ix rows q)) (qp (zy (jq z1o rfl rfl (h5.mono (k.trans n)) (s.mono ((o.trans k).trans n))) (ze (vi (ix rows q)) ?_)));obtain⟨h,ag,a⟩:=zo a;refine j3 rfl zi4 rfl (p9 (s.mono ((o.trans k).trans n)) ag) fun aF aG F U=>?_
 refine zy (qm rfl underlying33 rfl (jk U)) (ze (vi 0) (z8 (qb (qy (γ:=Nat×Int×(List Int)×Frag) (rs [9,10,23,34]) (fun g=>[(23,(vi g.2.1))]) (fun g=>[g.2.2.2]++A) (fun g R=>dn N h g.1 g.2.1 g.2.2.1=some t∧ORep (zu .i64) R g.2.2.2 d g.2.2.1∧capOf d=g.2.2.1.length∧True) (fun g=>g.1) (N,0,L,P) prm ⟨a,(Q.mono F),E,trivial⟩ ?_))))
 clear a;rintro⟨B,e,C,ah⟩ aH aI G ⟨a,u,H,_⟩;rcases B with _|B;exact qo a;replace a:dn N h (B+1) e C=some t:=a;rw [dn] at a;refine zm (zy (j5 rfl rfl) (z8 (zz (zx rfl a (fun a=>?_) (fun a=>?_)))));refine qa (zz (qb (zm ?_)))
 obtain⟨V,a⟩:=zb a;refine jy (i:=e.toNat) rfl l5 rfl (jk (U.mono G)) (zi rfl V.1) (q8 V) fun aJ ai=>?_;refine qz rfl ty3 rfl ai fun aK aj=>?_;obtain rfl:=q9.1 aj;refine zh (vi (ix h e)) (z8 (zw (ze d (ze (vi (ix h e)) ?_))));obtain⟨M,a⟩:=zb a
 refine z1r (i:=(ix h e).toNat) rfl l5 rfl u (zi rfl M.1) (q8 M) fun aL ak=>?_;refine z8j (i:=(ix h e).toNat) (j:=0) rfl ty3 u rfl rfl ak (q8 M) fun aM al=>?_;obtain rfl:=q9.1 al;obtain⟨am,a⟩:=zb a;refine zy (qi rfl rfl am) ?_;obtain⟨O,a⟩:=zb a
 refine z1r (i:=(ix h e).toNat) rfl l5 rfl u (zi rfl O.1) (q8 O) fun aN an=>?_;refine z4p (i:=(ix h e).toNat) (j:=0) ty3 u rfl rfl an (q8 O) rfl (q9.2 rfl) fun ao ap=>?_;refine z8 (zw ?_);obtain⟨aq,a⟩:=zb a;refine zy (qi rfl rfl aq) (ze (vi (e+1)) (z8 ?_))
 exact⟨dkt,(RH.le.refl _),jc,(B,e+1,(up C (ix h e) ((ix C (ix h e))+1)),ao),Nat.lt_succ_self _,⟨rfl,trivial⟩,prm,a,ap,(H.trans List.length_set.symm),trivial⟩;refine ja ?_;exact⟨dkt,(F.trans G),jc,(C,ah),trivial,prm,(Option.some.inj a).symm,u,H,trivial⟩;rintro⟨t,ar⟩ aO aP W ⟨rfl,au,X,_⟩;refine zw ?_
 obtain⟨av,b⟩:=zb b;refine zy (qi rfl rfl av) (ze (vi (q+1)) (z8 ?_));exact⟨dkt,W,jc,(z,q+1,t,ar),Nat.lt_succ_self _,⟨rfl,trivial⟩,prm,b,au,X,trivial⟩;refine ja ?_;exact⟨dkt,n,jc,(L,P),trivial,prm,(Option.some.inj b).symm,Q,E,trivial⟩;rintro⟨y,Y⟩ aQ aR Z ⟨rfl,aw,aa,_⟩
 refine zm (ze d (zh d (z8 (qd ?_))));obtain rfl:=Option.some.inj l;refine ug (D:=[]) (J:=[]) (O':=[Y]) (rs:=[.tmp 4]) (vs:=[d]) ((o.trans k).trans Z) ((pk 0 rfl (List.Perm.refl _))) rfl ⟨rfl,trivial⟩ ?_;exact⟨d,Y,rfl,rfl,aw,aa⟩
end GV
end Go.Proofs.Ytkhihcleegljhaa
