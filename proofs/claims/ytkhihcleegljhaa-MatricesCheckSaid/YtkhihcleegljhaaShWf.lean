import Derived.Test.YtkhihcleegljhaaShWe
import Derived.Test.YtkhihcleegljhaaRows
set_option linter.unusedVariables false
set_option linter.unusedSimpArgs false
namespace Go.Proofs.Ytkhihcleegljhaa
namespace GV
open _root_.Go.Proofs.Try
open Go.IntWalk
set_option maxRecDepth 100000
set_option maxHeartbeats 20000000
theorem zp4:Enters prog 96:=enters_of func96 rfl (by kernel_rfl)
theorem znd:Enters prog 75:=enters_of func75 rfl (by kernel_rfl)
theorem z3q{N:Nat}(F:Nat): ∀ {R:RH} {data:List Int} {c:Value} {fC:Frag} (G:ORep (zx .u64) R fC c data) {a:Int} {b:Int} {limit:Int} {r:List Int} (d:uo N F data a b limit=some r),CallG prog 75 #[c,(vi a),(vi b),(vi limit)] R [fC] (fun v R' O'=> ∃ H,v= .tuple #[]∧O'=[H]∧ORep (zx .u64) R' H c r):=by
  induction F with
  |zero=>intros;rename_i d;exact qw d
  |succ F ih=>
    intro R data c fC G a b limit r d
    refine gu (args:=[c,(vi a),(vi b),(vi limit)]) func75 rfl rfl fun A=>?_
    rw [uo] at d
    refine q8 ?_
    refine zy ?_
    refine zh (.bool true) ?_
    refine za ?_
    refine q8 ?_
    refine zy ?_
    refine zh (.bool true) ?_
    refine za ?_
    refine qc ?_
    refine jb (γ:=Nat×Int×Int×Int×Bool×Bool×(List Int)×Frag) (rs [1,4,8,134]) (fun g=>[(1,(vi g.2.1)),(2,(vi g.2.2.1)),(3,(vi g.2.2.2.1)),(8,(.bool g.2.2.2.2.1)),(9,(.bool g.2.2.2.2.2.1))]) (fun g=>[g.2.2.2.2.2.2.2]++A) (fun g R=>uj N (uo N F) g.1 g.2.1 g.2.2.1 g.2.2.2.1 g.2.2.2.2.1 g.2.2.2.2.2.1 g.2.2.2.2.2.2.1=some r∧ORep (zx .u64) R g.2.2.2.2.2.2.2 c g.2.2.2.2.2.2.1∧True) (fun g=>g.1) (N,a,b,limit,true,true,data,fC) prm ⟨d,G,trivial⟩ ?_
    clear d
    rintro⟨F1,f,m,x4,x5,x6,x7,U⟩ b2 R8 aa ⟨d,V,_⟩
    rcases F1 with _|F1
    · exact qw d
    replace d:uj N (uo N F) (F1+1) f m x4 x5 x6 x7=some r:=d;rw [uj] at d
    refine qc ?_
    refine q8 ?_
    refine zy ?_
    refine ze (vi m) ?_
    refine ze (vi f) ?_
    obtain⟨bm,d⟩:=zb d
    refine q9 (u7 rfl rfl bm) ?_
    refine zh (vi (m-f)) ?_
    refine za ?_
    refine q8 ?_
    refine q8 ?_
    refine zy ?_
    refine ze (vi (m-f)) ?_
    refine q9 (z3f rfl rfl) ?_
    refine za ?_
    refine zz rfl d (fun d=>?_) (fun d=>?_)
    · refine q8 ?_
      refine zy ?_
      refine ze c ?_
      refine ze (vi f) ?_
      refine ze (vi m) ?_
      obtain⟨cQ,bn,d⟩:=zt d
      refine di (Oc:=[U]) (Or:=[]++A) (cs:=[]) (vs:=[c,(vi f),(vi m)]) rfl zp7 rfl rfl ((pk 0 rfl (List.Perm.refl _))) (z2q V bn) fun cR cS b3 al bo=>?_
      obtain⟨am,rfl,rfl,bp⟩:=bo
      refine za ?_
      refine qi ?_
      obtain rfl:=Option.some.inj d
      refine wz (D:=[]) (J:=[]) (O':=[am]) (rs:=[]) (vs:=[]) (aa.trans al) ((pk 0 rfl (List.Perm.refl _))) rfl trivial ?_
      exact⟨am,rfl,rfl,bp⟩
    · refine qb ?_
      refine q8 ?_
      refine q8 ?_
      refine zy ?_
      refine ze (vi x4) ?_
      refine q9 (ax rfl rfl) ?_
      refine za ?_
      refine zz rfl d (fun d=>?_) (fun d=>?_)
      · refine q8 ?_
        refine zy ?_
        refine ze c ?_
        refine ze (vi f) ?_
        refine ze (vi m) ?_
        obtain⟨cT,bq,d⟩:=zt d
        refine di (Oc:=[U]) (Or:=[]++A) (cs:=[]) (vs:=[c,(vi f),(vi m)]) rfl zpf rfl rfl ((pk 0 rfl (List.Perm.refl _))) (z4m V bq) fun cU cV b4 an br=>?_
        obtain⟨ao,rfl,rfl,bs⟩:=br
        refine za ?_
        refine qi ?_
        obtain rfl:=Option.some.inj d
        refine wz (D:=[]) (J:=[]) (O':=[ao]) (rs:=[]) (vs:=[]) (aa.trans an) ((pk 0 rfl (List.Perm.refl _))) rfl trivial ?_
        exact⟨ao,rfl,rfl,bs⟩
      · refine qb ?_
        obtain⟨t,k,d⟩:=zt d
        refine qo (γ:=(Int×List Int)×Frag) (rs [3,4,34,42]) (fun g=>[(3,(vi g.1.1))]) (fun g=>[g.2]++A) (fun g R=>t=g.1∧ORep (zx .u64) R g.2 c g.1.2∧True) ?_ ?_
        · refine q8 ?_
          refine zy ?_
          refine ze (.bool x5) ?_
          refine q9 (ai rfl) ?_
          refine za ?_
          refine zz rfl k (fun k=>?_) (fun k=>?_)
          · refine q8 ?_
            refine zy ?_
            refine ze c ?_
            refine ze (vi f) ?_
            refine ze (vi m) ?_
            obtain⟨bt,bu,k⟩:=zt k
            refine di (Oc:=[U]) (Or:=[]++A) (cs:=[]) (vs:=[c,(vi f),(vi m)]) rfl zpm rfl rfl ((pk 0 rfl (List.Perm.refl _))) (z2p V bu) fun cW cX b5 ap bv=>?_
            obtain⟨bw,rfl,rfl,bx⟩:=bv
            refine za ?_
            refine zy ?_
            refine ze (vi x4) ?_
            obtain⟨bz,k⟩:=zb k
            refine q9 (u7 rfl rfl bz) ?_
            refine zh (vi (x4-1)) ?_
            refine za ?_
            exact⟨dkt,ap,jh,((x4-1,bt),bw),⟨rfl,trivial⟩,prm,(Option.some.inj k).symm,bx,trivial⟩
          · refine qb ?_
            exact⟨dkt,(RH.le.refl _),jh,((x4,x7),U),⟨rfl,trivial⟩,prm,(Option.some.inj k).symm,V,trivial⟩
        · rintro⟨t,aq⟩ cY cZ I ⟨rfl,ab,_⟩
          refine q8 ?_
          refine zy ?_
          refine ze c ?_
          refine ze (vi f) ?_
          refine ze (vi m) ?_
          obtain⟨s,bA,d⟩:=zt d
          refine z5z (cs:=[]) (vs:=[c,(vi f),(vi m)]) (φ:=fun v=>v= .tuple #[(vi s.1),(vi s.2)]) rfl zq4 rfl rfl (fun bB ar au=>z3d (za8 ((z9d 0 rfl ab ar au):VRep (cz (zx .u64)) bB c t.2)) bA) fun c0 bC=>?_
          obtain rfl:=bC
          refine ze (.tuple #[(vi s.1),(vi s.2)]) ?_
          refine q9 (qx rfl rfl) ?_
          refine q9 (qx rfl rfl) ?_
          refine zh (vi s.1) ?_
          refine zh (vi s.2) ?_
          refine za ?_
          obtain⟨n,k,d⟩:=zt d
          refine qo (γ:=(Int×Int×List Int)×Frag) (rs [11,13,49,61]) (fun g=>[(11,(vi g.1.1)),(12,(vi g.1.2.1))]) (fun g=>[g.2]++A) (fun g R=>n=g.1∧ORep (zx .u64) R g.2 c g.1.2.2∧True) ?_ ?_
          · refine q8 ?_
            refine zy ?_
            refine ze (vi s.2) ?_
            refine q9 (ax rfl rfl) ?_
            refine za ?_
            refine zz rfl k (fun k=>?_) (fun k=>?_)
            · refine q8 ?_
              refine zy ?_
              refine ze c ?_
              refine ze (vi f) ?_
              refine ze (vi m) ?_
              obtain⟨bD,bE,k⟩:=zt k
              refine di (Oc:=[aq]) (Or:=[]++A) (cs:=[]) (vs:=[c,(vi f),(vi m)]) rfl zpa rfl rfl ((pk 0 rfl (List.Perm.refl _))) (z3c ab bE) fun c1 c2 b6 av bF=>?_
              obtain⟨bG,rfl,rfl,bH⟩:=bF
              refine za ?_
              refine q8 ?_
              refine zy ?_
              refine ze (vi m) ?_
              obtain⟨bI,k⟩:=zb k
              refine q9 (u7 rfl rfl bI) ?_
              refine ze (vi s.1) ?_
              refine ze (vi f) ?_
              obtain⟨bJ,k⟩:=zb k
              refine q9 (u7 rfl rfl bJ) ?_
              obtain⟨bK,k⟩:=zb k
              refine q9 (u7 rfl rfl bK) ?_
              refine zh (vi ((m-1)-(s.1-f))) ?_
              refine za ?_
              refine zy ?_
              refine zh (vi 1) ?_
              refine za ?_
              exact⟨dkt,av,jh,(((m-1)-(s.1-f),1,bD),bG),⟨rfl,rfl,trivial⟩,prm,(Option.some.inj k).symm,bH,trivial⟩
            · refine qb ?_
              exact⟨dkt,(RH.le.refl _),jh,((s.1,s.2,t.2),aq),⟨rfl,rfl,trivial⟩,prm,(Option.some.inj k).symm,ab,trivial⟩
          · rintro⟨n,aw⟩ c3 c4 K ⟨rfl,ay,_⟩
            obtain⟨bL,k,d⟩:=zt d
            refine qo (γ:=(List Int)×Frag) (rs [61,73]) (fun g=>[]) (fun g=>[g.2]++A) (fun g R=>bL=Ex.go g.1∧ORep (zx .u64) R g.2 c g.1∧True) ?_ ?_
            · refine q8 ?_
              refine zy ?_
              refine ji (v:=(.bool x5)) rfl (z8 rfl) ?_
              refine ji (v:=(.bool x5)) rfl (z8 rfl) ?_
              refine qp rfl rfl rfl rfl (fun p=>qh (v:=(.bool x6)) (z8 rfl)) fun c5 bM=>?_
              refine ji rfl (dh rfl (fun hb=>(bM.1 (zl rfl hb))) rfl) ?_
              refine ji (v:=(.bool (x5&&x6))) rfl (z8 rfl) ?_
              refine qp rfl rfl rfl rfl (fun p=>qh (v:=(vi n.2.1)) (z8 rfl)) fun c6 bN=>?_
              refine qp rfl rfl rfl rfl (fun p=>qh (ax (bN.1 (zl rfl p)) rfl)) fun c7 bO=>?_
              refine ji rfl (dh rfl (fun hb=>(bO.1 (zl rfl hb))) rfl) ?_
              refine za ?_
              refine zz rfl k (fun k=>?_) (fun k=>?_)
              · refine q8 ?_
                refine zy ?_
                refine ze c ?_
                refine ze (vi f) ?_
                refine ze (vi m) ?_
                obtain⟨aA,aB,k⟩:=zt k
                refine di (Oc:=[aw]) (Or:=[]++A) (cs:=[]) (vs:=[c,(vi f),(vi m)]) rfl zq6 rfl rfl ((pk 0 rfl (List.Perm.refl _))) (z1e ay aB) fun b7 b8 bP M aC=>?_
                obtain⟨O,rfl,rfl,W⟩:=aC
                refine za ?_
                refine zz rfl k (fun k=>?_) (fun k=>?_)
                · refine qi ?_
                  replace d:=z04 k d
                  obtain rfl:=Option.some.inj d
                  refine wz (D:=[]) (J:=[]) (O':=[O]) (rs:=[]) (vs:=[]) (((aa.trans I).trans K).trans M) ((pk 0 rfl (List.Perm.refl _))) rfl trivial ?_
                  exact⟨O,rfl,rfl,W⟩
                · refine qb ?_
                  exact⟨dkt,M,jh,(aA.2,O),trivial,prm,(Option.some.inj k).symm,W,trivial⟩
              · refine qb ?_
                exact⟨dkt,(RH.le.refl _),jh,(n.2.2,aw),trivial,prm,(Option.some.inj k).symm,ay,trivial⟩
            · rintro⟨x,aD⟩ b9 c8 P ⟨rfl,L,_⟩
              replace d:=z0t d
              refine q8 ?_
              refine q8 ?_
              obtain⟨aE,Q,S,d⟩:=zlf d
              obtain⟨B,aF,d⟩:=zt d
              refine ni 15 [] [phX (vi f),phX (.bool (decide (0<f))),phX (.bool (decide (0<f))),phG (true&&((decide (0<f))==true)) (phX c),phG (true&&((decide (0<f))==true)) (phX (vi f)),phG (true&&((decide (0<f))==true)) (phX (vi (f-1))),phG (true&&((decide (0<f))==true)) ((fun u _=>yt (zx .u64) c x u (f-1).toNat)),phG (true&&((decide (0<f))==true)) (phX (.int .u64 (ix x (f-1)))),phG (true&&((decide (0<f))==true)) (phX c),phG (true&&((decide (0<f))==true)) (phX (vi n.1)),phG (true&&((decide (0<f))==true)) ((fun u _=>yt (zx .u64) c x u n.1.toNat)),phG (true&&((decide (0<f))==true)) (phX (.int .u64 (ix x n.1))),phG (true&&((decide (0<f))==true)) (phX (.bool (B.getD default))),phG (true&&((decide (0<f))==true)) (phX (.bool (!(B.getD default)))),phX (.bool ((decide (0<f))&&(!(B.getD default))))] mixed (by kernel_rfl) (gy ⟨zf,zf,zf,(qg zf),(qg zf),(qg zf),(qg (fun _ _ _ _ h=>h)),(qg zf),(qg zf),(qg zf),(qg (fun _ _ _ _ h=>h)),(qg zf),(qg zf),(qg zf),zf,trivial⟩) ⟨?_,?_,?_,?_,?_,?_,?_,?_,?_,?_,?_,?_,?_,?_,?_,trivial⟩ fun ca w=>?_
              · intro l c9 o y hd
                have a1:l 1=(vi f):=y 1 rfl
                exact zg rfl rfl rfl (zk (z8 a1))
              · rintro l da o y ⟨q,_⟩
                have bR:=q rfl
                exact zg rfl rfl rfl (zk (cu bR rfl))
              · rintro l db o y ⟨q,_⟩
                have bS:=q rfl
                exact zg rfl rfl rfl (zk (z8 bS))
              · rintro l dc o y ⟨q,_⟩
                have a0:l 0=c:=y 0 rfl
                exact zm (Gj:=true) (Bj:=decide (0<f)) rfl rfl rfl (jc (q rfl)) rfl (fun z p=>zk (z8 a0))
              · rintro l dd o y ⟨q,_⟩
                have a1:l 1=(vi f):=y 1 rfl
                exact zm (Gj:=true) (Bj:=decide (0<f)) rfl rfl rfl (jc (q rfl)) rfl (fun z p=>zk (z8 a1))
              · rintro l de o y ⟨q,E,_⟩
                have aG:=q rfl
                exact zm (Gj:=true) (Bj:=decide (0<f)) rfl rfl rfl (jc (E rfl)) rfl (fun z p=>zk (u7 (show l 77=(vi f) from aG.1 (zl rfl p)) rfl (aE (zl z p))))
              · rintro l df o y ⟨q,E,d2,_⟩
                have aI:=q rfl
                have aJ:=E rfl
                exact zm (Gj:=true) (Bj:=decide (0<f)) rfl rfl rfl (jc (d2 rfl)) rfl (fun z p=>qj (i:=(f-1).toNat) gq (show l 76=c from aI.1 (zl rfl p)) (L.mono o) (zi (show l 78=(vi (f-1)) from aJ.1 (zl rfl p)) (Q (zl z p)).1) (zw (Q (zl z p))))
              · rintro l dg o y ⟨q,E,_⟩
                have aK:=q rfl
                exact zm (Gj:=true) (Bj:=decide (0<f)) rfl rfl rfl (jc (E rfl)) rfl (fun z p=>j4 (jl (i:=(f-1).toNat) (j:=0) gp (L.mono o) rfl rfl (aK.1 (zl rfl p)) (zw (Q (zl z p)))) (fun _ _ h=>qa.1 h))
              · rintro l dj o y ⟨q,_⟩
                have a0:l 0=c:=y 0 rfl
                exact zm (Gj:=true) (Bj:=decide (0<f)) rfl rfl rfl (jc (q rfl)) rfl (fun z p=>zk (z8 a0))
              · rintro l dk o y ⟨q,_⟩
                have bU:l 11=(vi n.1):=y 11 rfl
                exact zm (Gj:=true) (Bj:=decide (0<f)) rfl rfl rfl (jc (q rfl)) rfl (fun z p=>zk (z8 bU))
              · rintro l cb o y ⟨q,E,d2,_⟩
                have aL:=q rfl
                have aM:=E rfl
                exact zm (Gj:=true) (Bj:=decide (0<f)) rfl rfl rfl (jc (d2 rfl)) rfl (fun z p=>qj (i:=n.1.toNat) gq (show l 81=c from aL.1 (zl rfl p)) (L.mono o) (zi (show l 82=(vi n.1) from aM.1 (zl rfl p)) (S (zl z p)).1) (zw (S (zl z p))))
              · rintro l cc o y ⟨q,E,_⟩
                have aN:=q rfl
                exact zm (Gj:=true) (Bj:=decide (0<f)) rfl rfl rfl (jc (E rfl)) rfl (fun z p=>j4 (jl (i:=n.1.toNat) (j:=0) gp (L.mono o) rfl rfl (aN.1 (zl rfl p)) (zw (S (zl z p)))) (fun _ _ h=>qa.1 h))
              · rintro l X o y ⟨q,E,d2,d3,_⟩
                have aO:phG (true&&((decide (0<f))==true)) (phX (.int .u64 (ix x (f-1)))) (l 80) X:=q rfl
                have aP:phG (true&&((decide (0<f))==true)) (phX (.int .u64 (ix x n.1))) (l 84) X:=E rfl
                exact zm (Gj:=true) (Bj:=decide (0<f)) rfl rfl rfl (jc (d2 rfl)) rfl (fun z p=>uk (vs:=[(.int .u64 (ix x (f-1))),(.int .u64 (ix x n.1))]) zak (by simp only [List.map,ev,(show l 80=(.int .u64 (ix x (f-1))) from aO.1 (zl rfl p)),(show l 84=(.int .u64 (ix x n.1)) from aP.1 (zl rfl p))]<;>rfl) ((by have bV:=(af aF (zl z p));exact bg  bV)) (fun _ _ h=>h))
              · rintro l cd o y ⟨q,E,_⟩
                have aQ:=q rfl
                exact zm (Gj:=true) (Bj:=decide (0<f)) rfl rfl rfl (jc (E rfl)) rfl (fun z p=>zk (ai (show l 85=(.bool (B.getD default)) from aQ.1 (zl rfl p))))
              · rintro l ce o y ⟨q,E,_⟩
                have bW:=q rfl
                have aR:=E rfl
                exact zg rfl rfl rfl (zk (dh bW (fun hb=>(show l 86=(.bool (!(B.getD default))) from aR.1 (zl rfl hb))) rfl))
              intro cf aS
              intro cg aT
              intro ch aU
              intro ci cj
              intro ck cl
              intro cm cn
              intro co cp
              intro cq cr
              intro ct cv
              intro cw cx
              intro cy cA
              intro cB cC
              intro cD cE
              intro cF cG
              intro cH aV
              obtain rfl:=Eq.symm aS
              obtain rfl:=Eq.symm aT
              obtain rfl:=Eq.symm aU
              obtain rfl:=Eq.symm aV
              refine za ?_
              refine zz rfl d (fun d=>?_) (fun d=>?_)
              · refine q8 ?_
                refine zy ?_
                refine ze c ?_
                refine ze (vi f) ?_
                refine ze (vi m) ?_
                refine ze (vi n.1) ?_
                obtain⟨C,aW,d⟩:=zt d
                refine di (Oc:=[aD]) (Or:=[]++A) (cs:=[]) (vs:=[c,(vi f),(vi m),(vi n.1)]) rfl zpw rfl rfl ((pk 0 rfl (List.Perm.refl _))) (z2j (L.mono w) aW) fun cI cJ bX ac aX=>?_
                obtain⟨aY,rfl,rfl,aZ⟩:=aX
                refine zh (vi C.1) ?_
                refine za ?_
                refine q8 ?_
                refine zy ?_
                refine ze (vi C.1) ?_
                refine zh (vi C.1) ?_
                refine za ?_
                refine jf ?_
                exact⟨dkt,((((I.trans K).trans P).trans w).trans ac),jh,(F1,C.1,m,t.1,x5,x6,C.2,aY),Nat.lt_succ_self _,⟨rfl,rfl,rfl,rfl,rfl,trivial⟩,prm,d,aZ,trivial⟩
              · refine qb ?_
                refine q8 ?_
                refine zy ?_
                refine ze c ?_
                refine ze (vi f) ?_
                refine ze (vi m) ?_
                refine ze (vi n.1) ?_
                obtain⟨e,a2,d⟩:=zt d
                refine di (Oc:=[aD]) (Or:=[]++A) (cs:=[]) (vs:=[c,(vi f),(vi m),(vi n.1)]) rfl zp4 rfl rfl ((pk 0 rfl (List.Perm.refl _))) (z4b (L.mono w) a2) fun cK cL bY T a3=>?_
                obtain⟨Y,rfl,rfl,Z⟩:=a3
                refine ze (.tuple #[(vi e.1),(.bool e.2.1)]) ?_
                refine q9 (qx rfl rfl) ?_
                refine q9 (qx rfl rfl) ?_
                refine zh (vi e.1) ?_
                refine zh (.bool e.2.1) ?_
                refine za ?_
                refine q8 ?_
                refine zy ?_
                refine ze (.bool e.2.1) ?_
                refine zh (.bool e.2.1) ?_
                refine za ?_
                refine q8 ?_
                refine zy ?_
                refine ze (vi e.1) ?_
                refine ze (vi f) ?_
                obtain⟨a4,d⟩:=zb d
                refine q9 (u7 rfl rfl a4) ?_
                refine ze (vi m) ?_
                refine ze (vi e.1) ?_
                obtain⟨a5,d⟩:=zb d
                refine q9 (u7 rfl rfl a5) ?_
                refine zh (vi (e.1-f)) ?_
                refine zh (vi (m-e.1)) ?_
                refine za ?_
                refine q8 ?_
                refine zy ?_
                refine ze (vi (m-f)) ?_
                obtain⟨a6,d⟩:=zb d
                refine q9 (z5m rfl rfl a6) ?_
                refine zh (vi ((m-f)/8)) ?_
                refine za ?_
                refine q8 ?_
                refine zy ?_
                refine ze (vi (e.1-f)) ?_
                refine ze (vi (m-e.1)) ?_
                refine q9 (je rfl rfl) ?_
                refine za ?_
                refine zz rfl d (fun d=>?_) (fun d=>?_)
                · refine q8 ?_
                  refine zy ?_
                  refine ze (vi (e.1-f)) ?_
                  refine ze (vi ((m-f)/8)) ?_
                  refine q9 (aj rfl rfl) ?_
                  refine zh (.bool (decide (((m-f)/8)≤(e.1-f)))) ?_
                  refine za ?_
                  refine q8 ?_
                  refine zy ?_
                  refine ze c ?_
                  refine ze (vi f) ?_
                  refine ze (vi e.1) ?_
                  refine ze (vi t.1) ?_
                  obtain⟨a7,a8,d⟩:=zt d
                  refine di (Oc:=[Y]) (Or:=[]++A) (cs:=[]) (vs:=[c,(vi f),(vi e.1),(vi t.1)]) rfl znd rfl rfl ((pk 0 rfl (List.Perm.refl _))) (ih Z a8) fun cM cN bZ ad a9=>?_
                  obtain⟨ba,rfl,rfl,bb⟩:=a9
                  refine za ?_
                  refine zy ?_
                  refine ze (vi e.1) ?_
                  obtain⟨bc,d⟩:=zb d
                  refine q9 (j3 rfl rfl bc) ?_
                  refine zh (vi (e.1+1)) ?_
                  refine za ?_
                  exact⟨dkt,(((((I.trans K).trans P).trans w).trans T).trans ad),jh,(F1,e.1+1,m,t.1,decide (((m-f)/8)≤(e.1-f)),e.2.1,a7,ba),Nat.lt_succ_self _,⟨rfl,rfl,rfl,rfl,rfl,trivial⟩,prm,d,bb,trivial⟩
                · refine q8 ?_
                  refine zy ?_
                  refine ze (vi (m-e.1)) ?_
                  refine ze (vi ((m-f)/8)) ?_
                  refine q9 (aj rfl rfl) ?_
                  refine zh (.bool (decide (((m-f)/8)≤(m-e.1)))) ?_
                  refine za ?_
                  refine q8 ?_
                  refine zy ?_
                  refine ze c ?_
                  refine ze (vi e.1) ?_
                  obtain⟨be,d⟩:=zb d
                  refine q9 (j3 rfl rfl be) ?_
                  refine ze (vi m) ?_
                  refine ze (vi t.1) ?_
                  obtain⟨bf,bh,d⟩:=zt d
                  refine di (Oc:=[Y]) (Or:=[]++A) (cs:=[]) (vs:=[c,(vi (e.1+1)),(vi m),(vi t.1)]) rfl znd rfl rfl ((pk 0 rfl (List.Perm.refl _))) (ih Z bh) fun cO cP b0 ae bi=>?_
                  obtain⟨bj,rfl,rfl,bk⟩:=bi
                  refine za ?_
                  refine zy ?_
                  refine ze (vi e.1) ?_
                  refine zh (vi e.1) ?_
                  refine za ?_
                  exact⟨dkt,(((((I.trans K).trans P).trans w).trans T).trans ae),jh,(F1,f,e.1,t.1,decide (((m-f)/8)≤(m-e.1)),e.2.1,bf,bj),Nat.lt_succ_self _,⟨rfl,rfl,rfl,rfl,rfl,trivial⟩,prm,d,bk,trivial⟩
theorem z4t{N:Nat}{R:RH}{data:List Int}{c:Value}{fC:Frag}(e:ORep (zx .u64) R fC c data){a:Int}{b:Int}{limit:Int}{r:List Int}(f:uo N N data a b limit=some r):CallG prog 75 #[c,(vi a),(vi b),(vi limit)] R [fC] (fun v R' O'=> ∃ d,v= .tuple #[]∧O'=[d]∧ORep (zx .u64) R' d c r):=z3q N e f
theorem z9g{N:Nat}{R:RH}{x:List Int}{a:Value}{fJ:Frag}(c:ORep (zx .u64) R fJ a x){r:List Int}(b:z14 N x=some r):CallG prog 53 #[a] R [fJ] (fun v R' O'=> ∃ d,v= .tuple #[]∧O'=[d]∧ORep (zx .u64) R' d a r):=by
 refine gu (args:=[a]) func53 rfl rfl fun A=>?_;rw [z14] at b;refine zq (ze a (q9 (z3i rfl underlying71 rfl c) (zh (vi (↑x.length:Int)) (za (zy (ze a (ze (vi (↑x.length:Int)) (ze (vi (↑x.length:Int)) (q9 (z5p underlying3 underlying55 rfl) ?_)))))))))
 obtain⟨k,l,b⟩:=zt b;refine ja rfl zoe rfl (z7s  l) fun p q e m=>?_;obtain rfl:=m;obtain⟨s,n,b⟩:=zt b
 refine di (Oc:=[fJ]) (Or:=[]++A) (cs:=[]) (vs:=[a,(vi 0),(vi (↑x.length:Int)),(vi k)]) rfl znd rfl rfl ((pk 0 rfl (List.Perm.refl _))) (z4t (c.mono e) n) fun t o j f h=>?_;obtain⟨g,rfl,rfl,i⟩:=h;refine za ?_;show z7u _ _ _ _ _ .ret _ [] _ _;obtain rfl:=Option.some.inj b
 refine wz (D:=[]) (J:=[]) (O':=[g]) (rs:=[]) (vs:=[]) (e.trans f) ((pk 0 rfl (List.Perm.refl _))) rfl trivial ?_;exact⟨g,rfl,rfl,i⟩
theorem zqe:Enters prog 53:=enters_of func53 rfl (by kernel_rfl)
theorem z7y{N:Nat}{R:RH}{s:List Int}{b:Value}{fD:Frag}(y:ORep (zx .u64) R fD b s){r:(List Int)}(o:z0d N s=some r):CallG prog 54 #[b] R [fD] (fun v R' O'=> ∃ u0,v=u0∧O'=[]∧VRep (tSl false (zx .u64)) R' u0 r):=by
 refine gu (args:=[b]) func54 rfl rfl fun A=>?_;rw [z0d] at o;refine zq (zh vs0 (za (q8 (zq (ze b (q9 (z3i rfl underlying71 rfl y) (q9 (je rfl rfl) (za (zz rfl o (fun o=>?_) (fun o=>?_))))))))));refine zq (ze b (zh b (za (z0o (i:=0) rfl y fun R2 aC h4=>?_))))
 have h5:VRep (tSl false (zx .u64)) R2 b s:=(za8 h4);refine qi ?_;obtain rfl:=Option.some.inj o;refine wz (D:=[]) (J:=[]) (O':=[]) (rs:=[.tmp 2]) (vs:=[b]) aC ((List.Perm.refl _)) rfl ⟨rfl,trivial⟩ ?_;exact⟨b,rfl,rfl,h5⟩;refine qb ?_;obtain⟨q7,c,o⟩:=zt o
 refine qo (γ:=Unit) (rs [2,6,10,60]) (fun g=>[]) (fun g=>[fD]++A) (fun g R=>q7=Ex.go g∧True) ?_ ?_;refine zq (zh (vi 1) (za (qc (jb (γ:=Nat×Int) (rs [2,6,10,60]) (fun g=>[(3,(vi g.2))]) (fun g=>[fD]++A) (fun g R=>o5 N s g.1 g.2=some q7∧True) (fun g=>g.1) (N,1) prm ⟨c,trivial⟩ ?_))));clear c
 rintro⟨Q,a⟩ a0 bg m ⟨c,_⟩;rcases Q with _|Q;exact qw c;replace c:o5 N s (Q+1) a=some q7:=c;rw [o5] at c;refine q8 (zq (ze (vi a) (ze b (q9 (z3i rfl underlying71 rfl (y.mono m)) (q9 (je rfl rfl) (za (zz rfl c (fun c=>?_) (fun c=>?_))))))))
 refine qb (q8 (qc (q8 (z6f 10 mixed (by kernel_rfl) (by kernel_rfl) ?_))));refine rq (v:=b) (z8 rfl) ?_;refine rq (v:=(vi a)) (z8 rfl) ?_;obtain⟨X,c⟩:=zb c;refine zd8 (z8u (i:=a.toNat) gq rfl (y.mono m) (zi rfl X.1) (zw X)) fun bh aE=>?_
 refine rq (z0x (zae (i:=a.toNat) (j:=0) gp (y.mono m) rfl rfl aE (zw X))) ?_;refine rq (v:=b) (z8 rfl) ?_;refine rq (v:=(vi a)) (z8 rfl) ?_;obtain⟨aF,c⟩:=zb c;refine rq (u7 rfl rfl aF) ?_;obtain⟨Y,c⟩:=zb c
 refine zd8 (z8u (i:=(a-1).toNat) gq rfl (y.mono m) (zi rfl Y.1) (zw Y)) fun bi aG=>?_;refine rq (z0x (zae (i:=(a-1).toNat) (j:=0) gp (y.mono m) rfl rfl aG (zw Y))) ?_;refine rq (ax rfl rfl) ?_;intro bj C;refine za (zz rfl c (fun c=>?_) (fun c=>?_))
 refine zq (ze b (ze (vi a) ?_));obtain⟨Z,c⟩:=zb c;refine z2g rfl (zk (z8i (lo:=a.toNat) (hi:=s.length) gq rfl (y.mono (m.trans C)) (.inr ⟨_,congrArg some (zi rfl Z.1)⟩) (.inl ⟨rfl,rfl,rfl⟩) (z7a Z) (z3w Z))) fun bk bl V aH=>?_;obtain rfl:=Eq.symm aH;refine zh (z7f 1 b a.toNat s.length) (za ?_)
 obtain⟨f,k,c⟩:=zt c;refine qo (γ:=(Int×List Int)×Frag) (rs [3,4,5,6,29,54]) (fun g=>[(3,(vi g.1.1))]) (fun g=>[g.2]++A) (fun g R=>f=g.1∧ORep (zx .u64) R g.2 b g.1.2∧True) ?_ ?_
 refine zq (zh (vi 1) (za (qc (jb (γ:=Nat×Int×Int×(List Int)×Frag) (rs [3,4,5,6,29,54]) (fun g=>[(3,(vi g.2.1)),(5,(vi g.2.2.1))]) (fun g=>[g.2.2.2.2]++A) (fun g R=>mo N s a g.1 g.2.1 g.2.2.1 g.2.2.2.1=some f∧ORep (zx .u64) R g.2.2.2.2 b g.2.2.2.1∧True) (fun g=>g.1) (N,a,1,s,fD) prm ⟨k,(y.mono ((m.trans C).trans V)),trivial⟩ ?_))))
 clear k;rintro⟨S,z,d,t,ac⟩ a1 bm ad ⟨k,w,_⟩;rcases S with _|S;exact qw k;replace k:mo N s a (S+1) z d t=some f:=k;rw [mo] at k
 refine q8 (zq (ze (vi d) (ze (z7f 1 b a.toNat s.length) (z2g rfl (zk (ze3 rfl underlying71 rfl w)) fun bn bo e aI=>?_))));obtain rfl:=Eq.symm aI;refine q9 (je rfl rfl) (za (zz rfl k (fun k=>?_) (fun k=>?_)));refine qb ?_;obtain⟨U,p,k⟩:=zt k
 refine qo (γ:=(Int×List Int)×Frag) (rs [3,4,35,54]) (fun g=>[(3,(vi g.1.1))]) (fun g=>[g.2]++A) (fun g R=>U=g.1∧ORep (zx .u64) R g.2 b g.1.2∧True) ?_ ?_;refine qc (q8 ?_);obtain⟨I,aJ,K,p⟩:=zlf p
 refine ni 10 [] [phX (z7f 1 b a.toNat s.length),phX (vi d),(fun u _=>yt (zx .u64) b t u (a+d).toNat),phX (.int .u64 (ix t (a+d))),phX (z7f 1 b a.toNat s.length),phX (vi d),phX (vi (d-1)),(fun u _=>yt (zx .u64) b t u (a+(d-1)).toNat),phX (.int .u64 (ix t (a+(d-1)))),phX (.bool (decide ((ix t (a+d))≠(ix t (a+(d-1))))))] mixed (by kernel_rfl) (gy ⟨zf,zf,(fun _ _ _ _ h=>h),zf,zf,zf,zf,(fun _ _ _ _ h=>h),zf,zf,trivial⟩) ⟨?_,?_,?_,?_,?_,?_,?_,?_,?_,?_,trivial⟩ fun bp x=>?_
 intro l bq q H hd;exact zg rfl rfl rfl (zk (z8 (H 4 rfl)));intro l br q H hd;exact zg rfl rfl rfl (zk (z8 (H 5 rfl)));rintro l bs q H ⟨L,d1,_⟩
 exact zg rfl rfl rfl (z3z (T:=(zx .u64)) (lo:=a.toNat) (hi:=s.length) (n:=(a+d).toNat) gq (L rfl) ((w.mono e).mono q) (zi (d1 rfl) I.2.1) (ze0 I) (zdx I) (zav I));rintro l bt q H ⟨L,_⟩
 exact zg rfl rfl rfl (j4 (jl (i:=(a+d).toNat) (j:=0) gp ((w.mono e).mono q) rfl rfl (L rfl) (zw (zdu I))) (fun _ _ h=>qa.1 h));intro l bu q H hd;exact zg rfl rfl rfl (zk (z8 (H 4 rfl)));intro l bv q H hd;exact zg rfl rfl rfl (zk (z8 (H 5 rfl)));rintro l bw q H ⟨L,_⟩
 exact zg rfl rfl rfl (zk (u7 (L rfl) rfl aJ));rintro l bx q H ⟨L,d1,_⟩;exact zg rfl rfl rfl (z3z (T:=(zx .u64)) (lo:=a.toNat) (hi:=s.length) (n:=(a+(d-1)).toNat) gq (L rfl) ((w.mono e).mono q) (zi (d1 rfl) K.2.1) (ze0 K) (zdx K) (zav K));rintro l bz q H ⟨L,_⟩
 exact zg rfl rfl rfl (j4 (jl (i:=(a+(d-1)).toNat) (j:=0) gp ((w.mono e).mono q) rfl rfl (L rfl) (zw (zdu K))) (fun _ _ h=>qa.1 h));rintro l bA q H ⟨L,d1,_⟩;exact zg rfl rfl rfl (zk (ww (L rfl) (d1 rfl)));intro bB aL bC aM bD bE bF aN bG aO bH aP bI aQ bJ bK bL aR bM aS;obtain rfl:=Eq.symm aL
 obtain rfl:=Eq.symm aM;obtain rfl:=Eq.symm aN;obtain rfl:=Eq.symm aO;obtain rfl:=Eq.symm aP;obtain rfl:=Eq.symm aQ;obtain rfl:=Eq.symm aR;obtain rfl:=Eq.symm aS;refine za (zz rfl p (fun p=>?_) (fun p=>?_));refine zq (ze b (ze (vi z) (ze (z7f 1 b a.toNat s.length) (ze (vi d) ?_))));obtain⟨M,p⟩:=zb p
 refine z2g rfl (z3z (T:=(zx .u64)) (lo:=a.toNat) (hi:=s.length) (n:=(a+d).toNat) gq rfl (w.mono (e.trans x)) (zi rfl M.2.1) (ze0 M) (zdx M) (zav M)) fun bN bO E aT=>?_;refine z8k (i:=(a+d).toNat) (j:=0) rfl gp (w.mono ((e.trans x).trans E)) rfl rfl aT (zw (zdu M)) fun a2 af=>?_
 obtain rfl:=qa.1 af;obtain⟨O,p⟩:=zb p;refine z2c (i:=z.toNat) rfl gq rfl (w.mono ((e.trans x).trans E)) (zi rfl O.1) (zw O) fun a3 ag=>?_;refine z5h (i:=z.toNat) (j:=0) gp (w.mono ((e.trans x).trans E)) rfl rfl ag (zw O) rfl (qa.2 rfl) fun ah ai=>?_
 refine za (zy (ze (vi z) ?_));obtain⟨aj,p⟩:=zb p;refine q9 (j3 rfl rfl aj) (zh (vi (z+1)) (za ?_));exact⟨dkt,(x.trans E),jh,((z+1,(up t z (ix t (a+d)))),ah),⟨rfl,trivial⟩,prm,(Option.some.inj p).symm,ai,trivial⟩;refine qb ?_
 exact⟨dkt,x,jh,((z,t),ac),⟨rfl,trivial⟩,prm,(Option.some.inj p).symm,(w.mono (e.trans x)),trivial⟩;rintro⟨U,aU⟩ a4 bP ak ⟨rfl,aV,_⟩;refine zy (ze (vi d) ?_);obtain⟨al,k⟩:=zb k;refine q9 (j3 rfl rfl al) (zh (vi (d+1)) (za ?_))
 exact⟨dkt,(e.trans ak),jh,(S,U.1,d+1,U.2,aU),Nat.lt_succ_self _,⟨rfl,rfl,trivial⟩,prm,k,aV,trivial⟩;refine jf ?_;exact⟨dkt,(ad.trans e),jh,((z,t),ac),⟨rfl,trivial⟩,prm,(Option.some.inj k).symm,(w.mono e),trivial⟩;rintro⟨f,aW⟩ a5 bQ am ⟨rfl,an,_⟩;refine zq (ze b (ze (vi f.1) ?_))
 obtain⟨B,c⟩:=zb c;refine z2g rfl (zk (z8i (lo:=f.1.toNat) (hi:=f.2.length) gq rfl an (.inr ⟨_,congrArg some (zi rfl B.1)⟩) (.inl ⟨rfl,rfl,rfl⟩) (z7a B) (z3w B))) fun a6 a7 P ao=>?_;obtain rfl:=Eq.symm ao
 refine zaf (Oc:=[aW]) (Or:=[]++A) (List.Perm.refl _) (z9e (lo:=f.1.toNat) (hi:=f.2.length) rfl underlying71 zna (an.mono P) (z7a B) (z3w B) rfl) ?_;rintro a8 a9 aX aY ⟨rfl,ba,rfl,rfl,W⟩;refine qz (ze b (ze (vi f.1) ?_));obtain⟨F,c⟩:=zb c
 refine z8w (v:=b) (lo:=(0:Int).toNat) (hi:=f.1.toNat) (mx:=(capOf b)) rfl gq rfl W (.inl ⟨rfl,rfl⟩) (.inr ⟨_,congrArg some (zi rfl (zc9 F))⟩) (.inl ⟨rfl,rfl⟩) (z7a F) (z3w F) (Nat.le_trans (z3w F) (zaj W)) (Nat.le_refl _) fun G ap aB=>?_;refine zh G (za (z0o (i:=0) rfl ap fun aq aa ar=>?_))
 have au:VRep (tSl false (zx .u64)) aq G (cut (z1x f.2 f.1.toNat (List.replicate (f.2.length-f.1.toNat) (0:Int))) 0 f.1):=(za8 ar);refine qi ?_;replace o:=z04 c o;obtain rfl:=Option.some.inj o
 refine wz (D:=[]) (J:=[]) (O':=[]) (rs:=[.tmp 2]) (vs:=[G]) (((((m.trans C).trans V).trans am).trans P).trans aa) ((List.Perm.refl _)) rfl ⟨rfl,trivial⟩ ?_;exact⟨G,rfl,rfl,au⟩;refine qb (zy (ze (vi a) ?_));obtain⟨av,c⟩:=zb c;refine q9 (j3 rfl rfl av) (zh (vi (a+1)) (za ?_))
 exact⟨dkt,C,jh,(Q,a+1),Nat.lt_succ_self _,⟨rfl,trivial⟩,prm,c,trivial⟩;refine jf ?_;exact⟨dkt,m,jh,(),trivial,prm,(Option.some.inj c).symm,trivial⟩;rintro o6 bb R8 aw ⟨rfl,_⟩;replace o:=z0t o;refine zq (ze b (zh b (za (z0o (i:=0) rfl (y.mono aw) fun ay ab az=>?_))))
 have aA:VRep (tSl false (zx .u64)) ay b s:=(za8 az);refine qi ?_;obtain rfl:=Option.some.inj o;refine wz (D:=[]) (J:=[]) (O':=[]) (rs:=[.tmp 2]) (vs:=[b]) (aw.trans ab) ((List.Perm.refl _)) rfl ⟨rfl,trivial⟩ ?_;exact⟨b,rfl,rfl,aA⟩
theorem zqc:Enters prog 54:=enters_of func54 rfl (by kernel_rfl)
theorem z7e{N:Nat}{R:RH}{x:Sa}{n:Value}(h:VRep (zu false false) R n x){r:(List Int)}(d:lw N x=some r):CallP prog 40 #[n] R (fun v R'=>VRep (tSl false (zx .u64)) R' v r):=by
 refine ql (args:=[n]) func40 rfl rfl fun A=>?_;rw [lw] at d;refine zq (xy (T:=(zu false false)) rfl rfl rfl h fun v1 R3 j h5 h2=>?_);refine zh vs0 (qz (zh vs0 (za ?_)));obtain⟨W,a,d⟩:=zt d
 refine qo (γ:=(List Int)×Value×Frag) (rs [3,4,5,7,8,36]) (fun g=>[(3,g.2.1)]) (fun g=>[g.2.2]++A) (fun g R=>W=g.1∧ORep (zx .u64) R g.2.2 g.2.1 g.1∧True) ?_ ?_;refine zq (q9 (jk z0i rfl rfl h5 (h.mono j)) (q9 (jk z0i rfl rfl h5 (h.mono j)) (q9 (fw (fs:=[n]) (cs:=[]) rfl rfl) ?_)))
 obtain⟨p,ab,a⟩:=zt a;refine ja rfl zls rfl (z1c (h.mono j) (za5 (fs:=[n]) zm8 fun R1 hq z0 u0 y k0 hy=>by obtain rfl:=qa.1 k0;exact CallP.mono (z05 ((h.mono j).mono hq) hy) fun v R2 _ hv=>fq.2 hv) ab) fun aJ aK k F=>?_
 refine q9 (qm rfl underlying33 rfl (jq F)) (ze (vi 0) (za (qc (z9h ?_))))
 refine jb (γ:=Nat×(List Int)×Int×Value×Frag) (rs [3,4,5,7,8,9,14,36]) (fun g=>[(3,g.2.2.2.1),(14,(vi g.2.2.1))]) (fun g=>[g.2.2.2.2]++A) (fun g R=>xc N x p g.1 g.2.1 g.2.2.1=some W∧ORep (zx .u64) R g.2.2.2.2 g.2.2.2.1 g.2.1∧True) (fun g=>g.1) (N,[],0,vs0,emp) prm ⟨a,(z5n (T:=(zx .u64))),trivial⟩ ?_
 clear a;rintro⟨q,s,l,G,C⟩ aL aM e ⟨a,H,_⟩;rcases q with _|q;exact qw a;replace a:xc N x p (q+1) s l=some W:=a;rw [xc] at a;refine zq (q9 (je rfl rfl) (za (q8 (zz rfl a (fun a=>?_) (fun a=>?_)))));refine qb (q8 (qc (zq ?_)))
 obtain⟨I,a⟩:=zb a;refine kz (i:=l.toNat) rfl z00 rfl (jq (F.mono e)) (zi rfl I.1) (zw I) fun aN ac=>?_;refine j5 rfl ty3 rfl ac fun aO ad=>?_;obtain rfl:=qa.1 ad;refine zh (vi (ix p l)) (qz (zh (.int .u64 0) (za ?_)));obtain⟨c,b,a⟩:=zt a
 refine qo (γ:=Int) (rs [6,7,8,9,18,31]) (fun g=>[(6,(.int .u64 g))]) (fun g=>[C]++A) (fun g R=>c=g∧True) ?_ ?_;refine zq (q9 (jk z0i rfl rfl (h5.mono (k.trans e)) (h.mono ((j.trans k).trans e))) (ze (vi (ix p l)) ?_));obtain⟨m,ae,b⟩:=zt b
 refine ja rfl zie rfl (mh (h.mono ((j.trans k).trans e)) ae) fun aP aQ K L=>?_
 refine q9 (qm rfl underlying33 rfl (jq L)) (ze (vi 0) (za (qc (jb (γ:=Nat×Int×Int) (rs [6,7,8,9,22,31]) (fun g=>[(6,(.int .u64 g.2.1)),(22,(vi g.2.2))]) (fun g=>[C]++A) (fun g R=>yz N m g.1 g.2.1 g.2.2=some c∧True) (fun g=>g.1) (N,0,0) prm ⟨b,trivial⟩ ?_))));clear b
 rintro⟨t,o,f⟩ aR aS u ⟨b,_⟩;rcases t with _|t;exact qw b;replace b:yz N m (t+1) o f=some c:=b;rw [yz] at b;refine zq (q9 (je rfl rfl) (za (q8 (zz rfl b (fun b=>?_) (fun b=>?_)))));refine qb (q8 (qc (zq ?_)));obtain⟨M,b⟩:=zb b
 refine kz (i:=f.toNat) rfl z00 rfl (jq (L.mono u)) (zi rfl M.1) (zw M) fun aT af=>?_;refine j5 rfl ty3 rfl af fun aU ag=>?_;obtain rfl:=qa.1 ag;refine zh (vi (ix m f)) (za (zy (ze (.int .u64 o) (ze (vi (ix m f)) ?_))));obtain⟨ah,b⟩:=zb b;refine q9 (z9y rfl rfl ah) ?_
 obtain⟨ai,b⟩:=zb b;refine q9 (zi3 rfl rfl ai) (zh (.int .u64 (ior o (ib .u64 (1:Int) (ix m f)))) (za (zy ?_)));obtain⟨aj,b⟩:=zb b;refine q9 (j3 rfl rfl aj) (ze (vi (f+1)) (za ?_))
 exact⟨dkt,(RH.le.refl _),jh,(t,ior o (ib .u64 (1:Int) (ix m f)),f+1),Nat.lt_succ_self _,⟨rfl,rfl,trivial⟩,prm,b,trivial⟩;refine jf ?_;exact⟨dkt,(K.trans u),jh,o,⟨rfl,trivial⟩,prm,(Option.some.inj b).symm,trivial⟩;rintro c aV aW w ⟨rfl,_⟩
 refine zy (ze G (ze (.int .u64 c) (oh (T:=(zx .u64)) (X:=([c]:List Int)) (ps:=[(0,(.int .u64 c))]) (css:=[[(.int .u64 c)]]) rfl underlying71 zna rfl rfl (jy ⟨rfl,trivial⟩) rfl rfl (by decide) fun ak aX E al=>?_)));refine uu (i:=0) rfl al fun am z an=>?_
 have ao:VRep (tSl true (zx .u64)) am ak ([c]:List Int):=(z0f an E);obtain⟨O,a⟩:=zb a;refine z4f (i:=0) (X:=s) (Y:=([c]:List Int)) rfl underlying71 zna rfl rfl rfl (H.mono (w.trans z)) (jq (Sub.v (B:=(tSl false (zx .u64))) (yo Sub.refl (fun _=>rfl)) ao)) O.1 O.2 fun P ap aq=>?_
 refine zh P (za (zy ?_));obtain⟨ar,a⟩:=zb a;refine q9 (j3 rfl rfl ar) (ze (vi (l+1)) (za ?_));exact⟨dkt,(w.trans z),jh,(q,(s++([c]:List Int)),l+1,P,ap),Nat.lt_succ_self _,⟨rfl,rfl,trivial⟩,prm,a,aq,trivial⟩;refine jf ?_
 exact⟨dkt,(k.trans e),jh,(s,G,C),⟨rfl,trivial⟩,prm,(Option.some.inj a).symm,H,trivial⟩;rintro⟨W,Z,au⟩ aY R7 av ⟨rfl,aw,_⟩;refine zq (ze Z ?_);obtain⟨aZ,ax,d⟩:=zt d
 refine di (Oc:=[au]) (Or:=[]++A) (cs:=[]) (vs:=[Z]) rfl zqe rfl rfl ((pk 0 rfl (List.Perm.refl _))) (z9g aw ax) fun a0 a1 aD Q ay=>?_;obtain⟨az,rfl,rfl,aA⟩:=ay;refine qz (ze Z ?_);obtain⟨a2,aB,d⟩:=zt d
 refine di (Oc:=[az]) (Or:=[]++A) (cs:=[]) (vs:=[Z]) rfl zqc rfl rfl ((pk 0 rfl (List.Perm.refl _))) (z7y aA aB) fun S a3 aE U aC=>?_;obtain⟨_,rfl,rfl,V⟩:=aC;refine zh S (za (qi ?_));obtain rfl:=Option.some.inj d
 refine qd (D:=[]) (J:=[]) (rs:=[.tmp 2]) (vs:=[S]) (((j.trans av).trans Q).trans U) rfl rfl ⟨rfl,trivial⟩ ?_;exact⟨rfl,V⟩
theorem zpj:Enters prog 40:=enters_of func40 rfl (by kernel_rfl)
theorem zpg: ∀ w,∃ z,(zeroValue 71).run prog w= .ok z w∧z.cells=([.slice none 0 0]:List Value).toArray:=fun w=>⟨vs0,by kernel_rfl,rfl⟩
theorem zq8: ∀ w,(sizeOf 71).run prog w= .ok 1 w:=fun w=>by kernel_rfl
theorem zpy: ∀ w,∃ z,(zeroValue 73).run prog w= .ok z w∧z.cells=([.nilFunc]:List Value).toArray:=fun w=>⟨.nilFunc,by kernel_rfl,rfl⟩
theorem zqm: ∀ w,(sizeOf 73).run prog w= .ok 1 w:=fun w=>by kernel_rfl
theorem zpr: ∀ w,(isAgg 73).run prog w= .ok false w:=fun w=>by kernel_rfl
theorem z6t{N:Nat}{R:RH}{s:(List Int)}{c:Value}(k:VRep (tSl false (zx .u64)) R c s){f:Int→Option Bool}{e:Value}(n:FOk1 prog R e (zx .u64) z3g f){r:Int}(b:z0m N s f=some r):CallP prog 55 #[c,e] R (fun v R'=>v=(vi r)):=by
 refine ql (args:=[c,e]) func55 rfl rfl fun A=>?_;rw [z0m] at b;refine zq (zh (vi 0) (za ?_));obtain⟨o,a,b⟩:=zt b;refine qo (γ:=Unit) (rs [4,19]) (fun g=>[]) (fun g=>[]++A) (fun g R=>o=Ex.go g∧True) ?_ ?_
 refine zq (ze c (q9 (qm rfl underlying71 rfl (jq k)) (ze (vi 0) (za (qc (jb (γ:=Nat×Int) (rs [4,6,8,19]) (fun g=>[(8,(vi g.2))]) (fun g=>[]++A) (fun g R=>xg N s f g.1 g.2=some o∧True) (fun g=>g.1) (N,0) prm ⟨a,trivial⟩ ?_))))));clear a;rintro⟨m,d⟩ y H h ⟨a,_⟩;rcases m with _|m
 exact qw a;replace a:xg N s f (m+1) d=some o:=a;rw [xg] at a;refine zq (q9 (je rfl rfl) (za (q8 (zz rfl a (fun a=>?_) (fun a=>?_)))));refine qb (q8 (qc (zq (ze (vi d) (zh (vi d) (qz (ze e (ze c (ze (vi d) ?_)))))))))
 obtain⟨l,a⟩:=zb a;refine kz (i:=d.toNat) rfl gq rfl (jq (k.mono h)) (zi rfl l.1) (zw l) fun z p=>?_;refine j5 rfl gp rfl p fun B q=>?_;obtain rfl:=qa.1 q;obtain⟨C,t,a⟩:=zt a;refine z6o rfl rfl rfl ((n.mono h) _ (RH.le.refl _) (ix s d) _ _ (qa.2 rfl) t) fun E F j u=>?_
 obtain rfl:=fq.1 u;refine za (zz rfl a (fun a=>?_) (fun a=>?_));refine zq (ze (vi d) (zh (vi d) (za (qi ?_))));replace b:=z04 a b;obtain rfl:=Option.some.inj b;refine qd (D:=[]) (J:=[]) (rs:=[.tmp 4]) (vs:=[(vi d)]) (h.trans j) rfl rfl ⟨rfl,trivial⟩ ?_;exact⟨rfl,rfl⟩
 refine qb (zy ?_);obtain⟨w,a⟩:=zb a;refine q9 (j3 rfl rfl w) (ze (vi (d+1)) (za ?_));exact⟨dkt,j,jh,(m,d+1),Nat.lt_succ_self _,⟨rfl,trivial⟩,prm,a,trivial⟩;refine jf ?_;exact⟨dkt,h,jh,(),trivial,prm,(Option.some.inj a).symm,trivial⟩;rintro I G K x ⟨rfl,_⟩;replace b:=z0t b
 refine zq (zh (vi (-1)) (za (qi ?_)));obtain rfl:=Option.some.inj b;refine qd (D:=[]) (J:=[]) (rs:=[.tmp 4]) (vs:=[(vi (-1))]) x rfl rfl ⟨rfl,trivial⟩ ?_;exact⟨rfl,rfl⟩
theorem zqq:Enters prog 55:=enters_of func55 rfl (by kernel_rfl)
theorem z5s{N:Nat}{R:RH}{s:(List Int)}{a:Value}(d:VRep (tSl false (zx .u64)) R a s){f:Int→Option Bool}{b:Value}(e:FOk1 prog R b (zx .u64) z3g f){r:Bool}(c:sw N s f=some r):CallP prog 42 #[a,b] R (fun v R'=>v=(.bool r)):=by
 refine ql (args:=[a,b]) func42 rfl rfl fun A=>?_;rw [sw] at c;refine zq (zh (.bool false) (qz (ze a (ze b ?_))));obtain⟨h,i,c⟩:=zt c;refine ja rfl zqq rfl (z6t d e i) fun k l g j=>?_;obtain rfl:=j
 refine q9 (aj rfl rfl) (zh (.bool (decide (0≤h))) (za (qi ?_)));obtain rfl:=Option.some.inj c;refine qd (D:=[]) (J:=[]) (rs:=[.tmp 4]) (vs:=[(.bool (decide (0≤h)))]) g rfl rfl ⟨rfl,trivial⟩ ?_;exact⟨rfl,rfl⟩
theorem zq5{a:Bool}:TyOk prog 71 (tSl a (zx .u64)):=by
 obtain⟨i,hi,b⟩: ∃ i,prog.info? 71=some i∧i.size=1:=si (by kernel_rfl);exact z2n underlying71 hi rfl b
theorem zpb:Enters prog 42:=enters_of func42 rfl (by kernel_rfl)
theorem z81{N:Nat}{R:RH}{set:Int}{p0_:Int}{a:Value}(c:PRep (zx .u64) R a p0_){r:Bool}(b:z0k N set p0_=some r):CallP prog 43 #[(.int .u64 set),a] R (fun v R'=>v=(.bool r)):=by
 refine ql (args:=[(.int .u64 set),a]) func43 rfl rfl fun A=>?_;rw [z0k] at b;refine zq (zh (.bool false) (qz (ze (.int .u64 set) (j5 rfl gp rfl c fun f d=>?_))));obtain rfl:=qa.1 d;obtain⟨e,b⟩:=zb b
 refine q9 (zc6 rfl rfl e) (q9 (ax rfl rfl) (zh (.bool (decide ((z4v set p0_)=0))) (za (qi ?_))));obtain rfl:=Option.some.inj b;refine qd (D:=[]) (J:=[]) (rs:=[.tmp 3]) (vs:=[(.bool (decide ((z4v set p0_)=0)))]) (RH.le.refl _) rfl rfl ⟨rfl,trivial⟩ ?_;exact⟨rfl,rfl⟩
theorem zp8:Enters prog 43:=enters_of func43 rfl (by kernel_rfl)
theorem zos{u:Value}:TyOk prog 73 (zlk u):=by
 obtain⟨i,hi,a⟩: ∃ i,prog.info? 73=some i∧i.size=1:=si (by kernel_rfl);exact z2n underlying73 hi rfl a
theorem znx:Enters prog 41:=enters_of func41 rfl (by kernel_rfl)
theorem z7o{N:Nat}(F:Nat): ∀ {R:RH} {b:Int} {j:Int} {left:Int} {p0_:(List Int)} {e:Value} (s:PRep (tSl false (zx .u64)) R e p0_) {p1_:Int} {k:Value} (t:PRep (zx .i64) R k p1_) {f:Nat} (u:PRep (zlk (.func (.func 41) #[] #[e,k,(.pointer (some ⟨f,0,none⟩))])) R (.pointer (some ⟨f,0,none⟩)) ()) {r:Int×Bool} (d:oo N F b j left p0_ p1_=some r),CallP prog 41 #[(.int .u64 b),(vi j),(vi left),e,k,(.pointer (some ⟨f,0,none⟩))] R (fun v R'=>v= .tuple #[(.int .u64 r.1),(.bool r.2)]):=by
  induction F with
  |zero=>intros;rename_i d;exact qw d
  |succ F ih=>
    intro R b j left p0_ e s p1_ k t f u r d
    refine ql (args:=[(.int .u64 b),(vi j),(vi left),e,k,(.pointer (some ⟨f,0,none⟩))]) func41 rfl rfl fun A=>?_
    rw [oo] at d
    refine q8 ?_
    refine zy ?_
    refine zal (T:=(zx .u64)) rfl rfl (qa.2 rfl) fun z R3 q P=>?_
    refine zh (.int .u64 0) ?_
    refine zh (.bool false) ?_
    refine za ?_
    refine q8 ?_
    refine q8 ?_
    refine zy ?_
    refine ze (vi left) ?_
    refine q9 (ax rfl rfl) ?_
    refine za ?_
    refine zz rfl d (fun d=>?_) (fun d=>?_)
    · refine q8 ?_
      obtain⟨O,c7,d⟩:=zt d
      refine ni 7 [] [phX (.int .u64 b),phR (tSl false (zx .u64)) p0_,phX (.func (.func 43) #[] #[z]),phX (.bool O),phX (.bool (!O)),phX (.int .u64 b),phX (.bool (!O))] mixed (by kernel_rfl) (gy ⟨zf,z1w,zf,zf,zf,zf,zf,trivial⟩) ⟨?_,?_,?_,?_,?_,?_,?_,trivial⟩ fun R8 Q=>?_
      · intro l S a m C
        have I:l 6=z:=m 6 rfl
        exact zg rfl rfl rfl (j4 (ma gp I (P.mono a)) (fun _ _ h=>qa.1 h))
      · intro l U a m C
        have a3:l 3=e:=m 3 rfl
        exact zg rfl rfl rfl (ma zq5 a3 ((s.mono q).mono a))
      · intro l V a m C
        have I:l 6=z:=m 6 rfl
        exact zg rfl rfl rfl (zk (fw (fs:=[]) (cs:=[z]) rfl (by simp only [List.map,ev,I]<;>rfl)))
      · rintro l W a m ⟨n,w,_⟩
        have X:=n rfl
        have Y:l 18=(.func (.func 43) #[] #[z]):=w rfl
        exact zg rfl rfl rfl (uk (vs:=[(l 17),(.func (.func 43) #[] #[z])]) zpb (by simp only [List.map,ev,Y]<;>rfl) (z5s X ((za2 (cs:=[z]) zp8 fun R1 hq z0 u0 y k0 hy=>by obtain rfl:=qa.1 k0;exact CallP.mono (z81 (P.mono hq) hy) fun v R2 _ hv=>fq.2 hv).mono a) c7) (fun _ _ h=>h))
      · rintro l Z a m ⟨n,w,_⟩
        have aa:=n rfl
        exact zg rfl rfl rfl (zk (ai aa))
      · rintro l ab a m ⟨n,w,K,L,d4,d5,d6,_⟩
        have af:=n rfl
        exact zg rfl rfl rfl (zk (l9 af))
      · rintro l ag a m ⟨n,w,K,L,d4,d5,d6,d7,_⟩
        have ah:=n rfl
        exact zg rfl rfl rfl (zk (l9 ah))
      intro bo aj
      intro bp bq
      intro br ak
      intro bs al
      intro bt am
      intro bu an
      intro bv ao
      obtain rfl:=Eq.symm aj
      obtain rfl:=Eq.symm ak
      obtain rfl:=Eq.symm al
      obtain rfl:=Eq.symm am
      obtain rfl:=Eq.symm an
      obtain rfl:=Eq.symm ao
      refine za ?_
      refine qi ?_
      obtain rfl:=Option.some.inj d
      refine qd (D:=[]) (J:=[]) (rs:=[.tmp 9,.tmp 10]) (vs:=[(.int .u64 b),(.bool (!O))]) (q.trans Q) rfl rfl ⟨rfl,rfl,trivial⟩ ?_
      exact⟨rfl,rfl⟩
    · refine qb ?_
      obtain⟨E,c,d⟩:=zt d
      refine qo (γ:=Unit) (rs [9,14,21,44]) (fun g=>[]) (fun g=>[]++A) (fun g R=>E=Ex.go g∧True) ?_ ?_
      · refine q8 ?_
        refine zy ?_
        refine ze (vi j) ?_
        refine zh (vi j) ?_
        refine za ?_
        refine qc ?_
        refine jb (γ:=Nat×Int) (rs [9,14,22,44]) (fun g=>[(11,(vi g.2))]) (fun g=>[]++A) (fun g R=>ig N (oo N F) b left p0_ p1_ g.1 g.2=some E∧True) (fun g=>g.1) (N,j) prm ⟨c,trivial⟩ ?_
        clear c
        rintro⟨x,i⟩ bw bx o ⟨c,_⟩
        rcases x with _|x
        · exact qw c
        replace c:ig N (oo N F) b left p0_ p1_ (x+1) i=some E:=c;rw [ig] at c
        refine q8 ?_
        refine q8 ?_
        refine zy ?_
        refine ze (vi i) ?_
        refine j5 rfl ty3 rfl (t.mono (q.trans o)) fun bz ap=>?_
        obtain rfl:=qa.1 ap
        refine ze (vi left) ?_
        obtain⟨aq,c⟩:=zb c
        refine q9 (u7 rfl rfl aq) ?_
        refine q9 (z3f rfl rfl) ?_
        refine za ?_
        refine zz rfl c (fun c=>?_) (fun c=>?_)
        · refine qb ?_
          refine q8 ?_
          refine qc ?_
          refine q8 ?_
          obtain⟨ar,au,av,aw,c⟩:=zks c
          obtain⟨p,ay,c⟩:=zt c
          refine ni 15 [] [phX (.func (.func 41) #[] #[e,k,(.pointer (some ⟨f,0,none⟩))]),phX (.int .u64 b),phX (vi i),phX (.int .u64 (ib .u64 (1:Int) i)),phX (.int .u64 (ior b (ib .u64 (1:Int) i))),phX (vi i),phX (vi (i+1)),phX (vi left),phX (vi (left-1)),phX (.tuple #[(.int .u64 p.1),(.bool p.2)]),phX (.tuple #[(.int .u64 p.1),(.bool p.2)]),phX (.int .u64 p.1),phX (.bool p.2),phX (.int .u64 p.1),phX (.bool p.2)] mixed (by kernel_rfl) (gy ⟨zf,zf,zf,zf,zf,zf,zf,zf,zf,zf,zf,zf,zf,zf,zf,trivial⟩) ⟨?_,?_,?_,?_,?_,?_,?_,?_,?_,?_,?_,?_,?_,?_,?_,trivial⟩ fun bA B=>?_
          · intro l S a m C
            have a5:l 5=(.pointer (some ⟨f,0,none⟩)):=m 5 rfl
            exact zg rfl rfl rfl (j4 (ma zos a5 ((u.mono (q.trans o)).mono a)) (fun _ _ h=>zkm h))
          · intro l U a m C
            have I:l 6=z:=m 6 rfl
            exact zg rfl rfl rfl (j4 (ma gp I ((P.mono o).mono a)) (fun _ _ h=>qa.1 h))
          · intro l V a m C
            have G:l 11=(vi i):=m 11 rfl
            exact zg rfl rfl rfl (zk (z8 G))
          · rintro l W a m ⟨n,_⟩
            have az:=n rfl
            exact zg rfl rfl rfl (zk (z9y rfl az ar))
          · rintro l Z a m ⟨n,w,_⟩
            have aA:=n rfl
            have aB:=w rfl
            exact zg rfl rfl rfl (zk (zi3 aA aB au))
          · intro l ab a m C
            have G:l 11=(vi i):=m 11 rfl
            exact zg rfl rfl rfl (zk (z8 G))
          · rintro l ag a m ⟨n,_⟩
            have aC:=n rfl
            exact zg rfl rfl rfl (zk (j3 aC rfl av))
          · intro l bC a m C
            have a2:l 2=(vi left):=m 2 rfl
            exact zg rfl rfl rfl (zk (z8 a2))
          · rintro l bE a m ⟨n,_⟩
            have aD:=n rfl
            exact zg rfl rfl rfl (zk (u7 aD rfl aw))
          · rintro l bF a m ⟨n,w,K,L,_⟩
            have aE:=n rfl
            have aF:l 34=(.int .u64 (ior b (ib .u64 (1:Int) i))):=w rfl
            have aG:l 36=(vi (i+1)):=K rfl
            have aH:l 38=(vi (left-1)):=L rfl
            exact zg rfl rfl rfl (zjj (cs:=[e,k,(.pointer (some ⟨f,0,none⟩))]) (vs:=[(.int .u64 (ior b (ib .u64 (1:Int) i))),(vi (i+1)),(vi (left-1))]) znx aE (by simp only [List.map,ev,aF,aG,aH]<;>rfl) (ih ((s.mono (q.trans o)).mono a) ((t.mono (q.trans o)).mono a) ((u.mono (q.trans o)).mono a) ay) (fun _ _ h=>h))
          · rintro l bc a m ⟨n,_⟩
            have aI:=n rfl
            exact zg rfl rfl rfl (zk (z8 aI))
          · rintro l be a m ⟨n,_⟩
            have H:=n rfl
            have ht:=H
            exact zg rfl rfl rfl (zk (qx ht rfl))
          · rintro l bf a m ⟨n,w,_⟩
            have H:=n rfl
            have ht:=H
            exact zg rfl rfl rfl (zk (qx ht rfl))
          · rintro l bg a m ⟨n,w,K,L,d4,d5,d6,d7,d8,d9,aK,aL,aM,aN,aO,_⟩
            have aP:=n rfl
            exact zg rfl rfl rfl (zk (l9 aP))
          · rintro l bh a m ⟨n,w,K,L,d4,d5,d6,d7,d8,d9,aK,aL,aM,aN,aO,bI,_⟩
            have aQ:=n rfl
            exact zg rfl rfl rfl (zk (l9 aQ))
          intro bJ aR
          intro bK aS
          intro bL aT
          intro bM aU
          intro bN aV
          intro bO aW
          intro bP aX
          intro bQ aY
          intro bR aZ
          intro bS a0
          intro bT a1
          intro bU a4
          intro bV a7
          intro bW a8
          intro bX a9
          obtain rfl:=Eq.symm aR
          obtain rfl:=Eq.symm aS
          obtain rfl:=Eq.symm aT
          obtain rfl:=Eq.symm aU
          obtain rfl:=Eq.symm aV
          obtain rfl:=Eq.symm aW
          obtain rfl:=Eq.symm aX
          obtain rfl:=Eq.symm aY
          obtain rfl:=Eq.symm aZ
          obtain rfl:=Eq.symm a0
          obtain rfl:=Eq.symm a1
          obtain rfl:=Eq.symm a4
          obtain rfl:=Eq.symm a7
          obtain rfl:=Eq.symm a8
          obtain rfl:=Eq.symm a9
          refine za ?_
          refine q8 ?_
          refine zy ?_
          refine ze (.bool p.2) ?_
          refine za ?_
          refine zz rfl c (fun c=>?_) (fun c=>?_)
          · refine q8 ?_
            refine zy ?_
            refine ze (.int .u64 p.1) ?_
            refine zh (.int .u64 p.1) ?_
            refine zh (.bool true) ?_
            refine za ?_
            refine qi ?_
            replace d:=z04 c d
            obtain rfl:=Option.some.inj d
            refine qd (D:=[]) (J:=[]) (rs:=[.tmp 9,.tmp 10]) (vs:=[(.int .u64 p.1),(.bool true)]) ((q.trans o).trans B) rfl rfl ⟨rfl,rfl,trivial⟩ ?_
            exact⟨rfl,rfl⟩
          · refine qb ?_
            refine zy ?_
            refine ze (vi i) ?_
            obtain⟨ba,c⟩:=zb c
            refine q9 (j3 rfl rfl ba) ?_
            refine zh (vi (i+1)) ?_
            refine za ?_
            exact⟨dkt,B,jh,(x,i+1),Nat.lt_succ_self _,⟨rfl,trivial⟩,prm,c,trivial⟩
        · refine jf ?_
          exact⟨dkt,o,jh,(),trivial,prm,(Option.some.inj c).symm,trivial⟩
      · rintro bY bZ b0 M ⟨rfl,_⟩
        replace d:=z0t d
        refine q8 ?_
        refine zy ?_
        refine zh (.int .u64 0) ?_
        refine zh (.bool false) ?_
        refine za ?_
        refine qi ?_
        obtain rfl:=Option.some.inj d
        refine qd (D:=[]) (J:=[]) (rs:=[.tmp 9,.tmp 10]) (vs:=[(.int .u64 0),(.bool false)]) (q.trans M) rfl rfl ⟨rfl,rfl,trivial⟩ ?_
        exact⟨rfl,rfl⟩
theorem z9o{N:Nat}{R:RH}{d:Int}{e:Int}{left:Int}{p0_:(List Int)}{a:Value}(f:PRep (tSl false (zx .u64)) R a p0_){p1_:Int}{b:Value}(g:PRep (zx .i64) R b p1_){c:Nat}(h:PRep (zlk (.func (.func 41) #[] #[a,b,(.pointer (some ⟨c,0,none⟩))])) R (.pointer (some ⟨c,0,none⟩)) ()){r:Int×Bool}(i:oo N N d e left p0_ p1_=some r):CallP prog 41 #[(.int .u64 d),(vi e),(vi left),a,b,(.pointer (some ⟨c,0,none⟩))] R (fun v R'=>v= .tuple #[(.int .u64 r.1),(.bool r.2)]):=z7o N f g h i
theorem z4e{N:Nat}{R:RH}{x:Sa}{H:Value}(p:VRep (zu false false) R H x){r:(List Int)×Int}(b:l8 N x=some r):CallP prog 20 #[H] R (fun v R'=> ∃ u0,v= .tuple #[u0,(vi r.2)]∧VRep (tSl true (zx .i64)) R' u0 r.1):=by
 refine ql (args:=[H]) func20 rfl rfl fun A=>?_;rw [l8] at b;refine zq (xy (T:=(zu false false)) rfl rfl rfl p fun v1 R3 h h5 h2=>?_);refine zh vs0 (zh (vi 0) (za (q8 (zq (q9 (jk z0i rfl rfl h5 (p.mono h)) ?_)))));obtain⟨U,c7,b⟩:=zt b
 refine ja rfl zgo rfl (z03 (p.mono h) c7) fun v8 aT d h9=>?_;obtain rfl:=h9;refine zh (vi U) (qz (ze (vi U) (q9 (ww rfl rfl) (za (zz rfl b (fun b=>?_) (fun b=>?_))))));refine zq (ze (vi U) (zh vs0 (zh (vi U) (za (qi ?_)))));obtain rfl:=Option.some.inj b
 refine qd (D:=[]) (J:=[]) (rs:=[.tmp 2,.tmp 3]) (vs:=[vs0,(vi U)]) (h.trans d) rfl rfl ⟨rfl,rfl,trivial⟩ ?_;exact⟨rfl,⟨vs0,rfl,z1b⟩⟩;refine qb (zq (q9 (jk z0i rfl rfl (h5.mono d) (p.mono (h.trans d))) ?_));obtain⟨m,ap,b⟩:=zt b
 refine ja rfl zko rfl (ay (p.mono (h.trans d)) ap) fun aV aW l aq=>?_;obtain rfl:=aq;refine fe rfl za3 fun j=>?_;refine pu (i:=0) (vs:=[(vi m)]) sz3 rfl rfl rfl rfl rfl rfl (uf rfl om) ?_
 refine za (q8 (zq (q9 (oq (i:=0) ag3 rfl rfl rfl) (q9 (cu rfl rfl) (za (zz rfl b (fun b=>?_) (fun b=>?_)))))));refine zq (zh vs0 (zh (vi 3) (za (qi ?_))));obtain rfl:=Option.some.inj b
 refine qd (D:=[]) (J:=[box j [(vi m)] 3]) (rs:=[.tmp 2,.tmp 3]) (vs:=[vs0,(vi 3)]) ((h.trans d).trans l) rfl rfl ⟨rfl,rfl,trivial⟩ ?_;exact⟨rfl,⟨vs0,rfl,z1b⟩⟩;refine qb (zq (q9 (jk z0i rfl rfl (h5.mono (d.trans l)) (p.mono ((h.trans d).trans l))) ?_))
 obtain⟨V,ar,b⟩:=zt b;refine ja rfl zpj rfl (z7e (p.mono ((h.trans d).trans l)) ar) fun z aX F I=>?_;refine fe rfl zpg fun n=>?_;refine pu (i:=0) (vs:=[z]) zq8 rfl rfl (nu I) rfl rfl rfl (uf (zf1 I) om) ?_;refine qz (fe rfl zpy fun o=>?_)
 refine qz (q9 (fw (fs:=[]) (cs:=[(.pointer (some ⟨n,0,none⟩)),(.pointer (some ⟨j,0,none⟩)),(.pointer (some ⟨o,0,none⟩))]) rfl rfl) (pu (i:=0) (vs:=[(.func (.func 41) #[] #[(.pointer (some ⟨n,0,none⟩)),(.pointer (some ⟨j,0,none⟩)),(.pointer (some ⟨o,0,none⟩))])]) zqm rfl rfl rfl rfl rfl rfl (uf rfl om) ?_));refine za ?_
 obtain⟨K,a,b⟩:=zt b;refine qo (γ:=Unit) (rs [2,4,8,13,25,54]) (fun g=>[]) (fun g=>[]++A) (fun g R=>K=Ex.go g∧True) ?_ ?_;refine zq (q9 (oq (i:=2) ag3 rfl rfl rfl) ?_);obtain⟨au,a⟩:=zb a
 refine q9 (j3 rfl rfl au) (ze (vi 0) (za (qc (jb (γ:=Nat×Int) (rs [2,4,8,13,27,54]) (fun g=>[(27,(vi g.2))]) (fun g=>[box j [(vi m)] 3,box o [(.func (.func 41) #[] #[(.pointer (some ⟨n,0,none⟩)),(.pointer (some ⟨j,0,none⟩)),(.pointer (some ⟨o,0,none⟩))])] 73,box n [z] 71]++A) (fun g R=>l7 N m V g.1 g.2=some K∧True) (fun g=>g.1) (N,0) ⟨[],(pk 2 rfl (pk 0 rfl (pk 0 rfl (List.Perm.refl _))))⟩ ⟨a,trivial⟩ ?_))))
 clear a;rintro⟨C,q⟩ aO aY s ⟨a,_⟩;rcases C with _|C;exact qw a;replace a:l7 N m V (C+1) q=some K:=a;rw [l7] at a;refine zq (q9 (je rfl rfl) (za (q8 (zz rfl a (fun a=>?_) (fun a=>?_)))))
 refine qb (q8 (qc (zq (ze (vi q) (zh (vi q) (qz (q9 (oq (i:=1) zpr rfl rfl rfl) (ze (vi q) ?_))))))));obtain⟨k,av,a⟩:=zt a
 refine z5z (cs:=[(.pointer (some ⟨n,0,none⟩)),(.pointer (some ⟨j,0,none⟩)),(.pointer (some ⟨o,0,none⟩))]) (vs:=[(.int .u64 0),(vi 0),(vi q)]) (φ:=fun v=>v= .tuple #[(.int .u64 k.1),(.bool k.2)]) rfl znx rfl rfl (fun aZ W t=>z9o (z8d (ze8 2 rfl t) (ky (T:=(tSl false (zx .u64))) rfl ((I.mono s).mono W))) (z8d (ze8 0 rfl t) rfl) (z8d (ze8 1 rfl t) ⟨rfl,rfl⟩) av) fun a0 aw=>?_
 obtain rfl:=aw;refine ze (.tuple #[(.int .u64 k.1),(.bool k.2)]) (q9 (qx rfl rfl) (q9 (qx rfl rfl) (zh (.int .u64 k.1) (zh (.bool k.2) (qz (ze (.bool k.2) (za (zz rfl a (fun a=>?_) (fun a=>?_)))))))));refine zq (zh vs0 (za ?_));obtain⟨u,c,a⟩:=zt a
 refine qo (γ:=(List Int)×Value×Frag) (rs [11,13,37,51]) (fun g=>[(11,g.2.1)]) (fun g=>[g.2.2]++A) (fun g R=>u=g.1∧ORep (zx .i64) R g.2.2 g.2.1 g.1∧True) ?_ ?_;refine zq (q9 (oq (i:=0) ag3 rfl rfl rfl) (ze (vi 0) (za (qc (z9h ?_)))))
 refine jb (γ:=Nat×(List Int)×Int×Value×Frag) (rs [11,13,38,51]) (fun g=>[(11,g.2.2.2.1),(38,(vi g.2.2.1))]) (fun g=>[g.2.2.2.2]++A) (fun g R=>ah N m k g.1 g.2.1 g.2.2.1=some u∧ORep (zx .i64) R g.2.2.2.2 g.2.2.2.1 g.2.1∧True) (fun g=>g.1) (N,[],0,vs0,emp) ⟨[box j [(vi m)] 3,box o [(.func (.func 41) #[] #[(.pointer (some ⟨n,0,none⟩)),(.pointer (some ⟨j,0,none⟩)),(.pointer (some ⟨o,0,none⟩))])] 73,box n [z] 71],(pk 1 rfl (pk 1 rfl (pk 1 rfl (pk 0 rfl (List.Perm.refl _)))))⟩ ⟨c,(z5n (T:=(zx .i64))),trivial⟩ ?_
 clear c;rintro⟨E,w,e,L,Z⟩ a1 a2 aa ⟨c,M,_⟩;rcases E with _|E;exact qw c;replace c:ah N m k (E+1) w e=some u:=c;rw [ah] at c;refine zq (q9 (je rfl rfl) (za (q8 (zz rfl c (fun c=>?_) (fun c=>?_)))));refine qb ?_;obtain⟨O,f,c⟩:=zt c
 refine qo (γ:=(List Int)×Value×Frag) (rs [11,13,40,50]) (fun g=>[(11,g.2.1)]) (fun g=>[g.2.2]++A) (fun g R=>O=g.1∧ORep (zx .i64) R g.2.2 g.2.1 g.1∧True) ?_ ?_;refine qc (zq (ze (vi e) (zh (vi e) (qz (ze (.int .u64 k.1) (ze (vi e) ?_))))));obtain⟨az,f⟩:=zb f;refine q9 (zaa rfl rfl az) ?_
 obtain⟨aA,f⟩:=zb f;refine q9 (zc6 rfl rfl aA) (q9 (ax rfl rfl) (za (zz rfl f (fun f=>?_) (fun f=>?_))))
 refine zy (ze L (ze (vi e) (oh (T:=(zx .i64)) (X:=([e]:List Int)) (ps:=[(0,(vi e))]) (css:=[[(vi e)]]) rfl underlying33 zo3 rfl rfl (jy ⟨rfl,trivial⟩) rfl rfl (by decide) fun aB a3 P aC=>?_)));refine uu (i:=0) rfl aC fun aD G aE=>?_
 have aF:VRep (tSl true (zx .i64)) aD aB ([e]:List Int):=(z0f aE P);obtain⟨ab,f⟩:=zb f;refine z4f (i:=0) (X:=w) (Y:=([e]:List Int)) rfl underlying33 zo3 rfl rfl rfl (M.mono G) (jq (Sub.v (B:=(tSl false (zx .i64))) (yo Sub.refl (fun _=>rfl)) aF)) ab.1 ab.2 fun ac aG aH=>?_;refine zh ac (za ?_)
 exact⟨dkt,G,jh,((w++([e]:List Int)),ac,aG),⟨rfl,trivial⟩,prm,(Option.some.inj f).symm,aH,trivial⟩;refine qb ?_;exact⟨dkt,(RH.le.refl _),jh,(w,L,Z),⟨rfl,trivial⟩,prm,(Option.some.inj f).symm,M,trivial⟩;rintro⟨O,aI,aJ⟩ a4 a5 ad ⟨rfl,aK,_⟩;refine zy ?_;obtain⟨aL,c⟩:=zb c
 refine q9 (j3 rfl rfl aL) (ze (vi (e+1)) (za ?_));exact⟨dkt,ad,jh,(E,O,e+1,aI,aJ),Nat.lt_succ_self _,⟨rfl,rfl,trivial⟩,prm,c,aK,trivial⟩;refine jf ?_;exact⟨dkt,aa,jh,(w,L,Z),⟨rfl,trivial⟩,prm,(Option.some.inj c).symm,M,trivial⟩;rintro⟨u,ae,a6⟩ a7 a8 af ⟨rfl,aM,_⟩
 refine zq (ze ae (uu (i:=0) rfl aM fun ag Q ai=>?_));have aj:VRep (tSl false (zx .i64)) ag ae u:=(za8 ai);obtain⟨aP,ak,a⟩:=zt a;refine ja rfl znp rfl (z5x aj ak) fun y aQ S al=>?_;refine zh y (zh (vi 0) (za (qi ?_)));replace b:=z04 a b
 obtain rfl:=Option.some.inj b;refine qd (D:=[]) (J:=[]) (rs:=[.tmp 2,.tmp 3]) (vs:=[y,(vi 0)]) (((((((h.trans d).trans l).trans F).trans s).trans af).trans Q).trans S) rfl rfl ⟨rfl,rfl,trivial⟩ ?_;exact⟨rfl,⟨y,rfl,al⟩⟩;refine qb (zy ?_);obtain⟨am,a⟩:=zb a
 refine q9 (j3 rfl rfl am) (ze (vi (q+1)) (za ?_));exact⟨dkt,(RH.le.refl _),jh,(C,q+1),Nat.lt_succ_self _,⟨rfl,trivial⟩,prm,a,trivial⟩;refine jf ?_
 exact⟨dkt,s,jh,(),trivial,⟨[box j [(vi m)] 3,box o [(.func (.func 41) #[] #[(.pointer (some ⟨n,0,none⟩)),(.pointer (some ⟨j,0,none⟩)),(.pointer (some ⟨o,0,none⟩))])] 73,box n [z] 71],(List.Perm.refl _)⟩,(Option.some.inj a).symm,trivial⟩;rintro a9 aR ba an ⟨rfl,_⟩;replace b:=z0t b
 refine zq (zh vs0 (zh (vi 0) (za (qi ?_))));obtain rfl:=Option.some.inj b;refine qd (D:=[]) (J:=[]) (rs:=[.tmp 2,.tmp 3]) (vs:=[vs0,(vi 0)]) ((((h.trans d).trans l).trans F).trans an) rfl rfl ⟨rfl,rfl,trivial⟩ ?_;exact⟨rfl,⟨vs0,rfl,z1b⟩⟩
theorem zno:Enters prog 20:=enters_of func20 rfl (by kernel_rfl)
theorem zb1{N:Nat}{R:RH}{x:(List Int)}{d:Value}(h:VRep (tSl false (zx .i64)) R d x){r:Int}(b:slices_Max_int N x=some r):CallP prog 51 #[d] R (fun v R'=>v=(vi r)):=by
 refine ql (args:=[d]) func51 rfl rfl fun A=>?_;rw [slices_Max_int] at b;refine zq (zh (vi 0) (za (q8 (zq (ze d (q9 (qm rfl underlying33 rfl (jq h)) (q9 (je rfl rfl) (za (zz rfl b (fun b=>?_) (fun b=>?_))))))))));exact qw b;refine qb (zq (ze d ?_));obtain⟨q,b⟩:=zb b
 refine kz (i:=(0:Int).toNat) rfl z00 rfl (jq h) (zi rfl q.1) (zw q) fun C s=>?_;refine j5 rfl ty3 rfl s fun E t=>?_;obtain rfl:=qa.1 t;refine zh (vi (ix x 0)) (za ?_);obtain⟨k,a,b⟩:=zt b
 refine qo (γ:=Int) (rs [3,5,12,24]) (fun g=>[(3,(vi g))]) (fun g=>[]++A) (fun g R=>k=g∧True) ?_ ?_
 refine zq (zh (vi 1) (za (qc (jb (γ:=Nat×Int×Int) (rs [3,5,12,24]) (fun g=>[(3,(vi g.2.1)),(4,(vi g.2.2))]) (fun g=>[]++A) (fun g R=>iq N x g.1 g.2.1 g.2.2=some k∧True) (fun g=>g.1) (N,(ix x 0),1) prm ⟨a,trivial⟩ ?_))));clear a;rintro⟨j,e,c⟩ u w f ⟨a,_⟩;rcases j with _|j
 exact qw a;replace a:iq N x (j+1) e c=some k:=a;rw [iq] at a;refine q8 (zq (ze (vi c) (ze d (q9 (qm rfl underlying33 rfl (jq (h.mono f))) (q9 (je rfl rfl) (za (zz rfl a (fun a=>?_) (fun a=>?_))))))))
 refine qb (q8 (qc (zy (ze (vi e) (ze d (ze (vi c) ?_))))));obtain⟨l,a⟩:=zb a;refine kz (i:=c.toNat) rfl z00 rfl (jq (h.mono f)) (zi rfl l.1) (zw l) fun y m=>?_;refine j5 rfl ty3 rfl m fun z n=>?_;obtain rfl:=qa.1 n
 refine q9 (zbz rfl underlying3 rfl rfl) (zh (vi (max e (ix x c))) (za (zy (ze (vi c) ?_))));obtain⟨o,a⟩:=zb a;refine q9 (j3 rfl rfl o) (zh (vi (c+1)) (za ?_));exact⟨dkt,(RH.le.refl _),jh,(j,max e (ix x c),c+1),Nat.lt_succ_self _,⟨rfl,rfl,trivial⟩,prm,a,trivial⟩;refine jf ?_
 exact⟨dkt,f,jh,e,⟨rfl,trivial⟩,prm,(Option.some.inj a).symm,trivial⟩;rintro k B F p ⟨rfl,_⟩;refine zq (ze (vi k) (zh (vi k) (za (qi ?_))));obtain rfl:=Option.some.inj b;refine qd (D:=[]) (J:=[]) (rs:=[.tmp 2]) (vs:=[(vi k)]) p rfl rfl ⟨rfl,trivial⟩ ?_;exact⟨rfl,rfl⟩
theorem zps:Enters prog 51:=enters_of func51 rfl (by kernel_rfl)
theorem z9f{N:Nat}{R:RH}{s:(List Int)}{c:Value}(h:VRep (tSl false (zx .i64)) R c s){f:Int}{r:Int}(b:slices_Index_int N s f=some r):CallP prog 52 #[c,(vi f)] R (fun v R'=>v=(vi r)):=by
 refine ql (args:=[c,(vi f)]) func52 rfl rfl fun A=>?_;rw [slices_Index_int] at b;refine zq (zh (vi 0) (za ?_));obtain⟨l,a,b⟩:=zt b;refine qo (γ:=Unit) (rs [4,19]) (fun g=>[]) (fun g=>[]++A) (fun g R=>l=Ex.go g∧True) ?_ ?_
 refine zq (ze c (q9 (qm rfl underlying33 rfl (jq h)) (ze (vi 0) (za (qc (jb (γ:=Nat×Int) (rs [4,6,8,19]) (fun g=>[(8,(vi g.2))]) (fun g=>[]++A) (fun g R=>ng N s f g.1 g.2=some l∧True) (fun g=>g.1) (N,0) prm ⟨a,trivial⟩ ?_))))));clear a;rintro⟨k,d⟩ q x e ⟨a,_⟩;rcases k with _|k
 exact qw a;replace a:ng N s f (k+1) d=some l:=a;rw [ng] at a;refine zq (q9 (je rfl rfl) (za (q8 (zz rfl a (fun a=>?_) (fun a=>?_)))));refine qb (q8 (qc (zq (ze (vi d) (zh (vi d) (qz (ze (vi f) (ze c (ze (vi d) ?_)))))))))
 obtain⟨j,a⟩:=zb a;refine kz (i:=d.toNat) rfl z00 rfl (jq (h.mono e)) (zi rfl j.1) (zw j) fun t m=>?_;refine j5 rfl ty3 rfl m fun u n=>?_;obtain rfl:=qa.1 n;refine q9 (ax rfl rfl) (za (zz rfl a (fun a=>?_) (fun a=>?_)))
 refine zq (ze (vi d) (zh (vi d) (za (qi ?_))));replace b:=z04 a b;obtain rfl:=Option.some.inj b;refine qd (D:=[]) (J:=[]) (rs:=[.tmp 4]) (vs:=[(vi d)]) e rfl rfl ⟨rfl,trivial⟩ ?_;exact⟨rfl,rfl⟩;refine qb (zy ?_);obtain⟨o,a⟩:=zb a
 refine q9 (j3 rfl rfl o) (ze (vi (d+1)) (za ?_));exact⟨dkt,(RH.le.refl _),jh,(k,d+1),Nat.lt_succ_self _,⟨rfl,trivial⟩,prm,a,trivial⟩;refine jf ?_;exact⟨dkt,e,jh,(),trivial,prm,(Option.some.inj a).symm,trivial⟩;rintro y w z p ⟨rfl,_⟩;replace b:=z0t b;refine zq (zh (vi (-1)) (za (qi ?_)))
 obtain rfl:=Option.some.inj b;refine qd (D:=[]) (J:=[]) (rs:=[.tmp 4]) (vs:=[(vi (-1))]) p rfl rfl ⟨rfl,trivial⟩ ?_;exact⟨rfl,rfl⟩
theorem zq7:Enters prog 52:=enters_of func52 rfl (by kernel_rfl)
theorem zbf{N:Nat}{R:RH}{h:(List Int)}{b:Value}(c:VRep (tSl false (zx .i64)) R b h){r:Int×Bool}(a:z2k N h=some r):CallP prog 37 #[b] R (fun v R'=>v= .tuple #[(vi r.1),(.bool r.2)]):=by
 refine ql (args:=[b]) func37 rfl rfl fun A=>?_;rw [z2k] at a;refine zq (zh (vi 0) (zh (.bool false) (za (q8 (zq (ze b (q9 (qm rfl underlying33 rfl (jq c)) (q9 (ax rfl rfl) (za (zz rfl a (fun a=>?_) (fun a=>?_)))))))))))
 refine zq (zh (vi 0) (zh (.bool false) (za (qi ?_))));obtain rfl:=Option.some.inj a;refine qd (D:=[]) (J:=[]) (rs:=[.tmp 2,.tmp 3]) (vs:=[(vi 0),(.bool false)]) (RH.le.refl _) rfl rfl ⟨rfl,rfl,trivial⟩ ?_;exact⟨rfl,rfl⟩;refine qb (zq (ze b ?_));obtain⟨d,j,a⟩:=zt a
 refine ja rfl zps rfl (zb1 c j) fun o p e k=>?_;obtain rfl:=k;refine zh (vi d) (qz (ze b (ze (vi d) ?_)));obtain⟨i,l,a⟩:=zt a;refine ja rfl zq7 rfl (z9f (c.mono e) l) fun m n f g=>?_;obtain rfl:=g
 refine ze (vi d) (q9 (cu rfl rfl) (zh (vi i) (zh (.bool (decide (0<d))) (za (qi ?_)))));obtain rfl:=Option.some.inj a;refine qd (D:=[]) (J:=[]) (rs:=[.tmp 2,.tmp 3]) (vs:=[(vi i),(.bool (decide (0<d)))]) (e.trans f) rfl rfl ⟨rfl,rfl,trivial⟩ ?_;exact⟨rfl,rfl⟩
theorem zqi:Enters prog 37:=enters_of func37 rfl (by kernel_rfl)
theorem z6g{N:Nat}{R:RH}{x:Sa}{m:Value}(G:VRep (zu false false) R m x){is:Int→Option Bool}{d:Value}(s:FOk1 prog R d (zx .i64) z3g is){r:(List Int)}(h:av N x is=some r):CallG prog 26 #[m,d] R [] (fun v R' O'=> ∃ u0_0 g0_0,v=u0_0∧O'=[g0_0]∧ORep (zx .i64) R' g0_0 u0_0 r):=by
 refine gu (args:=[m,d]) func26 rfl rfl fun A=>?_;rw [av] at h;refine zq (xy (T:=(zu false false)) rfl rfl rfl G fun v1 R3 t h5 h2=>?_);refine zh vs0 (za ?_);obtain⟨E,a,h⟩:=zt h
 refine qo (γ:=(List Int)×Value×Frag) (rs [4,20]) (fun g=>[(4,g.2.1)]) (fun g=>[g.2.2]++A) (fun g R=>E=g.1∧ORep (zx .i64) R g.2.2 g.2.1 g.1∧True) ?_ ?_;refine zq (p8 rfl fu qy rfl h2 fun af H=>?_);refine j5 rfl z3v rfl H fun ag I=>?_
 refine q9 (qm rfl underlying25 rfl (jq I)) (ze (vi 0) (za (qc (z9h ?_))))
 refine jb (γ:=Nat×(List Int)×Int×Value×Frag) (rs [4,6,9,20]) (fun g=>[(4,g.2.2.2.1),(9,(vi g.2.2.1))]) (fun g=>[g.2.2.2.2]++A) (fun g R=>yj N x is g.1 g.2.1 g.2.2.1=some E∧ORep (zx .i64) R g.2.2.2.2 g.2.2.2.1 g.2.1∧True) (fun g=>g.1) (N,[],0,vs0,emp) prm ⟨a,(z5n (T:=(zx .i64))),trivial⟩ ?_
 clear a;rintro⟨j,f,b,n,u⟩ ah ai k ⟨a,o,_⟩;rcases j with _|j;exact qw a;replace a:yj N x is (j+1) f b=some E:=a;rw [yj] at a;refine zq (q9 (je rfl rfl) (za (q8 (zz rfl a (fun a=>?_) (fun a=>?_)))));refine qb ?_;obtain⟨p,c,a⟩:=zt a
 refine qo (γ:=(List Int)×Value×Frag) (rs [4,6,11,19]) (fun g=>[(4,g.2.1)]) (fun g=>[g.2.2]++A) (fun g R=>p=g.1∧ORep (zx .i64) R g.2.2 g.2.1 g.1∧True) ?_ ?_;refine qc (zq (ze (vi b) (zh (vi b) (qz (ze d (ze (vi b) ?_))))));obtain⟨aj,K,c⟩:=zt c
 refine z6o rfl rfl rfl ((s.mono (t.trans k)) _ (RH.le.refl _) b _ _ (qa.2 rfl) K) fun ak al e L=>?_;obtain rfl:=fq.1 L;refine za (zz rfl c (fun c=>?_) (fun c=>?_))
 refine zy (ze n (ze (vi b) (oh (T:=(zx .i64)) (X:=([b]:List Int)) (ps:=[(0,(vi b))]) (css:=[[(vi b)]]) rfl underlying33 zo3 rfl rfl (jy ⟨rfl,trivial⟩) rfl rfl (by decide) fun M am q O=>?_)));refine uu (i:=0) rfl O fun P l Q=>?_
 have S:VRep (tSl true (zx .i64)) P M ([b]:List Int):=(z0f Q q);obtain⟨w,c⟩:=zb c;refine z4f (i:=0) (X:=f) (Y:=([b]:List Int)) rfl underlying33 zo3 rfl rfl rfl (o.mono (e.trans l)) (jq (Sub.v (B:=(tSl false (zx .i64))) (yo Sub.refl (fun _=>rfl)) S)) w.1 w.2 fun y U V=>?_;refine zh y (za ?_)
 exact⟨dkt,(e.trans l),jh,((f++([b]:List Int)),y,U),⟨rfl,trivial⟩,prm,(Option.some.inj c).symm,V,trivial⟩;refine qb ?_;exact⟨dkt,e,jh,(f,n,u),⟨rfl,trivial⟩,prm,(Option.some.inj c).symm,(o.mono e),trivial⟩;rintro⟨p,W,Z⟩ an ao z ⟨rfl,aa,_⟩;refine zy ?_;obtain⟨ab,a⟩:=zb a
 refine q9 (j3 rfl rfl ab) (ze (vi (b+1)) (za ?_));exact⟨dkt,z,jh,(j,p,b+1,W,Z),Nat.lt_succ_self _,⟨rfl,rfl,trivial⟩,prm,a,aa,trivial⟩;refine jf ?_;exact⟨dkt,k,jh,(f,n,u),⟨rfl,trivial⟩,prm,(Option.some.inj a).symm,o,trivial⟩;rintro⟨E,F,C⟩ ap R7 ac ⟨rfl,ad,_⟩
 refine zq (ze F (zh F (za (qi ?_))));obtain rfl:=Option.some.inj h;refine wz (D:=[]) (J:=[]) (O':=[C]) (rs:=[.tmp 4]) (vs:=[F]) (t.trans ac) ((pk 0 rfl (List.Perm.refl _))) rfl ⟨rfl,trivial⟩ ?_;exact⟨F,C,rfl,rfl,ad⟩
theorem z5r{N:Nat}{R:RH}{x:Sa}{I:Value}(s:VRep (zu false false) R I x){rows:(List Int)}{f:Value}(p:VRep (tSl false (zx .i64)) R f rows){r:(List Int)}(l:sj N x rows=some r):CallG prog 25 #[I,f] R [] (fun v R' O'=> ∃ u0_0 g0_0,v=u0_0∧O'=[g0_0]∧ORep (zx .i64) R' g0_0 u0_0 r∧capOf u0_0=r.length):=by
 refine gu (args:=[I,f]) func25 rfl rfl fun A=>?_;rw [sj] at l;refine zq (xy (T:=(zu false false)) rfl rfl rfl s fun v1 R3 o h5 h2=>?_);refine zh vs0 (qz (q9 (jk z0i rfl rfl h5 (s.mono o)) ?_));obtain⟨y6,c7,l⟩:=zt l
 refine ja rfl zko rfl (ay (s.mono o) c7) fun v8 aA k h9=>?_;obtain rfl:=h9;obtain⟨w,l⟩:=zb l;refine zbp (T:=(zx .i64)) (m:=y6.toNat) (c:=y6.toNat) rfl underlying33 zo3 (zi rfl w.1) (zi rfl w.1) (Nat.le_refl _) (ze5 w) (ze2 w) fun d ac K ad=>?_;refine zh d (za ?_)
 obtain⟨y,b,l⟩:=zt l;refine qo (γ:=(List Int)×Frag) (rs [7,8,9,10,13,35]) (fun g=>[]) (fun g=>[g.2]++A) (fun g R=>y=g.1∧ORep (zx .i64) R g.2 d g.1∧capOf d=g.1.length∧True) ?_ ?_
 refine zq (ze f (q9 (qm rfl underlying33 rfl (jq (p.mono (o.trans k)))) (ze (vi 0) (za (qc (jb (γ:=Nat×Int×(List Int)×Frag) (rs [7,8,9,10,15,35]) (fun g=>[(15,(vi g.2.1))]) (fun g=>[g.2.2.2]++A) (fun g R=>yl N x rows g.1 g.2.1 g.2.2.1=some y∧ORep (zx .i64) R g.2.2.2 d g.2.2.1∧capOf d=g.2.2.1.length∧True) (fun g=>g.1) (N,0,(mk y6 (0:Int)),ac) prm ⟨b,ad,(K.trans List.length_replicate.symm),trivial⟩ ?_))))))
 clear b;rintro⟨z,q,L,P⟩ aC aD n ⟨b,Q,E,_⟩;rcases z with _|z;exact qw b;replace b:yl N x rows (z+1) q L=some y:=b;rw [yl] at b;refine zq (q9 (je rfl rfl) (za (q8 (zz rfl b (fun b=>?_) (fun b=>?_)))));refine qb ?_
 obtain⟨t,a,b⟩:=zt b;refine qo (γ:=(List Int)×Frag) (rs [7,8,9,10,17,34]) (fun g=>[]) (fun g=>[g.2]++A) (fun g R=>t=g.1∧ORep (zx .i64) R g.2 d g.1∧capOf d=g.1.length∧True) ?_ ?_;refine qc (zq ?_);obtain⟨S,a⟩:=zb a
 refine kz (i:=q.toNat) rfl z00 rfl (jq (p.mono ((o.trans k).trans n))) (zi rfl S.1) (zw S) fun aE ae=>?_;refine j5 rfl ty3 rfl ae fun aF af=>?_;obtain rfl:=qa.1 af
 refine zh (vi (ix rows q)) (qz (q9 (jk z0i rfl rfl (h5.mono (k.trans n)) (s.mono ((o.trans k).trans n))) (ze (vi (ix rows q)) ?_)));obtain⟨h,ag,a⟩:=zt a;refine ja rfl zie rfl (mh (s.mono ((o.trans k).trans n)) ag) fun aG aH F U=>?_
 refine q9 (qm rfl underlying33 rfl (jq U)) (ze (vi 0) (za (qc (jb (γ:=Nat×Int×(List Int)×Frag) (rs [9,10,23,34]) (fun g=>[(23,(vi g.2.1))]) (fun g=>[g.2.2.2]++A) (fun g R=>ym N h g.1 g.2.1 g.2.2.1=some t∧ORep (zx .i64) R g.2.2.2 d g.2.2.1∧capOf d=g.2.2.1.length∧True) (fun g=>g.1) (N,0,L,P) prm ⟨a,(Q.mono F),E,trivial⟩ ?_))))
 clear a;rintro⟨B,e,C,ah⟩ aI aJ G ⟨a,u,H,_⟩;rcases B with _|B;exact qw a;replace a:ym N h (B+1) e C=some t:=a;rw [ym] at a;refine zq (q9 (je rfl rfl) (za (q8 (zz rfl a (fun a=>?_) (fun a=>?_)))));refine qb (q8 (qc (zq ?_)))
 obtain⟨V,a⟩:=zb a;refine kz (i:=e.toNat) rfl z00 rfl (jq (U.mono G)) (zi rfl V.1) (zw V) fun aK ai=>?_;refine j5 rfl ty3 rfl ai fun aL aj=>?_;obtain rfl:=qa.1 aj;refine zh (vi (ix h e)) (za (zy (ze d (ze (vi (ix h e)) ?_))));obtain⟨M,a⟩:=zb a
 refine z2c (i:=(ix h e).toNat) rfl z00 rfl u (zi rfl M.1) (zw M) fun aM ak=>?_;refine z8k (i:=(ix h e).toNat) (j:=0) rfl ty3 u rfl rfl ak (zw M) fun aN al=>?_;obtain rfl:=qa.1 al;obtain⟨am,a⟩:=zb a;refine q9 (j3 rfl rfl am) ?_;obtain⟨O,a⟩:=zb a
 refine z2c (i:=(ix h e).toNat) rfl z00 rfl u (zi rfl O.1) (zw O) fun aO an=>?_;refine z5h (i:=(ix h e).toNat) (j:=0) ty3 u rfl rfl an (zw O) rfl (qa.2 rfl) fun ao ap=>?_;refine za (zy ?_);obtain⟨aq,a⟩:=zb a;refine q9 (j3 rfl rfl aq) (ze (vi (e+1)) (za ?_))
 exact⟨dkt,(RH.le.refl _),jh,(B,e+1,(up C (ix h e) ((ix C (ix h e))+1)),ao),Nat.lt_succ_self _,⟨rfl,trivial⟩,prm,a,ap,(H.trans List.length_set.symm),trivial⟩;refine jf ?_;exact⟨dkt,(F.trans G),jh,(C,ah),trivial,prm,(Option.some.inj a).symm,u,H,trivial⟩;rintro⟨t,ar⟩ aP aQ W ⟨rfl,au,X,_⟩;refine zy ?_
 obtain⟨av,b⟩:=zb b;refine q9 (j3 rfl rfl av) (ze (vi (q+1)) (za ?_));exact⟨dkt,W,jh,(z,q+1,t,ar),Nat.lt_succ_self _,⟨rfl,trivial⟩,prm,b,au,X,trivial⟩;refine jf ?_;exact⟨dkt,n,jh,(L,P),trivial,prm,(Option.some.inj b).symm,Q,E,trivial⟩;rintro⟨y,Y⟩ aR aS Z ⟨rfl,aw,aa,_⟩
 refine zq (ze d (zh d (za (qi ?_))));obtain rfl:=Option.some.inj l;refine wz (D:=[]) (J:=[]) (O':=[Y]) (rs:=[.tmp 4]) (vs:=[d]) ((o.trans k).trans Z) ((pk 0 rfl (List.Perm.refl _))) rfl ⟨rfl,trivial⟩ ?_;exact⟨d,Y,rfl,rfl,aw,aa⟩
end GV
end Go.Proofs.Ytkhihcleegljhaa
