import Derived.Test.YtdhccodneoebpaaShWe
import Derived.Test.YtdhccodneoebpaaShXa
import Derived.Test.YtdhccodneoebpaaShXb
import Derived.Test.YtdhccodneoebpaaShXc
import Derived.Test.YtdhccodneoebpaaShXd
import Derived.Test.YtdhccodneoebpaaShXf
import Derived.Test.YtdhccodneoebpaaShXg
import Derived.Test.YtdhccodneoebpaaShXh
import Derived.Test.YtdhccodneoebpaaRows
set_option linter.unusedVariables false
set_option linter.unusedSimpArgs false
set_option linter.unusedSectionVars false
namespace Go.Proofs.Ytdhccodneoebpaa
namespace GV
open _root_.Go.Proofs.Try
open Go.IntWalk
set_option maxRecDepth 100000
set_option maxHeartbeats 20000000
theorem q0m:Enters prog 56:=enters_of func56 rfl (by kernel_rfl)
theorem z8x{N:Nat}(F:Nat): ∀ {R:RH} {m:Mach} {w:Value} (E:VRep (jf false false) R w m) {P:(List (Int×Int))} {k:Value} (x:VRep (tSl false kA2tInti64) R k P) {c:Int} {taken:Int} {round:Bool} {r:(List Int)×Bool} (d:yh N F m P c taken round=some r),CallP prog 56 #[w,k,(vi c),(vi taken),(.bool round)] R (fun v R'=> ∃ y,v= .tuple #[y,(.bool r.2)]∧VRep (tSl false (zz .i64)) R' y r.1):=by
  induction F with
  |zero=>intros;rename_i d;exact qy d
  |succ F ih=>
    intro R m w E P k x c taken round r d
    refine qo (args:=[w,k,(vi c),(vi taken),(.bool round)]) func56 rfl rfl fun A=>?_
    rw [yh] at d
    refine zy ?_
    refine zq ?_
    refine vo (T:=(jf false false)) rfl rfl rfl E fun v1 R3 u h5 h2=>?_
    refine zn vs0 ?_
    refine zn (.bool false) ?_
    refine z8 ?_
    refine zy ?_
    refine zy ?_
    refine zq ?_
    refine zl (vi taken) ?_
    refine zl k ?_
    refine zi (qz rfl underlying49 rfl (jd (x.mono u))) ?_
    obtain⟨g6,d⟩:=ze d
    refine zi (zd0 rfl rfl g6) ?_
    obtain⟨g7,d⟩:=ze d
    refine zi (z0i rfl rfl g7) ?_
    refine zi (xe rfl rfl) ?_
    refine z8 ?_
    refine qa rfl d (fun d=>?_) (fun d=>?_)
    · refine zy ?_
      refine zq ?_
      refine ji (v:=(.bool round)) rfl (zf rfl) ?_
      refine ji rfl (p9 rfl) ?_
      refine ji (v:=(.bool (!round))) rfl (zf rfl) ?_
      refine j6 rfl rfl rfl rfl (fun B=>qi (v:=(vi c)) (zf rfl)) fun b2 ao=>?_
      refine j6 rfl rfl rfl rfl (fun B=>qi (xe (ao.1 (zk rfl B)) rfl)) fun b3 ap=>?_
      refine ji rfl (l7 rfl rfl (fun hb=>(ap.1 (zk rfl hb)))) ?_
      refine ji (v:=vs0) rfl (ni rfl) ?_
      refine ji (v:=(.bool ((!round)||(decide (c=0))))) rfl (ni rfl) ?_
      refine z8 ?_
      refine qw ?_
      obtain rfl:=Option.some.inj d
      refine qg (D:=[]) (J:=[]) (rs:=[.tmp 10,.tmp 11]) (vs:=[vs0,(.bool ((!round)||(decide (c=0))))]) u rfl rfl ⟨rfl,rfl,trivial⟩ ?_
      exact⟨rfl,⟨vs0,rfl,l8⟩⟩
    · refine qc ?_
      obtain⟨K,b,d⟩:=zu d
      refine jb (γ:=Unit) (rs [10,16,28,70]) (fun g=>[]) (fun g=>[]++A) (fun g R=>K=Ex.go g∧True) ?_ ?_
      · refine zy ?_
        refine zq ?_
        refine zn (vi 0) ?_
        refine z8 ?_
        refine q9 ?_
        refine kv (γ:=Nat×Int) (rs [10,16,28,70]) (fun g=>[(12,(vi g.2))]) (fun g=>[]++A) (fun g R=>ym N (yh N F) m P c taken round g.1 g.2=some K∧True) (fun g=>g.1) (N,0) prm ⟨b,trivial⟩ ?_
        clear b
        rintro⟨G,f⟩ bw b4 n ⟨b,_⟩
        rcases G with _|G
        · exact qy b
        replace b:ym N (yh N F) m P c taken round (G+1) f=some K:=b;rw [ym] at b
        refine zy ?_
        refine zy ?_
        refine zq ?_
        refine zl (vi f) ?_
        refine ku rfl z3l z1d rfl (h2.mono n) fun b5 ar=>?_
        refine j4 rfl ty3 rfl ar fun b6 au=>?_
        obtain rfl:=qh.1 au
        refine zi (jh rfl rfl) ?_
        refine z8 ?_
        refine qa rfl b (fun b=>?_) (fun b=>?_)
        · refine qc ?_
          obtain⟨av,j,b⟩:=zu b
          refine jb (γ:=Unit) (rs [10,12,13,16,34,70]) (fun g=>[]) (fun g=>[]++A) (fun g R=>av=Ex.go g∧True) ?_ ?_
          · refine q9 ?_
            refine zy ?_
            refine zq ?_
            refine zl k ?_
            refine zl (vi c) ?_
            refine zl (vi f) ?_
            obtain⟨t,aw,j⟩:=zu j
            refine jl rfl q2c rfl (z7r (x.mono (u.trans n)) aw) fun b7 b8 p ax=>?_
            obtain rfl:=ax
            refine zn (vi t) ?_
            refine z8 ?_
            refine zy ?_
            refine zy ?_
            refine zq ?_
            refine ji (v:=(vi t)) rfl (zf rfl) ?_
            refine ji rfl (xe rfl rfl) ?_
            refine ji (v:=(.bool (decide (t=0)))) rfl (zf rfl) ?_
            refine j6 rfl rfl rfl rfl (fun B=>qi (v:=(vi taken)) (zf rfl)) fun b9 ay=>?_
            refine j6 rfl rfl rfl rfl (fun B=>qi (v:=(vi t)) (zf rfl)) fun ca az=>?_
            obtain⟨aA,j⟩:=ze j
            refine j6 rfl rfl rfl rfl (fun B=>qi (zwn (ay.1 (zk rfl B)) (az.1 (zk rfl B)) (aA (zk rfl B)))) fun cb aB=>?_
            refine j6 rfl rfl rfl rfl (fun B=>qi (z01 (aB.1 (zk rfl B)) rfl)) fun cc aC=>?_
            refine ji rfl (l7 rfl rfl (fun hb=>(aC.1 (zk rfl hb)))) ?_
            refine z8 ?_
            refine qa rfl j (fun j=>?_) (fun j=>?_)
            · refine jk ?_
              exact⟨dkt,p,jm,(),trivial,prm,(Option.some.inj j).symm,trivial⟩
            · refine qc ?_
              refine zy ?_
              obtain⟨Q,S,aD,j⟩:=zva j
              obtain⟨s,aE,j⟩:=zu j
              refine mh 21 [] [phX w,phX k,phP (tSl false (tSl false kEdge)) m.rows,phR (tSl false (tSl false kEdge)) m.rows,phX (vi c),phP (tSl false kEdge) (ix m.rows c),phR (tSl false kEdge) (ix m.rows c),phX (vi f),phP kEdge (ix (ix m.rows c) f),phP (zz .i64) ((ix (ix m.rows c) f).to),phX (vi ((ix (ix m.rows c) f).to)),phX (vi taken),phX (vi t),phX (vi (ior taken t)),phX (.bool round),(fun v R=> ∃ y,v= .tuple #[y,(.bool s.2)]∧VRep (tSl false (zz .i64)) R y s.1),(fun v R=> ∃ y,v= .tuple #[y,(.bool s.2)]∧VRep (tSl false (zz .i64)) R y s.1),phR (tSl false (zz .i64)) s.1,phX (.bool s.2),phR (tSl false (zz .i64)) s.1,phX (.bool s.2)] mixed (by kernel_rfl) (pq ⟨zo,zo,dw,o5,zo,dw,o5,zo,dw,dw,zo,zo,zo,zo,zo,(fun _ _ _ le ⟨y,e,k0⟩=>⟨y,e,k0.mono le⟩),(fun _ _ _ le ⟨y,e,k0⟩=>⟨y,e,k0.mono le⟩),o5,zo,o5,zo,trivial⟩) ⟨?_,?_,?_,?_,?_,?_,?_,?_,?_,?_,?_,?_,?_,?_,?_,?_,?_,?_,?_,?_,?_,trivial⟩ fun cd H=>?_
              · intro l ce a o L
                have a5:l 5=v1:=o 5 rfl
                exact za rfl rfl rfl (zw (jo z0z rfl a5 ((h5.mono (n.trans p)).mono a) ((E.mono ((u.trans n).trans p)).mono a)))
              · intro l cf a o L
                have a1:l 1=k:=o 1 rfl
                exact za rfl rfl rfl (zw (zf a1))
              · intro l ch a o L
                have a5:l 5=v1:=o 5 rfl
                exact za rfl rfl rfl (tq pg vv a5 ((h2.mono (n.trans p)).mono a))
              · rintro l ci a o ⟨q,_⟩
                have aH:=q rfl
                exact za rfl rfl rfl (ul z3k rfl aH)
              · intro l cj a o L
                have a2:l 2=(vi c):=o 2 rfl
                exact za rfl rfl rfl (zw (zf a2))
              · rintro l cl a o ⟨q,C,_⟩
                have aI:=q rfl
                have aJ:=C rfl
                exact za rfl rfl rfl (ou (i:=c.toNat) zic rfl (jd aI) (zb aJ Q.1) (zm Q))
              · rintro l cm a o ⟨q,_⟩
                have aK:=q rfl
                exact za rfl rfl rfl (ul zgo rfl aK)
              · intro l cn a o L
                have aL:l 12=(vi f):=o 12 rfl
                exact za rfl rfl rfl (zw (zf aL))
              · rintro l co a o ⟨q,C,_⟩
                have aM:=q rfl
                have aN:=C rfl
                exact za rfl rfl rfl (ou (i:=f.toNat) zj7 rfl (jd aM) (zb aN S.1) (zm S))
              · rintro l cp a o ⟨q,_⟩
                have aO:=q rfl
                exact za rfl rfl rfl (tq z7j z7b rfl aO)
              · rintro l bx a o ⟨q,_⟩
                have aP:=q rfl
                exact za rfl rfl rfl (uf (ul ty3 rfl aP) (fun _ _ h=>qh.1 h))
              · intro l bz a o L
                have a3:l 3=(vi taken):=o 3 rfl
                exact za rfl rfl rfl (zw (zf a3))
              · intro l bA a o L
                have aQ:l 13=(vi t):=o 13 rfl
                exact za rfl rfl rfl (zw (zf aQ))
              · rintro l bB a o ⟨q,C,_⟩
                have aR:=q rfl
                have aS:=C rfl
                exact za rfl rfl rfl (zw (zm4 aR aS aD))
              · intro l bC a o L
                have a4:l 4=(.bool round):=o 4 rfl
                exact za rfl rfl rfl (zw (zf a4))
              · rintro l bD a o ⟨q,C,d2,d3,d4,_⟩
                have aW:l 47=w:=q rfl
                have aX:l 48=k:=C rfl
                have aY:l 57=(vi ((ix (ix m.rows c) f).to)):=d2 rfl
                have aZ:l 60=(vi (ior taken t)):=d3 rfl
                have a0:l 61=(.bool round):=d4 rfl
                exact za rfl rfl rfl (vk (vs:=[w,k,(vi ((ix (ix m.rows c) f).to)),(vi (ior taken t)),(.bool round)]) q0m (by simp only [List.map,ev,aW,aX,aY,aZ,a0]<;>rfl) (ih ((E.mono ((u.trans n).trans p)).mono a) ((x.mono ((u.trans n).trans p)).mono a) aE) (fun _ _ h=>h))
              · rintro l bE a o ⟨q,_⟩
                have a6:=q rfl
                exact za rfl rfl rfl (Val.phi (zf rfl) a6)
              · rintro l bF a o ⟨q,_⟩
                have M:=q rfl
                obtain⟨y,ht,U⟩:=M
                exact za rfl rfl rfl (zky (jv ht rfl) U)
              · rintro l bG a o ⟨q,C,_⟩
                have M:=q rfl
                obtain⟨y,ht,U⟩:=M
                exact za rfl rfl rfl (zw (jv ht rfl))
              · rintro l bH a o ⟨q,C,d2,d3,d4,d5,d6,d7,d8,d9,a8,a9,ba,bb,bc,be,bf,bg,bh,bi,bj,_⟩
                have bk:=q rfl
                exact za rfl rfl rfl (zky (ni rfl) bk)
              · rintro l bI a o ⟨q,C,d2,d3,d4,d5,d6,d7,d8,d9,a8,a9,ba,bb,bc,be,bf,bg,bh,bi,bj,cx,_⟩
                have bl:=q rfl
                exact za rfl rfl rfl (zw (ni bl))
              intro cy bm
              intro cz bn
              intro cA cB
              intro cC cD
              intro cE bo
              intro cF cG
              intro cH cI
              intro cJ bp
              intro cK cL
              intro cM cN
              intro cO br
              intro cP bs
              intro cQ bt
              intro cR V
              intro bJ W
              intro bK Z
              intro bL aa
              intro bM bN
              intro bO ab
              intro ac ad
              intro bP ae
              obtain rfl:=Eq.symm bm
              obtain rfl:=Eq.symm bn
              obtain rfl:=Eq.symm bo
              obtain rfl:=Eq.symm bp
              obtain rfl:=Eq.symm br
              obtain rfl:=Eq.symm bs
              obtain rfl:=Eq.symm bt
              obtain rfl:=Eq.symm V
              obtain rfl:=Eq.symm W
              obtain⟨bQ,rfl,bR⟩:=Z
              obtain⟨bS,rfl,bT⟩:=aa
              obtain rfl:=Eq.symm ab
              obtain rfl:=Eq.symm ae
              refine z8 ?_
              refine zy ?_
              refine zq ?_
              refine zl (.bool s.2) ?_
              refine z8 ?_
              refine qa rfl j (fun j=>?_) (fun j=>?_)
              · refine zy ?_
                refine zq ?_
                refine zl (vi f) ?_
                refine bq (T:=(zz .i64)) (X:=([f]:List Int)) (ps:=[(0,(vi f))]) (css:=[[(vi f)]]) rfl underlying36 zo3 rfl rfl (ko ⟨rfl,trivial⟩) rfl rfl (by decide) fun bU bV an af=>?_
                refine zl ac ?_
                obtain⟨I,j⟩:=ze j
                refine pz (i:=0) (X:=([f]:List Int)) (Y:=s.1) rfl underlying36 zo3 rfl rfl rfl af (jd ad) I.1 I.2 fun z bW ag=>?_
                refine zn z ?_
                refine zn (.bool true) ?_
                refine z8 ?_
                refine mg (i:=0) rfl ag fun ah O ai=>?_
                have aj:VRep (tSl false (zz .i64)) ah z (([f]:List Int)++s.1):=(z5z ai)
                refine qw ?_
                replace b:=z2h j b
                replace d:=z2h b d
                obtain rfl:=Option.some.inj d
                refine qg (D:=[]) (J:=[]) (rs:=[.tmp 10,.tmp 11]) (vs:=[z,(.bool true)]) ((((u.trans n).trans p).trans H).trans O) rfl rfl ⟨rfl,rfl,trivial⟩ ?_
                exact⟨rfl,⟨z,rfl,aj⟩⟩
              · refine qc ?_
                exact⟨dkt,(p.trans H),jm,(),trivial,prm,(Option.some.inj j).symm,trivial⟩
          · rintro cS bX cT ak ⟨rfl,_⟩
            replace b:=z10 b
            refine zq ?_
            refine zl (vi f) ?_
            obtain⟨al,b⟩:=ze b
            refine zi (jg rfl rfl al) ?_
            refine zn (vi (f+1)) ?_
            refine z8 ?_
            exact⟨dkt,ak,jm,(G,f+1),Nat.lt_succ_self _,⟨rfl,trivial⟩,prm,b,trivial⟩
        · refine jk ?_
          exact⟨dkt,n,jm,(),trivial,prm,(Option.some.inj b).symm,trivial⟩
      · rintro cU bY cV am ⟨rfl,_⟩
        replace d:=z10 d
        refine zy ?_
        refine zq ?_
        refine zn vs0 ?_
        refine zn (.bool false) ?_
        refine z8 ?_
        refine qw ?_
        obtain rfl:=Option.some.inj d
        refine qg (D:=[]) (J:=[]) (rs:=[.tmp 10,.tmp 11]) (vs:=[vs0,(.bool false)]) (u.trans am) rfl rfl ⟨rfl,rfl,trivial⟩ ?_
        exact⟨rfl,⟨vs0,rfl,l8⟩⟩
theorem zbn{N:Nat}{R:RH}{m:Mach}{b:Value}(e:VRep (jf false false) R b m){g:(List (Int×Int))}{a:Value}(c:VRep (tSl false kA2tInti64) R a g){d:Int}{taken:Int}{round:Bool}{r:(List Int)×Bool}(f:yh N N m g d taken round=some r):CallP prog 56 #[b,a,(vi d),(vi taken),(.bool round)] R (fun v R'=> ∃ h,v= .tuple #[h,(.bool r.2)]∧VRep (tSl false (zz .i64)) R' h r.1):=z8x N e c f
theorem zbg{N:Nat}{R:RH}{m:Mach}{b:Value}(d:VRep (jf false false) R b m){round:Bool}{r:(List Int)×Bool}(c:z0p N m round=some r):CallP prog 23 #[b,(.bool round)] R (fun v R'=> ∃ j,v= .tuple #[j,(.bool r.2)]∧VRep (tSl false (zz .i64)) R' j r.1):=by
 refine qo (args:=[b,(.bool round)]) func23 rfl rfl fun A=>?_;rw [z0p] at c;refine zt (vo (T:=(jf false false)) rfl rfl rfl d fun v1 R3 f F h2=>?_);refine zn vs0 (zn (.bool false) (z8 (zy ?_)));obtain⟨I,K,c⟩:=zu c;obtain⟨k,L,c⟩:=zu c
 refine mh 9 [] [phX b,phX b,phR (tSl false kA2tInti64) I,phX (.bool round),(fun v R=> ∃ j,v= .tuple #[j,(.bool k.2)]∧VRep (tSl false (zz .i64)) R j k.1),phR (tSl false (zz .i64)) k.1,phX (.bool k.2),phR (tSl false (zz .i64)) k.1,phX (.bool k.2)] mixed (by kernel_rfl) (pq ⟨zo,zo,o5,zo,(fun _ _ _ le ⟨j,e,M⟩=>⟨j,e,M.mono le⟩),o5,zo,o5,zo,trivial⟩) ⟨?_,?_,?_,?_,?_,?_,?_,?_,?_,trivial⟩ fun O o=>?_
 intro l P a g G;exact za rfl rfl rfl (zw (jo z0z rfl (g 2 rfl) (F.mono a) ((d.mono f).mono a)));intro l Q a g G;exact za rfl rfl rfl (zw (jo z0z rfl (g 2 rfl) (F.mono a) ((d.mono f).mono a)));rintro l S a g ⟨i,_⟩;have U:l 7=b:=i rfl
 exact za rfl rfl rfl (vk (vs:=[b]) zy9 (by simp only [List.map,ev,U]<;>rfl) (z1i ((d.mono f).mono a) K) (fun _ _ h=>h));intro l V a g G;exact za rfl rfl rfl (zw (zf (g 1 rfl)));rintro l W a g ⟨i,s,t,H,_⟩;have X:l 6=b:=i rfl;have Y:l 9=(.bool round):=t rfl
 exact za rfl rfl rfl (vk (vs:=[b,(l 8),(vi 0),(vi 0),(.bool round)]) q0m (by simp only [List.map,ev,X,Y]<;>rfl) (zbn ((d.mono f).mono a) (s rfl) L) (fun _ _ h=>h));rintro l Z a g ⟨i,_⟩;have n:=i rfl;obtain⟨j,u,p⟩:=n;exact za rfl rfl rfl (zky (jv u rfl) p)
 rintro l aa a g ⟨i,_⟩;have n:=i rfl;obtain⟨j,u,p⟩:=n;exact za rfl rfl rfl (zw (jv u rfl));rintro l ab a g ⟨i,s,t,H,d4,d5,d6,d7,d8,_⟩;exact za rfl rfl rfl (zky (ni rfl) (i rfl));rintro l ah a g ⟨i,s,t,H,d4,d5,d6,d7,d8,d9,_⟩;exact za rfl rfl rfl (zw (ni (i rfl)))
 intro ai w aj x ak al am y an z ao ap aq B q C ar E;obtain rfl:=Eq.symm w;obtain rfl:=Eq.symm x;obtain rfl:=Eq.symm y;obtain⟨au,rfl,av⟩:=z;obtain rfl:=Eq.symm B;obtain rfl:=Eq.symm E;refine z8 (qw ?_);obtain rfl:=Option.some.inj c
 refine qg (D:=[]) (J:=[]) (rs:=[.tmp 4,.tmp 5]) (vs:=[q,(.bool k.2)]) (f.trans o) rfl rfl ⟨rfl,rfl,trivial⟩ ?_;exact⟨rfl,⟨q,rfl,C⟩⟩
theorem q49:Enters prog 23:=enters_of func23 rfl (by kernel_rfl)
theorem z8o{N:Nat}{R:RH}{x:Sg}{aA:Value}(aB:VRep (gq false) R aA x){round:Bool}{r:Bool}(e:ow N x round=some r):CallP prog 5 #[aA,(.bool round)] R (fun v R'=>v=(.bool r)):=by
 refine qo (args:=[aA,(.bool round)]) func5 rfl rfl fun A=>?_;rw [ow] at e;refine zt (vo (T:=(gq false)) rfl rfl rfl aB fun v1 R3 al h5 h2=>?_);refine zn (.bool false) (j5 (zi (jo q1t rfl rfl h5 (aB.mono al)) ?_));obtain⟨k,c7,e⟩:=zu e
 refine jl rfl q1j rfl (z6z (aB.mono al) c7) fun v8 cx ap h9=>?_;refine jc rfl zid fun I=>?_;obtain⟨w,rfl,K⟩:=z6h h9;refine qm (i:=0) (vs:=[(vi k.inputs),(vi k.outputs),w]) z5h rfl rfl rfl rfl rfl rfl (qb rfl (qb rfl (qb (zhv K) j3))) ?_
 refine j5 (zi (nk (i:=0) zba z5h rfl rfl rfl rfl) (zl (.bool round) ?_));obtain⟨L,bo,e⟩:=zu e;refine jl rfl zzh rfl (z9q (⟨_,⟨_,_,rfl,rfl,⟨_,_,rfl,rfl,(u7 rfl K)⟩⟩,rfl⟩:VRep (jf false false) _ _ (⟨k.inputs,k.outputs,k.rows⟩:Mach)) bo) fun cz cA s bp=>?_;obtain⟨U,rfl,aC⟩:=bp
 refine zl (.tuple #[U,(vi L.2)]) (zi (jv rfl rfl) (zi (jv rfl rfl) (zn U (zn (vi L.2) (j5 (zi (nk (i:=0) zba z5h rfl rfl rfl rfl) (zl (.bool round) ?_)))))));obtain⟨t,bq,e⟩:=zu e
 refine jl rfl q49 rfl (zbg (⟨_,⟨_,_,rfl,rfl,⟨_,_,rfl,rfl,(u7 rfl (K.mono s))⟩⟩,rfl⟩:VRep (jf false false) _ _ (⟨k.inputs,k.outputs,k.rows⟩:Mach)) bq) fun cB cC n br=>?_;obtain⟨am,rfl,bs⟩:=br
 refine zl (.tuple #[am,(.bool t.2)]) (zi (jv rfl rfl) (zi (jv rfl rfl) (zn am (zn (.bool t.2) (z8 (zy (zt (ji (v:=(vi L.2)) rfl (zf rfl) (ji rfl (xe rfl rfl) (ji (v:=(.bool t.2)) rfl (zf rfl) (ji rfl (zmv underlying4 rfl rfl) (ji (v:=(.bool (decide ((decide (L.2=0))≠t.2)))) rfl (zf rfl) (j6 rfl rfl rfl rfl (fun d=>qi (v:=(.bool t.2)) (zf rfl)) fun cD bt=>?_)))))))))))))
 refine j6 rfl rfl rfl rfl (fun d=>qi (p9 (bt.1 (zk rfl d)))) fun cE bv=>?_;refine j6 rfl rfl rfl rfl (fun d=>qi (v:=(.bool (!t.2))) (zf (bv.1 (zk rfl d)))) fun cF aD=>?_;refine z7x rfl rfl rfl aD (fun hG d=>qi (v:=(vi L.2)) (zf rfl)) fun cG bw=>?_
 refine z7x rfl rfl rfl aD (fun hG d=>qi (tu (bw.1 (zk hG d)) rfl)) fun cH bx=>?_;refine j6 rfl rfl rfl rfl (fun d=>qi (y5 (aD.1 (zk rfl d)) (fun M=>(bx.1 (zk (zk rfl d) M))) rfl)) fun cI bz=>?_;refine ji rfl (l7 rfl rfl (fun M=>(bz.1 (zk rfl M)))) ?_
 let G3:=((decide ((decide (L.2=0))≠t.2))||((!t.2)&&(decide (L.2≠7))));refine ji (v:=(.bool G3)) rfl (zf rfl) (j6 rfl rfl rfl rfl (fun d=>qi (v:=U) (zf rfl)) fun cJ bB=>?_);refine j6 rfl rfl rfl rfl (fun d=>qi (v:=am) (zf rfl)) fun cK bC=>?_;obtain⟨aH,bD,e⟩:=zu e
 refine ic rfl rfl rfl rfl (fun d=>vk (vs:=[U,am]) zrw (l9 (bB.1 (zk rfl d)) (l9 (bC.1 (zk rfl d)) rfl)) ((by have V:=(sj bD (zk rfl d));exact ax (Sub.v (B:=(tSl false (zz .i64))) (uh Sub.refl (fun _=>rfl)) (aC.mono n)) bs V)) (fun _ _ h=>h)) fun bE bF q aE=>?_
 replace aE:phG (true&&(G3==false)) (phX (.bool (aH.getD default))) bE bF:=aE;refine j6 rfl rfl rfl rfl (fun d=>qi (p9 (aE.1 (zk rfl d)))) fun cL bG=>?_
 refine ji rfl (l7 rfl rfl (fun M=>(bG.1 (zk rfl M)))) (ji (v:=(.bool (G3||(!(aH.getD default))))) rfl (zf rfl) (j6 rfl rfl rfl rfl (fun d=>qi (v:=U) (zf rfl)) fun cM bH=>?_));refine j6 rfl rfl rfl rfl (fun d=>qi (zo6 rfl underlying36 (bH.1 (zk rfl d)) (aC.mono (n.trans q)))) fun cN bI=>?_
 refine j6 rfl rfl rfl rfl (fun d=>qi (v:=U) (zf rfl)) fun cO bJ=>?_;refine j6 rfl rfl rfl rfl (fun d=>qi (qz rfl underlying36 (bJ.1 (zk rfl d)) (jd (aC.mono (n.trans q))))) fun cP bK=>?_;refine j6 rfl rfl rfl rfl (fun d=>qi (tu (bI.1 (zk rfl d)) (bK.1 (zk rfl d)))) fun cQ bL=>?_
 refine ji rfl (l7 rfl rfl (fun M=>(bL.1 (zk rfl M)))) (z8 (qa rfl e (fun e=>?_) (fun e=>?_)));refine zt (zn (.bool false) (z8 (qw ?_)));obtain rfl:=Option.some.inj e
 refine qg (D:=[]) (J:=[box I [(vi k.inputs),(vi k.outputs),w] 27]) (rs:=[.tmp 4]) (vs:=[(.bool false)]) ((((al.trans ap).trans s).trans n).trans q) rfl rfl ⟨rfl,trivial⟩ ?_;exact⟨rfl,rfl⟩
 refine qc (zt (zi (qd pg rfl) (zi (zg (i:=0) zye rfl rfl rfl) (zi (qz rfl underlying25 rfl (jd (K.mono ((s.trans n).trans q)))) ?_))));obtain⟨an,e⟩:=ze e
 refine z1r (T:=(zz .i64)) (m:=(↑k.rows.length:Int).toNat) (c:=(↑k.rows.length:Int).toNat) rfl underlying36 zo3 (zb rfl an.1) (zb rfl an.1) (Nat.le_refl _) (z2w an) (z2v an) fun C bM aF bN=>?_;refine zn C (j5 (zi (nk (i:=1) zba z5h rfl rfl rfl rfl) ?_));obtain⟨f,bO,e⟩:=zu e
 refine jl rfl zy9 rfl (z1i (⟨_,⟨_,_,rfl,rfl,⟨_,_,rfl,rfl,(u7 rfl (K.mono ((s.trans n).trans q)))⟩⟩,rfl⟩:VRep (jf false false) _ _ (⟨k.inputs,k.outputs,k.rows⟩:Mach)) bO) fun W cR O ao=>?_;refine zn W (z8 ?_);obtain⟨F,a,e⟩:=zu e
 refine jb (γ:=(List Int)×Frag) (rs [12,13,60,98]) (fun g=>[]) (fun g=>[box I [(vi k.inputs),(vi k.outputs),w] 27,g.2]++A) (fun g R=>F=g.1∧ORep (zz .i64) R g.2 C g.1∧capOf C=g.1.length∧True) ?_ ?_
 refine zt (zn (vi 0) (z8 (q9 (kv (γ:=Nat×Int×(List Int)×Frag) (rs [12,13,60,98]) (fun g=>[(12,(vi g.2.1))]) (fun g=>[box I [(vi k.inputs),(vi k.outputs),w] 27,g.2.2.2]++A) (fun g R=>ug N k f g.1 g.2.1 g.2.2.1=some F∧ORep (zz .i64) R g.2.2.2 C g.2.2.1∧capOf C=g.2.2.1.length∧True) (fun g=>g.1) (N,0,(mk (↑k.rows.length:Int) (0:Int)),bM) ⟨[],(pk 1 rfl (pk 0 rfl (List.Perm.refl _)))⟩ ⟨a,(bN.mono O),(aF.trans List.length_replicate.symm),trivial⟩ ?_))))
 clear a;rintro⟨P,b,y,aI⟩ bQ bR p ⟨a,G,X,_⟩;rcases P with _|P;exact qy a;replace a:ug N k f (P+1) b y=some F:=a;rw [ug] at a
 refine zy (zt (zl (vi b) (zl W (zi (qz rfl underlying49 rfl (jd (ao.mono p))) (zi (jh rfl rfl) (z8 (qa rfl a (fun a=>?_) (fun a=>?_))))))));refine qc (zy (q9 (zt (zl C (zl W (zl (vi b) ?_))))));obtain⟨aq,a⟩:=ze a
 refine yj (i:=b.toNat) rfl zsu rfl (jd (ao.mono p)) (zb rfl aq.1) (zm aq) fun bS aJ=>?_;refine zpw (i:=0) rfl zw2 z9u rfl aJ rfl (by decide) fun bT aK=>?_;refine j4 rfl ty3 rfl aK fun bU aL=>?_;obtain rfl:=qh.1 aL;obtain⟨Y,a⟩:=ze a
 refine kg (i:=((ix f b).1).toNat) rfl bu rfl G (zb rfl Y.1) (zm Y) fun bV aM=>?_;refine ig (i:=((ix f b).1).toNat) (j:=1) rfl ty3 G rfl rfl aM (zm Y) fun bW aN=>?_;obtain rfl:=qh.1 aN;obtain⟨aO,a⟩:=ze a;refine zi (z0i rfl rfl aO) ?_;obtain⟨Z,a⟩:=ze a
 refine kg (i:=((ix f b).1).toNat) rfl bu rfl G (zb rfl Z.1) (zm Z) fun bX aP=>?_;refine gm (i:=((ix f b).1).toNat) (j:=1) ty3 G rfl rfl aP (zm Z) rfl (qh.2 rfl) fun bY Q=>?_;refine z8 (z0h 22 mixed (by kernel_rfl) (by kernel_rfl) ?_);refine jq (v:=C) (zf rfl) ?_
 refine jq (v:=(.pointer (some ⟨I,2,none⟩))) (qd pg rfl) ?_;refine jq (v:=w) (zg (i:=0) zye rfl rfl rfl) ?_;refine jq (v:=W) (zf rfl) ?_;refine jq (v:=(vi b)) (zf rfl) ?_;obtain⟨ar,a⟩:=ze a
 refine dx (ut (i:=b.toNat) zsu rfl (jd (ao.mono p)) (zb rfl ar.1) (zm ar)) fun bZ aQ=>?_;refine dx (zay (i:=0) zw2 z9u rfl aQ rfl (by decide)) fun b0 aR=>?_;refine jq (xg (kz ty3 rfl aR)) ?_;obtain⟨au,a⟩:=ze a
 refine dx (ut (i:=((ix f b).1).toNat) zic rfl (jd (K.mono ((((s.trans n).trans q).trans O).trans p))) (zb rfl au.1) (zm au)) fun b1 aS=>?_;refine dx (kz zgo rfl aS) fun b2 aT=>?_;refine jq (v:=W) (zf rfl) ?_;refine jq (v:=(vi b)) (zf rfl) ?_;obtain⟨av,a⟩:=ze a
 refine dx (ut (i:=b.toNat) zsu rfl (jd (ao.mono p)) (zb rfl av.1) (zm av)) fun b3 aU=>?_;refine dx (zay (i:=1) zw2 zdd rfl aU rfl (by decide)) fun b4 aV=>?_;refine jq (xg (kz ty3 rfl aV)) ?_;obtain⟨aw,a⟩:=ze a
 refine dx (ut (i:=((ix f b).2).toNat) zj7 rfl (jd aT) (zb rfl aw.1) (zm aw)) fun b5 aW=>?_;refine dx (oo z7j z7b rfl aW) fun b6 aX=>?_;refine jq (xg (kz ty3 rfl aX)) ?_;obtain⟨aa,a⟩:=ze a
 refine dx (lg (i:=((ix (ix k.rows ((ix f b).1)) ((ix f b).2)).to).toNat) bu rfl Q (zb rfl aa.1) (zm aa)) fun b7 aY=>?_;refine jq (xg (z7h (i:=((ix (ix k.rows ((ix f b).1)) ((ix f b).2)).to).toNat) (j:=1) ty3 Q rfl rfl aY (zm aa))) ?_;obtain⟨aZ,a⟩:=ze a;refine jq (jg rfl rfl aZ) ?_
 obtain⟨ab,a⟩:=ze a;refine dx (lg (i:=((ix (ix k.rows ((ix f b).1)) ((ix f b).2)).to).toNat) bu rfl Q (zb rfl ab.1) (zm ab)) fun b8 a0=>?_;intro b9 ac
 refine gm (i:=((ix (ix k.rows ((ix f b).1)) ((ix f b).2)).to).toNat) (j:=1) ty3 (Q.mono ac) rfl rfl a0 (zm ab) rfl (qh.2 rfl) fun a1 a2=>?_;refine z8 (zq (zl (vi b) ?_));obtain⟨a3,a⟩:=ze a;refine zi (jg rfl rfl a3) (zn (vi (b+1)) (z8 ?_))
 exact⟨dkt,ac,jm,(P,b+1,(up (up y ((ix f b).1) ((ix y ((ix f b).1))-1)) ((ix (ix k.rows ((ix f b).1)) ((ix f b).2)).to) ((ix (up y ((ix f b).1) ((ix y ((ix f b).1))-1)) ((ix (ix k.rows ((ix f b).1)) ((ix f b).2)).to))+1)),a1),Nat.lt_succ_self _,⟨rfl,trivial⟩,prm,a,a2,((X.trans List.length_set.symm).trans List.length_set.symm),trivial⟩
 refine jk ?_;exact⟨dkt,p,jm,(y,aI),trivial,prm,(Option.some.inj a).symm,G,X,trivial⟩;rintro⟨F,ay⟩ ca cb ad ⟨rfl,ae,bP,_⟩;refine zt (zn (.bool true) (z8 ?_));obtain⟨o,a,e⟩:=zu e
 refine jb (γ:=Bool) (rs [13,15,98,112]) (fun g=>[(13,(.bool g))]) (fun g=>[box I [(vi k.inputs),(vi k.outputs),w] 27]++A) (fun g R=>o=g∧True) ?_ ?_
 refine zt (zn (vi 0) (z8 (q9 (kv (γ:=Nat×Bool×Int) (rs [13,15,98,112]) (fun g=>[(13,(.bool g.2.1)),(14,(vi g.2.2))]) (fun g=>[box I [(vi k.inputs),(vi k.outputs),w] 27,ay]++A) (fun g R=>uw N F g.1 g.2.1 g.2.2=some o∧True) (fun g=>g.1) (N,true,0) prm ⟨a,trivial⟩ ?_))));clear a
 rintro⟨S,z,l⟩ cc cd E ⟨a,_⟩;rcases S with _|S;exact qy a;replace a:uw N F (S+1) z l=some o:=a;rw [uw] at a
 refine zy (zt (zl (vi l) (zl C (zi (mq rfl underlying36 rfl (ae.mono E)) (zi (jh rfl rfl) (z8 (qa rfl a (fun a=>?_) (fun a=>?_))))))))
 refine qc (zy (q9 (zq (ji (v:=(.bool z)) rfl (zf rfl) (ji (v:=(.bool z)) rfl (zf rfl) (j6 rfl rfl rfl rfl (fun d=>qi (v:=C) (zf rfl)) fun ce a4=>?_))))));refine j6 rfl rfl rfl rfl (fun d=>qi (v:=(vi l)) (zf rfl)) fun cf a5=>?_;obtain⟨af,a⟩:=ze a
 refine j6 rfl rfl rfl rfl (fun d=>lg (i:=l.toNat) bu (a4.1 (zk rfl d)) (ae.mono E) (zb (a5.1 (zk rfl d)) (af (zk rfl d)).1) (zm (af (zk rfl d)))) fun cg a6=>?_
 refine j6 rfl rfl rfl rfl (fun d=>qi (xg (z7h (i:=l.toNat) (j:=1) ty3 (ae.mono E) rfl rfl (a6.1 (zk rfl d)) (zm (af (zk rfl d)))))) fun ch a7=>?_;refine j6 rfl rfl rfl rfl (fun d=>qi (xe (a7.1 (zk rfl d)) rfl)) fun ci a8=>?_
 refine ji rfl (y5 rfl (fun M=>(a8.1 (zk rfl M))) rfl) (zn (.bool (z&&(decide ((ix F l)=0)))) (z8 (zq (zl (vi l) ?_))));obtain⟨a9,a⟩:=ze a;refine zi (jg rfl rfl a9) (zn (vi (l+1)) (z8 ?_))
 exact⟨dkt,(RH.le.refl _),jm,(S,z&&(decide ((ix F l)=0)),l+1),Nat.lt_succ_self _,⟨rfl,rfl,trivial⟩,prm,a,trivial⟩;refine jk ?_;exact⟨dkt,E,jm,z,⟨rfl,trivial⟩,⟨[ay],(pk 1 rfl (pk 0 rfl (List.Perm.refl _)))⟩,(Option.some.inj a).symm,trivial⟩;rintro o cj ck ag ⟨rfl,_⟩
 refine zt (ji (v:=(.bool round)) rfl (zf rfl) (ji rfl (p9 rfl) (ji (v:=(.bool (!round))) rfl (zf rfl) (j6 rfl rfl rfl rfl (fun d=>qi (v:=(.bool t.2)) (zf rfl)) fun cl ba=>?_))));refine j6 rfl rfl rfl rfl (fun d=>qi (v:=(.bool o)) (zf rfl)) fun cm bb=>?_
 refine j6 rfl rfl rfl rfl (fun d=>qi (v:=(.bool o)) (zf (bb.1 (zk rfl d)))) fun cn H=>?_;refine z7x rfl rfl rfl H (fun hG d=>qi (v:=(.agg #[(vi k.inputs),(vi k.outputs),w])) (nk (i:=0) zba z5h rfl rfl rfl rfl)) fun co bc=>?_;obtain⟨ah,be,e⟩:=zu e
 refine zua rfl rfl rfl H (fun hG d=>vk (vs:=[(.agg #[(vi k.inputs),(vi k.outputs),w])]) q1f (l9 (bc.1 (zk hG d)) rfl) ((by have V:=(sj be (zk hG d));exact z6a (⟨_,⟨_,_,rfl,rfl,⟨_,_,rfl,rfl,(u7 rfl (K.mono (((((s.trans n).trans q).trans O).trans ad).trans ag)))⟩⟩,rfl⟩:VRep (jf false false) _ _ (⟨k.inputs,k.outputs,k.rows⟩:Mach)) V)) (fun _ _ h=>h)) fun bf bg u ai=>?_
 replace ai:phG ((true&&((!round)==false))&&(o==true)) (phR (tSl false (tSl false (zz .i64))) (ah.getD default)) bf bg:=ai;refine z7x rfl rfl rfl ((qp zo) _ _ _ u H) (fun hG d=>qi (qz rfl underlying30 rfl (jd (ai.1 (zk hG d))))) fun cp bh=>?_
 refine z7x rfl rfl rfl ((qp zo) _ _ _ u H) (fun hG d=>qi (xe (bh.1 (zk hG d)) rfl)) fun cq bi=>?_;refine j6 rfl rfl rfl rfl (fun d=>qi (y5 (((qp zo) _ _ _ u H).1 (zk rfl d)) (fun M=>(bi.1 (zk (zk rfl d) M))) rfl)) fun cr bj=>?_
 refine j6 rfl rfl rfl rfl (fun d=>qi (zh5 underlying4 (((qp zo) _ _ _ u ba).1 (zk rfl d)) (bj.1 (zk rfl d)))) fun cs bk=>?_;refine ji rfl (l7 rfl rfl (fun M=>(bk.1 (zk rfl M)))) ?_;let G2:=((!round)||(decide (t.2=(o&&(decide ((↑(ah.getD default).length:Int)=1))))));refine ji (v:=(.bool G2)) rfl (zf rfl) ?_
 obtain⟨az,bl,e⟩:=zu e;refine ic rfl rfl rfl rfl (fun d=>vk (vs:=[]) q2b rfl ((by have V:=(sj bl (zk rfl d));exact z6c  V)) (fun _ _ h=>h)) fun bm bn aG aj=>?_;replace aj:phG (true&&(G2==true)) (phX (.bool (az.getD default))) bm bn:=aj
 refine ji rfl (y5 rfl (fun M=>(aj.1 (zk rfl M))) rfl) ?_;let G1:=(((!round)||(decide (t.2=(o&&(decide ((↑(ah.getD default).length:Int)=1))))))&&(az.getD default));refine ji (v:=(.bool G1)) rfl (ni rfl) (z8 (qw ?_));obtain rfl:=Option.some.inj e
 refine qg (D:=[]) (J:=[box I [(vi k.inputs),(vi k.outputs),w] 27]) (rs:=[.tmp 4]) (vs:=[(.bool G1)]) (((((((((al.trans ap).trans s).trans n).trans q).trans O).trans ad).trans ag).trans u).trans aG) rfl rfl ⟨rfl,trivial⟩ ?_;exact⟨rfl,rfl⟩
end GV
end Go.Proofs.Ytdhccodneoebpaa
