import Derived.Test.YtjmlpkkbmnjhcaaShWg
import Derived.Test.YtjmlpkkbmnjhcaaRows
set_option linter.unusedVariables false
set_option linter.unusedSimpArgs false
set_option linter.unusedSectionVars false
namespace Go.Proofs.Ytjmlpkkbmnjhcaa
namespace GV
open _root_.Go.Proofs.Try
open Go.IntWalk
set_option maxRecDepth 100000
set_option maxHeartbeats 20000000
theorem zbz{N:Nat}{R:RH}{u:(List Int)}{d:Value}(j:VRep (tSl false (q8 .i64)) R d u){n:Int}{r:(List Int)}(m:z1q N u n=some r):CallP prog 58 #[d,(vi n)] R (fun v R'=>VRep (tSl false (q8 .i64)) R' v r):=by
 refine ql (args:=[d,(vi n)]) func58 rfl rfl fun A=>?_;rw [z1q] at m;refine zu (zi vs0 (qw (zi vs0 (qw (zi (.bool false) (za ?_))))));obtain⟨y,a,m⟩:=zx m
 refine qo (γ:=(List Int×Bool)×Value×Frag) (rs [5,41]) (fun g=>[(5,g.2.1),(6,(.bool g.1.2))]) (fun g=>[g.2.2]++A) (fun g R=>y=g.1∧ORep (q8 .i64) R g.2.2 g.2.1 g.1.1∧True) ?_ ?_;refine zu (zi (vi 0) (za (qd (z5f ?_))))
 refine j4 (γ:=Nat×(List Int)×Bool×Int×Value×Frag) (rs [5,41]) (fun g=>[(5,g.2.2.2.2.1),(6,(.bool g.2.2.1)),(7,(vi g.2.2.2.1))]) (fun g=>[g.2.2.2.2.2]++A) (fun g R=>mq N u n g.1 g.2.1 g.2.2.1 g.2.2.2.1=some y∧ORep (q8 .i64) R g.2.2.2.2.2 g.2.2.2.2.1 g.2.1∧True) (fun g=>g.1) (N,[],false,0,vs0,emp) prm ⟨a,(z2d (T:=(q8 .i64))),trivial⟩ ?_
 clear a;rintro⟨F9,p,q,b,G,O⟩ a3 a4 f ⟨a,H,_⟩;rcases F9 with _|F9;exact qy a;replace a:mq N u n (F9+1) p q b=some y:=a;rw [mq] at a
 refine qb (zu (zf (vi b) (zf d (zy (jb rfl underlying30 rfl (jv (j.mono f))) (zy (ji rfl rfl) (za (qa rfl a (fun a=>?_) (fun a=>?_))))))));refine qf ?_;obtain⟨w,c,a⟩:=zx a
 refine qo (γ:=(Bool×List Int)×Value×Frag) (rs [5,7,14,41]) (fun g=>[(5,g.2.1),(6,(.bool g.1.1))]) (fun g=>[g.2.2]++A) (fun g R=>w=g.1∧ORep (q8 .i64) R g.2.2 g.2.1 g.1.2∧True) ?_ ?_;refine qd ?_;obtain⟨h,e,c⟩:=zx c
 refine qo (γ:=(Bool×List Int)×Value×Frag) (rs [5,7,14,28]) (fun g=>[(5,g.2.1),(6,(.bool g.1.1))]) (fun g=>[g.2.2]++A) (fun g R=>h=g.1∧ORep (q8 .i64) R g.2.2 g.2.1 g.1.2∧True) ?_ ?_
 refine zu (jg (v:=(.bool q)) rfl (z8 rfl) (jg rfl (lg rfl) (jg (v:=(.bool (!q))) rfl (z8 rfl) (ja rfl rfl rfl rfl (fun o=>qp (v:=(vi n)) (z8 rfl)) fun a5 aq=>?_))));refine ja rfl rfl rfl rfl (fun o=>qp (v:=d) (z8 rfl)) fun a6 ar=>?_
 refine ja rfl rfl rfl rfl (fun o=>qp (v:=(vi b)) (z8 rfl)) fun a7 au=>?_;obtain⟨P,e⟩:=zb e;refine ja rfl rfl rfl rfl (fun o=>dn (i:=b.toNat) z3c (ar.1 (zo rfl o)) (jv (j.mono f)) (zl (au.1 (zo rfl o)) (P (zo rfl o)).1) (zw (P (zo rfl o)))) fun a8 av=>?_
 refine ja rfl rfl rfl rfl (fun o=>qp (fu (ky ty3 rfl (av.1 (zo rfl o))))) fun a9 aw=>?_;refine ja rfl rfl rfl rfl (fun o=>qp (z2p (aq.1 (zo rfl o)) (aw.1 (zo rfl o)))) fun ba ax=>?_;refine jg rfl (xn rfl (fun hb=>(ax.1 (zo rfl hb))) rfl) (za (qa rfl e (fun e=>?_) (fun e=>?_)))
 refine zu (zf G (zf (vi n) (ai (T:=(q8 .i64)) (X:=([n]:List Int)) (ps:=[(0,(vi n))]) (css:=[[(vi n)]]) rfl underlying30 zo3 rfl rfl (ko ⟨rfl,trivial⟩) rfl rfl (by decide) fun ay bc I az=>?_)));refine xy (i:=0) rfl az fun aA z aB=>?_
 have aC:VRep (tSl true (q8 .i64)) aA ay ([n]:List Int):=(z1y aB I);obtain⟨Q,e⟩:=zb e;refine z0j (i:=0) (X:=p) (Y:=([n]:List Int)) rfl underlying30 zo3 rfl rfl rfl (H.mono z) (jv (Sub.v (B:=(tSl false (q8 .i64))) (wm Sub.refl (fun _=>rfl)) aC)) Q.1 Q.2 fun S aD aE=>?_
 refine zi S (za (zz (zi (.bool true) (za ?_))));exact⟨dkt,z,je,((true,(p++([n]:List Int))),S,aD),⟨rfl,rfl,trivial⟩,prm,(Option.some.inj e).symm,aE,trivial⟩;refine qf ?_;exact⟨dkt,(RH.le.refl _),je,((q,p),G,O),⟨rfl,rfl,trivial⟩,prm,(Option.some.inj e).symm,H,trivial⟩
 rintro⟨h,U,aF⟩ be bf k ⟨rfl,V,_⟩;refine zu (zf d (zf (vi b) ?_));obtain⟨W,c⟩:=zb c;refine eu (i:=b.toNat) rfl z3c rfl (jv (j.mono (f.trans k))) (zl rfl W.1) (zw W) fun bg aG=>?_;refine jf rfl ty3 rfl aG fun bh aH=>?_;obtain rfl:=qc.1 aH
 refine zf (vi n) (zy (yl rfl rfl) (za (qa rfl c (fun c=>?_) (fun c=>?_))));refine zz (zf U (zf d (zf (vi b) ?_)));obtain⟨Z,c⟩:=zb c;refine eu (i:=b.toNat) rfl z3c rfl (jv (j.mono (f.trans k))) (zl rfl Z.1) (zw Z) fun bi aI=>?_;refine jf rfl ty3 rfl aI fun bj aJ=>?_
 obtain rfl:=qc.1 aJ;refine ai (T:=(q8 .i64)) (X:=([(ix u b)]:List Int)) (ps:=[(0,(vi (ix u b)))]) (css:=[[(vi (ix u b))]]) rfl underlying30 zo3 rfl rfl (ko ⟨rfl,trivial⟩) rfl rfl (by decide) fun aK bk K aL=>?_;refine xy (i:=0) rfl aL fun aM C aN=>?_
 have aO:VRep (tSl true (q8 .i64)) aM aK ([(ix u b)]:List Int):=(z1y aN K);obtain⟨aa,c⟩:=zb c;refine z0j (i:=0) (X:=h.2) (Y:=([(ix u b)]:List Int)) rfl underlying30 zo3 rfl rfl rfl (V.mono C) (jv (Sub.v (B:=(tSl false (q8 .i64))) (wm Sub.refl (fun _=>rfl)) aO)) aa.1 aa.2 fun ab aP aQ=>?_;refine zi ab (za ?_)
 exact⟨dkt,(k.trans C),je,((h.1,(h.2++([(ix u b)]:List Int))),ab,aP),⟨rfl,rfl,trivial⟩,prm,(Option.some.inj c).symm,aQ,trivial⟩;refine qf ?_;exact⟨dkt,k,je,((h.1,h.2),U,aF),⟨rfl,rfl,trivial⟩,prm,(Option.some.inj c).symm,V,trivial⟩;rintro⟨w,aR,aS⟩ bl bm ac ⟨rfl,aT,_⟩;refine zz (zf (vi b) ?_)
 obtain⟨aU,a⟩:=zb a;refine zy (qz rfl rfl aU) (zi (vi (b+1)) (za ?_));exact⟨dkt,ac,je,(F9,w.2,w.1,b+1,aR,aS),Nat.lt_succ_self _,⟨rfl,rfl,rfl,trivial⟩,prm,a,aT,trivial⟩;refine jl ?_;exact⟨dkt,f,je,((p,q),G,O),⟨rfl,rfl,trivial⟩,prm,(Option.some.inj a).symm,H,trivial⟩
 rintro⟨y,v4,f5⟩ aX R2 aV ⟨rfl,h6,_⟩;obtain⟨s,a,m⟩:=zx m;refine qo (γ:=(List Int)×Value×Frag) [41,42,43,44,45,46,5] (fun g=>[(5,g.2.1)]) (fun g=>[g.2.2]++A) (fun g R=>s=g.1∧ORep (q8 .i64) R g.2.2 g.2.1 g.1∧True) ?_ ?_;refine zu (zf (.bool y.2) (zy (lg rfl) (za (qa rfl a (fun a=>?_) (fun a=>?_)))))
 refine zz (zf v4 (zf (vi n) (ai (T:=(q8 .i64)) (X:=([n]:List Int)) (ps:=[(0,(vi n))]) (css:=[[(vi n)]]) rfl underlying30 zo3 rfl rfl (ko ⟨rfl,trivial⟩) rfl rfl (by decide) fun ad aZ x ae=>?_)));refine xy (i:=0) rfl ae fun af t ag=>?_
 have ah:VRep (tSl true (q8 .i64)) af ad ([n]:List Int):=(z1y ag x);obtain⟨E,a⟩:=zb a;refine z0j (i:=0) (X:=y.1) (Y:=([n]:List Int)) rfl underlying30 zo3 rfl rfl rfl (h6.mono t) (jv (Sub.v (B:=(tSl false (q8 .i64))) (wm Sub.refl (fun _=>rfl)) ah)) E.1 E.2 fun F aj ak=>?_;refine zi F (za ?_)
 exact⟨dkt,t,je,((y.1++([n]:List Int)),F,aj),⟨rfl,trivial⟩,prm,(Option.some.inj a).symm,ak,trivial⟩;refine qf ?_;exact⟨dkt,(RH.le.refl _),je,(y.1,v4,f5),⟨rfl,trivial⟩,prm,(Option.some.inj a).symm,h6,trivial⟩;rintro⟨s,l,a0⟩ a1 a2 L ⟨rfl,al,_⟩
 refine zu (zf l (zi l (za (z2g (i:=0) rfl al fun am M an=>?_))));have ao:VRep (tSl false (q8 .i64)) am l s:=(z7k an);refine qm ?_;obtain rfl:=Option.some.inj m;refine qg (D:=[]) (J:=[]) (rs:=[.tmp 4]) (vs:=[l]) ((aV.trans L).trans M) rfl rfl ⟨rfl,trivial⟩ ?_;exact⟨rfl,ao⟩
theorem q09:Enters prog 58:=enters_of func58 rfl (by kernel_rfl)
theorem zyj:Enters prog 34:=enters_of func34 rfl (by kernel_rfl)
theorem z8k{N:Nat}(F:Nat): ∀ {R:RH} {m:Mach} {E:Value} (M:VRep (wz false false) R E m) {set:(List Int)} {f:Value} (s:VRep (tSl false (q8 .i64)) R f set) {d:Int} {r:Bool} (b:uj N F m set d=some r),CallP prog 34 #[E,f,(vi d)] R (fun v R'=>v=(.bool r)):=by
  induction F with
  |zero=>intros;rename_i b;exact qy b
  |succ F ih=>
    intro R m E M set f s d r b
    refine ql (args:=[E,f,(vi d)]) func34 rfl rfl fun A=>?_
    rw [uj] at b
    refine qb ?_
    refine zz ?_
    refine ah (T:=(wz false false)) rfl rfl rfl M fun v1 R3 t h5 h2=>?_
    refine zi (.bool false) ?_
    refine za ?_
    refine qb ?_
    refine qb ?_
    refine zz ?_
    refine zf f ?_
    refine zy (jb rfl underlying30 rfl (jv (s.mono t))) ?_
    refine zy (o7 rfl rfl) ?_
    refine za ?_
    refine qa rfl b (fun b=>?_) (fun b=>?_)
    · refine qb ?_
      refine zz ?_
      refine zi (.bool true) ?_
      refine za ?_
      refine qm ?_
      obtain rfl:=Option.some.inj b
      refine qg (D:=[]) (J:=[]) (rs:=[.tmp 6]) (vs:=[(.bool true)]) t rfl rfl ⟨rfl,trivial⟩ ?_
      exact⟨rfl,rfl⟩
    · refine qf ?_
      refine qb ?_
      refine qb ?_
      refine zz ?_
      refine zf (vi d) ?_
      refine zy (o7 rfl rfl) ?_
      refine za ?_
      refine qa rfl b (fun b=>?_) (fun b=>?_)
      · refine qb ?_
        refine zz ?_
        refine zi (.bool false) ?_
        refine za ?_
        refine qm ?_
        obtain rfl:=Option.some.inj b
        refine qg (D:=[]) (J:=[]) (rs:=[.tmp 6]) (vs:=[(.bool false)]) t rfl rfl ⟨rfl,trivial⟩ ?_
        exact⟨rfl,rfl⟩
      · refine qf ?_
        obtain⟨q9,c,b⟩:=zx b
        refine qo (γ:=Unit) (rs [6,12,17,77]) (fun g=>[]) (fun g=>[]++A) (fun g R=>q9=Ex.go g∧True) ?_ ?_
        · refine qb ?_
          refine zz ?_
          refine zi (vi 0) ?_
          refine za ?_
          refine qd ?_
          refine j4 (γ:=Nat×Int) (rs [6,12,17,77]) (fun g=>[(7,(vi g.2))]) (fun g=>[]++A) (fun g R=>ma N (uj N F) m set d g.1 g.2=some q9∧True) (fun g=>g.1) (N,0) prm ⟨c,trivial⟩ ?_
          clear c
          rintro⟨O,j⟩ bk bX k ⟨c,_⟩
          rcases O with _|O
          · exact qy c
          replace c:ma N (uj N F) m set d (O+1) j=some q9:=c;rw [ma] at c
          refine qb ?_
          refine qb ?_
          refine zz ?_
          refine zf (vi j) ?_
          refine uy rfl z1k z1z rfl (h2.mono k) fun bY aL=>?_
          refine jf rfl ty3 rfl aL fun bZ aM=>?_
          obtain rfl:=qc.1 aM
          refine zy (ji rfl rfl) ?_
          refine za ?_
          refine qa rfl c (fun c=>?_) (fun c=>?_)
          · refine qf ?_
            refine qb ?_
            refine qd ?_
            refine qb ?_
            refine zz ?_
            refine zi (.bool true) ?_
            refine za ?_
            obtain⟨H,e,c⟩:=zx c
            refine qo (γ:=Bool) (rs [8,12,23,76]) (fun g=>[(8,(.bool g))]) (fun g=>[]++A) (fun g R=>H=g∧True) ?_ ?_
            · refine qb ?_
              refine zz ?_
              refine zi (vi 0) ?_
              refine za ?_
              refine qd ?_
              refine j4 (γ:=Nat×Bool×Int) (rs [8,12,23,76]) (fun g=>[(8,(.bool g.2.1)),(9,(vi g.2.2))]) (fun g=>[]++A) (fun g R=>nz N (uj N F) m set d j g.1 g.2.1 g.2.2=some H∧True) (fun g=>g.1) (N,true,0) prm ⟨e,trivial⟩ ?_
              clear e
              rintro⟨P,V,x⟩ bl b0 p ⟨e,_⟩
              rcases P with _|P
              · exact qy e
              replace e:nz N (uj N F) m set d j (P+1) V x=some H:=e;rw [nz] at e
              refine qb ?_
              refine qb ?_
              refine zz ?_
              refine jg (v:=(vi x)) rfl (z8 rfl) ?_
              refine zrr rfl (mh zf7 zd9 rfl (h2.mono (k.trans p))) fun b1 aN=>?_
              refine jg rfl (fu (ky ty3 rfl aN)) ?_
              refine jg rfl (ji rfl rfl) ?_
              refine jg (v:=(.bool (decide (x<m.outputs)))) rfl (z8 rfl) ?_
              refine ja rfl rfl rfl rfl (fun I=>qp (v:=(.bool V)) (z8 rfl)) fun b2 aO=>?_
              refine jg rfl (xn rfl (fun hb=>(aO.1 (zo rfl hb))) rfl) ?_
              refine za ?_
              refine qa rfl e (fun e=>?_) (fun e=>?_)
              · refine qf ?_
                refine qb ?_
                refine qd ?_
                refine qb ?_
                refine zz ?_
                refine zi vs0 ?_
                refine za ?_
                obtain⟨z,n,e⟩:=zx e
                refine qo (γ:=((List Int))×Value) (rs [10,12,32,66]) (fun g=>[(10,g.2)]) (fun g=>[]++A) (fun g R=>z=g.1∧VRep (tSl false (q8 .i64)) R g.2 g.1∧True) ?_ ?_
                · refine qb ?_
                  refine zz ?_
                  refine zi (vi 0) ?_
                  refine za ?_
                  refine qd ?_
                  refine j4 (γ:=Nat×((List Int))×Int×Value) (rs [10,12,32,66]) (fun g=>[(10,g.2.2.2),(11,(vi g.2.2.1))]) (fun g=>[]++A) (fun g R=>bf N m set j x g.1 g.2.1 g.2.2.1=some z∧VRep (tSl false (q8 .i64)) R g.2.2.2 g.2.1∧True) (fun g=>g.1) (N,([]:(List Int)),0,vs0) prm ⟨n,z0p,trivial⟩ ?_
                  clear n
                  rintro⟨Q,W,a,G⟩ bm b3 u ⟨n,X,_⟩
                  rcases Q with _|Q
                  · exact qy n
                  replace n:bf N m set j x (Q+1) W a=some z:=n;rw [bf] at n
                  refine qb ?_
                  refine qb ?_
                  refine zz ?_
                  refine zf (vi a) ?_
                  refine zf f ?_
                  refine zy (jb rfl underlying30 rfl (jv (s.mono (((t.trans k).trans p).trans u)))) ?_
                  refine zy (ji rfl rfl) ?_
                  refine za ?_
                  refine qa rfl n (fun n=>?_) (fun n=>?_)
                  · refine qf ?_
                    obtain⟨Y,q,n⟩:=zx n
                    refine qo (γ:=((List Int))×Value) (rs [10,11,38,66]) (fun g=>[(10,g.2)]) (fun g=>[]++A) (fun g R=>Y=g.1∧VRep (tSl false (q8 .i64)) R g.2 g.1∧True) ?_ ?_
                    · refine qd ?_
                      refine qb ?_
                      refine z2s 14 mixed (by kernel_rfl) (by kernel_rfl) ?_
                      refine z01 (mh mi yz rfl (h2.mono ((k.trans p).trans u))) fun b4 aQ=>?_
                      refine z01 (ky z3b rfl aQ) fun b5 aR=>?_
                      refine w9 (v:=f) (z8 rfl) ?_
                      refine w9 (v:=(vi a)) (z8 rfl) ?_
                      obtain⟨ad,q⟩:=zb q
                      refine z01 (dn (i:=a.toNat) z3c rfl (jv (s.mono (((t.trans k).trans p).trans u))) (zl rfl ad.1) (zw ad)) fun b6 aS=>?_
                      refine w9 (fu (ky ty3 rfl aS)) ?_
                      obtain⟨ae,q⟩:=zb q
                      refine z01 (dn (i:=(ix set a).toNat) za4 rfl (jv aR) (zl rfl ae.1) (zw ae)) fun b7 aT=>?_
                      refine z01 (ky z8y rfl aT) fun b8 aU=>?_
                      refine w9 (v:=(vi j)) (z8 rfl) ?_
                      obtain⟨af,q⟩:=zb q
                      refine z01 (dn (i:=j.toNat) z8s rfl (jv aU) (zl rfl af.1) (zw af)) fun b9 aV=>?_
                      refine z01 (mh zgi zcw rfl aV) fun ca aW=>?_
                      refine w9 (fu (ky ty3 rfl aW)) ?_
                      refine w9 (v:=(vi x)) (z8 rfl) ?_
                      refine w9 (o7 rfl rfl) ?_
                      intro cb w
                      refine za ?_
                      refine qa rfl q (fun q=>?_) (fun q=>?_)
                      · obtain⟨ag,ai,aj,q⟩:=zs3 q
                        obtain⟨ak,al,q⟩:=zx q
                        refine oz 14 [] [phX G,phP (tSl false (tSl false kEdge)) m.rows,phR (tSl false (tSl false kEdge)) m.rows,phX f,phX (vi a),phP (q8 .i64) (ix set a),phX (vi (ix set a)),phP (tSl false kEdge) (ix m.rows (ix set a)),phR (tSl false kEdge) (ix m.rows (ix set a)),phX (vi j),phP kEdge (ix (ix m.rows (ix set a)) j),phP (q8 .i64) ((ix (ix m.rows (ix set a)) j).to),phX (vi ((ix (ix m.rows (ix set a)) j).to)),phR (tSl false (q8 .i64)) ak] mixed (by kernel_rfl) (dw ⟨zh,lc,z1d,zh,zh,lc,zh,lc,z1d,zh,lc,lc,zh,z1d,trivial⟩) ⟨?_,?_,?_,?_,?_,?_,?_,?_,?_,?_,?_,?_,?_,?_,trivial⟩ fun bn Z=>?_
                        · intro l cc o y hd
                          have aX:l 10=G:=y 10 rfl
                          exact zg rfl rfl rfl (zn (z8 aX))
                        · intro l cd o y hd
                          have a3:l 3=v1:=y 3 rfl
                          exact zg rfl rfl rfl (lm mi yz a3 ((h2.mono (((k.trans p).trans u).trans w)).mono o))
                        · rintro l cf o y ⟨B,_⟩
                          have aY:=B rfl
                          exact zg rfl rfl rfl (mo z3b rfl aY)
                        · intro l cg o y hd
                          have a1:l 1=f:=y 1 rfl
                          exact zg rfl rfl rfl (zn (z8 a1))
                        · intro l ci o y hd
                          have aZ:l 11=(vi a):=y 11 rfl
                          exact zg rfl rfl rfl (zn (z8 aZ))
                        · rintro l cj o y ⟨B,d1,_⟩
                          have a0:=B rfl
                          have a2:=d1 rfl
                          exact zg rfl rfl rfl (z0i (i:=a.toNat) z3c a0 (jv ((s.mono ((((t.trans k).trans p).trans u).trans w)).mono o)) (zl a2 ag.1) (zw ag))
                        · rintro l ck o y ⟨B,_⟩
                          have a4:=B rfl
                          exact zg rfl rfl rfl (j3 (mo ty3 rfl a4) (fun _ _ h=>qc.1 h))
                        · rintro l cl o y ⟨B,d1,_⟩
                          have a5:=B rfl
                          have a6:=d1 rfl
                          exact zg rfl rfl rfl (z0i (i:=(ix set a).toNat) za4 rfl (jv a5) (zl a6 ai.1) (zw ai))
                        · rintro l cm o y ⟨B,_⟩
                          have a8:=B rfl
                          exact zg rfl rfl rfl (mo z8y rfl a8)
                        · intro l cn o y hd
                          have a7:l 7=(vi j):=y 7 rfl
                          exact zg rfl rfl rfl (zn (z8 a7))
                        · rintro l bo o y ⟨B,d1,_⟩
                          have a9:=B rfl
                          have ba:=d1 rfl
                          exact zg rfl rfl rfl (z0i (i:=j.toNat) z8s rfl (jv a9) (zl ba aj.1) (zw aj))
                        · rintro l bp o y ⟨B,_⟩
                          have bb:=B rfl
                          exact zg rfl rfl rfl (lm z3a z1h rfl bb)
                        · rintro l bq o y ⟨B,_⟩
                          have bc:=B rfl
                          exact zg rfl rfl rfl (j3 (mo ty3 rfl bc) (fun _ _ h=>qc.1 h))
                        · rintro l br o y ⟨B,d1,_⟩
                          have be:l 52=G:=B rfl
                          have bg:l 64=(vi ((ix (ix m.rows (ix set a)) j).to)):=d1 rfl
                          exact zg rfl rfl rfl (yc (vs:=[G,(vi ((ix (ix m.rows (ix set a)) j).to))]) q09 (by simp only [List.map,ev,be,bg]<;>rfl) (zbz ((X.mono w).mono o) al) (fun _ _ h=>h))
                        intro bs am
                        intro bt bu
                        intro bv bw
                        intro bx an
                        intro bz ao
                        intro bA bB
                        intro bC ap
                        intro bD bE
                        intro bF bG
                        intro bH aq
                        intro bI bJ
                        intro bK bL
                        intro bM ar
                        intro S au
                        obtain rfl:=Eq.symm am
                        obtain rfl:=Eq.symm an
                        obtain rfl:=Eq.symm ao
                        obtain rfl:=Eq.symm ap
                        obtain rfl:=Eq.symm aq
                        obtain rfl:=Eq.symm ar
                        refine zi S ?_
                        refine za ?_
                        exact⟨dkt,(w.trans Z),je,(ak,S),⟨rfl,trivial⟩,prm,(Option.some.inj q).symm,au,trivial⟩
                      · refine qf ?_
                        exact⟨dkt,w,je,(W,G),⟨rfl,trivial⟩,prm,(Option.some.inj q).symm,(X.mono w),trivial⟩
                    · rintro⟨Y,bh⟩ bN cp av ⟨rfl,bi,_⟩
                      refine zz ?_
                      refine zf (vi a) ?_
                      obtain⟨aw,n⟩:=zb n
                      refine zy (qz rfl rfl aw) ?_
                      refine zi (vi (a+1)) ?_
                      refine za ?_
                      exact⟨dkt,av,je,(Q,Y,a+1,bh),Nat.lt_succ_self _,⟨rfl,rfl,trivial⟩,prm,n,bi,trivial⟩
                  · refine jl ?_
                    exact⟨dkt,u,je,(W,G),⟨rfl,trivial⟩,prm,(Option.some.inj n).symm,X,trivial⟩
                · rintro⟨z,ab⟩ bO cq C ⟨rfl,ax,_⟩
                  refine zz ?_
                  refine jg (v:=ab) rfl (z8 rfl) ?_
                  refine jg rfl (jb rfl underlying30 rfl (jv ax)) ?_
                  refine jg rfl (o7 rfl rfl) ?_
                  refine jg (v:=(.bool (decide ((↑z.length:Int)=0)))) rfl (z8 rfl) ?_
                  refine ja rfl rfl rfl rfl (fun I=>qp (v:=E) (xz z5i rfl rfl (h5.mono ((k.trans p).trans C)) (M.mono (((t.trans k).trans p).trans C)))) fun bP ay=>?_
                  refine ja rfl rfl rfl rfl (fun I=>qp (v:=ab) (z8 rfl)) fun bQ az=>?_
                  refine ja rfl rfl rfl rfl (fun I=>qp (v:=(vi d)) (z8 rfl)) fun bR aA=>?_
                  obtain⟨aB,e⟩:=zb e
                  refine ja rfl rfl rfl rfl (fun I=>qp (ul (aA.1 (zo rfl I)) rfl (aB (zo rfl I)))) fun bS aC=>?_
                  obtain⟨K,aD,e⟩:=zx e
                  refine z0z rfl rfl rfl rfl (fun I=>yc (vs:=[E,ab,(vi (d-1))]) zyj (z5r (ay.1 (zo rfl I)) (z5r (az.1 (zo rfl I)) (z5r (aC.1 (zo rfl I)) rfl))) ((by have bj:=(fw aD (zo rfl I));exact ih (M.mono (((t.trans k).trans p).trans C)) ax bj)) (fun _ _ h=>h)) fun aE aF ac L=>?_
                  replace L:phG (true&&((decide ((↑z.length:Int)=0))==false)) (phX (.bool (K.getD default))) aE aF:=L
                  refine jg rfl (l9 rfl rfl (fun hb=>(L.1 (zo rfl hb)))) ?_
                  refine jg (v:=(.bool ((decide ((↑z.length:Int)=0))||(K.getD default)))) rfl (ry rfl) ?_
                  refine za ?_
                  refine zz ?_
                  refine zf (vi x) ?_
                  obtain⟨aG,e⟩:=zb e
                  refine zy (qz rfl rfl aG) ?_
                  refine zi (vi (x+1)) ?_
                  refine za ?_
                  exact⟨dkt,(C.trans ac),je,(P,(decide ((↑z.length:Int)=0))||(K.getD default),x+1),Nat.lt_succ_self _,⟨rfl,rfl,trivial⟩,prm,e,trivial⟩
              · refine jl ?_
                exact⟨dkt,p,je,V,⟨rfl,trivial⟩,prm,(Option.some.inj e).symm,trivial⟩
            · rintro H bT cr U ⟨rfl,_⟩
              refine qb ?_
              refine zz ?_
              refine zf (.bool H) ?_
              refine za ?_
              refine qa rfl c (fun c=>?_) (fun c=>?_)
              · refine qb ?_
                refine zz ?_
                refine zi (.bool true) ?_
                refine za ?_
                refine qm ?_
                replace b:=z1e c b
                obtain rfl:=Option.some.inj b
                refine qg (D:=[]) (J:=[]) (rs:=[.tmp 6]) (vs:=[(.bool true)]) ((t.trans k).trans U) rfl rfl ⟨rfl,trivial⟩ ?_
                exact⟨rfl,rfl⟩
              · refine qf ?_
                refine zz ?_
                refine zf (vi j) ?_
                obtain⟨aH,c⟩:=zb c
                refine zy (qz rfl rfl aH) ?_
                refine zi (vi (j+1)) ?_
                refine za ?_
                exact⟨dkt,U,je,(O,j+1),Nat.lt_succ_self _,⟨rfl,trivial⟩,prm,c,trivial⟩
          · refine jl ?_
            exact⟨dkt,k,je,(),trivial,prm,(Option.some.inj c).symm,trivial⟩
        · rintro o8 bU cs aI ⟨rfl,_⟩
          replace b:=z1x b
          refine qb ?_
          refine zz ?_
          refine zi (.bool false) ?_
          refine za ?_
          refine qm ?_
          obtain rfl:=Option.some.inj b
          refine qg (D:=[]) (J:=[]) (rs:=[.tmp 6]) (vs:=[(.bool false)]) (t.trans aI) rfl rfl ⟨rfl,trivial⟩ ?_
          exact⟨rfl,rfl⟩
theorem zax{N:Nat}{R:RH}{m:Mach}{c:Value}(e:VRep (wz false false) R c m){set:(List Int)}{a:Value}(b:VRep (tSl false (q8 .i64)) R a set){d:Int}{r:Bool}(f:uj N N m set d=some r):CallP prog 34 #[c,a,(vi d)] R (fun v R'=>v=(.bool r)):=z8k N e b f
theorem z8j{N:Nat}{R:RH}{m:Mach}{f:Value}(q:VRep (wz false false) R f m){most:Int}{r:Int}(b:l5 N m most=some r):CallP prog 12 #[f,(vi most)] R (fun v R'=>v=(vi r)):=by
 refine ql (args:=[f,(vi most)]) func12 rfl rfl fun A=>?_;rw [l5] at b;refine zu (ah (T:=(wz false false)) rfl rfl rfl q fun v1 R3 h h5 h2=>?_);refine zi (vi 0) (qw (zi vs0 (za ?_)));obtain⟨s,a,b⟩:=zx b
 refine qo (γ:=(List Int)×Value×Frag) (rs [5,7,8,19]) (fun g=>[(5,g.2.1)]) (fun g=>[g.2.2]++A) (fun g R=>s=g.1∧ORep (q8 .i64) R g.2.2 g.2.1 g.1∧True) ?_ ?_;refine zu (zi (vi 0) (za (qd (z5f ?_))))
 refine j4 (γ:=Nat×(List Int)×Int×Value×Frag) (rs [5,7,8,19]) (fun g=>[(5,g.2.2.2.1),(6,(vi g.2.2.1))]) (fun g=>[g.2.2.2.2]++A) (fun g R=>yx N m g.1 g.2.1 g.2.2.1=some s∧ORep (q8 .i64) R g.2.2.2.2 g.2.2.2.1 g.2.1∧True) (fun g=>g.1) (N,[],0,vs0,emp) prm ⟨a,(z2d (T:=(q8 .i64))),trivial⟩ ?_;clear a
 rintro⟨j,k,x16,x,G⟩ ag aj n ⟨a,y,_⟩;rcases j with _|j;exact qy a;replace a:yx N m (j+1) k x16=some s:=a;rw [yx] at a;refine qb (zu (zf (vi x16) (uy rfl mi yz rfl (h2.mono n) fun ak H=>?_)));refine jf rfl z3b rfl H fun al I=>?_
 refine zy (jb rfl underlying26 rfl (jv I)) (zy (ji rfl rfl) (za (qa rfl a (fun a=>?_) (fun a=>?_))))
 refine qf (qb (qd (zz (zf x (zf (vi x16) (ai (T:=(q8 .i64)) (X:=([x16]:List Int)) (ps:=[(0,(vi x16))]) (css:=[[(vi x16)]]) rfl underlying30 zo3 rfl rfl (ko ⟨rfl,trivial⟩) rfl rfl (by decide) fun K am t L=>?_))))));refine xy (i:=0) rfl L fun M o O=>?_
 have P:VRep (tSl true (q8 .i64)) M K ([x16]:List Int):=(z1y O t);obtain⟨z,a⟩:=zb a;refine z0j (i:=0) (X:=k) (Y:=([x16]:List Int)) rfl underlying30 zo3 rfl rfl rfl (y.mono o) (jv (Sub.v (B:=(tSl false (q8 .i64))) (wm Sub.refl (fun _=>rfl)) P)) z.1 z.2 fun C Q S=>?_
 refine zi C (za (zz (zf (vi x16) ?_)));obtain⟨U,a⟩:=zb a;refine zy (qz rfl rfl U) (zi (vi (x16+1)) (za ?_));exact⟨dkt,o,je,(j,(k++([x16]:List Int)),x16+1,C,Q),Nat.lt_succ_self _,⟨rfl,rfl,trivial⟩,prm,a,S,trivial⟩;refine jl ?_
 exact⟨dkt,n,je,(k,x,G),⟨rfl,trivial⟩,prm,(Option.some.inj a).symm,y,trivial⟩;rintro⟨s,V,u⟩ an R7 e ⟨rfl,W,_⟩;obtain⟨w,a,b⟩:=zx b;refine qo (γ:=Unit) (rs [4,5,7,8,19,29]) (fun g=>[]) (fun g=>[]++A) (fun g R=>w=Ex.go g∧True) ?_ ?_
 refine zu (zi (vi 0) (za (qd (j4 (γ:=Nat×Int) (rs [4,5,7,8,19,29]) (fun g=>[(7,(vi g.2))]) (fun g=>[u]++A) (fun g R=>yw N m most s g.1 g.2=some w∧True) (fun g=>g.1) (N,0) prm ⟨a,trivial⟩ ?_))));clear a;rintro⟨l,c⟩ ao ap d ⟨a,_⟩;rcases l with _|l;exact qy a
 replace a:yw N m most s (l+1) c=some w:=a;rw [yw] at a;refine qb (zu (zf (vi c) (zf (vi most) (zy (z2p rfl rfl) (za (qa rfl a (fun a=>?_) (fun a=>?_)))))))
 refine qf (qb (qd (zu (zy (xz z5i rfl rfl (h5.mono (e.trans d)) (q.mono ((h.trans e).trans d))) (zf V (zf (vi c) ?_))))));obtain⟨Z,aa,a⟩:=zx a
 refine za0 (cs:=[]) (vs:=[f,V,(vi c)]) (φ:=fun v=>v=(.bool Z)) rfl zyj rfl rfl (fun ab p E=>zax ((q.mono ((h.trans e).trans d)).mono p) (z7k ((z5v 0 rfl (W.mono d) p E):VRep (xg (q8 .i64)) ab V s)) aa) fun aq ac=>?_;obtain rfl:=ac;refine za (qa rfl a (fun a=>?_) (fun a=>?_))
 refine zu (zf (vi c) (zi (vi c) (za (qm ?_))));replace b:=z1e a b;obtain rfl:=Option.some.inj b;refine qg (D:=[]) (J:=[u]) (rs:=[.tmp 4]) (vs:=[(vi c)]) ((h.trans e).trans d) rfl rfl ⟨rfl,trivial⟩ ?_;exact⟨rfl,rfl⟩;refine qf (zz (zf (vi c) ?_));obtain⟨ad,a⟩:=zb a
 refine zy (qz rfl rfl ad) (zi (vi (c+1)) (za ?_));exact⟨dkt,(RH.le.refl _),je,(l,c+1),Nat.lt_succ_self _,⟨rfl,trivial⟩,prm,a,trivial⟩;refine jl ?_;exact⟨dkt,d,je,(),trivial,⟨[u],(List.Perm.refl _)⟩,(Option.some.inj a).symm,trivial⟩;rintro ar au av F ⟨rfl,_⟩;replace b:=z1x b
 refine zu (zi (vi (-1)) (za (qm ?_)));obtain rfl:=Option.some.inj b;refine qg (D:=[]) (J:=[]) (rs:=[.tmp 4]) (vs:=[(vi (-1))]) ((h.trans e).trans F) rfl rfl ⟨rfl,trivial⟩ ?_;exact⟨rfl,rfl⟩
theorem q08:Enters prog 12:=enters_of func12 rfl (by kernel_rfl)
theorem z6h{N:Nat}{R:RH}{x:Sd}{B:Value}(C:VRep (gz false false) R B x){r:Bool}(b:sw N x=some r):CallP prog 4 #[B] R (fun v R'=>v=(.bool r)):=by
 refine ql (args:=[B]) func4 rfl rfl fun A=>?_;rw [sw] at b;refine zu (ah (T:=(gz false false)) rfl rfl rfl C fun v1 R3 l h5 h2=>?_);refine zi (.bool false) (qw (zy (xz zxg rfl rfl h5 (C.mono l)) ?_));obtain⟨d,c7,b⟩:=zx b
 refine jh rfl en6 rfl (z6n (C.mono l) c7) fun v8 aE m h9=>?_;refine aj rfl zgv fun E=>?_;obtain⟨w,rfl,y⟩:=z3m h9;refine oh (i:=0) (vs:=[(vi d.inputs),(vi d.outputs),w]) z3q rfl rfl rfl rfl rfl rfl (jk rfl (jk rfl (jk (z9h y) ay))) ?_
 refine qw (zy (vz (i:=0) z6w z3q rfl rfl rfl rfl) ?_);obtain⟨a,W,b⟩:=zx b;refine jh rfl zvo rfl (z5o (⟨_,⟨_,_,rfl,rfl,⟨_,_,rfl,rfl,(u6 rfl y)⟩⟩,rfl⟩:VRep (wz false false) _ _ (⟨d.inputs,d.outputs,d.rows⟩:Mach)) W) fun aG aH e X=>?_;obtain rfl:=X
 refine zf (.tuple #[(vi a.1),(vi a.2)]) (zy (qx rfl rfl) (zy (qx rfl rfl) (zi (vi a.1) (zi (vi a.2) (qw (zy (vz (i:=0) z6w z3q rfl rfl rfl rfl) ?_))))));obtain⟨z,Y,b⟩:=zx b
 refine jh rfl q08 rfl (z8j (⟨_,⟨_,_,rfl,rfl,⟨_,_,rfl,rfl,(u6 rfl (y.mono e))⟩⟩,rfl⟩:VRep (wz false false) _ _ (⟨d.inputs,d.outputs,d.rows⟩:Mach)) Y) fun aI aJ j Z=>?_;obtain rfl:=Z;refine zi (vi z) (qw (zy (vz (i:=0) z6w z3q rfl rfl rfl rfl) ?_));obtain⟨k,aa,b⟩:=zx b
 refine jh rfl zx0 rfl (zbn (⟨_,⟨_,_,rfl,rfl,⟨_,_,rfl,rfl,(u6 rfl (y.mono (e.trans j)))⟩⟩,rfl⟩:VRep (wz false false) _ _ (⟨d.inputs,d.outputs,d.rows⟩:Mach)) aa) fun aK aL n ab=>?_;obtain⟨F,rfl,ac⟩:=ab
 refine zf (.tuple #[F,(vi k.2)]) (zy (qx rfl rfl) (zy (qx rfl rfl) (zi F (zi (vi k.2) (za (qb (zu (jg (v:=(vi k.2)) rfl (z8 rfl) (jg rfl (o7 rfl rfl) (jg (v:=(.bool (decide (k.2=0)))) rfl (z8 rfl) (ja rfl rfl rfl rfl (fun c=>qp (v:=(vi a.2)) (z8 rfl)) fun aM ad=>?_)))))))))))
 refine ja rfl rfl rfl rfl (fun c=>qp (yl (ad.1 (zo rfl c)) rfl)) fun aN ae=>?_;refine ja rfl rfl rfl rfl (fun c=>qp (v:=(.bool (decide (a.2≠0)))) (z8 (ae.1 (zo rfl c)))) fun aO o=>?_;refine zan rfl rfl rfl o (fun f c=>qp (v:=(vi a.1)) (z8 rfl)) fun aP af=>?_
 refine zan rfl rfl rfl o (fun f c=>qp (v:=F) (z8 rfl)) fun aQ ag=>?_;refine zan rfl rfl rfl o (fun f c=>qp (jb rfl underlying30 (ag.1 (zo f c)) (jv ac))) fun aR ai=>?_;refine zan rfl rfl rfl o (fun f c=>qp (z0l (af.1 (zo f c)) (ai.1 (zo f c)))) fun aS ak=>?_
 refine ja rfl rfl rfl rfl (fun c=>qp (l9 (o.1 (zo rfl c)) rfl (fun g=>(ak.1 (zo (zo rfl c) g))))) fun aT al=>?_
 refine jg rfl (xn rfl (fun g=>(al.1 (zo rfl g))) rfl) (jg (v:=(.bool ((decide (k.2=0))&&((decide (a.2≠0))||(decide ((↑k.1.length:Int)<a.1)))))) rfl (z8 rfl) (ja rfl rfl rfl rfl (fun c=>qp (v:=(vi a.2)) (z8 rfl)) fun aU am=>?_))
 refine ja rfl rfl rfl rfl (fun c=>qp (yl (am.1 (zo rfl c)) rfl)) fun aV an=>?_;refine ja rfl rfl rfl rfl (fun c=>qp (v:=(.bool (decide (a.2≠0)))) (z8 (an.1 (zo rfl c)))) fun aW p=>?_;refine zan rfl rfl rfl p (fun f c=>qp (v:=(vi a.2)) (z8 rfl)) fun aX ao=>?_
 refine zan rfl rfl rfl p (fun f c=>qp (yl (ao.1 (zo f c)) rfl)) fun aY ap=>?_;refine zan rfl rfl rfl p (fun f c=>qp (v:=(.bool (decide (a.2≠7)))) (z8 (ap.1 (zo f c)))) fun aZ G=>?_;refine zan rfl rfl rfl G (fun f c=>qp (v:=(vi a.1)) (z8 rfl)) fun a0 aq=>?_
 refine zan rfl rfl rfl G (fun f c=>qp (yl (aq.1 (zo f c)) rfl)) fun a1 ar=>?_;refine zan rfl rfl rfl p (fun f c=>qp (l9 (G.1 (zo f c)) rfl (fun g=>(ar.1 (zo (zo f c) g))))) fun a2 au=>?_;refine ja rfl rfl rfl rfl (fun c=>qp (xn (p.1 (zo rfl c)) (fun g=>(au.1 (zo (zo rfl c) g))) rfl)) fun a3 av=>?_
 refine jg rfl (l9 rfl rfl (fun g=>(av.1 (zo rfl g)))) (za (qa rfl b (fun b=>?_) (fun b=>?_)));refine zu (zi (.bool false) (za (qm ?_)));obtain rfl:=Option.some.inj b
 refine qg (D:=[]) (J:=[box E [(vi d.inputs),(vi d.outputs),w] 28]) (rs:=[.tmp 2]) (vs:=[(.bool false)]) ((((l.trans m).trans e).trans j).trans n) rfl rfl ⟨rfl,trivial⟩ ?_;exact⟨rfl,rfl⟩;refine qf (qb (zu (zf (vi z) (zy (lh rfl rfl) (za (qa rfl b (fun b=>?_) (fun b=>?_)))))))
 refine zu (jg (v:=(vi a.2)) rfl (z8 rfl) (jg rfl (o7 rfl rfl) (jg (v:=(.bool (decide (a.2=0)))) rfl (z8 rfl) (ja rfl rfl rfl rfl (fun c=>qp (v:=(vi a.1)) (z8 rfl)) fun a4 aw=>?_))));refine ja rfl rfl rfl rfl (fun c=>qp (v:=(vi z)) (z8 rfl)) fun a5 ax=>?_
 refine ja rfl rfl rfl rfl (fun c=>qp (o7 (aw.1 (zo rfl c)) (ax.1 (zo rfl c)))) fun a6 az=>?_;refine jg rfl (xn rfl (fun g=>(az.1 (zo rfl g))) rfl) ?_;let G1:=((decide (a.2=0))&&(decide (a.1=z)));refine jg (v:=(.bool G1)) rfl (z8 rfl) ?_;obtain⟨q,L,b⟩:=zx b
 refine z0z rfl rfl rfl rfl (fun c=>yc (vs:=[]) en9 rfl ((by have H:=(fw L (zo rfl c));exact z1j  H)) (fun _ _ h=>h)) fun M O I s=>?_;replace s:phG (true&&(G1==true)) (phX (.bool (q.getD default))) M O:=s
 refine jg rfl (xn rfl (fun g=>(s.1 (zo rfl g))) rfl) (jg (v:=(.bool (G1&&(q.getD default)))) rfl (ry rfl) (za (qm ?_)));obtain rfl:=Option.some.inj b
 refine qg (D:=[]) (J:=[box E [(vi d.inputs),(vi d.outputs),w] 28]) (rs:=[.tmp 2]) (vs:=[(.bool (G1&&(q.getD default)))]) (((((l.trans m).trans e).trans j).trans n).trans I) rfl rfl ⟨rfl,trivial⟩ ?_;exact⟨rfl,rfl⟩
 refine qf (zu (jg (v:=(vi a.2)) rfl (z8 rfl) (jg rfl (yl rfl rfl) (jg (v:=(.bool (decide (a.2≠0)))) rfl (z8 rfl) (ja rfl rfl rfl rfl (fun c=>qp (v:=(vi a.1)) (z8 rfl)) fun aA P=>?_)))));refine ja rfl rfl rfl rfl (fun c=>qp (z0l (P.1 (zo rfl c)) rfl)) fun aB Q=>?_
 refine jg rfl (l9 rfl rfl (fun g=>(Q.1 (zo rfl g)))) (jg (v:=(.bool ((decide (a.2≠0))||(decide (4<a.1))))) rfl (z8 rfl) ?_);obtain⟨t,S,b⟩:=zx b;refine z0z rfl rfl rfl rfl (fun c=>yc (vs:=[]) en9 rfl ((by have H:=(fw S (zo rfl c));exact z1j  H)) (fun _ _ h=>h)) fun U V K u=>?_
 replace u:phG (true&&(((decide (a.2≠0))||(decide (4<a.1)))==true)) (phX (.bool (t.getD default))) U V:=u;refine jg rfl (xn rfl (fun g=>(u.1 (zo rfl g))) rfl) (jg (v:=(.bool (((decide (a.2≠0))||(decide (4<a.1)))&&(t.getD default)))) rfl (ry rfl) (za (qm ?_)));obtain rfl:=Option.some.inj b
 refine qg (D:=[]) (J:=[box E [(vi d.inputs),(vi d.outputs),w] 28]) (rs:=[.tmp 2]) (vs:=[(.bool (((decide (a.2≠0))||(decide (4<a.1)))&&(t.getD default)))]) (((((l.trans m).trans e).trans j).trans n).trans K) rfl rfl ⟨rfl,trivial⟩ ?_;exact⟨rfl,rfl⟩
end GV
end Go.Proofs.Ytjmlpkkbmnjhcaa
