import Derived.Test.YtdhccodneoebpaaShWe
import Derived.Test.YtdhccodneoebpaaShXa
import Derived.Test.YtdhccodneoebpaaShXb
import Derived.Test.YtdhccodneoebpaaShXc
import Derived.Test.YtdhccodneoebpaaRows
set_option linter.unusedVariables false
set_option linter.unusedSimpArgs false
set_option linter.unusedSectionVars false
namespace Go.Proofs.Ytdhccodneoebpaa
namespace GV
open _root_.Go.Proofs.Try
open Go.IntWalk
set_option maxRecDepth 100000
set_option maxHeartbeats 20000000
theorem q1t{a:Bool}:TyOk prog 41 (gq a):=by
 obtain⟨i,hi,b⟩: ∃ i,prog.info? 41=some i∧i.size=3:=jr (by kernel_rfl);exact rz underlying41 hi rfl b
theorem zzr:FieldOk prog 41 0 0:=by
 obtain⟨i,hi,a⟩: ∃ i,prog.info? 5=some i∧i.size=1:=jr (by kernel_rfl);exact vg underlying41 rfl rfl hi (by rw [a];rfl)
theorem zzo:FieldOk prog 41 1 1:=by
 obtain⟨i,hi,a⟩: ∃ i,prog.info? 5=some i∧i.size=1:=jr (by kernel_rfl);exact vg underlying41 rfl rfl hi (by rw [a];rfl)
theorem zl3:FieldOk prog 41 2 2:=by
 obtain⟨i,hi,a⟩: ∃ i,prog.info? 39=some i∧i.size=1:=jr (by kernel_rfl);exact vg underlying41 rfl rfl hi (by rw [a];rfl)
theorem zxm{a:Bool}:TyOk prog 39 (tSl a (zz .u8)):=by
 obtain⟨i,hi,b⟩: ∃ i,prog.info? 39=some i∧i.size=1:=jr (by kernel_rfl);exact rz underlying39 hi rfl b
theorem zzn:SlOk prog 39 5 (zz .u8):=⟨underlying39,ty5⟩
theorem z6z{N:Nat}{R:RH}{x:Sg}{ab:Value}(aX:VRep (gq false) R ab x){r:Mach}(d:l5 N x=some r):CallP prog 17 #[ab] R (fun v R'=>VRep (jf false false) R' v r):=by
 refine qo (args:=[ab]) func17 rfl rfl fun A=>?_;rw [l5] at d;refine zt (vo (T:=(gq false)) rfl rfl rfl aX fun v1 R3 aY h5 h2=>?_);refine jc rfl zid fun b6=>?_;refine j5 (ku rfl zzr zc1 rfl h2 fun v8 h9=>?_);refine j4 rfl ty5 rfl h9 fun bG aZ=>?_;obtain rfl:=qh.1 aZ
 obtain⟨a0,d⟩:=ze d;refine zi (zb0 underlying5 underlying3 rfl a0) ?_;obtain⟨a1,d⟩:=ze d;refine zi (zbw rfl rfl a1) ?_;obtain⟨a2,d⟩:=ze d;refine zi (jg rfl rfl a2) (zn (vi ((1:Int)+(x.fAe%5))) (j5 (ku rfl zzo zcm rfl h2 fun bH a3=>?_)))
 refine j4 rfl ty5 rfl a3 fun bI a4=>?_;obtain rfl:=qh.1 a4;obtain⟨a5,d⟩:=ze d;refine zi (zb0 underlying5 underlying3 rfl a5) ?_;obtain⟨a6,d⟩:=ze d;refine zi (zbw rfl rfl a6) ?_;obtain⟨a7,d⟩:=ze d
 refine zi (jg rfl rfl a7) (zi (kw (ps:=[(0,(vi ((1:Int)+(x.fO%2)))),(1,(vi 2))]) (v:=(.agg #[(vi ((1:Int)+(x.fO%2))),(vi 2),vs0])) rfl (fun w=>by kernel_rfl)) (jc rfl zid fun o=>?_))
 refine qm (i:=0) (vs:=[(vi ((1:Int)+(x.fO%2))),(vi 2),vs0]) z5h rfl rfl rfl rfl rfl rfl (qb rfl (qb rfl (qb rfl j3))) ?_;refine z8 ?_;obtain⟨p,e,d⟩:=zu d
 refine jb (γ:=(List (List Edge))×Value×Frag) (rs [5,10,21,80]) (fun g=>[]) (fun g=>[box b6 [(vi 0),(vi 0),vs0] 27,box o [(vi ((1:Int)+(x.fO%2))),(vi 2),g.2.1] 27,g.2.2]++A) (fun g R=>p=g.1∧ORep (tSl false kEdge) R g.2.2 g.2.1 g.1∧True) ?_ ?_;refine zt (zn (vi 0) (z8 (q9 (z5j ?_))))
 refine kv (γ:=Nat×Int×(List (List Edge))×Value×Frag) (rs [5,10,21,80]) (fun g=>[(5,(vi g.2.1))]) (fun g=>[box b6 [(vi 0),(vi 0),vs0] 27,box o [(vi ((1:Int)+(x.fO%2))),(vi 2),g.2.2.2.1] 27,g.2.2.2.2]++A) (fun g R=>xu N x g.1 g.2.1 g.2.2.1=some p∧ORep (tSl false kEdge) R g.2.2.2.2 g.2.2.2.1 g.2.2.1∧True) (fun g=>g.1) (N,0,[],vs0,emp) ⟨[],(pk 2 rfl (pk 1 rfl (pk 0 rfl (List.Perm.refl _))))⟩ ⟨e,(z1w (T:=(tSl false kEdge))),trivial⟩ ?_
 clear e;rintro⟨z,a,C,E,F⟩ bo bJ l ⟨e,ah,_⟩;rcases z with _|z;exact qy e;replace e:xu N x (z+1) a C=some p:=e;rw [xu] at e
 refine zy (zt (zl (vi a) (zl (vi ((1:Int)+(x.fAe%5))) (zi (jh rfl rfl) (z8 (qa rfl e (fun e=>?_) (fun e=>?_)))))));refine qc (zy (q9 (zt (zn vs0 (z8 ?_)))));obtain⟨k,f,e⟩:=zu e
 refine jb (γ:=(List Edge)×Value×Frag) (rs [6,10,26,74]) (fun g=>[(6,g.2.1)]) (fun g=>[box b6 [(vi 0),(vi 0),vs0] 27,box o [(vi ((1:Int)+(x.fO%2))),(vi 2),E] 27,F,g.2.2]++A) (fun g R=>k=g.1∧ORep kEdge R g.2.2 g.2.1 g.1∧True) ?_ ?_;refine zt (zn (vi 0) (z8 (q9 (z5j ?_))))
 refine kv (γ:=Nat×(List Edge)×Int×Value×Frag) (rs [6,10,26,74]) (fun g=>[(6,g.2.2.2.1),(7,(vi g.2.2.1))]) (fun g=>[box b6 [(vi 0),(vi 0),vs0] 27,box o [(vi ((1:Int)+(x.fO%2))),(vi 2),E] 27,F,g.2.2.2.2]++A) (fun g R=>xk N x a g.1 g.2.1 g.2.2.1=some k∧ORep kEdge R g.2.2.2.2 g.2.2.2.1 g.2.1∧True) (fun g=>g.1) (N,[],0,vs0,emp) ⟨[],(pk 1 rfl (pk 1 rfl (pk 1 rfl (pk 0 rfl (List.Perm.refl _)))))⟩ ⟨f,(z1w (T:=kEdge)),trivial⟩ ?_
 clear f;rintro⟨G,H,c,ai,aj⟩ bp bK m ⟨f,ak,_⟩;rcases G with _|G;exact qy f;replace f:xk N x a (G+1) H c=some k:=f;rw [xk] at f
 refine zy (zt (zl (vi c) (zi (qd z3l rfl) (zi (zg (i:=1) ag3 rfl rfl rfl) (zi (jh rfl rfl) (z8 (qa rfl f (fun f=>?_) (fun f=>?_))))))))
 refine qc (zy (q9 (zt (zi (kw (ps:=[(0,(vi (-1))),(1,(vi (-1)))]) (v:=(.agg #[(vi (-1)),(vi (-1))])) rfl (fun w=>by kernel_rfl)) (jc rfl zst fun al=>?_)))));refine qm (i:=0) (vs:=[(vi (-1)),(vi (-1))]) zgr rfl rfl rfl rfl rfl rfl (qb rfl (qb rfl j3)) ?_;refine z8 ?_
 obtain⟨h,b,f⟩:=zu f;refine jb (γ:=(Int×Int)) (rs [9,10,33,70]) (fun g=>[]) (fun g=>[box b6 [(vi 0),(vi 0),vs0] 27,box o [(vi ((1:Int)+(x.fO%2))),(vi 2),E] 27,F,aj,box al [(vi g.1),(vi g.2)] 53]++A) (fun g R=>h=g∧True) ?_ ?_
 refine zt (zl (vi a) (zi (qd z3l rfl) (zi (zg (i:=2) ag3 rfl rfl rfl) ?_)));obtain⟨a8,b⟩:=ze b;refine zi (zel rfl rfl a8) (zl (vi c) ?_);obtain⟨a9,b⟩:=ze b
 refine zi (jg rfl rfl a9) (zn (vi ((a*((1:Int)+(x.fO%2)))+c)) (j5 (ji (v:=(vi ((a*((1:Int)+(x.fO%2)))+c))) rfl (zf rfl) (zsy rfl (oo zl3 z1v rfl (h2.mono (l.trans m))) fun bL ba=>?_))));refine zsy rfl (kz zxm rfl ba) fun bM bb=>?_
 refine ji rfl (qz rfl underlying39 rfl (jd bb)) (ji rfl (jh rfl rfl) (ji (v:=(.bool (decide (((a*((1:Int)+(x.fO%2)))+c)<(↑x.fZ.length:Int))))) rfl (zf rfl) (j6 rfl rfl rfl rfl (fun n=>oo zl3 z1v rfl (h2.mono (l.trans m))) fun bN bc=>?_)))
 refine j6 rfl rfl rfl rfl (fun n=>kz zxm rfl (bc.1 (zk rfl n))) fun bO be=>?_;refine j6 rfl rfl rfl rfl (fun n=>qi (v:=(vi ((a*((1:Int)+(x.fO%2)))+c))) (zf rfl)) fun bP bf=>?_;obtain⟨am,b⟩:=ze b
 refine j6 rfl rfl rfl rfl (fun n=>ut (i:=((a*((1:Int)+(x.fO%2)))+c).toNat) zzn rfl (jd (be.1 (zk rfl n))) (zb (bf.1 (zk rfl n)) (am (zk rfl n)).1) (zm (am (zk rfl n)))) fun bQ bg=>?_;refine j6 rfl rfl rfl rfl (fun n=>qi (xg (kz ty5 rfl (bg.1 (zk rfl n))))) fun bR bh=>?_;obtain⟨bi,b⟩:=ze b
 refine j6 rfl rfl rfl rfl (fun n=>qi (zbw (bh.1 (zk rfl n)) rfl (bi (zk rfl n)))) fun bS bj=>?_;refine j6 rfl rfl rfl rfl (fun n=>qi (jh (bj.1 (zk rfl n)) rfl)) fun bT bk=>?_;refine ji rfl (y5 rfl (fun hb=>(bk.1 (zk rfl hb))) rfl) (z8 (qa rfl b (fun b=>?_) (fun b=>?_)))
 refine z0h 17 mixed (by kernel_rfl) (by kernel_rfl) ?_;refine dx (oo zl3 z1v rfl (h2.mono (l.trans m))) fun bV bl=>?_;refine dx (kz zxm rfl bl) fun br an=>?_;refine jq (v:=(vi ((a*((1:Int)+(x.fO%2)))+c))) (zf rfl) ?_;obtain⟨M,b⟩:=ze b
 refine dx (ut (i:=((a*((1:Int)+(x.fO%2)))+c).toNat) zzn rfl (jd an) (zb rfl M.1) (zm M)) fun bs ao=>?_;refine jq (xg (kz ty5 rfl ao)) ?_;obtain⟨ap,b⟩:=ze b;refine jq (zxa rfl rfl ap) ?_;obtain⟨aq,b⟩:=ze b;refine jq (zb0 underlying5 underlying3 rfl aq) ?_
 refine jq (v:=(vi ((1:Int)+(x.fAe%5)))) (zf rfl) ?_;obtain⟨ar,b⟩:=ze b;refine jq (zbw rfl rfl ar) ?_;refine dx (oo zl3 z1v rfl (h2.mono (l.trans m))) fun bt au=>?_;refine dx (kz zxm rfl au) fun bu av=>?_;refine jq (v:=(vi ((a*((1:Int)+(x.fO%2)))+c))) (zf rfl) ?_
 obtain⟨O,b⟩:=ze b;refine dx (ut (i:=((a*((1:Int)+(x.fO%2)))+c).toNat) zzn rfl (jd av) (zb rfl O.1) (zm O)) fun bv aw=>?_;refine jq (xg (kz ty5 rfl aw)) ?_;obtain⟨ax,b⟩:=ze b;refine jq (zb0 underlying5 underlying3 rfl ax) ?_;obtain⟨ay,b⟩:=ze b
 refine jq (zbw rfl rfl ay) ?_
 refine jq (v:=(.agg #[(vi ((IntKind.u8.wrap (Int.tdiv (ix x.fZ ((a*((1:Int)+(x.fO%2)))+c)) 8))%((1:Int)+(x.fAe%5)))),(vi ((ix x.fZ ((a*((1:Int)+(x.fO%2)))+c))%2))])) (kw (ps:=[(0,(vi ((IntKind.u8.wrap (Int.tdiv (ix x.fZ ((a*((1:Int)+(x.fO%2)))+c)) 8))%((1:Int)+(x.fAe%5))))),(1,(vi ((ix x.fZ ((a*((1:Int)+(x.fO%2)))+c))%2)))]) (v:=(.agg #[(vi ((IntKind.u8.wrap (Int.tdiv (ix x.fZ ((a*((1:Int)+(x.fO%2)))+c)) 8))%((1:Int)+(x.fAe%5)))),(vi ((ix x.fZ ((a*((1:Int)+(x.fO%2)))+c))%2))])) rfl (fun w=>by kernel_rfl)) ?_
 intro bw ac;refine qm (i:=0) (vs:=[(vi ((IntKind.u8.wrap (Int.tdiv (ix x.fZ ((a*((1:Int)+(x.fO%2)))+c)) 8))%((1:Int)+(x.fAe%5)))),(vi ((ix x.fZ ((a*((1:Int)+(x.fO%2)))+c))%2))]) zgr rfl rfl rfl rfl rfl rfl (qb rfl (qb rfl j3)) ?_;refine z8 ?_
 exact⟨dkt,ac,jm,((IntKind.u8.wrap (Int.tdiv (ix x.fZ ((a*((1:Int)+(x.fO%2)))+c)) 8))%((1:Int)+(x.fAe%5)),(ix x.fZ ((a*((1:Int)+(x.fO%2)))+c))%2),trivial,⟨[],(pk 1 rfl (pk 1 rfl (pk 1 rfl (pk 1 rfl (pk 0 rfl (List.Perm.refl _))))))⟩,(Option.some.inj b).symm,trivial⟩;refine qc ?_
 exact⟨dkt,(RH.le.refl _),jm,((-1),(-1)),trivial,⟨[],(pk 1 rfl (pk 1 rfl (pk 1 rfl (pk 1 rfl (pk 0 rfl (List.Perm.refl _))))))⟩,(Option.some.inj b).symm,trivial⟩;rintro h bx bW P ⟨rfl,_⟩
 refine zq (zl ai (zi (nk (i:=4) zx8 zgr rfl rfl rfl rfl) (bq (T:=kEdge) (X:=([(⟨h.1,h.2⟩:Edge)]:List Edge)) (ps:=[(0,(.agg #[(vi h.1),(vi h.2)]))]) (css:=[[(vi h.1),(vi h.2)]]) rfl underlying54 zj1 rfl rfl (ko ⟨⟨_,_,rfl,rfl,rfl⟩,trivial⟩) rfl rfl (by decide) fun az bz I aA=>?_)))
 refine uk (i:=0) rfl aA fun aB q aC=>?_;have aD:VRep (tSl true kEdge) aB az ([(⟨h.1,h.2⟩:Edge)]:List Edge):=(z0l aC I);obtain⟨Q,f⟩:=ze f
 refine pz (i:=3) (X:=H) (Y:=([(⟨h.1,h.2⟩:Edge)]:List Edge)) rfl underlying54 zj1 rfl rfl rfl (ak.mono (P.trans q)) (jd (Sub.v (B:=(tSl false kEdge)) (uh Sub.refl (fun _=>rfl)) aD)) Q.1 Q.2 fun S aE aF=>?_;refine zn S (z8 (zq (zl (vi c) ?_)));obtain⟨aG,f⟩:=ze f
 refine zi (jg rfl rfl aG) (zn (vi (c+1)) (z8 ?_));exact⟨dkt,(P.trans q),jm,(G,(H++([(⟨h.1,h.2⟩:Edge)]:List Edge)),c+1,S,aE),Nat.lt_succ_self _,⟨rfl,rfl,trivial⟩,⟨[box al [(vi h.1),(vi h.2)] 53],(pk 4 rfl (pk 0 rfl (pk 0 rfl (pk 0 rfl (pk 0 rfl (List.Perm.refl _))))))⟩,f,aF,trivial⟩;refine jk ?_
 exact⟨dkt,m,jm,(H,ai,aj),⟨rfl,trivial⟩,prm,(Option.some.inj f).symm,ak,trivial⟩;rintro⟨k,K,bX⟩ bA bY U ⟨rfl,bm,_⟩;refine zq (zi (qd pg rfl) (zi (zg (i:=1) zye rfl rfl rfl) (zl K (uk (i:=3) rfl bm fun aH s aI=>?_))));have V:VRep (tSl false kEdge) aH K k:=(z5z aI)
 refine bq (T:=(tSl false kEdge)) (X:=([k]:List (List Edge))) (ps:=[(0,K)]) (css:=[[K]]) rfl underlying25 zok rfl (by simp only [List.map_cons,List.map_nil,z13 V];rfl) (ko ⟨(u7 rfl V),trivial⟩) rfl rfl (by decide) fun aJ bB L aK=>?_;refine uk (i:=0) rfl aK fun aL t aM=>?_
 have aN:VRep (tSl true (tSl false kEdge)) aL aJ ([k]:List (List Edge)):=(z0l aM L);obtain⟨W,e⟩:=ze e
 refine pz (i:=2) (X:=C) (Y:=([k]:List (List Edge))) rfl underlying25 zok rfl rfl rfl (ah.mono ((U.trans s).trans t)) (jd (Sub.v (B:=(tSl false (tSl false kEdge))) (uh Sub.refl (fun _=>rfl)) aN)) W.1 W.2 fun Z aO u=>?_
 refine zi (qd pg rfl) (qm (i:=1) (vs:=[Z]) q0s rfl rfl (ui u) rfl rfl rfl (qb (uy u) j3) ?_);refine z8 (zq (zl (vi a) ?_));obtain⟨aP,e⟩:=ze e;refine zi (jg rfl rfl aP) (zn (vi (a+1)) (z8 ?_))
 exact⟨dkt,((U.trans s).trans t),jm,(z,a+1,(C++([k]:List (List Edge))),Z,aO),Nat.lt_succ_self _,⟨rfl,trivial⟩,prm,e,u,trivial⟩;refine jk ?_;exact⟨dkt,l,jm,(C,E,F),trivial,prm,(Option.some.inj e).symm,ah,trivial⟩;rintro⟨p,aQ,bZ⟩ bC b0 aR ⟨rfl,bn,_⟩
 refine zt (zi (nk (i:=1) zba z5h rfl rfl rfl rfl) (uk (i:=2) rfl bn fun aS ad aT=>?_));have aU:VRep (tSl false (tSl false kEdge)) aS aQ p:=(z5z aT);obtain⟨j,aV,d⟩:=zu d
 refine jl rfl q3f rfl (z8w (⟨_,⟨_,_,rfl,rfl,⟨_,_,rfl,rfl,(u7 rfl aU)⟩⟩,rfl⟩:VRep (jf false false) _ _ (⟨(1:Int)+(x.fO%2),2,p⟩:Mach)) aV) fun bD bE ae aW=>?_;obtain⟨y,rfl,aa⟩:=z6h aW
 refine qm (i:=0) (vs:=[(vi j.inputs),(vi j.outputs),y]) z5h rfl rfl rfl rfl rfl rfl (qb rfl (qb rfl (qb (zhv aa) j3))) ?_;refine z8 (qw ?_);obtain rfl:=Option.some.inj d
 refine qg (D:=[]) (J:=[box b6 [(vi j.inputs),(vi j.outputs),y] 27,box o [(vi ((1:Int)+(x.fO%2))),(vi 2),aQ] 27]) (rs:=[.cell 2 27]) (vs:=[(.agg #[(vi j.inputs),(vi j.outputs),y])]) (((aY.trans aR).trans ad).trans ae) rfl rfl ⟨⟨_,rfl,fun w hh=>z4b (i:=0) hh rfl rfl zba z5h rfl rfl⟩,trivial⟩ ?_
 exact⟨rfl,(⟨_,⟨_,_,rfl,rfl,⟨_,_,rfl,rfl,(u7 rfl aa)⟩⟩,rfl⟩:VRep (jf false false) _ _ (⟨j.inputs,j.outputs,j.rows⟩:Mach))⟩
theorem q1j:Enters prog 17:=enters_of func17 rfl (by kernel_rfl)
end GV
end Go.Proofs.Ytdhccodneoebpaa
