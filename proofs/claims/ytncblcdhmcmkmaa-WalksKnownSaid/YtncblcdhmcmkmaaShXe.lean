import Derived.Test.YtncblcdhmcmkmaaShWd
import Derived.Test.YtncblcdhmcmkmaaShXa
import Derived.Test.YtncblcdhmcmkmaaShXb
import Derived.Test.YtncblcdhmcmkmaaShXc
import Derived.Test.YtncblcdhmcmkmaaRows
set_option linter.unusedVariables false
set_option linter.unusedSimpArgs false
namespace Go.Proofs.Ytncblcdhmcmkmaa
namespace GV
open _root_.Go.Proofs.Try
open Go.IntWalk
set_option maxRecDepth 100000
set_option maxHeartbeats 20000000
theorem z19{N:Nat}{R:RH}{m:Mach}{aq:Value}(a8:VRep (qy false false) R aq m){f:(List Int)}{k:Value}(z:VRep (tSl false (zw .i64)) R k f){r:Mach}(U:ng N m f=some r):CallP prog 25 #[aq,k] R (fun v R'=>VRep (qy false false) R' v r):=by
 refine ql (args:=[aq,k]) func25 rfl rfl fun A=>?_;rw [ng] at U;refine zn (uj (T:=(qy false false)) rfl rfl rfl a8 fun v1 R3 H h5 h2=>?_);refine yj rfl z4g fun b6=>?_;refine jd (jy rfl r9 lu rfl h2 fun v8 h9=>?_);refine qp rfl ty3 rfl h9 fun bB a9=>?_;obtain rfl:=jc.1 a9
 refine jy rfl z4b z2h rfl h2 fun bC ba=>?_;refine qp rfl ty3 rfl ba fun bD bb=>?_;obtain rfl:=jc.1 bb;refine zq (eu (ps:=[(0,(vi m.inputs)),(1,(vi m.outputs))]) (v:=(.agg #[(vi m.inputs),(vi m.outputs),vs0])) rfl (fun w=>by kernel_rfl)) (yj rfl z4g fun t=>?_)
 refine jv (i:=0) (vs:=[(vi m.inputs),(vi m.outputs),vs0]) xx rfl rfl rfl rfl rfl rfl (zy rfl (zy rfl (zy rfl ug))) ?_;refine za ?_;obtain⟨E,d,U⟩:=zk U
 refine je (γ:=(List (List Edge))×Value×Frag) (rs [6,12,17,67]) (fun g=>[]) (fun g=>[box b6 [(vi 0),(vi 0),vs0] 27,box t [(vi m.inputs),(vi m.outputs),g.2.1] 27,g.2.2]++A) (fun g R=>E=g.1∧ORep (tSl false kEdge) R g.2.2 g.2.1 g.1∧True) ?_ ?_;refine zn (zi (vi 0) (za (qd (z2c ?_))))
 refine jq (γ:=Nat×Int×(List (List Edge))×Value×Frag) (rs [6,12,17,67]) (fun g=>[(6,(vi g.2.1))]) (fun g=>[box b6 [(vi 0),(vi 0),vs0] 27,box t [(vi m.inputs),(vi m.outputs),g.2.2.2.1] 27,g.2.2.2.2]++A) (fun g R=>p9 N m f g.1 g.2.1 g.2.2.1=some E∧ORep (tSl false kEdge) R g.2.2.2.2 g.2.2.2.1 g.2.2.1∧True) (fun g=>g.1) (N,0,[],vs0,emp) ⟨[],(pk 2 rfl (pk 1 rfl (pk 0 rfl (List.Perm.refl _))))⟩ ⟨d,(lc (T:=(tSl false kEdge))),trivial⟩ ?_
 clear d;rintro⟨V,a,W,F,u⟩ bm bE n ⟨d,aA,_⟩;rcases V with _|V;exact jf d;replace d:p9 N m f (V+1) a W=some E:=d;rw [p9] at d
 refine q8 (zn (zl (vi a) (zl k (zq (qh rfl underlying36 rfl (j3 (z.mono (H.trans n)))) (zq (jh rfl rfl) (za (zz rfl d (fun d=>?_) (fun d=>?_))))))));refine qg (q8 (qd (zn (zi vs0 (za ?_)))));obtain⟨s,c,d⟩:=zk d
 refine je (γ:=(List Edge)×Value×Frag) (rs [7,12,23,61]) (fun g=>[(7,g.2.1)]) (fun g=>[box b6 [(vi 0),(vi 0),vs0] 27,box t [(vi m.inputs),(vi m.outputs),F] 27,u,g.2.2]++A) (fun g R=>s=g.1∧ORep kEdge R g.2.2 g.2.1 g.1∧True) ?_ ?_;refine zn (zi (vi 0) (za (qd (z2c ?_))))
 refine jq (γ:=Nat×(List Edge)×Int×Value×Frag) (rs [7,12,23,61]) (fun g=>[(7,g.2.2.2.1),(8,(vi g.2.2.1))]) (fun g=>[box b6 [(vi 0),(vi 0),vs0] 27,box t [(vi m.inputs),(vi m.outputs),F] 27,u,g.2.2.2.2]++A) (fun g R=>p8 N m f a g.1 g.2.1 g.2.2.1=some s∧ORep kEdge R g.2.2.2.2 g.2.2.2.1 g.2.1∧True) (fun g=>g.1) (N,[],0,vs0,emp) ⟨[],(pk 1 rfl (pk 1 rfl (pk 1 rfl (pk 0 rfl (List.Perm.refl _)))))⟩ ⟨c,(lc (T:=kEdge)),trivial⟩ ?_
 clear c;rintro⟨Z,aa,b,aB,ab⟩ bn bF q ⟨c,aC,_⟩;rcases Z with _|Z;exact jf c;replace c:p8 N m f a (Z+1) aa b=some s:=c;rw [p8] at c;refine q8 (zn (zl (vi b) (jy rfl r9 lu rfl (h2.mono (n.trans q)) fun bG bc=>?_)))
 refine qp rfl ty3 rfl bc fun bH be=>?_;obtain rfl:=jc.1 be;refine zq (jh rfl rfl) (za (zz rfl c (fun c=>?_) (fun c=>?_)));refine qg (q8 (qd (q8 ?_)));obtain⟨aD,aE,aF,c⟩:=zpc c
 refine mq 12 [⟨11,[.int .i64 0,.int .i64 0],49⟩] [phP (tSl false (tSl false kEdge)) m.rows,phR (tSl false (tSl false kEdge)) m.rows,phX k,phX (vi a),phP (zw .i64) (ix f a),phX (vi (ix f a)),phP (tSl false kEdge) (ix m.rows (ix f a)),phR (tSl false kEdge) (ix m.rows (ix f a)),phX (vi b),phP kEdge (ix (ix m.rows (ix f a)) b),phX (uu (ix (ix m.rows (ix f a)) b)),phB] mixed (by kernel_rfl) (di ⟨iw,gz,zm,zm,iw,zm,iw,gz,zm,iw,zm,zhi,trivial⟩) ⟨?_,?_,?_,?_,?_,?_,?_,?_,?_,?_,?_,?_,trivial⟩ fun bI C=>?_
 intro l bJ j x hd;exact zb rfl rfl rfl (z06 uw uq (x 2 rfl) ((h2.mono (n.trans q)).mono j));rintro l bK j x ⟨G,_⟩;exact zb rfl rfl rfl (xn z1g rfl (G rfl));intro l bL j x hd;exact zb rfl rfl rfl (zt (z8 (x 1 rfl)));intro l bM j x hd;exact zb rfl rfl rfl (zt (z8 (x 6 rfl)))
 rintro l bN j x ⟨G,d1,_⟩;have u:=d1 rfl;exact zb rfl rfl rfl (ik (i:=a.toNat) z0k (G rfl) (j3 ((z.mono ((H.trans n).trans q)).mono j)) (zg u aD.1) (qb aD));rintro l bO j x ⟨G,_⟩;exact zb rfl rfl rfl (mr (xn ty3 rfl (G rfl)) (fun _ _ h=>jc.1 h));rintro l bP j x ⟨G,d1,_⟩
 exact zb rfl rfl rfl (ik (i:=(ix f a).toNat) z5q rfl (j3 (G rfl)) (zg (d1 rfl) aE.1) (qb aE));rintro l bQ j x ⟨G,_⟩;exact zb rfl rfl rfl (xn z5k rfl (G rfl));intro l bR j x hd;exact zb rfl rfl rfl (zt (z8 (x 8 rfl)));rintro l bS j x ⟨G,d1,_⟩
 exact zb rfl rfl rfl (ik (i:=b.toNat) z90 rfl (j3 (G rfl)) (zg (d1 rfl) aF.1) (qb aF));rintro l bo j x ⟨G,_⟩;exact zb rfl rfl rfl (mr (xn zbe rfl (G rfl)) (fun _ _ h=>rf.1 h));intro l bp j x hd;exact zaa rfl rfl rfl rfl zh7
 intro bT bU bV bW bX bf bY bg bZ b0 b1 bh b2 b3 b4 b5 b7 bi b8 b9 ca bj cb bk;obtain rfl:=Eq.symm bf;obtain rfl:=Eq.symm bg;obtain rfl:=Eq.symm bh;obtain rfl:=Eq.symm bi;obtain rfl:=Eq.symm bj;obtain⟨I,rfl⟩:=bk
 refine jv (i:=0) (vs:=[(vi ((ix (ix m.rows (ix f a)) b).to)),(vi ((ix (ix m.rows (ix f a)) b).out))]) zah rfl rfl rfl rfl rfl rfl (zy rfl (zy rfl ug)) ?_;refine jd (zi (vi (-1)) (za ?_));obtain⟨o,e,c⟩:=zk c
 refine je (γ:=Int) (rs [10,12,40,54]) (fun g=>[(10,(vi g))]) (fun g=>[box b6 [(vi 0),(vi 0),vs0] 27,box t [(vi m.inputs),(vi m.outputs),F] 27,u,ab,box I [(vi ((ix (ix m.rows (ix f a)) b).to)),(vi ((ix (ix m.rows (ix f a)) b).out))] 49]++A) (fun g R=>o=g∧True) ?_ ?_
 refine zn (zi (vi 0) (za (qd (jq (γ:=Nat×Int×Int) (rs [10,12,40,54]) (fun g=>[(10,(vi g.2.1)),(11,(vi g.2.2))]) (fun g=>[box b6 [(vi 0),(vi 0),vs0] 27,box t [(vi m.inputs),(vi m.outputs),F] 27,u,ab,box I [(vi ((ix (ix m.rows (ix f a)) b).to)),(vi ((ix (ix m.rows (ix f a)) b).out))] 49]++A) (fun g R=>pq N m f a b g.1 g.2.1 g.2.2=some o∧True) (fun g=>g.1) (N,(-1),0) ⟨[],(pk 1 rfl (pk 1 rfl (pk 1 rfl (pk 1 rfl (pk 0 rfl (List.Perm.refl _))))))⟩ ⟨e,trivial⟩ ?_))))
 clear e;rintro⟨ac,ar,p⟩ bq cc K ⟨e,_⟩;rcases ac with _|ac;exact jf e;replace e:pq N m f a b (ac+1) ar p=some o:=e;rw [pq] at e
 refine q8 (zn (zl (vi p) (zl k (zq (qh rfl underlying36 rfl (j3 (z.mono ((((H.trans n).trans q).trans C).trans K)))) (zq (jh rfl rfl) (za (zz rfl e (fun e=>?_) (fun e=>?_))))))));refine qg ?_;obtain⟨aw,y,e⟩:=zk e
 refine je (γ:=Int) (rs [10,11,46,54]) (fun g=>[(10,(vi g))]) (fun g=>[box b6 [(vi 0),(vi 0),vs0] 27,box t [(vi m.inputs),(vi m.outputs),F] 27,u,ab,box I [(vi ((ix (ix m.rows (ix f a)) b).to)),(vi ((ix (ix m.rows (ix f a)) b).out))] 49]++A) (fun g R=>aw=g∧True) ?_ ?_
 refine qd (q8 (z1i 7 mixed (by kernel_rfl) (by kernel_rfl) ?_));refine u7 (v:=k) (z8 rfl) ?_;refine u7 (v:=(vi p)) (z8 rfl) ?_;obtain⟨ai,y⟩:=ze y;refine z07 (ut (i:=p.toNat) z0k rfl (j3 (z.mono ((((H.trans n).trans q).trans C).trans K))) (zg rfl ai.1) (qb ai)) fun br aH=>?_
 refine u7 (af (j5 ty3 rfl aH)) ?_;refine u7 (v:=(.pointer (some ⟨I,0,none⟩))) (j4 z1x rfl) ?_;refine u7 (v:=(vi ((ix (ix m.rows (ix f a)) b).to))) (qz (i:=4) ag3 rfl rfl rfl) ?_;refine u7 (lq rfl rfl) ?_;intro bs L;refine za (zz rfl y (fun y=>?_) (fun y=>?_))
 refine qf (zl (vi p) (zi (vi p) (za ?_)));exact⟨dkt,L,uf,p,⟨rfl,trivial⟩,prm,(Option.some.inj y).symm,trivial⟩;refine qg ?_;exact⟨dkt,L,uf,ar,⟨rfl,trivial⟩,prm,(Option.some.inj y).symm,trivial⟩;rintro aw bt cd ax ⟨rfl,_⟩;refine qf (zl (vi p) ?_);obtain⟨aI,e⟩:=ze e
 refine zq (jl rfl rfl aI) (zi (vi (p+1)) (za ?_));exact⟨dkt,ax,uf,(ac,aw,p+1),Nat.lt_succ_self _,⟨rfl,rfl,trivial⟩,prm,e,trivial⟩;refine kv ?_;exact⟨dkt,K,uf,ar,⟨rfl,trivial⟩,prm,(Option.some.inj e).symm,trivial⟩;rintro o bu ce aj ⟨rfl,_⟩
 refine qf (zl aB (zl (vi o) (zq (j4 z9j rfl) (zq (qz (i:=4) ag3 rfl rfl rfl) (zq (eu (ps:=[(0,(vi o)),(1,(vi ((ix (ix m.rows (ix f a)) b).out)))]) (v:=(.agg #[(vi o),(vi ((ix (ix m.rows (ix f a)) b).out))])) rfl (fun w=>by kernel_rfl)) ?_)))))
 let G1:=([(⟨o,(ix (ix m.rows (ix f a)) b).out⟩:Edge)]:List Edge)
 refine ay (T:=kEdge) (X:=G1) (ps:=[(0,(.agg #[(vi o),(vi ((ix (ix m.rows (ix f a)) b).out))]))]) (css:=[[(vi o),(vi ((ix (ix m.rows (ix f a)) b).out))]]) rfl underlying50 z9c rfl rfl (kg ⟨⟨_,_,rfl,rfl,rfl⟩,trivial⟩) rfl rfl (by decide) fun aJ bv ad aK=>?_;refine ww (i:=0) rfl aK fun aL M aM=>?_
 have aN:VRep (tSl true kEdge) aL aJ G1:=(z1f aM ad);obtain⟨ak,c⟩:=ze c;refine dw (i:=3) (X:=aa) (Y:=G1) rfl underlying50 z9c rfl rfl rfl (aC.mono ((C.trans aj).trans M)) (j3 (Sub.v (B:=(tSl false kEdge)) (ji Sub.refl (fun _=>rfl)) aN)) ak.1 ak.2 fun al aO aP=>?_
 refine zi al (za (qf (zl (vi b) ?_)));obtain⟨aQ,c⟩:=ze c;refine zq (jl rfl rfl aQ) (zi (vi (b+1)) (za ?_))
 exact⟨dkt,((C.trans aj).trans M),uf,(Z,(aa++G1),b+1,al,aO),Nat.lt_succ_self _,⟨rfl,rfl,trivial⟩,⟨[box I [(vi ((ix (ix m.rows (ix f a)) b).to)),(vi ((ix (ix m.rows (ix f a)) b).out))] 49],(pk 4 rfl (pk 0 rfl (pk 0 rfl (pk 0 rfl (pk 0 rfl (List.Perm.refl _))))))⟩,c,aP,trivial⟩;refine kv ?_
 exact⟨dkt,q,uf,(aa,aB,ab),⟨rfl,trivial⟩,prm,(Option.some.inj c).symm,aC,trivial⟩;rintro⟨s,ae,cf⟩ bw cg am ⟨rfl,bl,_⟩;refine qf (zq (j4 uw rfl) (zq (qz (i:=1) z95 rfl rfl rfl) (zl ae (ww (i:=3) rfl bl fun aR O aS=>?_))));have an:VRep (tSl false kEdge) aR ae s:=(z3i aS)
 refine ay (T:=(tSl false kEdge)) (X:=([s]:List (List Edge))) (ps:=[(0,ae)]) (css:=[[ae]]) rfl underlying25 zit rfl (by simp only [List.map_cons,List.map_nil,z3o an];rfl) (kg ⟨(j6 rfl an),trivial⟩) rfl rfl (by decide) fun aT bx ag aU=>?_;refine ww (i:=0) rfl aU fun aV P aW=>?_
 have aX:VRep (tSl true (tSl false kEdge)) aV aT ([s]:List (List Edge)):=(z1f aW ag);obtain⟨ao,d⟩:=ze d
 refine dw (i:=2) (X:=W) (Y:=([s]:List (List Edge))) rfl underlying25 zit rfl rfl rfl (aA.mono ((am.trans O).trans P)) (j3 (Sub.v (B:=(tSl false (tSl false kEdge))) (ji Sub.refl (fun _=>rfl)) aX)) ao.1 ao.2 fun ap aY Q=>?_
 refine zq (j4 uw rfl) (jv (i:=1) (vs:=[ap]) zrw rfl rfl (av Q) rfl rfl rfl (zy (yw Q) ug) ?_);refine za (qf (zl (vi a) ?_));obtain⟨aZ,d⟩:=ze d;refine zq (jl rfl rfl aZ) (zi (vi (a+1)) (za ?_))
 exact⟨dkt,((am.trans O).trans P),uf,(V,a+1,(W++([s]:List (List Edge))),ap,aY),Nat.lt_succ_self _,⟨rfl,trivial⟩,prm,d,Q,trivial⟩;refine kv ?_;exact⟨dkt,n,uf,(W,F,u),trivial,prm,(Option.some.inj d).symm,aA,trivial⟩;rintro⟨E,S,ch⟩ bz ci a0 ⟨rfl,a1,_⟩
 refine zn (zq (qj (i:=1) au xx rfl rfl rfl rfl) (jv (i:=0) (vs:=[(vi m.inputs),(vi m.outputs),S]) xx rfl rfl rfl rfl rfl rfl (zy rfl (zy rfl (zy (yw a1) ug))) ?_));refine za (lh (i:=2) rfl a1 fun a2 az a3=>?_);have a4:VRep (tSl false (tSl false kEdge)) a2 S E:=(z3i a3)
 refine qw ?_;obtain rfl:=Option.some.inj U
 refine qc (D:=[]) (J:=[box b6 [(vi m.inputs),(vi m.outputs),S] 27,box t [(vi m.inputs),(vi m.outputs),S] 27]) (rs:=[.cell 4 27]) (vs:=[(.agg #[(vi m.inputs),(vi m.outputs),S])]) ((H.trans a0).trans az) rfl rfl ⟨⟨_,rfl,fun w hh=>z0m (i:=0) hh rfl rfl au xx rfl rfl⟩,trivial⟩ ?_
 exact⟨rfl,(⟨_,⟨_,_,rfl,rfl,⟨_,_,rfl,rfl,(j6 rfl a4)⟩⟩,rfl⟩:VRep (qy false false) _ _ (⟨m.inputs,m.outputs,E⟩:Mach))⟩
theorem zqq:Enters prog 25:=enters_of func25 rfl (by kernel_rfl)
end GV
end Go.Proofs.Ytncblcdhmcmkmaa
