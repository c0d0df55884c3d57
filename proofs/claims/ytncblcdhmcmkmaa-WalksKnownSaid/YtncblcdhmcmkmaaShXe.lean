import Derived.Test.YtncblcdhmcmkmaaShWd
import Derived.Test.YtncblcdhmcmkmaaShXa
import Derived.Test.YtncblcdhmcmkmaaShXb
import Derived.Test.YtncblcdhmcmkmaaShXc
import Derived.Test.YtncblcdhmcmkmaaRows
set_option linter.unusedVariables false
set_option linter.unusedSimpArgs false
namespace Go.Proofs.Ytncblcdhmcmkmaa
namespace GV
open _root_.Go.Proofs.Try
open Go.IntWalk
set_option maxRecDepth 100000
set_option maxHeartbeats 20000000
theorem z16{N:Nat}{R:RH}{m:Mach}{ar:Value}(a9:VRep (qy false false) R ar m){f:(List Int)}{k:Value}(z:VRep (tSl false (zw .i64)) R k f){r:Mach}(U:ng N m f=some r):CallP prog 25 #[ar,k] R (fun v R'=>VRep (qy false false) R' v r):=by
 refine ql (args:=[ar,k]) func25 rfl rfl fun A=>?_;rw [ng] at U;refine zn (uj (T:=(qy false false)) rfl rfl rfl a9 fun v1 R3 H h5 h2=>?_);refine vw rfl z4a fun b6=>?_;refine jd (jy rfl sj lv rfl h2 fun v8 h9=>?_);refine qp rfl ty3 rfl h9 fun bC ba=>?_;obtain rfl:=jc.1 ba
 refine jy rfl z4b z2e rfl h2 fun bD bb=>?_;refine qp rfl ty3 rfl bb fun bE bc=>?_;obtain rfl:=jc.1 bc;refine zq (af (ps:=[(0,(vi m.inputs)),(1,(vi m.outputs))]) (v:=(.agg #[(vi m.inputs),(vi m.outputs),vs0])) rfl (fun w=>by kernel_rfl)) (vw rfl z4a fun t=>?_)
 refine jv (i:=0) (vs:=[(vi m.inputs),(vi m.outputs),vs0]) xx rfl rfl rfl rfl rfl rfl (zy rfl (zy rfl (zy rfl uh))) ?_;refine za ?_;obtain⟨E,d,U⟩:=zk U
 refine je (γ:=(List (List Edge))×Value×Frag) (rs [6,12,17,67]) (fun g=>[]) (fun g=>[box b6 [(vi 0),(vi 0),vs0] 27,box t [(vi m.inputs),(vi m.outputs),g.2.1] 27,g.2.2]++A) (fun g R=>E=g.1∧ORep (tSl false kEdge) R g.2.2 g.2.1 g.1∧True) ?_ ?_;refine zn (zi (vi 0) (za (qc (z1z ?_))))
 refine jq (γ:=Nat×Int×(List (List Edge))×Value×Frag) (rs [6,12,17,67]) (fun g=>[(6,(vi g.2.1))]) (fun g=>[box b6 [(vi 0),(vi 0),vs0] 27,box t [(vi m.inputs),(vi m.outputs),g.2.2.2.1] 27,g.2.2.2.2]++A) (fun g R=>pu N m f g.1 g.2.1 g.2.2.1=some E∧ORep (tSl false kEdge) R g.2.2.2.2 g.2.2.2.1 g.2.2.1∧True) (fun g=>g.1) (N,0,[],vs0,emp) ⟨[],(pk 2 rfl (pk 1 rfl (pk 0 rfl (List.Perm.refl _))))⟩ ⟨d,(l8 (T:=(tSl false kEdge))),trivial⟩ ?_
 clear d;rintro⟨V,a,W,F,u⟩ bn bF n ⟨d,aB,_⟩;rcases V with _|V;exact jf d;replace d:pu N m f (V+1) a W=some E:=d;rw [pu] at d
 refine q8 (zn (zl (vi a) (zl k (zq (qh rfl underlying36 rfl (j4 (z.mono (H.trans n)))) (zq (jh rfl rfl) (za (zz rfl d (fun d=>?_) (fun d=>?_))))))));refine qg (q8 (qc (zn (zi vs0 (za ?_)))));obtain⟨s,c,d⟩:=zk d
 refine je (γ:=(List Edge)×Value×Frag) (rs [7,12,23,61]) (fun g=>[(7,g.2.1)]) (fun g=>[box b6 [(vi 0),(vi 0),vs0] 27,box t [(vi m.inputs),(vi m.outputs),F] 27,u,g.2.2]++A) (fun g R=>s=g.1∧ORep kEdge R g.2.2 g.2.1 g.1∧True) ?_ ?_;refine zn (zi (vi 0) (za (qc (z1z ?_))))
 refine jq (γ:=Nat×(List Edge)×Int×Value×Frag) (rs [7,12,23,61]) (fun g=>[(7,g.2.2.2.1),(8,(vi g.2.2.1))]) (fun g=>[box b6 [(vi 0),(vi 0),vs0] 27,box t [(vi m.inputs),(vi m.outputs),F] 27,u,g.2.2.2.2]++A) (fun g R=>df N m f a g.1 g.2.1 g.2.2.1=some s∧ORep kEdge R g.2.2.2.2 g.2.2.2.1 g.2.1∧True) (fun g=>g.1) (N,[],0,vs0,emp) ⟨[],(pk 1 rfl (pk 1 rfl (pk 1 rfl (pk 0 rfl (List.Perm.refl _)))))⟩ ⟨c,(l8 (T:=kEdge)),trivial⟩ ?_
 clear c;rintro⟨Z,ab,b,aC,ac⟩ bo bG q ⟨c,aD,_⟩;rcases Z with _|Z;exact jf c;replace c:df N m f a (Z+1) ab b=some s:=c;rw [df] at c;refine q8 (zn (zl (vi b) (jy rfl sj lv rfl (h2.mono (n.trans q)) fun bH be=>?_)))
 refine qp rfl ty3 rfl be fun bI bf=>?_;obtain rfl:=jc.1 bf;refine zq (jh rfl rfl) (za (zz rfl c (fun c=>?_) (fun c=>?_)));refine qg (q8 (qc (q8 ?_)));obtain⟨aE,aF,aG,c⟩:=zoy c
 refine tq 12 [⟨11,[.int .i64 0,.int .i64 0],49⟩] [phP (tSl false (tSl false kEdge)) m.rows,phR (tSl false (tSl false kEdge)) m.rows,phX k,phX (vi a),phP (zw .i64) (ix f a),phX (vi (ix f a)),phP (tSl false kEdge) (ix m.rows (ix f a)),phR (tSl false kEdge) (ix m.rows (ix f a)),phX (vi b),phP kEdge (ix (ix m.rows (ix f a)) b),phX (uz (ix (ix m.rows (ix f a)) b)),phB] mixed (by kernel_rfl) (di ⟨ik,gz,zm,zm,ik,zm,ik,gz,zm,ik,zm,zhq,trivial⟩) ⟨?_,?_,?_,?_,?_,?_,?_,?_,?_,?_,?_,?_,trivial⟩ fun bJ C=>?_
 intro l bK j x hd;exact zb rfl rfl rfl (z04 uw uq (x 2 rfl) ((h2.mono (n.trans q)).mono j));rintro l bL j x ⟨G,_⟩;exact zb rfl rfl rfl (xn z1j rfl (G rfl));intro l bM j x hd;exact zb rfl rfl rfl (zt (z8 (x 1 rfl)));intro l bN j x hd;exact zb rfl rfl rfl (zt (z8 (x 6 rfl)))
 rintro l bO j x ⟨G,d1,_⟩;have u:=d1 rfl;exact zb rfl rfl rfl (ig (i:=a.toNat) z0k (G rfl) (j4 ((z.mono ((H.trans n).trans q)).mono j)) (zg u aE.1) (qb aE));rintro l bP j x ⟨G,_⟩;exact zb rfl rfl rfl (mq (xn ty3 rfl (G rfl)) (fun _ _ h=>jc.1 h));rintro l bQ j x ⟨G,d1,_⟩
 exact zb rfl rfl rfl (ig (i:=(ix f a).toNat) z5p rfl (j4 (G rfl)) (zg (d1 rfl) aF.1) (qb aF));rintro l bR j x ⟨G,_⟩;exact zb rfl rfl rfl (xn z5d rfl (G rfl));intro l bS j x hd;exact zb rfl rfl rfl (zt (z8 (x 8 rfl)));rintro l bT j x ⟨G,d1,_⟩
 exact zb rfl rfl rfl (ig (i:=b.toNat) z92 rfl (j4 (G rfl)) (zg (d1 rfl) aG.1) (qb aG));rintro l bp j x ⟨G,_⟩;exact zb rfl rfl rfl (mq (xn zc0 rfl (G rfl)) (fun _ _ h=>rq.1 h));intro l bq j x hd;exact z9z rfl rfl rfl rfl zgz
 intro bU bV bW bX bY bg bZ bh b0 b1 b2 bi b3 b4 b5 b7 b8 bj b9 ca cb bk cc bl;obtain rfl:=Eq.symm bg;obtain rfl:=Eq.symm bh;obtain rfl:=Eq.symm bi;obtain rfl:=Eq.symm bj;obtain rfl:=Eq.symm bk;obtain⟨I,rfl⟩:=bl
 refine jv (i:=0) (vs:=[(vi ((ix (ix m.rows (ix f a)) b).to)),(vi ((ix (ix m.rows (ix f a)) b).out))]) zac rfl rfl rfl rfl rfl rfl (zy rfl (zy rfl uh)) ?_;refine jd (zi (vi (-1)) (za ?_));obtain⟨o,e,c⟩:=zk c
 refine je (γ:=Int) (rs [10,12,40,54]) (fun g=>[(10,(vi g))]) (fun g=>[box b6 [(vi 0),(vi 0),vs0] 27,box t [(vi m.inputs),(vi m.outputs),F] 27,u,ac,box I [(vi ((ix (ix m.rows (ix f a)) b).to)),(vi ((ix (ix m.rows (ix f a)) b).out))] 49]++A) (fun g R=>o=g∧True) ?_ ?_
 refine zn (zi (vi 0) (za (qc (jq (γ:=Nat×Int×Int) (rs [10,12,40,54]) (fun g=>[(10,(vi g.2.1)),(11,(vi g.2.2))]) (fun g=>[box b6 [(vi 0),(vi 0),vs0] 27,box t [(vi m.inputs),(vi m.outputs),F] 27,u,ac,box I [(vi ((ix (ix m.rows (ix f a)) b).to)),(vi ((ix (ix m.rows (ix f a)) b).out))] 49]++A) (fun g R=>p9 N m f a b g.1 g.2.1 g.2.2=some o∧True) (fun g=>g.1) (N,(-1),0) ⟨[],(pk 1 rfl (pk 1 rfl (pk 1 rfl (pk 1 rfl (pk 0 rfl (List.Perm.refl _))))))⟩ ⟨e,trivial⟩ ?_))))
 clear e;rintro⟨ad,av,p⟩ br cd K ⟨e,_⟩;rcases ad with _|ad;exact jf e;replace e:p9 N m f a b (ad+1) av p=some o:=e;rw [p9] at e
 refine q8 (zn (zl (vi p) (zl k (zq (qh rfl underlying36 rfl (j4 (z.mono ((((H.trans n).trans q).trans C).trans K)))) (zq (jh rfl rfl) (za (zz rfl e (fun e=>?_) (fun e=>?_))))))));refine qg ?_;obtain⟨aw,y,e⟩:=zk e
 refine je (γ:=Int) (rs [10,11,46,54]) (fun g=>[(10,(vi g))]) (fun g=>[box b6 [(vi 0),(vi 0),vs0] 27,box t [(vi m.inputs),(vi m.outputs),F] 27,u,ac,box I [(vi ((ix (ix m.rows (ix f a)) b).to)),(vi ((ix (ix m.rows (ix f a)) b).out))] 49]++A) (fun g R=>aw=g∧True) ?_ ?_
 refine qc (q8 (z1i 7 mixed (by kernel_rfl) (by kernel_rfl) ?_));refine u7 (v:=k) (z8 rfl) ?_;refine u7 (v:=(vi p)) (z8 rfl) ?_;obtain⟨aj,y⟩:=ze y;refine z07 (ut (i:=p.toNat) z0k rfl (j4 (z.mono ((((H.trans n).trans q).trans C).trans K))) (zg rfl aj.1) (qb aj)) fun bs aI=>?_
 refine u7 (aa (j5 ty3 rfl aI)) ?_;refine u7 (v:=(.pointer (some ⟨I,0,none⟩))) (j3 z1w rfl) ?_;refine u7 (v:=(vi ((ix (ix m.rows (ix f a)) b).to))) (qz (i:=4) ag3 rfl rfl rfl) ?_;refine u7 (lq rfl rfl) ?_;intro bt L;refine za (zz rfl y (fun y=>?_) (fun y=>?_))
 refine qf (zl (vi p) (zi (vi p) (za ?_)));exact⟨dkt,L,uf,p,⟨rfl,trivial⟩,prm,(Option.some.inj y).symm,trivial⟩;refine qg ?_;exact⟨dkt,L,uf,av,⟨rfl,trivial⟩,prm,(Option.some.inj y).symm,trivial⟩;rintro aw bu ce az ⟨rfl,_⟩;refine qf (zl (vi p) ?_);obtain⟨aJ,e⟩:=ze e
 refine zq (jl rfl rfl aJ) (zi (vi (p+1)) (za ?_));exact⟨dkt,az,uf,(ad,aw,p+1),Nat.lt_succ_self _,⟨rfl,rfl,trivial⟩,prm,e,trivial⟩;refine kv ?_;exact⟨dkt,K,uf,av,⟨rfl,trivial⟩,prm,(Option.some.inj e).symm,trivial⟩;rintro o bv cf ak ⟨rfl,_⟩
 refine qf (zl aC (zl (vi o) (zq (j3 z9m rfl) (zq (qz (i:=4) ag3 rfl rfl rfl) (zq (af (ps:=[(0,(vi o)),(1,(vi ((ix (ix m.rows (ix f a)) b).out)))]) (v:=(.agg #[(vi o),(vi ((ix (ix m.rows (ix f a)) b).out))])) rfl (fun w=>by kernel_rfl)) ?_)))))
 let G1:=([(⟨o,(ix (ix m.rows (ix f a)) b).out⟩:Edge)]:List Edge)
 refine ax (T:=kEdge) (X:=G1) (ps:=[(0,(.agg #[(vi o),(vi ((ix (ix m.rows (ix f a)) b).out))]))]) (css:=[[(vi o),(vi ((ix (ix m.rows (ix f a)) b).out))]]) rfl underlying50 z9b rfl rfl (kg ⟨⟨_,_,rfl,rfl,rfl⟩,trivial⟩) rfl rfl (by decide) fun aK bw ae aL=>?_;refine ww (i:=0) rfl aL fun aM M aN=>?_
 have aO:VRep (tSl true kEdge) aM aK G1:=(z1b aN ae);obtain⟨al,c⟩:=ze c;refine dw (i:=3) (X:=ab) (Y:=G1) rfl underlying50 z9b rfl rfl rfl (aD.mono ((C.trans ak).trans M)) (j4 (Sub.v (B:=(tSl false kEdge)) (jk Sub.refl (fun _=>rfl)) aO)) al.1 al.2 fun am aP aQ=>?_
 refine zi am (za (qf (zl (vi b) ?_)));obtain⟨aR,c⟩:=ze c;refine zq (jl rfl rfl aR) (zi (vi (b+1)) (za ?_))
 exact⟨dkt,((C.trans ak).trans M),uf,(Z,(ab++G1),b+1,am,aP),Nat.lt_succ_self _,⟨rfl,rfl,trivial⟩,⟨[box I [(vi ((ix (ix m.rows (ix f a)) b).to)),(vi ((ix (ix m.rows (ix f a)) b).out))] 49],(pk 4 rfl (pk 0 rfl (pk 0 rfl (pk 0 rfl (pk 0 rfl (List.Perm.refl _))))))⟩,c,aQ,trivial⟩;refine kv ?_
 exact⟨dkt,q,uf,(ab,aC,ac),⟨rfl,trivial⟩,prm,(Option.some.inj c).symm,aD,trivial⟩;rintro⟨s,ag,cg⟩ bx ch an ⟨rfl,bm,_⟩;refine qf (zq (j3 uw rfl) (zq (qz (i:=1) z8y rfl rfl rfl) (zl ag (ww (i:=3) rfl bm fun aS O aT=>?_))));have ao:VRep (tSl false kEdge) aS ag s:=(z3l aT)
 refine ax (T:=(tSl false kEdge)) (X:=([s]:List (List Edge))) (ps:=[(0,ag)]) (css:=[[ag]]) rfl underlying25 zjk rfl (by simp only [List.map_cons,List.map_nil,z3n ao];rfl) (kg ⟨(j6 rfl ao),trivial⟩) rfl rfl (by decide) fun aU bz ah aV=>?_;refine ww (i:=0) rfl aV fun aW P aX=>?_
 have aY:VRep (tSl true (tSl false kEdge)) aW aU ([s]:List (List Edge)):=(z1b aX ah);obtain⟨ap,d⟩:=ze d
 refine dw (i:=2) (X:=W) (Y:=([s]:List (List Edge))) rfl underlying25 zjk rfl rfl rfl (aB.mono ((an.trans O).trans P)) (j4 (Sub.v (B:=(tSl false (tSl false kEdge))) (jk Sub.refl (fun _=>rfl)) aY)) ap.1 ap.2 fun aq aZ Q=>?_
 refine zq (j3 uw rfl) (jv (i:=1) (vs:=[aq]) zrp rfl rfl (ay Q) rfl rfl rfl (zy (yw Q) uh) ?_);refine za (qf (zl (vi a) ?_));obtain⟨a0,d⟩:=ze d;refine zq (jl rfl rfl a0) (zi (vi (a+1)) (za ?_))
 exact⟨dkt,((an.trans O).trans P),uf,(V,a+1,(W++([s]:List (List Edge))),aq,aZ),Nat.lt_succ_self _,⟨rfl,trivial⟩,prm,d,Q,trivial⟩;refine kv ?_;exact⟨dkt,n,uf,(W,F,u),trivial,prm,(Option.some.inj d).symm,aB,trivial⟩;rintro⟨E,S,ci⟩ bA cj a1 ⟨rfl,a2,_⟩
 refine zn (zq (qj (i:=1) au xx rfl rfl rfl rfl) (jv (i:=0) (vs:=[(vi m.inputs),(vi m.outputs),S]) xx rfl rfl rfl rfl rfl rfl (zy rfl (zy rfl (zy (yw a2) uh))) ?_));refine za (lh (i:=2) rfl a2 fun a3 aA a4=>?_);have a5:VRep (tSl false (tSl false kEdge)) a3 S E:=(z3l a4)
 refine qw ?_;obtain rfl:=Option.some.inj U
 refine qd (D:=[]) (J:=[box b6 [(vi m.inputs),(vi m.outputs),S] 27,box t [(vi m.inputs),(vi m.outputs),S] 27]) (rs:=[.cell 4 27]) (vs:=[(.agg #[(vi m.inputs),(vi m.outputs),S])]) ((H.trans a1).trans aA) rfl rfl ⟨⟨_,rfl,fun w hh=>z0l (i:=0) hh rfl rfl au xx rfl rfl⟩,trivial⟩ ?_
 exact⟨rfl,(⟨_,⟨_,_,rfl,rfl,⟨_,_,rfl,rfl,(j6 rfl a5)⟩⟩,rfl⟩:VRep (qy false false) _ _ (⟨m.inputs,m.outputs,E⟩:Mach))⟩
theorem zrb:Enters prog 25:=enters_of func25 rfl (by kernel_rfl)
end GV
end Go.Proofs.Ytncblcdhmcmkmaa
