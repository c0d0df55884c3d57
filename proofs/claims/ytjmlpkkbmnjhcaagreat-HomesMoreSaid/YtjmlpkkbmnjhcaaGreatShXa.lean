import Derived.Test.YtjmlpkkbmnjhcaaGreatShWg
import Derived.Test.YtjmlpkkbmnjhcaaGreatRows
set_option linter.unusedVariables false
set_option linter.unusedSimpArgs false
set_option linter.unusedSectionVars false
namespace Go.Proofs.YtjmlpkkbmnjhcaaGreat
namespace GV
open _root_.Go.Proofs.Tryz
open Go.IntWalk
set_option maxRecDepth 100000
set_option maxHeartbeats 20000000
theorem q57{a b:Bool}:TyOk prog 25 (bf a b):=by
 obtain⟨i,hi,c⟩: ∃ i,prog.info? 25=some i∧i.size=5:=uy (by kernel_rfl);exact z5p underlying25 hi rfl c
theorem q71:FieldOk prog 25 0 0:=by
 obtain⟨i,hi,a⟩: ∃ i,prog.info? 5=some i∧i.size=1:=uy (by kernel_rfl);exact dn underlying25 rfl rfl hi (by rw [a];rfl)
theorem q6c:FieldOk prog 25 1 1:=by
 obtain⟨i,hi,a⟩: ∃ i,prog.info? 5=some i∧i.size=1:=uy (by kernel_rfl);exact dn underlying25 rfl rfl hi (by rw [a];rfl)
theorem q6u:FieldOk prog 25 2 2:=by
 obtain⟨i,hi,a⟩: ∃ i,prog.info? 5=some i∧i.size=1:=uy (by kernel_rfl);exact dn underlying25 rfl rfl hi (by rw [a];rfl)
theorem zzo:FieldOk prog 25 4 4:=by
 obtain⟨i,hi,a⟩: ∃ i,prog.info? 23=some i∧i.size=1:=uy (by kernel_rfl);exact dn underlying25 rfl rfl hi (by rw [a];rfl)
theorem z9k{N:Nat}{R:RH}{d:(List Int)}{b:Value}(c:VRep (tSl false (zz .u16)) R b d){k:Int}{r:Int}(a:z2n N d k=some r):CallP prog 30 #[b,(vi k)] R (fun v R'=>v=(vi r)):=by
 refine qw (args:=[b,(vi k)]) func30 rfl rfl fun A=>?_;rw [z2n] at a;refine zq (zk (vi 0) (ze (qc (zq (zh (vi k) (zh b (zx (j4 rfl underlying23 rfl (jo c)) (zx (jg rfl rfl) (ze (zy rfl a (fun a=>?_) (fun a=>?_)))))))))))
 refine zq (zh b (zh (vi k) ?_));obtain⟨e,a⟩:=zg a;refine p8 (i:=k.toNat) rfl o7 rfl (jo c) (zt rfl e.1) (qd e) fun j f=>?_;refine jc rfl og rfl f fun l g=>?_;obtain rfl:=ql.1 g;obtain⟨h,a⟩:=zg a
 refine zx (z1t underlying68 underlying3 rfl h) (zk (vi (ix d k)) (ze (qp ?_)));obtain rfl:=Option.some.inj a;refine qm (D:=[]) (J:=[]) (rs:=[.tmp 4]) (vs:=[(vi (ix d k))]) (RH.le.refl _) rfl rfl ⟨rfl,trivial⟩ ?_;exact⟨rfl,rfl⟩;refine qi (zq (zk (vi 0) (ze (qp ?_))));obtain rfl:=Option.some.inj a
 refine qm (D:=[]) (J:=[]) (rs:=[.tmp 4]) (vs:=[(vi 0)]) (RH.le.refl _) rfl rfl ⟨rfl,trivial⟩ ?_;exact⟨rfl,rfl⟩
theorem q9w:Enters prog 30:=enters_of func30 rfl (by kernel_rfl)
theorem zya:FieldOk prog 25 3 3:=by
 obtain⟨i,hi,a⟩: ∃ i,prog.info? 22=some i∧i.size=1:=uy (by kernel_rfl);exact dn underlying25 rfl rfl hi (by rw [a];rfl)
theorem q7i{a:Bool}:TyOk prog 22 (tSl a (zz .u8)):=by
 obtain⟨i,hi,b⟩: ∃ i,prog.info? 22=some i∧i.size=1:=uy (by kernel_rfl);exact z5p underlying22 hi rfl b
theorem q6v:SlOk prog 22 5 (zz .u8):=⟨underlying22,ty5⟩
theorem q7x:ZeroOk prog 63 tHdr vs0 24:=by
 obtain⟨i,zv,hi,a,c,d,f⟩:=z4z (P:=prog) (e:=63) (zv:=vs0) (k:=1) (b:=24) (by kernel_rfl);exact⟨i,zv,hi,a,c,d,fun R=>by subst f;exact⟨rfl,rfl⟩⟩
theorem zqg:zg8 kEdge 0 (zz .i64) (fun(x:Edge) (y:Int)=>(⟨y,x.out⟩:Edge)):=q9h q5l (fun _ _=>rfl)
theorem z7p{N:Nat}{R:RH}{x:Sd}{bA:Value}(c1:VRep (bf false false) R bA x){r:Mach}(y:z1a N x=some r):CallP prog 7 #[bA] R (fun v R'=>VRep (kv false false) R' v r):=by
 refine qw (args:=[bA]) func7 rfl rfl fun A=>?_;rw [z1a] at y;refine zq (vv (T:=(bf false false)) rfl rfl rfl c1 fun v1 R3 c2 h5 h2=>?_);refine r9 rfl zjc fun b6=>?_;refine jb (jq rfl q71 zfz rfl h2 fun v8 h9=>?_);refine jc rfl ty5 rfl h9 fun fV c3=>?_;obtain rfl:=ql.1 c3
 obtain⟨c4,y⟩:=zg y;refine zx (z3o rfl rfl c4) ?_;obtain⟨c5,y⟩:=zg y;refine zx (z1t underlying5 underlying3 rfl c5) ?_;obtain⟨c6,y⟩:=zg y;refine zx (ja rfl rfl c6) (zk (vi ((1:Int)+(x.fD%6))) (jb (jq rfl q6c zfk rfl h2 fun fW c7=>?_)))
 refine jc rfl ty5 rfl c7 fun fX c8=>?_;obtain rfl:=ql.1 c8;obtain⟨c9,y⟩:=zg y;refine zx (z3o rfl rfl c9) ?_;obtain⟨da,y⟩:=zg y;refine zx (z1t underlying5 underlying3 rfl da) ?_;obtain⟨db,y⟩:=zg y;refine zx (ja rfl rfl db) (jq rfl q6u zg1 rfl h2 fun fY dc=>?_)
 refine jc rfl ty5 rfl dc fun fZ dd=>?_;obtain rfl:=ql.1 dd;obtain⟨de,y⟩:=zg y;refine zx (z3o rfl rfl de) ?_;obtain⟨df,y⟩:=zg y;refine zx (z1t underlying5 underlying3 rfl df) ?_;obtain⟨dg,y⟩:=zg y
 refine zx (ja rfl rfl dg) (zx (bn (ps:=[(0,(vi ((1:Int)+(x.fB%3)))),(1,(vi ((1:Int)+(x.fC%3))))]) (v:=(.agg #[(vi ((1:Int)+(x.fB%3))),(vi ((1:Int)+(x.fC%3))),vs0])) rfl (fun w=>by kernel_rfl)) (r9 rfl zjc fun q=>?_))
 refine p9 (i:=0) (vs:=[(vi ((1:Int)+(x.fB%3))),(vi ((1:Int)+(x.fC%3))),vs0]) z1q rfl rfl rfl rfl rfl rfl (jl rfl (jl rfl (jl rfl mq))) ?_;refine ze ?_;obtain⟨aC,c,y⟩:=zu y
 refine qz (γ:=(List (List Edge))×Value×Frag) (rs [5,9,31,67]) (fun g=>[]) (fun g=>[box b6 [(vi 0),(vi 0),vs0] 28,box q [(vi ((1:Int)+(x.fB%3))),(vi ((1:Int)+(x.fC%3))),g.2.1] 28,g.2.2]++A) (fun g R=>aC=g.1∧NRep false kEdge R g.2.2 g.2.1 g.1∧True) ?_ ?_
 refine zq (zk (vi 0) (ze (qj (z5s ?_))))
 refine jf (γ:=Nat×Int×(List (List Edge))×Value×Frag) (rs [5,9,31,67]) (fun g=>[(5,(vi g.2.1))]) (fun g=>[box b6 [(vi 0),(vi 0),vs0] 28,box q [(vi ((1:Int)+(x.fB%3))),(vi ((1:Int)+(x.fC%3))),g.2.2.2.1] 28,g.2.2.2.2]++A) (fun g R=>o5 N x g.1 g.2.1 g.2.2.1=some aC∧NRep false kEdge R g.2.2.2.2 g.2.2.2.1 g.2.2.1∧True) (fun g=>g.1) (N,0,[],vs0,emp) ⟨[],(pk 2 rfl (pk 1 rfl (pk 0 rfl (List.Perm.refl _))))⟩ ⟨c,(z03 (zys (t:=false) (T:=kEdge) (R:=R3))),trivial⟩ ?_
 clear c;rintro⟨a5,ad,a6,a7,a8⟩ ec f0 bc ⟨c,⟨dj,bJ⟩,_⟩;rcases a5 with _|a5;exact j5 c;replace c:o5 N x (a5+1) ad a6=some aC:=c;rw [o5] at c
 refine qc (zq (zh (vi ad) (zh (vi ((1:Int)+(x.fD%6))) (zx (jg rfl rfl) (ze (zy rfl c (fun c=>?_) (fun c=>?_)))))));refine qi (qc (qj (zq (zk vs0 (ze ?_)))));obtain⟨aA,a,c⟩:=zu c
 refine qz (γ:=(List Edge)×Value×Frag) (rs [6,9,36,61]) (fun g=>[(6,g.2.1)]) (fun g=>[box b6 [(vi 0),(vi 0),vs0] 28,box q [(vi ((1:Int)+(x.fB%3))),(vi ((1:Int)+(x.fC%3))),a7] 28,a8,g.2.2]++A) (fun g R=>aA=g.1∧ORep kEdge R g.2.2 g.2.1 g.1∧True) ?_ ?_
 refine zq (zk (vi 0) (ze (qj (z5s ?_))))
 refine jf (γ:=Nat×(List Edge)×Int×Value×Frag) (rs [6,9,36,61]) (fun g=>[(6,g.2.2.2.1),(7,(vi g.2.2.1))]) (fun g=>[box b6 [(vi 0),(vi 0),vs0] 28,box q [(vi ((1:Int)+(x.fB%3))),(vi ((1:Int)+(x.fC%3))),a7] 28,a8,g.2.2.2.2]++A) (fun g R=>l6 N x ad g.1 g.2.1 g.2.2.1=some aA∧ORep kEdge R g.2.2.2.2 g.2.2.2.1 g.2.1∧True) (fun g=>g.1) (N,[],0,vs0,emp) ⟨[],(pk 1 rfl (pk 1 rfl (pk 1 rfl (pk 0 rfl (List.Perm.refl _)))))⟩ ⟨a,(z2c (T:=kEdge)),trivial⟩ ?_
 clear a;rintro⟨a9,ba,aB,bK,dk⟩ ed f1 be ⟨a,bL,_⟩;rcases a9 with _|a9;exact j5 a;replace a:l6 N x ad (a9+1) ba aB=some aA:=a;rw [l6] at a
 refine qc (zq (zh (vi aB) (zx (ko z1k rfl) (zx (ku (i:=1) ag3 rfl rfl rfl) (zx (jg rfl rfl) (ze (zy rfl a (fun a=>?_) (fun a=>?_))))))));refine qi (qc (qj (zq (jq rfl zzo zas rfl (h2.mono (bc.trans be)) fun f2 dl=>?_))));refine jc rfl q37 rfl dl fun f3 dm=>?_
 refine zh (vi ad) (zx (ko z1k rfl) (zx (ku (i:=1) ag3 rfl rfl rfl) ?_));obtain⟨dn,a⟩:=zg a;refine zx (z8s rfl rfl dn) (zh (vi aB) ?_);obtain⟨dp,a⟩:=zg a;refine zx (ja rfl rfl dp) ?_;obtain⟨S,dq,a⟩:=zu a;refine jh rfl q9w rfl (z9k dm dq) fun f4 f5 bg dr=>?_
 obtain rfl:=dr;refine zk (vi S) (ze ?_);obtain⟨ds,dt,a⟩:=q1v a;let G1:=([(⟨(-1),(S/((1:Int)+(x.fD%6)))%((1:Int)+(x.fC%3))⟩:Edge)]:List Edge)
 refine xq 9 [] [phX bK,phX (vi S),phX (vi ((1:Int)+(x.fD%6))),phX (vi (S/((1:Int)+(x.fD%6)))),phX (.pointer (some ⟨q,1,none⟩)),phX (vi ((1:Int)+(x.fC%3))),phX (vi ((S/((1:Int)+(x.fD%6)))%((1:Int)+(x.fC%3)))),phX (.agg #[(vi (-1)),(vi ((S/((1:Int)+(x.fD%6)))%((1:Int)+(x.fC%3))))]),phR (tSl true kEdge) G1] mixed (by kernel_rfl) (wz ⟨zi,zi,zi,zi,zi,zi,zi,zi,z2t,trivial⟩) ⟨?_,?_,?_,?_,?_,?_,?_,?_,?_,trivial⟩ fun f6 bh=>?_
 intro l du n F hd;exact zf rfl rfl rfl (zo (z8 (F 6 rfl)));intro l dv n F hd;exact zf rfl rfl rfl (zo (z8 (F 8 rfl)));intro l dw n F hd;exact zf rfl rfl rfl (zo (z8 (F 3 rfl)));rintro l dx n F ⟨O,d1,_⟩;exact zf rfl rfl rfl (zo (z6m (O rfl) (d1 rfl) ds));intro l dy n F hd
 exact zf rfl rfl rfl (zo (ko zfg (F 4 rfl)));rintro l dz n F ⟨O,_⟩;have bC:=O rfl;exact zf rfl rfl rfl (zo (ku (i:=1) ag3 bC rfl rfl));rintro l dA n F ⟨O,d1,_⟩;exact zf rfl rfl rfl (zo (z3o (O rfl) (d1 rfl) dt));rintro l dB n F ⟨O,_⟩
 have dC:l 57=(vi ((S/((1:Int)+(x.fD%6)))%((1:Int)+(x.fC%3)))):=O rfl
 exact zf rfl rfl rfl (zo (bn (ps:=[(0,(vi (-1))),(1,(vi ((S/((1:Int)+(x.fD%6)))%((1:Int)+(x.fC%3)))))]) (v:=(.agg #[(vi (-1)),(vi ((S/((1:Int)+(x.fD%6)))%((1:Int)+(x.fC%3))))])) (by simp only [List.map,ev,dC]<;>rfl) (fun w=>by kernel_rfl)));rintro l dD n F ⟨O,_⟩
 have dE:l 58=(.agg #[(vi (-1)),(vi ((S/((1:Int)+(x.fD%6)))%((1:Int)+(x.fC%3))))]):=O rfl
 exact zf rfl rfl rfl (z5w (T:=kEdge) (X:=G1) (ps:=[(0,(.agg #[(vi (-1)),(vi ((S/((1:Int)+(x.fD%6)))%((1:Int)+(x.fC%3))))]))]) (css:=[[(vi (-1)),(vi ((S/((1:Int)+(x.fD%6)))%((1:Int)+(x.fC%3))))]]) underlying63 zjz (by simp only [List.map,ev,dE]<;>rfl) rfl (kw ⟨⟨_,_,rfl,rfl,rfl⟩,trivial⟩) rfl rfl (by decide))
 intro f7 dF f8 dG f9 dH ga dI gb dJ gc dK ge dL gf bM ee bN;obtain rfl:=Eq.symm dF;obtain rfl:=Eq.symm dG;obtain rfl:=Eq.symm dH;obtain rfl:=Eq.symm dI;obtain rfl:=Eq.symm dJ;obtain rfl:=Eq.symm dK;obtain rfl:=Eq.symm dL;obtain rfl:=Eq.symm bM;obtain⟨bi,a⟩:=zg a
 refine di (i:=3) (X:=ba) (Y:=G1) rfl underlying63 zjz rfl rfl rfl (bL.mono (bg.trans bh)) (jo (Sub.v (B:=(tSl false kEdge)) (um Sub.refl (fun _=>rfl)) bN)) bi.1 bi.2 fun bj bO bP=>?_;refine zk bj (ze (q8 (zh (vi aB) ?_)));obtain⟨bQ,a⟩:=zg a
 refine zx (ja rfl rfl bQ) (zk (vi (aB+1)) (ze ?_));exact⟨dkt,(bg.trans bh),ji,(a9,(ba++G1),aB+1,bj,bO),Nat.lt_succ_self _,⟨rfl,rfl,trivial⟩,prm,a,bP,trivial⟩;refine jk ?_;exact⟨dkt,be,ji,(ba,bK,dk),⟨rfl,trivial⟩,prm,(Option.some.inj a).symm,bL,trivial⟩;rintro⟨aA,aD,bC⟩ ef gg bk ⟨rfl,bD,_⟩
 refine q8 (zx (ko xh rfl) (zx (ku (i:=1) zjf rfl rfl rfl) (zh aD (z4a rfl (z5w (T:=tHdr) (X:=[aD]) (ps:=[(0,aD)]) (css:=[[aD]]) underlying26 q7x rfl (by simp only [List.map_cons,List.map_nil,z6b bD];rfl) (kw ⟨zv3 (z7r bD),trivial⟩) rfl rfl (by decide)) fun eg eh ap bR=>?_))))
 obtain⟨bl,c⟩:=zg c
 refine zuz (Oc:=[a8,bC]) (Or:=[box b6 [(vi 0),(vi 0),vs0] 28,box q [(vi ((1:Int)+(x.fB%3))),(vi ((1:Int)+(x.fC%3))),a7] 28]++A) rfl (pk 2 rfl (pk 2 rfl (pk 0 rfl (pk 0 rfl (List.Perm.refl _))))) (zjr underlying26 q7x rfl rfl (bJ.mono (bk.trans ap)) (bD.mono ap) (jo bR) (fun e=>nomatch e) bl.1 bl.2) ?_
 rintro aE ei dM dN ⟨rfl,bm,rfl,ae⟩;replace ae:N2 false kEdge _ bm aE (dj++[aD]) (a6++[aA]):=ae;refine zx (ko xh rfl) (p9 (i:=2) (vs:=[aE]) q8a rfl rfl (zyy ae) rfl rfl rfl (jl (zyg ae) mq) ?_);refine ze (q8 (zh (vi ad) ?_));obtain⟨bS,c⟩:=zg c
 refine zx (ja rfl rfl bS) (zk (vi (ad+1)) (ze ?_));exact⟨dkt,(bk.trans ap),ji,(a5,ad+1,(a6++[aA]),aE,bm),Nat.lt_succ_self _,⟨rfl,trivial⟩,⟨[],(pk 1 rfl (pk 1 rfl (pk 0 rfl (List.Perm.refl _))))⟩,c,(z03 ae),trivial⟩;refine jk ?_
 exact⟨dkt,bc,ji,(a6,a7,a8),trivial,prm,(Option.some.inj c).symm,(z03 bJ),trivial⟩;rintro⟨aC,o,dO⟩ ej gh ar ⟨rfl,⟨gi,dP⟩,_⟩;obtain⟨af,c,y⟩:=zu y
 refine qz (γ:=(List (List Edge))×Frag) (rs [9,13,67,137]) (fun g=>[]) (fun g=>[box b6 [(vi 0),(vi 0),vs0] 28,box q [(vi ((1:Int)+(x.fB%3))),(vi ((1:Int)+(x.fC%3))),o] 28,g.2]++A) (fun g R=>af=g.1∧NRep false kEdge R g.2 o g.1∧True) ?_ ?_
 refine zq (zk (vi 1) (ze (qj (jf (γ:=Nat×Int×(List (List Edge))×Frag) (rs [9,13,67,137]) (fun g=>[(9,(vi g.2.1))]) (fun g=>[box b6 [(vi 0),(vi 0),vs0] 28,box q [(vi ((1:Int)+(x.fB%3))),(vi ((1:Int)+(x.fC%3))),o] 28,g.2.2.2]++A) (fun g R=>l7 N x g.1 g.2.1 g.2.2.1=some af∧NRep false kEdge R g.2.2.2 o g.2.2.1∧True) (fun g=>g.1) (N,1,aC,dO) prm ⟨c,(z03 dP),trivial⟩ ?_))))
 clear c;rintro⟨au,s,I,Z⟩ ek el aq ⟨c,⟨ag,Q⟩,_⟩;rcases au with _|au;exact j5 c;replace c:l7 N x (au+1) s I=some af:=c;rw [l7] at c
 refine qc (zq (zh (vi s) (zh (vi ((1:Int)+(x.fD%6))) (zx (jg rfl rfl) (ze (zy rfl c (fun c=>?_) (fun c=>?_)))))));refine qi (qc (qj (zq (zk vs0 (ze ?_)))));obtain⟨K,a,c⟩:=zu c
 refine qz (γ:=(List Int)×Value×Frag) (rs [10,12,72,100]) (fun g=>[(10,g.2.1)]) (fun g=>[box b6 [(vi 0),(vi 0),vs0] 28,box q [(vi ((1:Int)+(x.fB%3))),(vi ((1:Int)+(x.fC%3))),o] 28,Z,g.2.2]++A) (fun g R=>K=g.1∧ORep (zz .i64) R g.2.2 g.2.1 g.1∧True) ?_ ?_
 refine zq (zk (vi 0) (ze (qj (z5s ?_))))
 refine jf (γ:=Nat×(List Int)×Int×Value×Frag) (rs [10,12,72,100]) (fun g=>[(10,g.2.2.2.1),(11,(vi g.2.2.1))]) (fun g=>[box b6 [(vi 0),(vi 0),vs0] 28,box q [(vi ((1:Int)+(x.fB%3))),(vi ((1:Int)+(x.fC%3))),o] 28,Z,g.2.2.2.2]++A) (fun g R=>pu N x s I g.1 g.2.1 g.2.2.1=some K∧ORep (zz .i64) R g.2.2.2.2 g.2.2.2.1 g.2.1∧True) (fun g=>g.1) (N,[],0,vs0,emp) ⟨[],(pk 1 rfl (pk 1 rfl (pk 1 rfl (pk 0 rfl (List.Perm.refl _)))))⟩ ⟨a,(z2c (T:=(zz .i64))),trivial⟩ ?_
 clear a;rintro⟨av,ah,f,aF,aw⟩ em en U ⟨a,aG,_⟩;rcases av with _|av;exact j5 a;replace a:pu N x s I (av+1) ah f=some K:=a;rw [pu] at a;refine qc (zq (zh (vi f) (zh (vi s) (zx (ko z1k rfl) (zx (ku (i:=1) ag3 rfl rfl rfl) ?_)))))
 obtain⟨bT,a⟩:=zg a;refine zx (z8s rfl rfl bT) (zx (jg rfl rfl) (ze (zy rfl a (fun a=>?_) (fun a=>?_))));refine qi ?_;obtain⟨aH,p,a⟩:=zu a
 refine qz (γ:=(List Int)×Value×Frag) (rs [10,11,80,100]) (fun g=>[(10,g.2.1)]) (fun g=>[box b6 [(vi 0),(vi 0),vs0] 28,box q [(vi ((1:Int)+(x.fB%3))),(vi ((1:Int)+(x.fC%3))),o] 28,Z,g.2.2]++A) (fun g R=>aH=g.1∧ORep (zz .i64) R g.2.2 g.2.1 g.1∧True) ?_ ?_
 refine qj (qc (z5x 16 mixed (by kernel_rfl) (by kernel_rfl) ?_));refine yj (v:=(.pointer (some ⟨q,2,none⟩))) (ko xh rfl) ?_;refine yj (v:=o) (ku (i:=1) zjf rfl rfl rfl) ?_;refine yj (v:=(vi f)) (z8 rfl) ?_;refine yj (v:=(.pointer (some ⟨q,0,none⟩))) (ko z1k rfl) ?_
 refine yj (v:=(vi ((1:Int)+(x.fB%3)))) (ku (i:=1) ag3 rfl rfl rfl) ?_;obtain⟨bU,p⟩:=zg p;refine yj (z6m rfl rfl bU) ?_;obtain⟨ai,p⟩:=zg p;refine z5a (znm (i:=(f/((1:Int)+(x.fB%3))).toNat) (zh2 (b:=true) zeg) rfl (Q.mono U) (zt rfl ai.1) (qd ai)) fun eo bV=>?_
 refine yj (v:=(ag.getD (f/((1:Int)+(x.fB%3))).toNat default)) (q7a (zrk (i:=(f/((1:Int)+(x.fB%3))).toNat) (j:=2) (zg2 (b:=true) zdn) (Q.mono U) rfl rfl bV (qd ai))) ?_;refine yj (v:=(vi f)) (z8 rfl) ?_;refine yj (v:=(.pointer (some ⟨q,0,none⟩))) (ko z1k rfl) ?_
 refine yj (v:=(vi ((1:Int)+(x.fB%3)))) (ku (i:=1) ag3 rfl rfl rfl) ?_;obtain⟨bW,p⟩:=zg p;refine yj (z3o rfl rfl bW) ?_;obtain⟨aI,p⟩:=zg p
 refine z5a (zlf (i:=(f%((1:Int)+(x.fB%3))).toNat) (r:=(f/((1:Int)+(x.fB%3))).toNat) zf7 (Q.mono U) (qd ai) rfl (zt rfl aI.1) (qd aI)) fun ep bX=>?_;refine z5a (zo1 z7c rfl bX) fun bY aJ=>?_
 replace aJ:zdh kEdge 0 (ag.getD (f/((1:Int)+(x.fB%3))).toNat default) (I.getD (f/((1:Int)+(x.fB%3))).toNat default) bY (f%((1:Int)+(x.fB%3))).toNat:=aJ
 refine yj (lc (zsr (i:=(f%((1:Int)+(x.fB%3))).toNat) (r:=(f/((1:Int)+(x.fB%3))).toNat) (j:=2) ty3 z7t (Q.mono U) (qd ai) rfl rfl aJ (qd aI))) ?_;refine yj (jg rfl rfl) ?_;intro eq ac;refine ze (zy rfl p (fun p=>?_) (fun p=>?_))
 refine q8 (zh aF (zh (vi f) (dh (T:=(zz .i64)) (X:=([f]:List Int)) (ps:=[(0,(vi f))]) (css:=[[(vi f)]]) rfl underlying30 zo3 rfl rfl (kw ⟨rfl,trivial⟩) rfl rfl (by decide) fun bZ er bb b0=>?_)));refine wh (i:=0) rfl b0 fun b1 aK b2=>?_
 have b3:VRep (tSl true (zz .i64)) b1 bZ ([f]:List Int):=(z4e b2 bb);obtain⟨bo,p⟩:=zg p;refine di (i:=3) (X:=ah) (Y:=([f]:List Int)) rfl underlying30 zo3 rfl rfl rfl (aG.mono (ac.trans aK)) (jo (Sub.v (B:=(tSl false (zz .i64))) (um Sub.refl (fun _=>rfl)) b3)) bo.1 bo.2 fun bp b4 b5=>?_
 refine zk bp (ze ?_);exact⟨dkt,(ac.trans aK),ji,((ah++([f]:List Int)),bp,b4),⟨rfl,trivial⟩,prm,(Option.some.inj p).symm,b5,trivial⟩;refine qi ?_;exact⟨dkt,ac,ji,(ah,aF,aw),⟨rfl,trivial⟩,prm,(Option.some.inj p).symm,(aG.mono ac),trivial⟩;rintro⟨aH,b7,aL⟩ es et bE ⟨rfl,b8,_⟩
 refine q8 (zh (vi f) ?_);obtain⟨b9,a⟩:=zg a;refine zx (ja rfl rfl b9) (zk (vi (f+1)) (ze ?_));exact⟨dkt,bE,ji,(av,aH,f+1,b7,aL),Nat.lt_succ_self _,⟨rfl,rfl,trivial⟩,prm,a,b8,trivial⟩;refine jk ?_
 exact⟨dkt,U,ji,(ah,aF,aw),⟨rfl,trivial⟩,prm,(Option.some.inj a).symm,aG,trivial⟩;rintro⟨K,aM,bq⟩ eu ew P ⟨rfl,aj,_⟩;refine zq (zh aM ?_);obtain⟨aN,c⟩:=zg c;refine z1o (i:=(0:Int).toNat) rfl z3y rfl aj (zt rfl aN.1) (qd aN) fun ex ca=>?_
 refine z7g (i:=(0:Int).toNat) (j:=3) rfl ty3 aj rfl rfl ca (qd aN) fun ey cb=>?_;obtain rfl:=ql.1 cb;refine zk (vi (ix K 0)) (ze ?_);obtain⟨k,a,c⟩:=zu c
 refine qz (γ:=Int) (rs [12,13,103,122]) (fun g=>[(12,(vi g))]) (fun g=>[box b6 [(vi 0),(vi 0),vs0] 28,box q [(vi ((1:Int)+(x.fB%3))),(vi ((1:Int)+(x.fC%3))),o] 28,Z]++A) (fun g R=>k=g∧True) ?_ ?_;refine zq (zh (vi s) ?_);obtain⟨cc,a⟩:=zg a
 refine zx (ww rfl rfl cc) (jq rfl zya zaq rfl (h2.mono ((ar.trans aq).trans P)) fun ez cd=>?_);refine jc rfl q7i rfl cd fun eA ce=>?_;refine zx (j4 rfl underlying22 rfl (jo ce)) (zx (jg rfl rfl) (ze (zy rfl a (fun a=>?_) (fun a=>?_))))
 refine q8 (zh aM (jq rfl zya zaq rfl (h2.mono ((ar.trans aq).trans P)) fun eB cf=>?_));refine jc rfl q7i rfl cf fun eC cg=>?_;refine zh (vi s) ?_;obtain⟨ch,a⟩:=zg a;refine zx (ww rfl rfl ch) ?_;obtain⟨br,a⟩:=zg a
 refine p8 (i:=(s-1).toNat) rfl q6v rfl (jo cg) (zt rfl br.1) (qd br) fun eD ci=>?_;refine jc rfl ty5 rfl ci fun eE cj=>?_;obtain rfl:=ql.1 cj;obtain⟨ck,a⟩:=zg a;refine zx (z1t underlying5 underlying3 rfl ck) (zh aM (zx (z3l rfl underlying30 rfl aj) ?_))
 obtain⟨cl,a⟩:=zg a;refine zx (z3o rfl rfl cl) ?_;obtain⟨aO,a⟩:=zg a;refine z1o (i:=((ix x.fG (s-1))%(↑K.length:Int)).toNat) rfl z3y rfl aj (zt rfl aO.1) (qd aO) fun eF cm=>?_
 refine z7g (i:=((ix x.fG (s-1))%(↑K.length:Int)).toNat) (j:=3) rfl ty3 aj rfl rfl cm (qd aO) fun eG cn=>?_;obtain rfl:=ql.1 cn;refine zk (vi (ix K ((ix x.fG (s-1))%(↑K.length:Int)))) (ze ?_)
 exact⟨dkt,(RH.le.refl _),ji,(ix K ((ix x.fG (s-1))%(↑K.length:Int))),⟨rfl,trivial⟩,⟨[bq],(pk 3 rfl (pk 0 rfl (pk 0 rfl (pk 0 rfl (List.Perm.refl _)))))⟩,(Option.some.inj a).symm,trivial⟩;refine qi ?_
 exact⟨dkt,(RH.le.refl _),ji,(ix K 0),⟨rfl,trivial⟩,⟨[bq],(pk 3 rfl (pk 0 rfl (pk 0 rfl (pk 0 rfl (List.Perm.refl _)))))⟩,(Option.some.inj a).symm,trivial⟩;rintro k eH eI V ⟨rfl,_⟩;refine z5x 15 mixed (by kernel_rfl) (by kernel_rfl) ?_;refine yj (v:=(.pointer (some ⟨q,2,none⟩))) (ko xh rfl) ?_
 refine yj (v:=o) (ku (i:=1) zjf rfl rfl rfl) ?_;refine yj (v:=(vi k)) (z8 rfl) ?_;refine yj (v:=(.pointer (some ⟨q,0,none⟩))) (ko z1k rfl) ?_;refine yj (v:=(vi ((1:Int)+(x.fB%3)))) (ku (i:=1) ag3 rfl rfl rfl) ?_;obtain⟨co,c⟩:=zg c;refine yj (z6m rfl rfl co) ?_
 obtain⟨ak,c⟩:=zg c;refine z5a (znm (i:=(k/((1:Int)+(x.fB%3))).toNat) (zh2 (b:=true) zeg) rfl (Q.mono (P.trans V)) (zt rfl ak.1) (qd ak)) fun eJ cp=>?_
 refine yj (v:=(ag.getD (k/((1:Int)+(x.fB%3))).toNat default)) (q7a (zrk (i:=(k/((1:Int)+(x.fB%3))).toNat) (j:=2) (zg2 (b:=true) zdn) (Q.mono (P.trans V)) rfl rfl cp (qd ak))) ?_;refine yj (v:=(vi k)) (z8 rfl) ?_;refine yj (v:=(.pointer (some ⟨q,0,none⟩))) (ko z1k rfl) ?_
 refine yj (v:=(vi ((1:Int)+(x.fB%3)))) (ku (i:=1) ag3 rfl rfl rfl) ?_;obtain⟨cq,c⟩:=zg c;refine yj (z3o rfl rfl cq) ?_;refine yj (v:=(vi s)) (z8 rfl) ?_;obtain⟨aP,c⟩:=zg c
 refine z5a (zlf (i:=(k%((1:Int)+(x.fB%3))).toNat) (r:=(k/((1:Int)+(x.fB%3))).toNat) zf7 (Q.mono (P.trans V)) (qd ak) rfl (zt rfl aP.1) (qd aP)) fun eK cr=>?_;refine z5a (zo1 z7c rfl cr) fun bs aQ=>?_
 replace aQ:zdh kEdge 0 (ag.getD (k/((1:Int)+(x.fB%3))).toNat default) (I.getD (k/((1:Int)+(x.fB%3))).toNat default) bs (k%((1:Int)+(x.fB%3))).toNat:=aQ;intro eL aR
 refine zf3 (Oc:=[Z]) (Or:=[box b6 [(vi 0),(vi 0),vs0] 28,box q [(vi ((1:Int)+(x.fB%3))),(vi ((1:Int)+(x.fC%3))),o] 28]++A) (pk 2 rfl (pk 0 rfl (pk 0 rfl (List.Perm.refl _)))) (zjt (i:=(k%((1:Int)+(x.fB%3))).toNat) (r:=(k/((1:Int)+(x.fB%3))).toNat) (u:=bs) zqg ty3 (Q.mono ((P.trans V).trans aR)) (qd ak) rfl aQ (qd aP) rfl (ql.2 rfl)) ?_
 rintro eM eN dQ dR ⟨rfl,bt,rfl,aS⟩;replace aS:N2 false kEdge _ bt o ag (up I (k/((1:Int)+(x.fB%3))) (up (ix I (k/((1:Int)+(x.fB%3)))) (k%((1:Int)+(x.fB%3))) (⟨s,(ix (ix I (k/((1:Int)+(x.fB%3)))) (k%((1:Int)+(x.fB%3)))).out⟩:Edge))):=aS
 refine ze (q8 (zh (vi s) ?_));obtain⟨cs,c⟩:=zg c;refine zx (ja rfl rfl cs) (zk (vi (s+1)) (ze ?_))
 exact⟨dkt,((P.trans V).trans aR),ji,(au,s+1,(up I (k/((1:Int)+(x.fB%3))) (up (ix I (k/((1:Int)+(x.fB%3)))) (k%((1:Int)+(x.fB%3))) (⟨s,(ix (ix I (k/((1:Int)+(x.fB%3)))) (k%((1:Int)+(x.fB%3)))).out⟩:Edge))),bt),Nat.lt_succ_self _,⟨rfl,trivial⟩,⟨[],(pk 1 rfl (pk 1 rfl (pk 0 rfl (List.Perm.refl _))))⟩,c,(z03 aS),trivial⟩
 refine jk ?_;exact⟨dkt,aq,ji,(I,Z),trivial,prm,(Option.some.inj c).symm,(z03 Q),trivial⟩;rintro⟨af,ct⟩ eO eP aT ⟨rfl,⟨eQ,cu⟩,_⟩;obtain⟨aa,c,y⟩:=zu y
 refine qz (γ:=(List (List Edge))×Frag) (rs [13,15,137,177]) (fun g=>[]) (fun g=>[box b6 [(vi 0),(vi 0),vs0] 28,box q [(vi ((1:Int)+(x.fB%3))),(vi ((1:Int)+(x.fC%3))),o] 28,g.2]++A) (fun g R=>aa=g.1∧NRep false kEdge R g.2 o g.1∧True) ?_ ?_
 refine zq (zk (vi 0) (ze (qj (jf (γ:=Nat×Int×(List (List Edge))×Frag) (rs [13,15,137,177]) (fun g=>[(13,(vi g.2.1))]) (fun g=>[box b6 [(vi 0),(vi 0),vs0] 28,box q [(vi ((1:Int)+(x.fB%3))),(vi ((1:Int)+(x.fC%3))),o] 28,g.2.2.2]++A) (fun g R=>fe N x g.1 g.2.1 g.2.2.1=some aa∧NRep false kEdge R g.2.2.2 o g.2.2.1∧True) (fun g=>g.1) (N,0,af,ct) prm ⟨c,(z03 cu),trivial⟩ ?_))))
 clear c;rintro⟨ax,d,aU,bu⟩ eR eS aV ⟨c,⟨eT,bv⟩,_⟩;rcases ax with _|ax;exact j5 c;replace c:fe N x (ax+1) d aU=some aa:=c;rw [fe] at c
 refine qc (zq (zh (vi d) (zh (vi ((1:Int)+(x.fD%6))) (zx (jg rfl rfl) (ze (zy rfl c (fun c=>?_) (fun c=>?_)))))));refine qi ?_;obtain⟨al,a,c⟩:=zu c
 refine qz (γ:=(List (List Edge))×Frag) (rs [14,15,142,177]) (fun g=>[]) (fun g=>[box b6 [(vi 0),(vi 0),vs0] 28,box q [(vi ((1:Int)+(x.fB%3))),(vi ((1:Int)+(x.fC%3))),o] 28,g.2]++A) (fun g R=>al=g.1∧NRep false kEdge R g.2 o g.1∧True) ?_ ?_
 refine qj (zq (zk (vi 0) (ze (qj (jf (γ:=Nat×Int×(List (List Edge))×Frag) (rs [14,15,142,177]) (fun g=>[(14,(vi g.2.1))]) (fun g=>[box b6 [(vi 0),(vi 0),vs0] 28,box q [(vi ((1:Int)+(x.fB%3))),(vi ((1:Int)+(x.fC%3))),o] 28,g.2.2.2]++A) (fun g R=>pq N x d g.1 g.2.1 g.2.2.1=some al∧NRep false kEdge R g.2.2.2 o g.2.2.1∧True) (fun g=>g.1) (N,0,aU,bu) prm ⟨a,(z03 bv),trivial⟩ ?_)))))
 clear a;rintro⟨ay,m,E,aW⟩ eU eV aX ⟨a,⟨W,M⟩,_⟩;rcases ay with _|ay;exact j5 a;replace a:pq N x d (ay+1) m E=some al:=a;rw [pq] at a
 refine qc (zq (zh (vi m) (zx (ko z1k rfl) (zx (ku (i:=1) ag3 rfl rfl rfl) (zx (jg rfl rfl) (ze (zy rfl a (fun a=>?_) (fun a=>?_))))))));refine qi ?_;obtain⟨aY,p,a⟩:=zu a
 refine qz (γ:=(List (List Edge))×Frag) (rs [148,177]) (fun g=>[]) (fun g=>[box b6 [(vi 0),(vi 0),vs0] 28,box q [(vi ((1:Int)+(x.fB%3))),(vi ((1:Int)+(x.fC%3))),o] 28,g.2]++A) (fun g R=>aY=g.1∧NRep false kEdge R g.2 o g.1∧True) ?_ ?_
 refine qj (zq (zx (ko xh rfl) (zx (ku (i:=1) zjf rfl rfl rfl) (zh (vi d) ?_))));obtain⟨am,p⟩:=zg p;refine z4a rfl (zdb (i:=d.toNat) (zh2 (b:=true) zeg) rfl M (zt rfl am.1) (qd am)) fun eW eX z cv=>?_
 refine z4a rfl (zf2 (i:=d.toNat) (j:=2) (zg2 (b:=true) zdn) (M.mono z) rfl rfl cv (qd am)) fun eY eZ C cw=>?_;obtain rfl:=Eq.symm cw;refine zh (vi m) ?_;obtain⟨aZ,p⟩:=zg p
 refine z4a rfl (zbp (i:=m.toNat) (r:=d.toNat) zf7 (M.mono (z.trans C)) (qd am) rfl (zt rfl aZ.1) (qd aZ)) fun e0 e1 G cx=>?_;refine z4a rfl (zoi z7c rfl cx) fun cy e2 H a0=>?_;replace a0:zdh kEdge 0 (W.getD d.toNat default) (E.getD d.toNat default) cy m.toNat:=a0
 refine z4a rfl (jm (zsh (i:=m.toNat) (r:=d.toNat) (j:=2) ty3 z7t (M.mono (((z.trans C).trans G).trans H)) (qd am) rfl rfl a0 (qd aZ)) (fun _ _ h=>ql.1 h)) fun e3 e4 L cz=>?_;obtain rfl:=Eq.symm cz;refine zx (jg rfl rfl) (ze (zy rfl p (fun p=>?_) (fun p=>?_)))
 obtain⟨an,cA,cB,p⟩:=zyu p;obtain⟨az,cC,p⟩:=zu p;obtain⟨cD,a1,p⟩:=q1v p
 refine xq 19 [] [phX (.pointer (some ⟨q,2,none⟩)),phX o,phX (vi d),(fun u _=>gy tHdr o W u d.toNat),phX (W.getD d.toNat default),phX (vi m),phP (tSl false (zz .u16)) x.fM,phR (tSl false (zz .u16)) x.fM,phX (vi d),phX (.pointer (some ⟨q,0,none⟩)),phX (vi ((1:Int)+(x.fB%3))),phX (vi (d*((1:Int)+(x.fB%3)))),phX (vi m),phX (vi ((d*((1:Int)+(x.fB%3)))+m)),phX (vi az),phX (vi ((1:Int)+(x.fD%6))),phX (vi (az%((1:Int)+(x.fD%6)))),(fun u _=>gy kEdge (W.getD d.toNat default) (E.getD d.toNat default) u m.toNat),(fun u _=>zdh kEdge 0 (W.getD d.toNat default) (E.getD d.toNat default) u m.toNat)] mixed (by kernel_rfl) (wz ⟨zi,zi,zi,(fun _ _ _ _ h=>h),zi,zi,z1f,z2t,zi,zi,zi,zi,zi,zi,zi,zi,zi,(fun _ _ _ _ h=>h),(fun _ _ _ _ h=>h),trivial⟩) ⟨?_,?_,?_,?_,?_,?_,?_,?_,?_,?_,?_,?_,?_,?_,?_,?_,?_,?_,?_,trivial⟩ fun e5 a2=>?_
 intro l du n F hd;exact zf rfl rfl rfl (zo (ko xh (F 4 rfl)));rintro l dv n F ⟨O,_⟩;exact zf rfl rfl rfl (zo (ku (i:=1) zjf (O rfl) rfl rfl));intro l dw n F hd;exact zf rfl rfl rfl (zo (z8 (F 13 rfl)));rintro l dx n F ⟨O,d1,_⟩
 exact zf rfl rfl rfl (zdb (i:=d.toNat) (zh2 (b:=true) zeg) (O rfl) ((M.mono ((((z.trans C).trans G).trans H).trans L)).mono n) (zt (d1 rfl) an.1) (qd an));rintro l dy n F ⟨O,_⟩
 exact zf rfl rfl rfl (zf2 (i:=d.toNat) (j:=2) (zg2 (b:=true) zdn) ((M.mono ((((z.trans C).trans G).trans H).trans L)).mono n) rfl rfl (O rfl) (qd an));intro l dz n F hd;exact zf rfl rfl rfl (zo (z8 (F 14 rfl)));intro l dA n F hd
 exact zf rfl rfl rfl (z3t zzo zas (F 1 rfl) ((h2.mono ((((((((ar.trans aT).trans aV).trans aX).trans z).trans C).trans G).trans H).trans L)).mono n));rintro l dB n F ⟨O,_⟩;exact zf rfl rfl rfl (nz q37 rfl (O rfl));intro l dD n F hd;exact zf rfl rfl rfl (zo (z8 (F 13 rfl)))
 intro l gj n F hd;exact zf rfl rfl rfl (zo (ko z1k (F 4 rfl)));rintro l e6 n F ⟨O,_⟩;exact zf rfl rfl rfl (zo (ku (i:=1) ag3 (O rfl) rfl rfl));rintro l e7 n F ⟨O,d1,_⟩;exact zf rfl rfl rfl (zo (z8s (O rfl) (d1 rfl) cA));intro l e8 n F hd;exact zf rfl rfl rfl (zo (z8 (F 14 rfl)))
 rintro l e9 n F ⟨O,d1,_⟩;exact zf rfl rfl rfl (zo (ja (O rfl) (d1 rfl) cB));rintro l fa n F ⟨O,d1,_⟩;have aL:l 171=(vi ((d*((1:Int)+(x.fB%3)))+m)):=d1 rfl
 exact zf rfl rfl rfl (kz (vs:=[(l 165),(vi ((d*((1:Int)+(x.fB%3)))+m))]) q9w (by simp only [List.map,ev,aL]<;>rfl) (z9k (O rfl) cC) (fun _ _ h=>h));intro l fb n F hd;exact zf rfl rfl rfl (zo (z8 (F 3 rfl)));rintro l fc n F ⟨O,d1,_⟩
 exact zf rfl rfl rfl (zo (z3o (O rfl) (d1 rfl) cD));rintro l fd n F ⟨O,d1,d2,d3,d4,d5,d6,d7,d8,d9,dS,dT,dU,dV,dW,dX,dY,dZ,gs,_⟩;have aw:=O rfl
 exact zf rfl rfl rfl (zbp (i:=m.toNat) (r:=d.toNat) zf7 ((M.mono ((((z.trans C).trans G).trans H).trans L)).mono n) (qd an) aw (zt (d1 rfl) a1.1) (qd a1));rintro l ff n F ⟨O,d1,d2,d3,d4,d5,d6,d7,d8,d9,dS,dT,dU,dV,dW,dX,dY,dZ,_⟩;exact zf rfl rfl rfl (zoi z7c rfl (O rfl))
 intro fg cE fh cF fi cG fj fk fl cH fm cI fn fo fp fq fr cJ fs cK ft cL fu cM fv cN fw cO fx cP fy cQ fz cR fA fE bw a3;obtain rfl:=Eq.symm cE;obtain rfl:=Eq.symm cF;obtain rfl:=Eq.symm cG;obtain rfl:=Eq.symm cH;obtain rfl:=Eq.symm cI;obtain rfl:=Eq.symm cJ;obtain rfl:=Eq.symm cK
 obtain rfl:=Eq.symm cL;obtain rfl:=Eq.symm cM;obtain rfl:=Eq.symm cN;obtain rfl:=Eq.symm cO;obtain rfl:=Eq.symm cP;obtain rfl:=Eq.symm cQ;obtain rfl:=Eq.symm cR;replace a3:zdh kEdge 0 (W.getD d.toNat default) (E.getD d.toNat default) bw m.toNat:=a3
 refine zf3 (Oc:=[aW]) (Or:=[box b6 [(vi 0),(vi 0),vs0] 28,box q [(vi ((1:Int)+(x.fB%3))),(vi ((1:Int)+(x.fC%3))),o] 28]++A) (pk 2 rfl (pk 0 rfl (pk 0 rfl (List.Perm.refl _)))) (zjt (i:=m.toNat) (r:=d.toNat) (u:=bw) zqg ty3 (M.mono (((((z.trans C).trans G).trans H).trans L).trans a2)) (qd an) rfl a3 (qd a1) rfl (ql.2 rfl)) ?_
 rintro fF fH ea eb ⟨rfl,bx,rfl,a4⟩;replace a4:N2 false kEdge _ bx o W (up E d (up (ix E d) m (⟨az%((1:Int)+(x.fD%6)),(ix (ix E d) m).out⟩:Edge))):=a4;refine ze ?_
 exact⟨dkt,(((((z.trans C).trans G).trans H).trans L).trans a2),ji,((up E d (up (ix E d) m (⟨az%((1:Int)+(x.fD%6)),(ix (ix E d) m).out⟩:Edge))),bx),trivial,⟨[],(pk 1 rfl (pk 1 rfl (pk 0 rfl (List.Perm.refl _))))⟩,(Option.some.inj p).symm,(z03 a4),trivial⟩;refine qi ?_
 exact⟨dkt,((((z.trans C).trans G).trans H).trans L),ji,(E,aW),trivial,prm,(Option.some.inj p).symm,(z03 (M.mono ((((z.trans C).trans G).trans H).trans L))),trivial⟩;rintro⟨aY,cS⟩ fI fJ bF ⟨rfl,⟨fK,cT⟩,_⟩;refine q8 (zh (vi m) ?_);obtain⟨cU,a⟩:=zg a
 refine zx (ja rfl rfl cU) (zk (vi (m+1)) (ze ?_));exact⟨dkt,bF,ji,(ay,m+1,aY,cS),Nat.lt_succ_self _,⟨rfl,trivial⟩,prm,a,(z03 cT),trivial⟩;refine jk ?_;exact⟨dkt,aX,ji,(E,aW),trivial,prm,(Option.some.inj a).symm,(z03 M),trivial⟩;rintro⟨al,cV⟩ fL fN bG ⟨rfl,⟨fO,cW⟩,_⟩
 refine q8 (zh (vi d) ?_);obtain⟨cX,c⟩:=zg c;refine zx (ja rfl rfl cX) (zk (vi (d+1)) (ze ?_));exact⟨dkt,bG,ji,(ax,d+1,al,cV),Nat.lt_succ_self _,⟨rfl,trivial⟩,prm,c,(z03 cW),trivial⟩;refine jk ?_
 exact⟨dkt,aV,ji,(aU,bu),trivial,prm,(Option.some.inj c).symm,(z03 bv),trivial⟩;rintro⟨aa,fP⟩ fQ fR bH ⟨rfl,⟨fS,bz⟩,_⟩
 refine zq (zx (jv (i:=1) z3w z1q rfl rfl rfl rfl) (p9 (i:=0) (vs:=[(vi ((1:Int)+(x.fB%3))),(vi ((1:Int)+(x.fC%3))),o]) z1q rfl rfl rfl rfl rfl rfl (jl rfl (jl rfl (jl (zyg bz) mq))) ?_));refine ze (zm5 (i:=2) rfl (z03 bz) fun cY bI cZ=>?_)
 have c0:VRep (tSl false (tSl false kEdge)) cY o aa:=(z6x cZ);refine qp ?_;obtain rfl:=Option.some.inj y
 refine qm (D:=[]) (J:=[box b6 [(vi ((1:Int)+(x.fB%3))),(vi ((1:Int)+(x.fC%3))),o] 28,box q [(vi ((1:Int)+(x.fB%3))),(vi ((1:Int)+(x.fC%3))),o] 28]) (rs:=[.cell 2 28]) (vs:=[(.agg #[(vi ((1:Int)+(x.fB%3))),(vi ((1:Int)+(x.fC%3))),o])]) ((((c2.trans ar).trans aT).trans bH).trans bI) rfl rfl ⟨⟨_,rfl,fun w hh=>z94 (i:=0) hh rfl rfl z3w z1q rfl rfl⟩,trivial⟩ ?_
 exact⟨rfl,(⟨_,⟨_,_,rfl,rfl,⟨_,_,rfl,rfl,(kg rfl c0)⟩⟩,rfl⟩:VRep (kv false false) _ _ (⟨(1:Int)+(x.fB%3),(1:Int)+(x.fC%3),aa⟩:Mach))⟩
theorem en7:Enters prog 7:=enters_of func7 rfl (by kernel_rfl)
end GV
end Go.Proofs.YtjmlpkkbmnjhcaaGreat
