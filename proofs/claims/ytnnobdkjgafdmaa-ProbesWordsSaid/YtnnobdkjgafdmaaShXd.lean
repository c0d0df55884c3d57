import Derived.Test.YtnnobdkjgafdmaaShWe
import Derived.Test.YtnnobdkjgafdmaaShXb
import Derived.Test.YtnnobdkjgafdmaaShXc
import Derived.Test.YtnnobdkjgafdmaaRows
set_option linter.unusedVariables false
set_option linter.unusedSimpArgs false
set_option linter.unusedSectionVars false
namespace Go.Proofs.Ytnnobdkjgafdmaa
namespace GV
open _root_.Go.Proofs.Try
open Go.IntWalk
set_option maxRecDepth 100000
set_option maxHeartbeats 20000000
theorem q8r{a b:Bool}:TyOk prog 27 (z0j a b):=by
 obtain⟨i,hi,c⟩: ∃ i,prog.info? 27=some i∧i.size=5:=u6 (by kernel_rfl);exact z0u underlying27 hi rfl c
theorem zsx:FieldOk prog 27 0 0:=by
 obtain⟨i,hi,a⟩: ∃ i,prog.info? 25=some i∧i.size=5:=u6 (by kernel_rfl);exact dn underlying27 rfl rfl hi (by rw [a];rfl)
theorem zrw:FieldOk prog 25 0 0:=by
 obtain⟨i,hi,a⟩: ∃ i,prog.info? 5=some i∧i.size=1:=u6 (by kernel_rfl);exact dn underlying25 rfl rfl hi (by rw [a];rfl)
theorem ag5: ∀ w,(isAgg 5).run prog w= .ok false w:=fun w=>by kernel_rfl
theorem sz5: ∀ w,(sizeOf 5).run prog w= .ok 1 w:=fun w=>by kernel_rfl
theorem q85: ∀ w,(isAgg 25).run prog w= .ok true w:=fun w=>by kernel_rfl
theorem q8a: ∀ w,(sizeOf 25).run prog w= .ok 5 w:=fun w=>by kernel_rfl
theorem ty5:TyOk prog 5 (qb .u8):=by
 obtain⟨i,hi,a⟩: ∃ i,prog.info? 5=some i∧i.size=1:=u6 (by kernel_rfl);exact z0u underlying5 hi rfl a
theorem q3r:FieldOk prog 25 1 1:=by
 obtain⟨i,hi,a⟩: ∃ i,prog.info? 5=some i∧i.size=1:=u6 (by kernel_rfl);exact dn underlying25 rfl rfl hi (by rw [a];rfl)
theorem q4f:FieldOk prog 25 2 2:=by
 obtain⟨i,hi,a⟩: ∃ i,prog.info? 5=some i∧i.size=1:=u6 (by kernel_rfl);exact dn underlying25 rfl rfl hi (by rw [a];rfl)
theorem zxq:FieldOk prog 25 4 4:=by
 obtain⟨i,hi,a⟩: ∃ i,prog.info? 23=some i∧i.size=1:=u6 (by kernel_rfl);exact dn underlying25 rfl rfl hi (by rw [a];rfl)
theorem q61{a:Bool}:TyOk prog 23 (tSl a (qb .u16)):=by
 obtain⟨i,hi,b⟩: ∃ i,prog.info? 23=some i∧i.size=1:=u6 (by kernel_rfl);exact z0u underlying23 hi rfl b
theorem q7b:SlOk prog 23 71 (qb .u16):=⟨underlying23,zvs⟩
theorem z6d{N:Nat}{R:RH}{d:(List Int)}{b:Value}(c:VRep (tSl false (qb .u16)) R b d){k:Int}{r:Int}(a:ic N d k=some r):CallP prog 55 #[b,(vi k)] R (fun v R'=>v=(vi r)):=by
 refine qd (args:=[b,(vi k)]) func55 rfl rfl fun A=>?_;rw [ic] at a;refine zi (zh (vi 0) (z8 (zw (zi (zf (vi k) (zf b (zk (qo rfl underlying23 rfl (ja c)) (zk (j3 rfl rfl) (z8 (zu rfl a (fun a=>?_) (fun a=>?_)))))))))));refine zi (zf b (zf (vi k) ?_))
 obtain⟨e,a⟩:=zb a;refine kg (i:=k.toNat) rfl q7b rfl (ja c) (zg rfl e.1) (zy e) fun j f=>?_;refine qh rfl zvs rfl f fun l g=>?_;obtain rfl:=jg.1 g;obtain⟨h,a⟩:=zb a;refine zk (z3c underlying71 underlying3 rfl h) (zh (vi (ix d k)) (z8 (ql ?_)));obtain rfl:=Option.some.inj a
 refine q8 (D:=[]) (J:=[]) (rs:=[.tmp 4]) (vs:=[(vi (ix d k))]) (RH.le.refl _) rfl rfl ⟨rfl,trivial⟩ ?_;exact⟨rfl,rfl⟩;refine qa (zi (zh (vi 0) (z8 (ql ?_))));obtain rfl:=Option.some.inj a;refine q8 (D:=[]) (J:=[]) (rs:=[.tmp 4]) (vs:=[(vi 0)]) (RH.le.refl _) rfl rfl ⟨rfl,trivial⟩ ?_;exact⟨rfl,rfl⟩
theorem q76:Enters prog 55:=enters_of func55 rfl (by kernel_rfl)
theorem zyd:FieldOk prog 25 3 3:=by
 obtain⟨i,hi,a⟩: ∃ i,prog.info? 22=some i∧i.size=1:=u6 (by kernel_rfl);exact dn underlying25 rfl rfl hi (by rw [a];rfl)
theorem q68{a:Bool}:TyOk prog 22 (tSl a (qb .u8)):=by
 obtain⟨i,hi,b⟩: ∃ i,prog.info? 22=some i∧i.size=1:=u6 (by kernel_rfl);exact z0u underlying22 hi rfl b
theorem q7d:SlOk prog 22 5 (qb .u8):=⟨underlying22,ty5⟩
theorem zpi:z8p kEdge 0 (qb .i64) (fun(x:Edge) (y:Int)=>(⟨y,x.out⟩:Edge)):=q5i zre (fun _ _=>rfl)
theorem zcz{N:Nat}{R:RH}{x:Sg}{bA:Value}(c2:VRep (pu false false) R bA x){r:Mach}(y:z1e N x=some r):CallP prog 30 #[bA] R (fun v R'=>VRep (jm false false) R' v r):=by
 refine qd (args:=[bA]) func30 rfl rfl fun A=>?_;rw [z1e] at y;refine zi (ky (T:=(pu false false)) rfl rfl rfl c2 fun v1 R3 c3 h5 h2=>?_);refine ko rfl zqq fun b6=>?_;refine qw (je rfl zrw zcv rfl h2 fun v8 h9=>?_);refine qh rfl ty5 rfl h9 fun fU c4=>?_;obtain rfl:=jg.1 c4
 obtain⟨c5,y⟩:=zb y;refine zk (z4e rfl rfl c5) ?_;obtain⟨c6,y⟩:=zb y;refine zk (z3c underlying5 underlying3 rfl c6) ?_;obtain⟨c7,y⟩:=zb y;refine zk (jh rfl rfl c7) (zh (vi ((1:Int)+(x.fG%6))) (qw (je rfl q3r zc7 rfl h2 fun fV c8=>?_)))
 refine qh rfl ty5 rfl c8 fun fW c9=>?_;obtain rfl:=jg.1 c9;obtain⟨da,y⟩:=zb y;refine zk (z4e rfl rfl da) ?_;obtain⟨db,y⟩:=zb y;refine zk (z3c underlying5 underlying3 rfl db) ?_;obtain⟨dc,y⟩:=zb y;refine zk (jh rfl rfl dc) (je rfl q4f zd2 rfl h2 fun fX dd=>?_)
 refine qh rfl ty5 rfl dd fun fY de=>?_;obtain rfl:=jg.1 de;obtain⟨df,y⟩:=zb y;refine zk (z4e rfl rfl df) ?_;obtain⟨dg,y⟩:=zb y;refine zk (z3c underlying5 underlying3 rfl dg) ?_;obtain⟨di,y⟩:=zb y
 refine zk (jh rfl rfl di) (zk (xm (ps:=[(0,(vi ((1:Int)+(x.fC%3)))),(1,(vi ((1:Int)+(x.fF%3))))]) (v:=(.agg #[(vi ((1:Int)+(x.fC%3))),(vi ((1:Int)+(x.fF%3))),vs0])) rfl (fun w=>by kernel_rfl)) (ko rfl zqq fun q=>?_))
 refine jr (i:=0) (vs:=[(vi ((1:Int)+(x.fC%3))),(vi ((1:Int)+(x.fF%3))),vs0]) z8g rfl rfl rfl rfl rfl rfl (qc rfl (qc rfl (qc rfl jq))) ?_;refine z8 ?_;obtain⟨aC,c,y⟩:=zq y
 refine qm (γ:=(List (List Edge))×Value×Frag) (rs [5,9,31,67]) (fun g=>[]) (fun g=>[box b6 [(vi 0),(vi 0),vs0] 30,box q [(vi ((1:Int)+(x.fC%3))),(vi ((1:Int)+(x.fF%3))),g.2.1] 30,g.2.2]++A) (fun g R=>aC=g.1∧NRep false kEdge R g.2.2 g.2.1 g.1∧True) ?_ ?_
 refine zi (zh (vi 0) (z8 (zx (z3e ?_))))
 refine jb (γ:=Nat×Int×(List (List Edge))×Value×Frag) (rs [5,9,31,67]) (fun g=>[(5,(vi g.2.1))]) (fun g=>[box b6 [(vi 0),(vi 0),vs0] 30,box q [(vi ((1:Int)+(x.fC%3))),(vi ((1:Int)+(x.fF%3))),g.2.2.2.1] 30,g.2.2.2.2]++A) (fun g R=>ym N x g.1 g.2.1 g.2.2.1=some aC∧NRep false kEdge R g.2.2.2.2 g.2.2.2.1 g.2.2.1∧True) (fun g=>g.1) (N,0,[],vs0,emp) ⟨[],(pk 2 rfl (pk 1 rfl (pk 0 rfl (List.Perm.refl _))))⟩ ⟨c,(mh (zri (t:=false) (T:=kEdge) (R:=R3))),trivial⟩ ?_
 clear c;rintro⟨a6,ad,a7,a8,a9⟩ ec fZ be ⟨c,⟨dj,bJ⟩,_⟩;rcases a6 with _|a6;exact qp c;replace c:ym N x (a6+1) ad a7=some aC:=c;rw [ym] at c
 refine zw (zi (zf (vi ad) (zf (vi ((1:Int)+(x.fG%6))) (zk (j3 rfl rfl) (z8 (zu rfl c (fun c=>?_) (fun c=>?_)))))));refine qa (zw (zx (zi (zh vs0 (z8 ?_)))));obtain⟨aA,a,c⟩:=zq c
 refine qm (γ:=(List Edge)×Value×Frag) (rs [6,9,36,61]) (fun g=>[(6,g.2.1)]) (fun g=>[box b6 [(vi 0),(vi 0),vs0] 30,box q [(vi ((1:Int)+(x.fC%3))),(vi ((1:Int)+(x.fF%3))),a8] 30,a9,g.2.2]++A) (fun g R=>aA=g.1∧ORep kEdge R g.2.2 g.2.1 g.1∧True) ?_ ?_
 refine zi (zh (vi 0) (z8 (zx (z3e ?_))))
 refine jb (γ:=Nat×(List Edge)×Int×Value×Frag) (rs [6,9,36,61]) (fun g=>[(6,g.2.2.2.1),(7,(vi g.2.2.1))]) (fun g=>[box b6 [(vi 0),(vi 0),vs0] 30,box q [(vi ((1:Int)+(x.fC%3))),(vi ((1:Int)+(x.fF%3))),a8] 30,a9,g.2.2.2.2]++A) (fun g R=>xy N x ad g.1 g.2.1 g.2.2.1=some aA∧ORep kEdge R g.2.2.2.2 g.2.2.2.1 g.2.1∧True) (fun g=>g.1) (N,[],0,vs0,emp) ⟨[],(pk 1 rfl (pk 1 rfl (pk 1 rfl (pk 0 rfl (List.Perm.refl _)))))⟩ ⟨a,(z09 (T:=kEdge)),trivial⟩ ?_
 clear a;rintro⟨ba,bb,aB,bK,dk⟩ ed f0 bf ⟨a,bL,_⟩;rcases ba with _|ba;exact qp a;replace a:xy N x ad (ba+1) bb aB=some aA:=a;rw [xy] at a
 refine zw (zi (zf (vi aB) (zk (qi z2j rfl) (zk (qj (i:=1) ag3 rfl rfl rfl) (zk (j3 rfl rfl) (z8 (zu rfl a (fun a=>?_) (fun a=>?_))))))));refine qa (zw (zx (zi (je rfl zxq z7w rfl (h2.mono (be.trans bf)) fun f1 dl=>?_))));refine qh rfl q61 rfl dl fun f2 dm=>?_
 refine zf (vi ad) (zk (qi z2j rfl) (zk (qj (i:=1) ag3 rfl rfl rfl) ?_));obtain⟨dn,a⟩:=zb a;refine zk (zo0 rfl rfl dn) (zf (vi aB) ?_);obtain⟨dp,a⟩:=zb a;refine zk (jh rfl rfl dp) ?_;obtain⟨S,dq,a⟩:=zq a;refine jd rfl q76 rfl (z6d dm dq) fun f3 f4 bg dr=>?_
 obtain rfl:=dr;refine zh (vi S) (z8 ?_);obtain⟨ds,dt,a⟩:=zy6 a;let G1:=([(⟨(-1),(S/((1:Int)+(x.fG%6)))%((1:Int)+(x.fF%3))⟩:Edge)]:List Edge)
 refine mf 9 [] [phX bK,phX (vi S),phX (vi ((1:Int)+(x.fG%6))),phX (vi (S/((1:Int)+(x.fG%6)))),phX (.pointer (some ⟨q,1,none⟩)),phX (vi ((1:Int)+(x.fF%3))),phX (vi ((S/((1:Int)+(x.fG%6)))%((1:Int)+(x.fF%3)))),phX (.agg #[(vi (-1)),(vi ((S/((1:Int)+(x.fG%6)))%((1:Int)+(x.fF%3))))]),phR (tSl true kEdge) G1] mixed (by kernel_rfl) (bu ⟨zt,zt,zt,zt,zt,zt,zt,zt,gu,trivial⟩) ⟨?_,?_,?_,?_,?_,?_,?_,?_,?_,trivial⟩ fun f5 bh=>?_
 intro l du n F hd;exact za rfl rfl rfl (zz (ze (F 6 rfl)));intro l dv n F hd;exact za rfl rfl rfl (zz (ze (F 8 rfl)));intro l dw n F hd;exact za rfl rfl rfl (zz (ze (F 3 rfl)));rintro l dx n F ⟨O,d1,_⟩;exact za rfl rfl rfl (zz (zix (O rfl) (d1 rfl) ds));intro l dy n F hd
 exact za rfl rfl rfl (zz (qi zgc (F 4 rfl)));rintro l dz n F ⟨O,_⟩;have bC:=O rfl;exact za rfl rfl rfl (zz (qj (i:=1) ag3 bC rfl rfl));rintro l dA n F ⟨O,d1,_⟩;exact za rfl rfl rfl (zz (z4e (O rfl) (d1 rfl) dt));rintro l dB n F ⟨O,_⟩
 have dC:l 57=(vi ((S/((1:Int)+(x.fG%6)))%((1:Int)+(x.fF%3)))):=O rfl
 exact za rfl rfl rfl (zz (xm (ps:=[(0,(vi (-1))),(1,(vi ((S/((1:Int)+(x.fG%6)))%((1:Int)+(x.fF%3)))))]) (v:=(.agg #[(vi (-1)),(vi ((S/((1:Int)+(x.fG%6)))%((1:Int)+(x.fF%3))))])) (by simp only [List.map,ev,dC]<;>rfl) (fun w=>by kernel_rfl)));rintro l dD n F ⟨O,_⟩
 have dE:l 58=(.agg #[(vi (-1)),(vi ((S/((1:Int)+(x.fG%6)))%((1:Int)+(x.fF%3))))]):=O rfl
 exact za rfl rfl rfl (z3i (T:=kEdge) (X:=G1) (ps:=[(0,(.agg #[(vi (-1)),(vi ((S/((1:Int)+(x.fG%6)))%((1:Int)+(x.fF%3))))]))]) (css:=[[(vi (-1)),(vi ((S/((1:Int)+(x.fG%6)))%((1:Int)+(x.fF%3))))]]) underlying58 zt1 (by simp only [List.map,ev,dE]<;>rfl) rfl (kv ⟨⟨_,_,rfl,rfl,rfl⟩,trivial⟩) rfl rfl (by decide))
 intro f6 dF f7 dG f8 dH f9 dI ga dJ gb dK gc dL ge bM ee bN;obtain rfl:=Eq.symm dF;obtain rfl:=Eq.symm dG;obtain rfl:=Eq.symm dH;obtain rfl:=Eq.symm dI;obtain rfl:=Eq.symm dJ;obtain rfl:=Eq.symm dK;obtain rfl:=Eq.symm dL;obtain rfl:=Eq.symm bM;obtain⟨bi,a⟩:=zb a
 refine dh (i:=3) (X:=bb) (Y:=G1) rfl underlying58 zt1 rfl rfl rfl (bL.mono (bg.trans bh)) (ja (Sub.v (B:=(tSl false kEdge)) (uf Sub.refl (fun _=>rfl)) bN)) bi.1 bi.2 fun bj bO bP=>?_;refine zh bj (z8 (zn (zf (vi aB) ?_)));obtain⟨bQ,a⟩:=zb a
 refine zk (jh rfl rfl bQ) (zh (vi (aB+1)) (z8 ?_));exact⟨dkt,(bg.trans bh),jl,(ba,(bb++G1),aB+1,bj,bO),Nat.lt_succ_self _,⟨rfl,rfl,trivial⟩,prm,a,bP,trivial⟩;refine jk ?_;exact⟨dkt,bf,jl,(bb,bK,dk),⟨rfl,trivial⟩,prm,(Option.some.inj a).symm,bL,trivial⟩;rintro⟨aA,aE,bC⟩ ef gf bk ⟨rfl,bD,_⟩
 refine zn (zk (qi xe rfl) (zk (qj (i:=1) zqw rfl rfl rfl) (zf aE (z2k rfl (z3i (T:=tHdr) (X:=[aE]) (ps:=[(0,aE)]) (css:=[[aE]]) underlying28 q6i rfl (by simp only [List.map_cons,List.map_nil,z0k bD];rfl) (kv ⟨zno (z2s bD),trivial⟩) rfl rfl (by decide)) fun eg eh ap bR=>?_))))
 obtain⟨bl,c⟩:=zb c
 refine zi3 (Oc:=[a9,bC]) (Or:=[box b6 [(vi 0),(vi 0),vs0] 30,box q [(vi ((1:Int)+(x.fC%3))),(vi ((1:Int)+(x.fF%3))),a8] 30]++A) rfl (pk 2 rfl (pk 2 rfl (pk 0 rfl (pk 0 rfl (List.Perm.refl _))))) (zcg underlying28 q6i rfl rfl (bJ.mono (bk.trans ap)) (bD.mono ap) (ja bR) (fun e=>nomatch e) bl.1 bl.2) ?_
 rintro aF ei dM dN ⟨rfl,bm,rfl,ae⟩;replace ae:N2 false kEdge _ bm aF (dj++[aE]) (a7++[aA]):=ae;refine zk (qi xe rfl) (jr (i:=2) (vs:=[aF]) q50 rfl rfl (zz0 ae) rfl rfl rfl (qc (zz1 ae) jq) ?_);refine z8 (zn (zf (vi ad) ?_));obtain⟨bS,c⟩:=zb c
 refine zk (jh rfl rfl bS) (zh (vi (ad+1)) (z8 ?_));exact⟨dkt,(bk.trans ap),jl,(a6,ad+1,(a7++[aA]),aF,bm),Nat.lt_succ_self _,⟨rfl,trivial⟩,⟨[],(pk 1 rfl (pk 1 rfl (pk 0 rfl (List.Perm.refl _))))⟩,c,(mh ae),trivial⟩;refine jk ?_
 exact⟨dkt,be,jl,(a7,a8,a9),trivial,prm,(Option.some.inj c).symm,(mh bJ),trivial⟩;rintro⟨aC,o,dO⟩ ej gg ar ⟨rfl,⟨gh,dP⟩,_⟩;obtain⟨af,c,y⟩:=zq y
 refine qm (γ:=(List (List Edge))×Frag) (rs [9,13,67,137]) (fun g=>[]) (fun g=>[box b6 [(vi 0),(vi 0),vs0] 30,box q [(vi ((1:Int)+(x.fC%3))),(vi ((1:Int)+(x.fF%3))),o] 30,g.2]++A) (fun g R=>af=g.1∧NRep false kEdge R g.2 o g.1∧True) ?_ ?_
 refine zi (zh (vi 1) (z8 (zx (jb (γ:=Nat×Int×(List (List Edge))×Frag) (rs [9,13,67,137]) (fun g=>[(9,(vi g.2.1))]) (fun g=>[box b6 [(vi 0),(vi 0),vs0] 30,box q [(vi ((1:Int)+(x.fC%3))),(vi ((1:Int)+(x.fF%3))),o] 30,g.2.2.2]++A) (fun g R=>xx N x g.1 g.2.1 g.2.2.1=some af∧NRep false kEdge R g.2.2.2 o g.2.2.1∧True) (fun g=>g.1) (N,1,aC,dO) prm ⟨c,(mh dP),trivial⟩ ?_))))
 clear c;rintro⟨au,s,I,Z⟩ ek el aq ⟨c,⟨ag,Q⟩,_⟩;rcases au with _|au;exact qp c;replace c:xx N x (au+1) s I=some af:=c;rw [xx] at c
 refine zw (zi (zf (vi s) (zf (vi ((1:Int)+(x.fG%6))) (zk (j3 rfl rfl) (z8 (zu rfl c (fun c=>?_) (fun c=>?_)))))));refine qa (zw (zx (zi (zh vs0 (z8 ?_)))));obtain⟨K,a,c⟩:=zq c
 refine qm (γ:=(List Int)×Value×Frag) (rs [10,12,72,100]) (fun g=>[(10,g.2.1)]) (fun g=>[box b6 [(vi 0),(vi 0),vs0] 30,box q [(vi ((1:Int)+(x.fC%3))),(vi ((1:Int)+(x.fF%3))),o] 30,Z,g.2.2]++A) (fun g R=>K=g.1∧ORep (qb .i64) R g.2.2 g.2.1 g.1∧True) ?_ ?_
 refine zi (zh (vi 0) (z8 (zx (z3e ?_))))
 refine jb (γ:=Nat×(List Int)×Int×Value×Frag) (rs [10,12,72,100]) (fun g=>[(10,g.2.2.2.1),(11,(vi g.2.2.1))]) (fun g=>[box b6 [(vi 0),(vi 0),vs0] 30,box q [(vi ((1:Int)+(x.fC%3))),(vi ((1:Int)+(x.fF%3))),o] 30,Z,g.2.2.2.2]++A) (fun g R=>uy N x s I g.1 g.2.1 g.2.2.1=some K∧ORep (qb .i64) R g.2.2.2.2 g.2.2.2.1 g.2.1∧True) (fun g=>g.1) (N,[],0,vs0,emp) ⟨[],(pk 1 rfl (pk 1 rfl (pk 1 rfl (pk 0 rfl (List.Perm.refl _)))))⟩ ⟨a,(z09 (T:=(qb .i64))),trivial⟩ ?_
 clear a;rintro⟨av,ah,f,aG,aw⟩ em en U ⟨a,aH,_⟩;rcases av with _|av;exact qp a;replace a:uy N x s I (av+1) ah f=some K:=a;rw [uy] at a;refine zw (zi (zf (vi f) (zf (vi s) (zk (qi z2j rfl) (zk (qj (i:=1) ag3 rfl rfl rfl) ?_)))))
 obtain⟨bT,a⟩:=zb a;refine zk (zo0 rfl rfl bT) (zk (j3 rfl rfl) (z8 (zu rfl a (fun a=>?_) (fun a=>?_))));refine qa ?_;obtain⟨aI,p,a⟩:=zq a
 refine qm (γ:=(List Int)×Value×Frag) (rs [10,11,80,100]) (fun g=>[(10,g.2.1)]) (fun g=>[box b6 [(vi 0),(vi 0),vs0] 30,box q [(vi ((1:Int)+(x.fC%3))),(vi ((1:Int)+(x.fF%3))),o] 30,Z,g.2.2]++A) (fun g R=>aI=g.1∧ORep (qb .i64) R g.2.2 g.2.1 g.1∧True) ?_ ?_
 refine zx (zw (z4r 16 mixed (by kernel_rfl) (by kernel_rfl) ?_));refine wh (v:=(.pointer (some ⟨q,2,none⟩))) (qi xe rfl) ?_;refine wh (v:=o) (qj (i:=1) zqw rfl rfl rfl) ?_;refine wh (v:=(vi f)) (ze rfl) ?_;refine wh (v:=(.pointer (some ⟨q,0,none⟩))) (qi z2j rfl) ?_
 refine wh (v:=(vi ((1:Int)+(x.fC%3)))) (qj (i:=1) ag3 rfl rfl rfl) ?_;obtain⟨bU,p⟩:=zb p;refine wh (zix rfl rfl bU) ?_;obtain⟨ai,p⟩:=zb p;refine z6v (zmr (i:=(f/((1:Int)+(x.fC%3))).toNat) (zh5 (b:=true) zby) rfl (Q.mono U) (zg rfl ai.1) (zy ai)) fun eo bV=>?_
 refine wh (v:=(ag.getD (f/((1:Int)+(x.fC%3))).toNat default)) (q4v (zp4 (i:=(f/((1:Int)+(x.fC%3))).toNat) (j:=2) (ze1 (b:=true) zbd) (Q.mono U) rfl rfl bV (zy ai))) ?_;refine wh (v:=(vi f)) (ze rfl) ?_;refine wh (v:=(.pointer (some ⟨q,0,none⟩))) (qi z2j rfl) ?_
 refine wh (v:=(vi ((1:Int)+(x.fC%3)))) (qj (i:=1) ag3 rfl rfl rfl) ?_;obtain⟨bW,p⟩:=zb p;refine wh (z4e rfl rfl bW) ?_;obtain⟨aJ,p⟩:=zb p
 refine z6v (zij (i:=(f%((1:Int)+(x.fC%3))).toNat) (r:=(f/((1:Int)+(x.fC%3))).toNat) zc0 (Q.mono U) (zy ai) rfl (zg rfl aJ.1) (zy aJ)) fun ep bX=>?_;refine z6v (zgh z0l rfl bX) fun bY aK=>?_
 replace aK:z8f kEdge 0 (ag.getD (f/((1:Int)+(x.fC%3))).toNat default) (I.getD (f/((1:Int)+(x.fC%3))).toNat default) bY (f%((1:Int)+(x.fC%3))).toNat:=aK
 refine wh (rq (zr0 (i:=(f%((1:Int)+(x.fC%3))).toNat) (r:=(f/((1:Int)+(x.fC%3))).toNat) (j:=2) ty3 zae (Q.mono U) (zy ai) rfl rfl aK (zy aJ))) ?_;refine wh (j3 rfl rfl) ?_;intro eq ac;refine z8 (zu rfl p (fun p=>?_) (fun p=>?_))
 refine zn (zf aG (zf (vi f) (ol (T:=(qb .i64)) (X:=([f]:List Int)) (ps:=[(0,(vi f))]) (css:=[[(vi f)]]) rfl underlying32 zo3 rfl rfl (kv ⟨rfl,trivial⟩) rfl rfl (by decide) fun bZ er bc b0=>?_)));refine y5 (i:=0) rfl b0 fun b1 aL b2=>?_
 have b3:VRep (tSl true (qb .i64)) b1 bZ ([f]:List Int):=(z3a b2 bc);obtain⟨bn,p⟩:=zb p;refine dh (i:=3) (X:=ah) (Y:=([f]:List Int)) rfl underlying32 zo3 rfl rfl rfl (aH.mono (ac.trans aL)) (ja (Sub.v (B:=(tSl false (qb .i64))) (uf Sub.refl (fun _=>rfl)) b3)) bn.1 bn.2 fun bo b4 b5=>?_
 refine zh bo (z8 ?_);exact⟨dkt,(ac.trans aL),jl,((ah++([f]:List Int)),bo,b4),⟨rfl,trivial⟩,prm,(Option.some.inj p).symm,b5,trivial⟩;refine qa ?_;exact⟨dkt,ac,jl,(ah,aG,aw),⟨rfl,trivial⟩,prm,(Option.some.inj p).symm,(aH.mono ac),trivial⟩;rintro⟨aI,b7,aM⟩ es et bE ⟨rfl,b8,_⟩
 refine zn (zf (vi f) ?_);obtain⟨b9,a⟩:=zb a;refine zk (jh rfl rfl b9) (zh (vi (f+1)) (z8 ?_));exact⟨dkt,bE,jl,(av,aI,f+1,b7,aM),Nat.lt_succ_self _,⟨rfl,rfl,trivial⟩,prm,a,b8,trivial⟩;refine jk ?_
 exact⟨dkt,U,jl,(ah,aG,aw),⟨rfl,trivial⟩,prm,(Option.some.inj a).symm,aH,trivial⟩;rintro⟨K,aN,bp⟩ eu ew P ⟨rfl,aj,_⟩;refine zi (zf aN ?_);obtain⟨aO,c⟩:=zb c;refine tq (i:=(0:Int).toNat) rfl z04 rfl aj (zg rfl aO.1) (zy aO) fun ex ca=>?_
 refine z6a (i:=(0:Int).toNat) (j:=3) rfl ty3 aj rfl rfl ca (zy aO) fun ey cb=>?_;obtain rfl:=jg.1 cb;refine zh (vi (ix K 0)) (z8 ?_);obtain⟨k,a,c⟩:=zq c
 refine qm (γ:=Int) (rs [12,13,103,122]) (fun g=>[(12,(vi g))]) (fun g=>[box b6 [(vi 0),(vi 0),vs0] 30,box q [(vi ((1:Int)+(x.fC%3))),(vi ((1:Int)+(x.fF%3))),o] 30,Z]++A) (fun g R=>k=g∧True) ?_ ?_;refine zi (zf (vi s) ?_);obtain⟨cc,a⟩:=zb a
 refine zk (zbi rfl rfl cc) (je rfl zyd z7s rfl (h2.mono ((ar.trans aq).trans P)) fun ez cd=>?_);refine qh rfl q68 rfl cd fun eA ce=>?_;refine zk (qo rfl underlying22 rfl (ja ce)) (zk (j3 rfl rfl) (z8 (zu rfl a (fun a=>?_) (fun a=>?_))))
 refine zn (zf aN (je rfl zyd z7s rfl (h2.mono ((ar.trans aq).trans P)) fun eB cf=>?_));refine qh rfl q68 rfl cf fun eC cg=>?_;refine zf (vi s) ?_;obtain⟨ch,a⟩:=zb a;refine zk (zbi rfl rfl ch) ?_;obtain⟨bq,a⟩:=zb a
 refine kg (i:=(s-1).toNat) rfl q7d rfl (ja cg) (zg rfl bq.1) (zy bq) fun eD ci=>?_;refine qh rfl ty5 rfl ci fun eE cj=>?_;obtain rfl:=jg.1 cj;obtain⟨ck,a⟩:=zb a;refine zk (z3c underlying5 underlying3 rfl ck) (zf aN (zk (z3j rfl underlying32 rfl aj) ?_))
 obtain⟨cl,a⟩:=zb a;refine zk (z4e rfl rfl cl) ?_;obtain⟨aP,a⟩:=zb a;refine tq (i:=((ix x.fH (s-1))%(↑K.length:Int)).toNat) rfl z04 rfl aj (zg rfl aP.1) (zy aP) fun eF cm=>?_
 refine z6a (i:=((ix x.fH (s-1))%(↑K.length:Int)).toNat) (j:=3) rfl ty3 aj rfl rfl cm (zy aP) fun eG cn=>?_;obtain rfl:=jg.1 cn;refine zh (vi (ix K ((ix x.fH (s-1))%(↑K.length:Int)))) (z8 ?_)
 exact⟨dkt,(RH.le.refl _),jl,(ix K ((ix x.fH (s-1))%(↑K.length:Int))),⟨rfl,trivial⟩,⟨[bp],(pk 3 rfl (pk 0 rfl (pk 0 rfl (pk 0 rfl (List.Perm.refl _)))))⟩,(Option.some.inj a).symm,trivial⟩;refine qa ?_
 exact⟨dkt,(RH.le.refl _),jl,(ix K 0),⟨rfl,trivial⟩,⟨[bp],(pk 3 rfl (pk 0 rfl (pk 0 rfl (pk 0 rfl (List.Perm.refl _)))))⟩,(Option.some.inj a).symm,trivial⟩;rintro k eH eI V ⟨rfl,_⟩;refine z4r 15 mixed (by kernel_rfl) (by kernel_rfl) ?_;refine wh (v:=(.pointer (some ⟨q,2,none⟩))) (qi xe rfl) ?_
 refine wh (v:=o) (qj (i:=1) zqw rfl rfl rfl) ?_;refine wh (v:=(vi k)) (ze rfl) ?_;refine wh (v:=(.pointer (some ⟨q,0,none⟩))) (qi z2j rfl) ?_;refine wh (v:=(vi ((1:Int)+(x.fC%3)))) (qj (i:=1) ag3 rfl rfl rfl) ?_;obtain⟨co,c⟩:=zb c;refine wh (zix rfl rfl co) ?_
 obtain⟨ak,c⟩:=zb c;refine z6v (zmr (i:=(k/((1:Int)+(x.fC%3))).toNat) (zh5 (b:=true) zby) rfl (Q.mono (P.trans V)) (zg rfl ak.1) (zy ak)) fun eJ cp=>?_
 refine wh (v:=(ag.getD (k/((1:Int)+(x.fC%3))).toNat default)) (q4v (zp4 (i:=(k/((1:Int)+(x.fC%3))).toNat) (j:=2) (ze1 (b:=true) zbd) (Q.mono (P.trans V)) rfl rfl cp (zy ak))) ?_;refine wh (v:=(vi k)) (ze rfl) ?_;refine wh (v:=(.pointer (some ⟨q,0,none⟩))) (qi z2j rfl) ?_
 refine wh (v:=(vi ((1:Int)+(x.fC%3)))) (qj (i:=1) ag3 rfl rfl rfl) ?_;obtain⟨cq,c⟩:=zb c;refine wh (z4e rfl rfl cq) ?_;refine wh (v:=(vi s)) (ze rfl) ?_;obtain⟨aQ,c⟩:=zb c
 refine z6v (zij (i:=(k%((1:Int)+(x.fC%3))).toNat) (r:=(k/((1:Int)+(x.fC%3))).toNat) zc0 (Q.mono (P.trans V)) (zy ak) rfl (zg rfl aQ.1) (zy aQ)) fun eK cr=>?_;refine z6v (zgh z0l rfl cr) fun br aR=>?_
 replace aR:z8f kEdge 0 (ag.getD (k/((1:Int)+(x.fC%3))).toNat default) (I.getD (k/((1:Int)+(x.fC%3))).toNat default) br (k%((1:Int)+(x.fC%3))).toNat:=aR;intro eL aS
 refine za4 (Oc:=[Z]) (Or:=[box b6 [(vi 0),(vi 0),vs0] 30,box q [(vi ((1:Int)+(x.fC%3))),(vi ((1:Int)+(x.fF%3))),o] 30]++A) (pk 2 rfl (pk 0 rfl (pk 0 rfl (List.Perm.refl _)))) (zhi (i:=(k%((1:Int)+(x.fC%3))).toNat) (r:=(k/((1:Int)+(x.fC%3))).toNat) (u:=br) zpi ty3 (Q.mono ((P.trans V).trans aS)) (zy ak) rfl aR (zy aQ) rfl (jg.2 rfl)) ?_
 rintro eM eN dQ dR ⟨rfl,bs,rfl,aT⟩;replace aT:N2 false kEdge _ bs o ag (up I (k/((1:Int)+(x.fC%3))) (up (ix I (k/((1:Int)+(x.fC%3)))) (k%((1:Int)+(x.fC%3))) (⟨s,(ix (ix I (k/((1:Int)+(x.fC%3)))) (k%((1:Int)+(x.fC%3)))).out⟩:Edge))):=aT
 refine z8 (zn (zf (vi s) ?_));obtain⟨cs,c⟩:=zb c;refine zk (jh rfl rfl cs) (zh (vi (s+1)) (z8 ?_))
 exact⟨dkt,((P.trans V).trans aS),jl,(au,s+1,(up I (k/((1:Int)+(x.fC%3))) (up (ix I (k/((1:Int)+(x.fC%3)))) (k%((1:Int)+(x.fC%3))) (⟨s,(ix (ix I (k/((1:Int)+(x.fC%3)))) (k%((1:Int)+(x.fC%3)))).out⟩:Edge))),bs),Nat.lt_succ_self _,⟨rfl,trivial⟩,⟨[],(pk 1 rfl (pk 1 rfl (pk 0 rfl (List.Perm.refl _))))⟩,c,(mh aT),trivial⟩
 refine jk ?_;exact⟨dkt,aq,jl,(I,Z),trivial,prm,(Option.some.inj c).symm,(mh Q),trivial⟩;rintro⟨af,ct⟩ eO eP aU ⟨rfl,⟨eQ,cu⟩,_⟩;obtain⟨aa,c,y⟩:=zq y
 refine qm (γ:=(List (List Edge))×Frag) (rs [13,15,137,177]) (fun g=>[]) (fun g=>[box b6 [(vi 0),(vi 0),vs0] 30,box q [(vi ((1:Int)+(x.fC%3))),(vi ((1:Int)+(x.fF%3))),o] 30,g.2]++A) (fun g R=>aa=g.1∧NRep false kEdge R g.2 o g.1∧True) ?_ ?_
 refine zi (zh (vi 0) (z8 (zx (jb (γ:=Nat×Int×(List (List Edge))×Frag) (rs [13,15,137,177]) (fun g=>[(13,(vi g.2.1))]) (fun g=>[box b6 [(vi 0),(vi 0),vs0] 30,box q [(vi ((1:Int)+(x.fC%3))),(vi ((1:Int)+(x.fF%3))),o] 30,g.2.2.2]++A) (fun g R=>xq N x g.1 g.2.1 g.2.2.1=some aa∧NRep false kEdge R g.2.2.2 o g.2.2.1∧True) (fun g=>g.1) (N,0,af,ct) prm ⟨c,(mh cu),trivial⟩ ?_))))
 clear c;rintro⟨ax,d,aV,bt⟩ eR eS aW ⟨c,⟨eT,bv⟩,_⟩;rcases ax with _|ax;exact qp c;replace c:xq N x (ax+1) d aV=some aa:=c;rw [xq] at c
 refine zw (zi (zf (vi d) (zf (vi ((1:Int)+(x.fG%6))) (zk (j3 rfl rfl) (z8 (zu rfl c (fun c=>?_) (fun c=>?_)))))));refine qa ?_;obtain⟨al,a,c⟩:=zq c
 refine qm (γ:=(List (List Edge))×Frag) (rs [14,15,142,177]) (fun g=>[]) (fun g=>[box b6 [(vi 0),(vi 0),vs0] 30,box q [(vi ((1:Int)+(x.fC%3))),(vi ((1:Int)+(x.fF%3))),o] 30,g.2]++A) (fun g R=>al=g.1∧NRep false kEdge R g.2 o g.1∧True) ?_ ?_
 refine zx (zi (zh (vi 0) (z8 (zx (jb (γ:=Nat×Int×(List (List Edge))×Frag) (rs [14,15,142,177]) (fun g=>[(14,(vi g.2.1))]) (fun g=>[box b6 [(vi 0),(vi 0),vs0] 30,box q [(vi ((1:Int)+(x.fC%3))),(vi ((1:Int)+(x.fF%3))),o] 30,g.2.2.2]++A) (fun g R=>uw N x d g.1 g.2.1 g.2.2.1=some al∧NRep false kEdge R g.2.2.2 o g.2.2.1∧True) (fun g=>g.1) (N,0,aV,bt) prm ⟨a,(mh bv),trivial⟩ ?_)))))
 clear a;rintro⟨ay,m,E,aX⟩ eU eV aY ⟨a,⟨W,M⟩,_⟩;rcases ay with _|ay;exact qp a;replace a:uw N x d (ay+1) m E=some al:=a;rw [uw] at a
 refine zw (zi (zf (vi m) (zk (qi z2j rfl) (zk (qj (i:=1) ag3 rfl rfl rfl) (zk (j3 rfl rfl) (z8 (zu rfl a (fun a=>?_) (fun a=>?_))))))));refine qa ?_;obtain⟨aZ,p,a⟩:=zq a
 refine qm (γ:=(List (List Edge))×Frag) (rs [148,177]) (fun g=>[]) (fun g=>[box b6 [(vi 0),(vi 0),vs0] 30,box q [(vi ((1:Int)+(x.fC%3))),(vi ((1:Int)+(x.fF%3))),o] 30,g.2]++A) (fun g R=>aZ=g.1∧NRep false kEdge R g.2 o g.1∧True) ?_ ?_
 refine zx (zi (zk (qi xe rfl) (zk (qj (i:=1) zqw rfl rfl rfl) (zf (vi d) ?_))));obtain⟨am,p⟩:=zb p;refine z2k rfl (zdf (i:=d.toNat) (zh5 (b:=true) zby) rfl M (zg rfl am.1) (zy am)) fun eW eX z cv=>?_
 refine z2k rfl (zf8 (i:=d.toNat) (j:=2) (ze1 (b:=true) zbd) (M.mono z) rfl rfl cv (zy am)) fun eY eZ C cw=>?_;obtain rfl:=Eq.symm cw;refine zf (vi m) ?_;obtain⟨a0,p⟩:=zb p
 refine z2k rfl (zb6 (i:=m.toNat) (r:=d.toNat) zc0 (M.mono (z.trans C)) (zy am) rfl (zg rfl a0.1) (zy a0)) fun e0 e1 G cx=>?_;refine z2k rfl (zd5 z0l rfl cx) fun cy e2 H a1=>?_;replace a1:z8f kEdge 0 (W.getD d.toNat default) (E.getD d.toNat default) cy m.toNat:=a1
 refine z2k rfl (gp (zr6 (i:=m.toNat) (r:=d.toNat) (j:=2) ty3 zae (M.mono (((z.trans C).trans G).trans H)) (zy am) rfl rfl a1 (zy a0)) (fun _ _ h=>jg.1 h)) fun e3 e4 L cz=>?_;obtain rfl:=Eq.symm cz;refine zk (j3 rfl rfl) (z8 (zu rfl p (fun p=>?_) (fun p=>?_)))
 obtain⟨an,cA,cB,p⟩:=zzk p;obtain⟨az,cC,p⟩:=zq p;obtain⟨cD,a2,p⟩:=zy6 p
 refine mf 19 [] [phX (.pointer (some ⟨q,2,none⟩)),phX o,phX (vi d),(fun u _=>z5e tHdr o W u d.toNat),phX (W.getD d.toNat default),phX (vi m),phP (tSl false (qb .u16)) x.fJ,phR (tSl false (qb .u16)) x.fJ,phX (vi d),phX (.pointer (some ⟨q,0,none⟩)),phX (vi ((1:Int)+(x.fC%3))),phX (vi (d*((1:Int)+(x.fC%3)))),phX (vi m),phX (vi ((d*((1:Int)+(x.fC%3)))+m)),phX (vi az),phX (vi ((1:Int)+(x.fG%6))),phX (vi (az%((1:Int)+(x.fG%6)))),(fun u _=>z5e kEdge (W.getD d.toNat default) (E.getD d.toNat default) u m.toNat),(fun u _=>z8f kEdge 0 (W.getD d.toNat default) (E.getD d.toNat default) u m.toNat)] mixed (by kernel_rfl) (bu ⟨zt,zt,zt,(fun _ _ _ _ h=>h),zt,zt,uo,gu,zt,zt,zt,zt,zt,zt,zt,zt,zt,(fun _ _ _ _ h=>h),(fun _ _ _ _ h=>h),trivial⟩) ⟨?_,?_,?_,?_,?_,?_,?_,?_,?_,?_,?_,?_,?_,?_,?_,?_,?_,?_,?_,trivial⟩ fun e5 a3=>?_
 intro l du n F hd;exact za rfl rfl rfl (zz (qi xe (F 4 rfl)));rintro l dv n F ⟨O,_⟩;exact za rfl rfl rfl (zz (qj (i:=1) zqw (O rfl) rfl rfl));intro l dw n F hd;exact za rfl rfl rfl (zz (ze (F 13 rfl)));rintro l dx n F ⟨O,d1,_⟩
 exact za rfl rfl rfl (zdf (i:=d.toNat) (zh5 (b:=true) zby) (O rfl) ((M.mono ((((z.trans C).trans G).trans H).trans L)).mono n) (zg (d1 rfl) an.1) (zy an));rintro l dy n F ⟨O,_⟩
 exact za rfl rfl rfl (zf8 (i:=d.toNat) (j:=2) (ze1 (b:=true) zbd) ((M.mono ((((z.trans C).trans G).trans H).trans L)).mono n) rfl rfl (O rfl) (zy an));intro l dz n F hd;exact za rfl rfl rfl (zz (ze (F 14 rfl)));intro l dA n F hd
 exact za rfl rfl rfl (gz zxq z7w (F 1 rfl) ((h2.mono ((((((((ar.trans aU).trans aW).trans aY).trans z).trans C).trans G).trans H).trans L)).mono n));rintro l dB n F ⟨O,_⟩;exact za rfl rfl rfl (jo q61 rfl (O rfl));intro l dD n F hd;exact za rfl rfl rfl (zz (ze (F 13 rfl)))
 intro l gi n F hd;exact za rfl rfl rfl (zz (qi z2j (F 4 rfl)));rintro l e6 n F ⟨O,_⟩;exact za rfl rfl rfl (zz (qj (i:=1) ag3 (O rfl) rfl rfl));rintro l e7 n F ⟨O,d1,_⟩;exact za rfl rfl rfl (zz (zo0 (O rfl) (d1 rfl) cA));intro l e8 n F hd;exact za rfl rfl rfl (zz (ze (F 14 rfl)))
 rintro l e9 n F ⟨O,d1,_⟩;exact za rfl rfl rfl (zz (jh (O rfl) (d1 rfl) cB));rintro l fa n F ⟨O,d1,_⟩;have aM:l 171=(vi ((d*((1:Int)+(x.fC%3)))+m)):=d1 rfl
 exact za rfl rfl rfl (xk (vs:=[(l 165),(vi ((d*((1:Int)+(x.fC%3)))+m))]) q76 (by simp only [List.map,ev,aM]<;>rfl) (z6d (O rfl) cC) (fun _ _ h=>h));intro l fb n F hd;exact za rfl rfl rfl (zz (ze (F 3 rfl)));rintro l fc n F ⟨O,d1,_⟩
 exact za rfl rfl rfl (zz (z4e (O rfl) (d1 rfl) cD));rintro l fd n F ⟨O,d1,d2,d3,d4,d5,d6,d7,d8,d9,dS,dT,dU,dV,dW,dX,dY,dZ,gs,_⟩;have aw:=O rfl
 exact za rfl rfl rfl (zb6 (i:=m.toNat) (r:=d.toNat) zc0 ((M.mono ((((z.trans C).trans G).trans H).trans L)).mono n) (zy an) aw (zg (d1 rfl) a2.1) (zy a2));rintro l fe n F ⟨O,d1,d2,d3,d4,d5,d6,d7,d8,d9,dS,dT,dU,dV,dW,dX,dY,dZ,_⟩;exact za rfl rfl rfl (zd5 z0l rfl (O rfl))
 intro ff cE fg cF fh cG fi fj fk cH fl cI fm fn fo fp fq cJ fr cK fs cL ft cM fu cN fv cO fw cP fx cQ fy cR fz fA bw a4;obtain rfl:=Eq.symm cE;obtain rfl:=Eq.symm cF;obtain rfl:=Eq.symm cG;obtain rfl:=Eq.symm cH;obtain rfl:=Eq.symm cI;obtain rfl:=Eq.symm cJ;obtain rfl:=Eq.symm cK
 obtain rfl:=Eq.symm cL;obtain rfl:=Eq.symm cM;obtain rfl:=Eq.symm cN;obtain rfl:=Eq.symm cO;obtain rfl:=Eq.symm cP;obtain rfl:=Eq.symm cQ;obtain rfl:=Eq.symm cR;replace a4:z8f kEdge 0 (W.getD d.toNat default) (E.getD d.toNat default) bw m.toNat:=a4
 refine za4 (Oc:=[aX]) (Or:=[box b6 [(vi 0),(vi 0),vs0] 30,box q [(vi ((1:Int)+(x.fC%3))),(vi ((1:Int)+(x.fF%3))),o] 30]++A) (pk 2 rfl (pk 0 rfl (pk 0 rfl (List.Perm.refl _)))) (zhi (i:=m.toNat) (r:=d.toNat) (u:=bw) zpi ty3 (M.mono (((((z.trans C).trans G).trans H).trans L).trans a3)) (zy an) rfl a4 (zy a2) rfl (jg.2 rfl)) ?_
 rintro fB fD ea eb ⟨rfl,bx,rfl,a5⟩;replace a5:N2 false kEdge _ bx o W (up E d (up (ix E d) m (⟨az%((1:Int)+(x.fG%6)),(ix (ix E d) m).out⟩:Edge))):=a5;refine z8 ?_
 exact⟨dkt,(((((z.trans C).trans G).trans H).trans L).trans a3),jl,((up E d (up (ix E d) m (⟨az%((1:Int)+(x.fG%6)),(ix (ix E d) m).out⟩:Edge))),bx),trivial,⟨[],(pk 1 rfl (pk 1 rfl (pk 0 rfl (List.Perm.refl _))))⟩,(Option.some.inj p).symm,(mh a5),trivial⟩;refine qa ?_
 exact⟨dkt,((((z.trans C).trans G).trans H).trans L),jl,(E,aX),trivial,prm,(Option.some.inj p).symm,(mh (M.mono ((((z.trans C).trans G).trans H).trans L))),trivial⟩;rintro⟨aZ,cS⟩ fE fI bF ⟨rfl,⟨fK,cT⟩,_⟩;refine zn (zf (vi m) ?_);obtain⟨cU,a⟩:=zb a
 refine zk (jh rfl rfl cU) (zh (vi (m+1)) (z8 ?_));exact⟨dkt,bF,jl,(ay,m+1,aZ,cS),Nat.lt_succ_self _,⟨rfl,trivial⟩,prm,a,(mh cT),trivial⟩;refine jk ?_;exact⟨dkt,aY,jl,(E,aX),trivial,prm,(Option.some.inj a).symm,(mh M),trivial⟩;rintro⟨al,cV⟩ fL fM bG ⟨rfl,⟨fN,cW⟩,_⟩
 refine zn (zf (vi d) ?_);obtain⟨cX,c⟩:=zb c;refine zk (jh rfl rfl cX) (zh (vi (d+1)) (z8 ?_));exact⟨dkt,bG,jl,(ax,d+1,al,cV),Nat.lt_succ_self _,⟨rfl,trivial⟩,prm,c,(mh cW),trivial⟩;refine jk ?_
 exact⟨dkt,aW,jl,(aV,bt),trivial,prm,(Option.some.inj c).symm,(mh bv),trivial⟩;rintro⟨aa,fO⟩ fP fQ bH ⟨rfl,⟨fR,bz⟩,_⟩
 refine zi (zk (w9 (i:=1) zdp z8g rfl rfl rfl rfl) (jr (i:=0) (vs:=[(vi ((1:Int)+(x.fC%3))),(vi ((1:Int)+(x.fF%3))),o]) z8g rfl rfl rfl rfl rfl rfl (qc rfl (qc rfl (qc (zz1 bz) jq))) ?_));refine z8 (zj8 (i:=2) rfl (mh bz) fun cY bI cZ=>?_)
 have c0:VRep (tSl false (tSl false kEdge)) cY o aa:=(z5t cZ);refine ql ?_;obtain rfl:=Option.some.inj y
 refine q8 (D:=[]) (J:=[box b6 [(vi ((1:Int)+(x.fC%3))),(vi ((1:Int)+(x.fF%3))),o] 30,box q [(vi ((1:Int)+(x.fC%3))),(vi ((1:Int)+(x.fF%3))),o] 30]) (rs:=[.cell 2 30]) (vs:=[(.agg #[(vi ((1:Int)+(x.fC%3))),(vi ((1:Int)+(x.fF%3))),o])]) ((((c3.trans ar).trans aU).trans bH).trans bI) rfl rfl ⟨⟨_,rfl,fun w hh=>z0e (i:=0) hh rfl rfl zdp z8g rfl rfl⟩,trivial⟩ ?_
 exact⟨rfl,(⟨_,⟨_,_,rfl,rfl,⟨_,_,rfl,rfl,(kz rfl c0)⟩⟩,rfl⟩:VRep (jm false false) _ _ (⟨(1:Int)+(x.fC%3),(1:Int)+(x.fF%3),aa⟩:Mach))⟩
theorem q8i:Enters prog 30:=enters_of func30 rfl (by kernel_rfl)
theorem q2q:Enters prog 105:=enters_of func105 rfl (by kernel_rfl)
theorem z9c{N:Nat}(F:Nat): ∀ {R:RH} {m:Mach} {d:Value} (j:VRep (jm false false) R d m) {s:Int} {n:(List Int)} {c:Value} (g:VRep (tSl false (qb .i64)) R c n) {r:Int} (b:nk N F m s n=some r),CallP prog 105 #[d,(vi s),c] R (fun v R'=>v=(vi r)):=by
  induction F with
  |zero=>intros;rename_i b;exact qp b
  |succ F ih=>
    intro R m d j s n c g r b
    refine qd (args:=[d,(vi s),c]) func105 rfl rfl fun A=>?_
    rw [nk] at b
    refine zw ?_
    refine zn ?_
    refine ky (T:=(jm false false)) rfl rfl rfl j fun v1 R3 e h5 h2=>?_
    refine zh (vi 0) ?_
    refine z8 ?_
    refine zw ?_
    refine zw ?_
    refine zn ?_
    refine zf c ?_
    refine zk (qo rfl underlying32 rfl (ja (g.mono e))) ?_
    refine zk (bz rfl rfl) ?_
    refine z8 ?_
    refine zu rfl b (fun b=>?_) (fun b=>?_)
    · refine zw ?_
      refine zn ?_
      refine zf (vi s) ?_
      refine zh (vi s) ?_
      refine z8 ?_
      refine ql ?_
      obtain rfl:=Option.some.inj b
      refine q8 (D:=[]) (J:=[]) (rs:=[.tmp 6]) (vs:=[(vi s)]) e rfl rfl ⟨rfl,trivial⟩ ?_
      exact⟨rfl,rfl⟩
    · refine qa ?_
      refine zw ?_
      obtain⟨g7,b⟩:=zb b
      obtain⟨q,c9,b⟩:=zq b
      obtain⟨o,b⟩:=zb b
      obtain⟨p,B,b⟩:=zq b
      refine mf 12 [] [phX d,phX d,phX (vi s),phX c,phP (qb .i64) (ix n 0),phX (vi (ix n 0)),phX (lh q),phX (vi q.to),phX c,phR (tSl false (qb .i64)) (cut n 1 (↑n.length:Int)),phX (vi p),phX (vi p)] mixed (by kernel_rfl) (bu ⟨zt,zt,zt,zt,uo,zt,zt,zt,zt,gu,zt,zt,trivial⟩) ⟨?_,?_,?_,?_,?_,?_,?_,?_,?_,?_,?_,?_,trivial⟩ fun al t=>?_
      · intro l am a f x
        have C:l 3=v1:=f 3 rfl
        exact za rfl rfl rfl (zz (jy z1b rfl C (h5.mono a) ((j.mono e).mono a)))
      · intro l an a f x
        have C:l 3=v1:=f 3 rfl
        exact za rfl rfl rfl (zz (jy z1b rfl C (h5.mono a) ((j.mono e).mono a)))
      · intro l ao a f x
        have a1:l 1=(vi s):=f 1 rfl
        exact za rfl rfl rfl (zz (ze a1))
      · intro l aq a f x
        have E:l 2=c:=f 2 rfl
        exact za rfl rfl rfl (zz (ze E))
      · rintro l ar a f ⟨k,_⟩
        have G:=k rfl
        exact za rfl rfl rfl (wm (i:=(0:Int).toNat) z04 G (ja ((g.mono e).mono a)) (zg rfl g7.1) (zy g7))
      · rintro l au a f ⟨k,_⟩
        have H:=k rfl
        exact za rfl rfl rfl (gp (jo ty3 rfl H) (fun _ _ h=>jg.1 h))
      · rintro l av a f ⟨k,y,z,_⟩
        have I:l 12=d:=k rfl
        have K:l 13=(vi s):=y rfl
        have L:l 16=(vi (ix n 0)):=z rfl
        exact za rfl rfl rfl (xk (vs:=[d,(vi s),(vi (ix n 0))]) q5v (by simp only [List.map,ev,I,K,L]<;>rfl) (z7l ((j.mono e).mono a) c9) (fun _ _ h=>h))
      · rintro l aw a f ⟨k,_⟩
        have M:=k rfl
        exact za rfl rfl rfl (zz (zvx (v:=(lh q)) (u:=(vi q.to)) M (fun w=>by kernel_rfl)))
      · intro l ay a f x
        have E:l 2=c:=f 2 rfl
        exact za rfl rfl rfl (zz (ze E))
      · rintro l az a f ⟨k,_⟩
        have O:=k rfl
        exact za rfl rfl rfl (zv8 (lo:=(1:Int).toNat) (hi:=(↑n.length:Int).toNat) (mx:=(capOf c)) (X':=(cut n 1 (↑n.length:Int))) z04 O (ja ((g.mono e).mono a)) (.inr ⟨_,congrArg some (zg rfl o.1)⟩) (.inl ⟨rfl,rfl,rfl⟩) (.inl ⟨rfl,rfl⟩) (zmb o) (zbp o) (fun h=>Nat.le_trans (zbp o) h) (fun _=>Nat.le_refl _) rfl)
      · rintro l ai a f ⟨k,y,z,d3,_⟩
        have P:l 11=d:=k rfl
        have Q:l 18=(vi q.to):=y rfl
        have S:=z rfl
        exact za rfl rfl rfl (xk (vs:=[d,(vi q.to),(l 20)]) q2q (by simp only [List.map,ev,P,Q]<;>rfl) (ih ((j.mono e).mono a) S B) (fun _ _ h=>h))
      · rintro l aj a f ⟨k,y,z,d3,d4,d5,d6,d7,d8,d9,aB,aC,aD,_⟩
        have U:=k rfl
        exact za rfl rfl rfl (zz (ax U))
      intro aE V
      intro aF W
      intro aG X
      intro aH Y
      intro aI aJ
      intro aK Z
      intro aL aa
      intro aM ab
      intro aN ac
      intro aO aP
      intro aQ ad
      intro aR ae
      obtain rfl:=Eq.symm V
      obtain rfl:=Eq.symm W
      obtain rfl:=Eq.symm X
      obtain rfl:=Eq.symm Y
      obtain rfl:=Eq.symm Z
      obtain rfl:=Eq.symm aa
      obtain rfl:=Eq.symm ab
      obtain rfl:=Eq.symm ac
      obtain rfl:=Eq.symm ad
      obtain rfl:=Eq.symm ae
      refine z8 ?_
      refine ql ?_
      obtain rfl:=Option.some.inj b
      refine q8 (D:=[]) (J:=[]) (rs:=[.tmp 6]) (vs:=[(vi p)]) (e.trans t) rfl rfl ⟨rfl,trivial⟩ ?_
      exact⟨rfl,rfl⟩
theorem zbv{N:Nat}{R:RH}{m:Mach}{b:Value}(d:VRep (jm false false) R b m){s:Int}{f:(List Int)}{a:Value}(c:VRep (tSl false (qb .i64)) R a f){r:Int}(e:nk N N m s f=some r):CallP prog 105 #[b,(vi s),a] R (fun v R'=>v=(vi r)):=z9c N d c e
theorem zd0{N:Nat}{R:RH}{w:(List Int)}{e:Value}(x:VRep (tSl false (qb .i64)) R e w){inputs:Int}{r:(List Int)}(c:lu N w inputs=some r):CallP prog 104 #[e,(vi inputs)] R (fun v R'=>VRep (tSl false (qb .i64)) R' v r):=by
 refine qd (args:=[e,(vi inputs)]) func104 rfl rfl fun A=>?_;rw [lu] at c;refine zi (zh vs0 (qw (ol (T:=(qb .i64)) (X:=([]:List Int)) (ps:=[]) (css:=[]) rfl underlying32 zo3 rfl rfl (kv trivial) rfl rfl (by decide) fun v1 f2 an h4=>?_)));refine zf e ?_;obtain⟨g6,c⟩:=zb c
 refine dh (i:=0) (X:=([]:List Int)) (Y:=w) rfl underlying32 zo3 rfl rfl rfl h4 (ja x) g6.1 g6.2 fun f f8 h9=>?_;refine zh f (z8 ?_);obtain⟨n,a,c⟩:=zq c;refine qm (γ:=(List Int)×Frag) (rs [4,5,6,7,10,34]) (fun g=>[]) (fun g=>[g.2]++A) (fun g R=>n=Ex.go g.1∧ORep (qb .i64) R g.2 f g.1∧True) ?_ ?_
 refine zi (zf f (zk (z3j rfl underlying32 rfl h9) ?_));obtain⟨G,a⟩:=zb a
 refine zk (zbi rfl rfl G) (zh (vi ((↑(([]:List Int)++w).length:Int)-1)) (z8 (zx (jb (γ:=Nat×Int×(List Int)×Frag) (rs [4,5,6,7,13,34]) (fun g=>[(6,(vi g.2.1))]) (fun g=>[g.2.2.2]++A) (fun g R=>yl N inputs g.1 g.2.1 g.2.2.1=some n∧ORep (qb .i64) R g.2.2.2 f g.2.2.1∧True) (fun g=>g.1) (N,(↑(([]:List Int)++w).length:Int)-1,(([]:List Int)++w),f8) prm ⟨a,h9,trivial⟩ ?_))))
 clear a;rintro⟨k,b,h,H⟩ au av l ⟨a,d,_⟩;rcases k with _|k;exact qp a;replace a:yl N inputs (k+1) b h=some n:=a;rw [yl] at a;refine zw (zi (zf (vi b) (zk (z3f rfl rfl) (z8 (zu rfl a (fun a=>?_) (fun a=>?_))))))
 refine qa (zw (zx (zw (zi (zf f (zf (vi b) ?_))))));obtain⟨o,a⟩:=zb a;refine tq (i:=b.toNat) rfl z04 rfl d (zg rfl o.1) (zy o) fun aw I=>?_;refine z6a (i:=b.toNat) (j:=0) rfl ty3 d rfl rfl I (zy o) fun ax K=>?_;obtain rfl:=jg.1 K;obtain⟨L,a⟩:=zb a
 refine zk (jh rfl rfl L) (zf (vi inputs) (zk (j3 rfl rfl) (z8 (zu rfl a (fun a=>?_) (fun a=>?_)))));refine zi (zf f (zf (vi b) ?_));obtain⟨p,a⟩:=zb a;refine tq (i:=b.toNat) rfl z04 rfl d (zg rfl p.1) (zy p) fun ay M=>?_
 refine z6a (i:=b.toNat) (j:=0) rfl ty3 d rfl rfl M (zy p) fun az O=>?_;obtain rfl:=jg.1 O;obtain⟨P,a⟩:=zb a;refine zk (jh rfl rfl P) ?_;obtain⟨q,a⟩:=zb a;refine tq (i:=b.toNat) rfl z04 rfl d (zg rfl q.1) (zy q) fun aA Q=>?_
 refine z3s (i:=b.toNat) (j:=0) ty3 d rfl rfl Q (zy q) rfl (jg.2 rfl) fun aB S=>?_;refine qw (zf f (zh f (z8 (ow (i:=0) rfl S fun U y V=>?_))));have W:VRep (tSl false (qb .i64)) U f (up h b ((ix h b)+1)):=(z5t V);refine ql ?_;replace c:=z1i a c;obtain rfl:=Option.some.inj c
 refine q8 (D:=[]) (J:=[]) (rs:=[.tmp 4]) (vs:=[f]) (l.trans y) rfl rfl ⟨rfl,trivial⟩ ?_;exact⟨rfl,W⟩;refine qa (zn (zf f (zf (vi b) ?_)));obtain⟨s,a⟩:=zb a;refine tq (i:=b.toNat) rfl z04 rfl d (zg rfl s.1) (zy s) fun aC Z=>?_
 refine z3s (i:=b.toNat) (j:=0) ty3 d rfl rfl Z (zy s) rfl (jg.2 rfl) fun aa ab=>?_;refine z8 (zn (zf (vi b) ?_));obtain⟨ac,a⟩:=zb a;refine zk (zbi rfl rfl ac) (zh (vi (b-1)) (z8 ?_))
 exact⟨dkt,(RH.le.refl _),jl,(k,b-1,(up h b 0),aa),Nat.lt_succ_self _,⟨rfl,trivial⟩,prm,a,ab,trivial⟩;refine jk ?_;exact⟨dkt,l,jl,(h,H),trivial,prm,(Option.some.inj a).symm,d,trivial⟩;rintro⟨z,aD⟩ aE aF C ⟨rfl,ad,_⟩;replace c:=z2x c
 refine zi (zf f (ol (T:=(qb .i64)) (X:=([0]:List Int)) (ps:=[(0,(vi 0))]) (css:=[[(vi 0)]]) rfl underlying32 zo3 rfl rfl (kv ⟨rfl,trivial⟩) rfl rfl (by decide) fun ae aG t af=>?_));refine y5 (i:=0) rfl af fun ag m ah=>?_;have ai:VRep (tSl true (qb .i64)) ag ae ([0]:List Int):=(z3a ah t)
 obtain⟨E,c⟩:=zb c;refine dh (i:=0) (X:=z) (Y:=([0]:List Int)) rfl underlying32 zo3 rfl rfl rfl (ad.mono m) (ja (Sub.v (B:=(tSl false (qb .i64))) (uf Sub.refl (fun _=>rfl)) ai)) E.1 E.2 fun u aH aj=>?_;refine zh u (z8 (ow (i:=0) rfl aj fun ak F al=>?_))
 have am:VRep (tSl false (qb .i64)) ak u (z++([0]:List Int)):=(z5t al);refine ql ?_;obtain rfl:=Option.some.inj c;refine q8 (D:=[]) (J:=[]) (rs:=[.tmp 4]) (vs:=[u]) ((C.trans m).trans F) rfl rfl ⟨rfl,trivial⟩ ?_;exact⟨rfl,am⟩
theorem q5g:Enters prog 104:=enters_of func104 rfl (by kernel_rfl)
theorem zc2{N:Nat}{R:RH}{m:Mach}{Q:Value}(S:VRep (jm false false) R Q m){f:Int}{r:(List (List Int))×(List Bool)}(o:fq N m f=some r):CallP prog 97 #[Q,(vi f)] R (fun v R'=> ∃ u0 u1,v= .tuple #[u0,u1]∧VRep (tSl true (tSl false (qb .i64))) R' u0 r.1∧VRep (tSl true xn) R' u1 r.2):=by
 refine qd (args:=[Q,(vi f)]) func97 rfl rfl fun A=>?_;rw [fq] at o;refine zi (ky (T:=(jm false false)) rfl rfl rfl S fun v1 R3 U h5 h2=>?_);refine zh vs0 (zh vs0 (qw (je rfl xe ui rfl h2 fun v6 h7=>?_)));refine qh rfl z3h rfl h7 fun v8 h9=>?_
 refine zk (qo rfl underlying28 rfl (ja h9)) ?_;obtain⟨E,o⟩:=zb o;refine z7i (T:=(tSl false (qb .i64))) (m:=(↑m.rows.length:Int).toNat) (c:=(↑m.rows.length:Int).toNat) rfl underlying72 zkl (zg rfl E.1) (zg rfl E.1) (Nat.le_refl _) (zdv E) (zdu E) fun h aE V aF=>?_
 refine zh h (qw (je rfl xe ui rfl h2 fun bf aG=>?_));refine qh rfl z3h rfl aG fun bg aH=>?_;refine zk (qo rfl underlying28 rfl (ja aH)) ?_;obtain⟨F,o⟩:=zb o
 refine z7i (T:=xn) (m:=(↑m.rows.length:Int).toNat) (c:=(↑m.rows.length:Int).toNat) rfl underlying117 zo4 (zg rfl F.1) (zg rfl F.1) (Nat.le_refl _) (zdv F) (zdu F) fun d aI W aJ=>?_;refine zh d (z8 ?_);obtain⟨q,b,o⟩:=zq o
 refine qm (γ:=(List (List Int)×List Bool)×Frag×Frag) (rs [8,10,18,49]) (fun g=>[]) (fun g=>[g.2.1,g.2.2]++A) (fun g R=>q=g.1∧ORep (tSl false (qb .i64)) R g.2.1 h g.1.1∧capOf h=g.1.1.length∧ORep xn R g.2.2 d g.1.2∧capOf d=g.1.2.length∧True) ?_ ?_
 refine zi (ol (T:=(qb .i64)) (X:=([]:List Int)) (ps:=[]) (css:=[]) rfl underlying32 zo3 rfl rfl (kv trivial) rfl rfl (by decide) fun Y bh Z aK=>?_);refine zh Y (z8 (zx (ow (i:=0) rfl aK fun aL l aM=>?_)));have aN:VRep (tSl true (qb .i64)) aL Y ([]:List Int):=(z3a aM Z)
 refine jb (γ:=Nat×((List Int))×(List (List Int))×(List Bool)×Value×Frag×Frag) (rs [8,10,19,49]) (fun g=>[(8,g.2.2.2.2.1)]) (fun g=>[g.2.2.2.2.2.1,g.2.2.2.2.2.2]++A) (fun g R=>uj N m f g.1 g.2.1 g.2.2.1 g.2.2.2.1=some q∧VRep (tSl false (qb .i64)) R g.2.2.2.2.1 g.2.1∧ORep (tSl false (qb .i64)) R g.2.2.2.2.2.1 h g.2.2.1∧capOf h=g.2.2.1.length∧ORep xn R g.2.2.2.2.2.2 d g.2.2.2.1∧capOf d=g.2.2.2.1.length∧True) (fun g=>g.1) (N,[],(mk (↑m.rows.length:Int) ([]:List Int)),(mk (↑m.rows.length:Int) false),Y,aE,aI) ⟨[],(pk 1 rfl (pk 0 rfl (List.Perm.refl _)))⟩ ⟨b,(Sub.v (B:=(tSl false (qb .i64))) (uf Sub.refl (fun _=>rfl)) aN),(aF.mono l),(V.trans List.length_replicate.symm),(aJ.mono l),(W.trans List.length_replicate.symm),trivial⟩ ?_
 clear b;rintro⟨G,ac,H,I,K,ad,ae⟩ a4 bi n ⟨b,L,M,t,s,u,_⟩;rcases G with _|G;exact qp b;replace b:uj N m f (G+1) ac H I=some q:=b;rw [uj] at b
 refine zw (zi (zf K (zk (qo rfl underlying32 rfl (ja L)) (je rfl xe ui rfl (h2.mono (l.trans n)) fun bj aO=>?_))));refine qh rfl z3h rfl aO fun bk aP=>?_;refine zk (qo rfl underlying28 rfl (ja aP)) (zk (j3 rfl rfl) (z8 (zu rfl b (fun b=>?_) (fun b=>?_))));refine qa ?_
 obtain⟨O,k,b⟩:=zq b;refine qm (γ:=(List (List Int)×List Bool)×Frag×Frag) (rs [9,10,29,49]) (fun g=>[]) (fun g=>[g.2.1,g.2.2]++A) (fun g R=>O=g.1∧ORep (tSl false (qb .i64)) R g.2.1 h g.1.1∧capOf h=g.1.1.length∧ORep xn R g.2.2 d g.1.2∧capOf d=g.1.2.length∧True) ?_ ?_
 refine zx (zi (zk (jy z1b rfl rfl (h5.mono (l.trans n)) (S.mono ((U.trans l).trans n))) (zf (vi f) (zf K ?_))));obtain⟨e,aQ,k⟩:=zq k;refine jd rfl q2q rfl (zbv (S.mono ((U.trans l).trans n)) L aQ) fun bl bm a aR=>?_;obtain rfl:=aR
 refine zh (vi e) (qw (jv (v:=(vi e)) rfl (ze rfl) (jv rfl (z3f rfl rfl) (jv (v:=(.bool (decide (0≤e)))) rfl (ze rfl) (ji rfl rfl rfl rfl (fun w=>qx (v:=d) (ze rfl)) fun bn aS=>?_)))));refine ji rfl rfl rfl rfl (fun w=>qx (v:=(vi e)) (ze rfl)) fun bo aT=>?_;obtain⟨aa,k⟩:=zb k
 refine ji rfl rfl rfl rfl (fun w=>z4j (i:=e.toNat) z9m (aS.1 (zo rfl w)) (s.mono a) (zg (aT.1 (zo rfl w)) (aa (zo rfl w)).1) (zy (aa (zo rfl w)))) fun bp aU=>?_
 refine ji rfl rfl rfl rfl (fun w=>qx (zne (zct (i:=e.toNat) (j:=1) ty4 (s.mono a) rfl rfl (aU.1 (zo rfl w)) (zy (aa (zo rfl w)))))) fun bq aV=>?_;refine ji rfl rfl rfl rfl (fun w=>qx (z0g (aV.1 (zo rfl w)))) fun br aW=>?_
 refine jv rfl (mg rfl (fun hb=>(aW.1 (zo rfl hb))) rfl) (z8 (zu rfl k (fun k=>?_) (fun k=>?_)));refine zi (zf d (zf (vi e) ?_));obtain⟨ab,k⟩:=zb k;refine tq (i:=e.toNat) rfl z9m rfl (s.mono a) (zg rfl ab.1) (zy ab) fun bt af=>?_
 refine z3s (i:=e.toNat) (j:=1) ty4 (s.mono a) rfl rfl af (zy ab) rfl (z0f.2 rfl) fun ag ah=>?_;refine z8 (zn (zf h (zf (vi e) (zf K ?_))));obtain⟨x,k⟩:=zb k;refine tq (i:=e.toNat) rfl zle rfl (M.mono a) (zg rfl x.1) (zy x) fun a5 ai=>?_
 refine z3s (i:=e.toNat) (j:=0) zet (M.mono a) rfl rfl ai (zy x) rfl (L.mono a) fun aj ak=>?_;refine z8 ?_;exact⟨dkt,a,jl,(((up H e ac),(up I e true)),aj,ag),trivial,prm,(Option.some.inj k).symm,ak,(t.trans List.length_set.symm),ah,(u.trans List.length_set.symm),trivial⟩;refine qa ?_
 exact⟨dkt,a,jl,((H,I),ad,ae),trivial,prm,(Option.some.inj k).symm,(M.mono a),t,(s.mono a),u,trivial⟩;rintro⟨O,aX,aY⟩ a6 bu y ⟨rfl,aZ,al,a0,am,_⟩;refine zn (zf K (je rfl z2j z3l rfl (h2.mono ((l.trans n).trans y)) fun a7 an=>?_));refine qh rfl ty3 rfl an fun a8 ao=>?_
 obtain rfl:=jg.1 ao;obtain⟨ap,aq,b⟩:=zq b;refine jd rfl q5g rfl (zd0 (L.mono y) aq) fun P a9 p ar=>?_;refine zh P (z8 ?_);exact⟨dkt,(y.trans p),jl,(G,ap,O.1,O.2,P,aX,aY),Nat.lt_succ_self _,⟨rfl,trivial⟩,prm,b,ar,(aZ.mono p),al,(a0.mono p),am,trivial⟩
 refine jk ?_;exact⟨dkt,(l.trans n),jl,((H,I),ad,ae),trivial,prm,(Option.some.inj b).symm,M,t,s,u,trivial⟩;rintro⟨q,bv,bw⟩ ba bx au ⟨rfl,a1,av,a2,aw,_⟩;refine zi (zf h (zf d (zh h (zh d (z8 (ow (i:=0) rfl a1 fun ax z ay=>?_))))))
 have az:VRep (tSl true (tSl false (qb .i64))) ax h q.1:=(z3a ay av);refine ow (i:=0) rfl (a2.mono z) fun aA C aB=>?_;have aC:VRep (tSl true xn) aA d q.2:=(z3a aB aw);refine ql ?_;obtain rfl:=Option.some.inj o
 refine q8 (D:=[]) (J:=[]) (rs:=[.tmp 4,.tmp 5]) (vs:=[h,d]) (((U.trans au).trans z).trans C) rfl rfl ⟨rfl,rfl,trivial⟩ ?_;exact⟨rfl,⟨h,d,rfl,(az.mono C),aC⟩⟩
theorem q8f:Enters prog 97:=enters_of func97 rfl (by kernel_rfl)
theorem zb1{N:Nat}{R:RH}{m:Mach}{b:Value}(c:VRep (jm false false) R b m){r:(List (List Int))×(List Bool)}(a:z08 N m=some r):CallP prog 83 #[b] R (fun v R'=> ∃ u0 j,v= .tuple #[u0,j]∧VRep (tSl true (tSl false (qb .i64))) R' u0 r.1∧VRep (tSl true xn) R' j r.2):=by
 refine qd (args:=[b]) func83 rfl rfl fun A=>?_;rw [z08] at a;refine zi (ky (T:=(jm false false)) rfl rfl rfl c fun p q d k s=>?_);refine zh vs0 (zh vs0 (qw (zk (jy z1b rfl rfl k (c.mono d)) ?_)));obtain⟨t,l,a⟩:=zq a
 refine jd rfl q8f rfl (zc2 (c.mono d) l) fun u n g o=>?_;obtain⟨e,f,rfl,h,i⟩:=o;refine zk (jc rfl rfl) (zk (jc rfl rfl) (zh e (zh f (z8 (ql ?_)))));obtain rfl:=Option.some.inj a
 refine q8 (D:=[]) (J:=[]) (rs:=[.tmp 2,.tmp 3]) (vs:=[e,f]) (d.trans g) rfl rfl ⟨rfl,rfl,trivial⟩ ?_;exact⟨rfl,⟨e,f,rfl,h,i⟩⟩
theorem q8m:Enters prog 83:=enters_of func83 rfl (by kernel_rfl)
theorem zck{N:Nat}{R:RH}{a:(List Int)}{f:Value}(l:VRep (tSl false (qb .i64)) R f a){b:(List Int)}{j:Value}(m:VRep (tSl false (qb .i64)) R j b){r:Int}(d:ay N a b=some r):CallP prog 84 #[f,j] R (fun v R'=>v=(vi r)):=by
 refine qd (args:=[f,j]) func84 rfl rfl fun A=>?_;rw [ay] at d;refine zi (zh (vi 0) (z8 (zw (zi (zf f (zk (qo rfl underlying32 rfl (ja l)) (zf j (zk (qo rfl underlying32 rfl (ja m)) (zk (pg rfl rfl) (z8 (zu rfl d (fun d=>?_) (fun d=>?_))))))))))))
 refine zw (zi (zf f (zk (qo rfl underlying32 rfl (ja l)) (zf j (zk (qo rfl underlying32 rfl (ja m)) (zk (j3 rfl rfl) (z8 (zu rfl d (fun d=>?_) (fun d=>?_)))))))));refine zi (zh (vi 1) (z8 (ql ?_)));obtain rfl:=Option.some.inj d
 refine q8 (D:=[]) (J:=[]) (rs:=[.tmp 4]) (vs:=[(vi 1)]) (RH.le.refl _) rfl rfl ⟨rfl,trivial⟩ ?_;exact⟨rfl,rfl⟩;refine qa (zi (zh (vi 0) (z8 (ql ?_))));obtain rfl:=Option.some.inj d;refine q8 (D:=[]) (J:=[]) (rs:=[.tmp 4]) (vs:=[(vi 0)]) (RH.le.refl _) rfl rfl ⟨rfl,trivial⟩ ?_;exact⟨rfl,rfl⟩;refine qa ?_
 obtain⟨u,c,d⟩:=zq d;refine qm (γ:=Unit) (rs [4,6,16,40]) (fun g=>[]) (fun g=>[]++A) (fun g R=>u=Ex.go g∧True) ?_ ?_
 refine zi (zh (vi 0) (z8 (zx (jb (γ:=Nat×Int) (rs [4,6,16,40]) (fun g=>[(5,(vi g.2))]) (fun g=>[]++A) (fun g R=>xw N a b g.1 g.2=some u∧True) (fun g=>g.1) (N,0) prm ⟨c,trivial⟩ ?_))));clear c;rintro⟨t,k⟩ E O e ⟨c,_⟩;rcases t with _|t;exact qp c
 replace c:xw N a b (t+1) k=some u:=c;rw [xw] at c;refine zw (zi (zf (vi k) (zf f (zk (qo rfl underlying32 rfl (ja (l.mono e))) (zk (j3 rfl rfl) (z8 (zu rfl c (fun c=>?_) (fun c=>?_))))))))
 refine qa (zw (zx (zw (z4r 9 mixed (by kernel_rfl) (by kernel_rfl) ?_))));refine wh (v:=f) (ze rfl) ?_;refine wh (v:=(vi k)) (ze rfl) ?_;obtain⟨o,c⟩:=zb c;refine z6v (fw (i:=k.toNat) z04 rfl (ja (l.mono e)) (zg rfl o.1) (zy o)) fun F w=>?_;refine wh (rq (gq ty3 rfl w)) ?_
 refine wh (v:=j) (ze rfl) ?_;refine wh (v:=(vi k)) (ze rfl) ?_;obtain⟨p,c⟩:=zb c;refine z6v (fw (i:=k.toNat) z04 rfl (ja (m.mono e)) (zg rfl p.1) (zy p)) fun G x=>?_;refine wh (rq (gq ty3 rfl x)) ?_;refine wh (pg rfl rfl) ?_;intro H h
 refine z8 (zu rfl c (fun c=>?_) (fun c=>?_));refine zw (zw (z4r 9 mixed (by kernel_rfl) (by kernel_rfl) ?_));refine wh (v:=f) (ze rfl) ?_;refine wh (v:=(vi k)) (ze rfl) ?_;obtain⟨q,c⟩:=zb c
 refine z6v (fw (i:=k.toNat) z04 rfl (ja (l.mono (e.trans h))) (zg rfl q.1) (zy q)) fun I y=>?_;refine wh (rq (gq ty3 rfl y)) ?_;refine wh (v:=j) (ze rfl) ?_;refine wh (v:=(vi k)) (ze rfl) ?_;obtain⟨s,c⟩:=zb c
 refine z6v (fw (i:=k.toNat) z04 rfl (ja (m.mono (e.trans h))) (zg rfl s.1) (zy s)) fun K z=>?_;refine wh (rq (gq ty3 rfl z)) ?_;refine wh (j3 rfl rfl) ?_;intro L n;refine z8 (zu rfl c (fun c=>?_) (fun c=>?_));refine zi (zh (vi 1) (z8 (ql ?_)));replace d:=z1i c d
 obtain rfl:=Option.some.inj d;refine q8 (D:=[]) (J:=[]) (rs:=[.tmp 4]) (vs:=[(vi 1)]) ((e.trans h).trans n) rfl rfl ⟨rfl,trivial⟩ ?_;exact⟨rfl,rfl⟩;refine qa (zi (zh (vi 0) (z8 (ql ?_))));replace d:=z1i c d;obtain rfl:=Option.some.inj d
 refine q8 (D:=[]) (J:=[]) (rs:=[.tmp 4]) (vs:=[(vi 0)]) ((e.trans h).trans n) rfl rfl ⟨rfl,trivial⟩ ?_;exact⟨rfl,rfl⟩;refine qa (zn (zf (vi k) ?_));obtain⟨B,c⟩:=zb c;refine zk (jh rfl rfl B) (zh (vi (k+1)) (z8 ?_))
 exact⟨dkt,h,jl,(t,k+1),Nat.lt_succ_self _,⟨rfl,trivial⟩,prm,c,trivial⟩;refine jk ?_;exact⟨dkt,e,jl,(),trivial,prm,(Option.some.inj c).symm,trivial⟩;rintro P M Q C ⟨rfl,_⟩;replace d:=z2x d;refine zi (zh (vi 0) (z8 (ql ?_)));obtain rfl:=Option.some.inj d
 refine q8 (D:=[]) (J:=[]) (rs:=[.tmp 4]) (vs:=[(vi 0)]) C rfl rfl ⟨rfl,trivial⟩ ?_;exact⟨rfl,rfl⟩
theorem q8j:Enters prog 84:=enters_of func84 rfl (by kernel_rfl)
theorem zbu{N:Nat}{R:RH}{m:Mach}{ah:Value}(ai:VRep (jm false false) R ah m){r:(List Int)}(H:z0p N m=some r):CallP prog 74 #[ah] R (fun v R'=>VRep (tSl false (qb .i64)) R' v r):=by
 refine qd (args:=[ah]) func74 rfl rfl fun A=>?_;rw [z0p] at H;refine zi (ky (T:=(jm false false)) rfl rfl rfl ai fun v1 R3 aj h5 h2=>?_);refine zh vs0 (qw (zk (jy z1b rfl rfl h5 (ai.mono aj)) ?_));obtain⟨U,c7,H⟩:=zq H
 refine jd rfl q8m rfl (zb1 (ai.mono aj) c7) fun v8 bv ar h9=>?_;obtain⟨C,ak,rfl,al,aV⟩:=h9;refine zf (.tuple #[C,ak]) (zk (jc rfl rfl) (zk (jc rfl rfl) (zh C (zh ak (qw (zh vs0 (z8 ?_)))))));obtain⟨K,n,H⟩:=zq H
 refine qm (γ:=(List Int)×Value×Frag) (rs [5,9,14,60]) (fun g=>[(5,g.2.1)]) (fun g=>[g.2.2]++A) (fun g R=>K=g.1∧ORep (qb .i64) R g.2.2 g.2.1 g.1∧True) ?_ ?_;refine zi (zh (vi 0) (z8 (zx (z3e ?_))))
 refine jb (γ:=Nat×(List Int)×Int×Value×Frag) (rs [5,9,14,60]) (fun g=>[(5,g.2.2.2.1),(6,(vi g.2.2.1))]) (fun g=>[g.2.2.2.2]++A) (fun g R=>yo N U g.1 g.2.1 g.2.2.1=some K∧ORep (qb .i64) R g.2.2.2.2 g.2.2.2.1 g.2.1∧True) (fun g=>g.1) (N,[],0,vs0,emp) prm ⟨n,(z09 (T:=(qb .i64))),trivial⟩ ?_;clear n
 rintro⟨M,a,d,q,O⟩ ba bx z ⟨n,I,_⟩;rcases M with _|M;exact qp n;replace n:yo N U (M+1) a d=some K:=n;rw [yo] at n
 refine zw (zi (zf (vi d) (zf C (zk (qo rfl underlying72 rfl (ja (al.mono z))) (zk (j3 rfl rfl) (z8 (zu rfl n (fun n=>?_) (fun n=>?_))))))));refine qa ?_;obtain⟨am,e,n⟩:=zq n
 refine qm (γ:=(List Int)×Value×Frag) (rs [5,6,7,9,20,60]) (fun g=>[(5,g.2.1)]) (fun g=>[g.2.2]++A) (fun g R=>am=g.1∧ORep (qb .i64) R g.2.2 g.2.1 g.1∧True) ?_ ?_;refine zx (zw (zi (zf ak (zf (vi d) ?_))));obtain⟨au,e⟩:=zb e
 refine kg (i:=d.toNat) rfl z9m rfl (ja (aV.mono z)) (zg rfl au.1) (zy au) fun bA aW=>?_;refine qh rfl ty4 rfl aW fun bB aX=>?_;obtain rfl:=z0f.1 aX;refine zk (z0g rfl) (z8 (zu rfl e (fun e=>?_) (fun e=>?_)));refine jk ?_
 exact⟨dkt,(RH.le.refl _),jl,(a,q,O),⟨rfl,trivial⟩,prm,(Option.some.inj e).symm,I,trivial⟩;refine qa (zi (zh (vi 0) (z8 ?_)));obtain⟨f,k,e⟩:=zq e;refine qm (γ:=Int) (rs [7,8,25,46]) (fun g=>[(7,(vi g))]) (fun g=>[O]++A) (fun g R=>f=g∧True) ?_ ?_
 refine zx (jb (γ:=Nat×Int) (rs [7,8,25,46]) (fun g=>[(7,(vi g.2))]) (fun g=>[O]++A) (fun g R=>yt N U a d g.1 g.2=some f∧True) (fun g=>g.1) (N,0) prm ⟨k,trivial⟩ ?_);clear k;rintro⟨P,b⟩ bb bC t ⟨k,_⟩;rcases P with _|P;exact qp k
 replace k:yt N U a d (P+1) b=some f:=k;rw [yt] at k;refine zw (zw ?_);obtain⟨an,av,aw,k⟩:=zzk k;obtain⟨L,aY,k⟩:=zq k
 refine mf 19 [] [phX (vi b),phX q,phX (vi (↑a.length:Int)),phX (.bool (decide (b<(↑a.length:Int)))),phX (.bool (decide (b<(↑a.length:Int)))),phG (true&&((decide (b<(↑a.length:Int)))==true)) (phX C),phG (true&&((decide (b<(↑a.length:Int)))==true)) (phX q),phG (true&&((decide (b<(↑a.length:Int)))==true)) (phX (vi b)),phG (true&&((decide (b<(↑a.length:Int)))==true)) ((fun u _=>z5e (qb .i64) q a u b.toNat)),phG (true&&((decide (b<(↑a.length:Int)))==true)) (phX (vi (ix a b))),phG (true&&((decide (b<(↑a.length:Int)))==true)) (phP (tSl false (qb .i64)) (ix U.1 (ix a b))),phG (true&&((decide (b<(↑a.length:Int)))==true)) (phR (tSl false (qb .i64)) (ix U.1 (ix a b))),phG (true&&((decide (b<(↑a.length:Int)))==true)) (phX C),phG (true&&((decide (b<(↑a.length:Int)))==true)) (phX (vi d)),phG (true&&((decide (b<(↑a.length:Int)))==true)) (phP (tSl false (qb .i64)) (ix U.1 d)),phG (true&&((decide (b<(↑a.length:Int)))==true)) (phR (tSl false (qb .i64)) (ix U.1 d)),phG (true&&((decide (b<(↑a.length:Int)))==true)) (phX (vi (L.getD default))),phG (true&&((decide (b<(↑a.length:Int)))==true)) (phX (.bool (decide ((L.getD default)=1)))),phX (.bool ((decide (b<(↑a.length:Int)))&&(decide ((L.getD default)=1))))] mixed (by kernel_rfl) (bu ⟨zt,zt,zt,zt,zt,(qy zt),(qy zt),(qy zt),(qy (fun _ _ _ _ h=>h)),(qy zt),(qy uo),(qy gu),(qy zt),(qy zt),(qy uo),(qy gu),(qy zt),(qy zt),zt,trivial⟩) ⟨?_,?_,?_,?_,?_,?_,?_,?_,?_,?_,?_,?_,?_,?_,?_,?_,?_,?_,?_,trivial⟩ fun bD V=>?_
 intro l bE c s hd;exact za rfl rfl rfl (zz (ze (s 7 rfl)));intro l bG c s hd;exact za rfl rfl rfl (zz (ze (s 5 rfl)));rintro l bH c s ⟨o,_⟩;exact za rfl rfl rfl (zz (z3j rfl underlying32 (o rfl) ((I.mono t).mono c)));rintro l bI c s ⟨o,x,_⟩;exact za rfl rfl rfl (zz (j3 (o rfl) (x rfl)))
 rintro l bJ c s ⟨o,_⟩;exact za rfl rfl rfl (zz (ze (o rfl)));rintro l bK c s ⟨o,_⟩;exact zm (Gj:=true) (Bj:=decide (b<(↑a.length:Int))) rfl rfl rfl (ku (o rfl)) rfl (fun w p=>zz (ze (s 3 rfl)));rintro l bL c s ⟨o,_⟩
 exact zm (Gj:=true) (Bj:=decide (b<(↑a.length:Int))) rfl rfl rfl (ku (o rfl)) rfl (fun w p=>zz (ze (s 5 rfl)));rintro l bM c s ⟨o,_⟩;exact zm (Gj:=true) (Bj:=decide (b<(↑a.length:Int))) rfl rfl rfl (ku (o rfl)) rfl (fun w p=>zz (ze (s 7 rfl)));rintro l bN c s ⟨o,x,d2,_⟩
 exact zm (Gj:=true) (Bj:=decide (b<(↑a.length:Int))) rfl rfl rfl (ku (d2 rfl)) rfl (fun w p=>zat (i:=b.toNat) z04 (show l 31=q from(o rfl).1 (zo rfl p)) ((I.mono t).mono c) (zg (show l 32=(vi b) from(x rfl).1 (zo rfl p)) (an (zo w p)).1) (zy (an (zo w p))));rintro l bO c s ⟨o,x,_⟩
 exact zm (Gj:=true) (Bj:=decide (b<(↑a.length:Int))) rfl rfl rfl (ku (x rfl)) rfl (fun w p=>gp (zzj (i:=b.toNat) (j:=0) ty3 ((I.mono t).mono c) rfl rfl ((o rfl).1 (zo rfl p)) (zy (an (zo w p)))) (fun _ _ h=>jg.1 h));rintro l bc c s ⟨o,x,d2,_⟩
 exact zm (Gj:=true) (Bj:=decide (b<(↑a.length:Int))) rfl rfl rfl (ku (d2 rfl)) rfl (fun w p=>wm (i:=(ix a b).toNat) zle (show l 30=C from(o rfl).1 (zo rfl p)) (ja ((al.mono (z.trans t)).mono c)) (zg (show l 34=(vi (ix a b)) from(x rfl).1 (zo rfl p)) (av (zo w p)).1) (zy (av (zo w p))))
 rintro l be c s ⟨o,x,_⟩;exact zm (Gj:=true) (Bj:=decide (b<(↑a.length:Int))) rfl rfl rfl (ku (x rfl)) rfl (fun w p=>jo zet rfl ((o rfl).1 (zo rfl p)));rintro l bf c s ⟨o,_⟩;exact zm (Gj:=true) (Bj:=decide (b<(↑a.length:Int))) rfl rfl rfl (ku (o rfl)) rfl (fun w p=>zz (ze (s 3 rfl)))
 rintro l bg c s ⟨o,_⟩;exact zm (Gj:=true) (Bj:=decide (b<(↑a.length:Int))) rfl rfl rfl (ku (o rfl)) rfl (fun w p=>zz (ze (s 6 rfl)));rintro l bh c s ⟨o,x,d2,_⟩
 exact zm (Gj:=true) (Bj:=decide (b<(↑a.length:Int))) rfl rfl rfl (ku (d2 rfl)) rfl (fun w p=>wm (i:=d.toNat) zle (show l 37=C from(o rfl).1 (zo rfl p)) (ja ((al.mono (z.trans t)).mono c)) (zg (show l 38=(vi d) from(x rfl).1 (zo rfl p)) (aw (zo w p)).1) (zy (aw (zo w p))))
 rintro l bi c s ⟨o,x,_⟩;exact zm (Gj:=true) (Bj:=decide (b<(↑a.length:Int))) rfl rfl rfl (ku (x rfl)) rfl (fun w p=>jo zet rfl ((o rfl).1 (zo rfl p)));rintro l bj c s ⟨o,x,d2,d3,_⟩
 exact zm (Gj:=true) (Bj:=decide (b<(↑a.length:Int))) rfl rfl rfl (ku (d2 rfl)) rfl (fun w p=>xk (vs:=[(l 36),(l 40)]) q8j rfl ((by have aZ:=(z3w aY (zo w p));exact zck ((o rfl).1 (zo rfl p)) ((x rfl).1 (zo rfl p)) aZ)) (fun _ _ h=>h));rintro l bk c s ⟨o,x,_⟩
 exact zm (Gj:=true) (Bj:=decide (b<(↑a.length:Int))) rfl rfl rfl (ku (x rfl)) rfl (fun w p=>zz (bz (show l 41=(vi (L.getD default)) from(o rfl).1 (zo rfl p)) rfl));rintro l bl c s ⟨o,x,_⟩
 exact za rfl rfl rfl (zz (mg (o rfl) (fun hb=>(show l 42=(.bool (decide ((L.getD default)=1))) from(x rfl).1 (zo rfl hb))) rfl));intro bQ a0 bR a1 bS a2 bT a3 bU a4 bV bW bX bY bZ b0 b1 b2 b3 b4 b5 b6 b7 b8 b9 ca cb cc cd ce cf cg ch ci cj ck cl a5;obtain rfl:=Eq.symm a0;obtain rfl:=Eq.symm a1;obtain rfl:=Eq.symm a2
 obtain rfl:=Eq.symm a3;obtain rfl:=Eq.symm a4;obtain rfl:=Eq.symm a5;refine z8 (zu rfl k (fun k=>?_) (fun k=>?_));refine qa (zx (zn (zf (vi b) ?_)));obtain⟨ax,k⟩:=zb k;refine zk (jh rfl rfl ax) (zh (vi (b+1)) (z8 ?_))
 exact⟨dkt,V,jl,(P,b+1),Nat.lt_succ_self _,⟨rfl,trivial⟩,prm,k,trivial⟩;refine jk ?_;exact⟨dkt,(t.trans V),jl,b,⟨rfl,trivial⟩,prm,(Option.some.inj k).symm,trivial⟩;rintro f bm cm W ⟨rfl,_⟩
 refine zi (zh vs0 (qw (zf vs0 (zf q (zf (vi f) (y5 (i:=0) rfl (I.mono W) fun Z ap ay=>?_))))));have E:VRep (tSl false (qb .i64)) Z q a:=(z5t ay);obtain⟨F,e⟩:=zb e
 refine zak (v:=q) (lo:=(0:Int).toNat) (hi:=f.toNat) (mx:=(capOf q)) rfl z04 rfl (ja E) (.inl ⟨rfl,rfl⟩) (.inr ⟨_,congrArg some (zg rfl (zj3 F))⟩) (.inl ⟨rfl,rfl⟩) (zmb F) (zbp F) (Nat.le_trans (zbp F) (zs7 (ja E))) (Nat.le_refl _) (X':=(cut a 0 f)) rfl fun az aA aT=>?_
 have aB:VRep (tSl false (qb .i64)) Z az (cut a 0 f):=z5t aA;refine zzh ?_;obtain⟨aa,e⟩:=zb e;refine dh (i:=0) (X:=([]:List Int)) (Y:=(cut a 0 f)) rfl underlying32 zo3 rfl rfl rfl (z09 (T:=(qb .i64))) (ja aB) aa.1 aa.2 fun ab bn aC=>?_
 refine zh ab (qw (zf ab (zf (vi d) (ol (T:=(qb .i64)) (X:=([d]:List Int)) (ps:=[(0,(vi d))]) (css:=[[(vi d)]]) rfl underlying32 zo3 rfl rfl (kv ⟨rfl,trivial⟩) rfl rfl (by decide) fun aD bo Q aE=>?_))));refine y5 (i:=0) rfl aE fun ac y aF=>?_
 have aG:VRep (tSl true (qb .i64)) ac aD ([d]:List Int):=(z3a aF Q);obtain⟨ad,e⟩:=zb e;refine dh (i:=0) (X:=(([]:List Int)++(cut a 0 f))) (Y:=([d]:List Int)) rfl underlying32 zo3 rfl rfl rfl (aC.mono y) (ja (Sub.v (B:=(tSl false (qb .i64))) (uf Sub.refl (fun _=>rfl)) aG)) ad.1 ad.2 fun ae bp aH=>?_
 refine zh ae (z8 (zn (zf ae (zf q (zf (vi f) ?_)))));obtain⟨G,e⟩:=zb e
 refine zak (v:=q) (lo:=f.toNat) (hi:=(↑a.length:Int).toNat) (mx:=(capOf q)) rfl z04 rfl (ja (E.mono y)) (.inr ⟨_,congrArg some (zg rfl G.1)⟩) (.inl ⟨rfl,rfl,rfl⟩) (.inl ⟨rfl,rfl⟩) (zmb G) (zbp G) (Nat.le_trans (zbp G) (zs7 (ja (E.mono y)))) (Nat.le_refl _) (X':=(cut a f (↑a.length:Int))) rfl fun aI aJ aU=>?_
 have aK:VRep (tSl false (qb .i64)) ac aI (cut a f (↑a.length:Int)):=z5t aJ;obtain⟨af,e⟩:=zb e;refine dh (i:=0) (X:=((([]:List Int)++(cut a 0 f))++([d]:List Int))) (Y:=(cut a f (↑a.length:Int))) rfl underlying32 zo3 rfl rfl rfl aH (ja aK) af.1 af.2 fun ag aL aM=>?_;refine zh ag (z8 ?_)
 exact⟨dkt,((W.trans ap).trans y),jl,((((([]:List Int)++(cut a 0 f))++([d]:List Int))++(cut a f (↑a.length:Int))),ag,aL),⟨rfl,trivial⟩,prm,(Option.some.inj e).symm,aM,trivial⟩;rintro⟨am,a6,a7⟩ bq cn aN ⟨rfl,a8,_⟩;refine zn (zf (vi d) ?_);obtain⟨aO,n⟩:=zb n
 refine zk (jh rfl rfl aO) (zh (vi (d+1)) (z8 ?_));exact⟨dkt,aN,jl,(M,am,d+1,a6,a7),Nat.lt_succ_self _,⟨rfl,rfl,trivial⟩,prm,n,a8,trivial⟩;refine jk ?_;exact⟨dkt,z,jl,(a,q,O),⟨rfl,trivial⟩,prm,(Option.some.inj n).symm,I,trivial⟩;rintro⟨K,S,co⟩ br cp aP ⟨rfl,a9,_⟩
 refine zi (zf S (zh S (z8 (ow (i:=0) rfl a9 fun aQ aq aR=>?_))));have aS:VRep (tSl false (qb .i64)) aQ S K:=(z5t aR);refine ql ?_;obtain rfl:=Option.some.inj H;refine q8 (D:=[]) (J:=[]) (rs:=[.tmp 2]) (vs:=[S]) (((aj.trans ar).trans aP).trans aq) rfl rfl ⟨rfl,trivial⟩ ?_;exact⟨rfl,aS⟩
theorem q7m:Enters prog 74:=enters_of func74 rfl (by kernel_rfl)
theorem z5z{N:Nat}{R:RH}{m:Mach}{O:Value}(p:VRep (jm false false) R O m){r:(List Int)}(j:sj N m=some r):CallP prog 53 #[O] R (fun v R'=>VRep (tSl false (qb .i64)) R' v r):=by
 refine qd (args:=[O]) func53 rfl rfl fun A=>?_;rw [sj] at j;refine zi (ky (T:=(jm false false)) rfl rfl rfl p fun v1 R3 q h5 h2=>?_);refine zh vs0 (qw (zk (jy z1b rfl rfl h5 (p.mono q)) ?_));obtain⟨y6,c7,j⟩:=zq j
 refine jd rfl q6f rfl (z5l (p.mono q) c7) fun v8 aQ o h9=>?_;refine zh v8 (qw (zk (jy z1b rfl rfl (h5.mono o) (p.mono (q.trans o))) ?_));obtain⟨e,ax,j⟩:=zq j;refine jd rfl q7m rfl (zbu (p.mono (q.trans o)) ax) fun s aR t C=>?_
 refine zh s (qw (zh vs0 (z8 ?_)));obtain⟨u,b,j⟩:=zq j;refine qm (γ:=(List Int)×Value×Frag) (rs [5,9,13,48]) (fun g=>[(5,g.2.1)]) (fun g=>[g.2.2]++A) (fun g R=>u=g.1∧ORep (qb .i64) R g.2.2 g.2.1 g.1∧True) ?_ ?_;refine zi (zh (vi 0) (z8 (zx (z3e ?_))))
 refine jb (γ:=Nat×(List Int)×Int×Value×Frag) (rs [5,9,13,48]) (fun g=>[(5,g.2.2.2.1),(6,(vi g.2.2.1))]) (fun g=>[g.2.2.2.2]++A) (fun g R=>vv N y6 e g.1 g.2.1 g.2.2.1=some u∧ORep (qb .i64) R g.2.2.2.2 g.2.2.2.1 g.2.1∧True) (fun g=>g.1) (N,[],0,vs0,emp) prm ⟨b,(z09 (T:=(qb .i64))),trivial⟩ ?_
 clear b;rintro⟨E,w,a,P,x⟩ aJ aS f ⟨b,Q,_⟩;rcases E with _|E;exact qp b;replace b:vv N y6 e (E+1) w a=some u:=b;rw [vv] at b
 refine zw (zi (zf (vi a) (zf s (zk (qo rfl underlying32 rfl (ja (C.mono f))) (zk (j3 rfl rfl) (z8 (zu rfl b (fun b=>?_) (fun b=>?_))))))));refine qa ?_;obtain⟨S,h,b⟩:=zq b
 refine qm (γ:=(List Int)×Value×Frag) (rs [5,6,7,9,19,48]) (fun g=>[(5,g.2.1)]) (fun g=>[g.2.2]++A) (fun g R=>S=g.1∧ORep (qb .i64) R g.2.2 g.2.1 g.1∧True) ?_ ?_;refine zx (zi (zh (vi 0) (z8 ?_)));obtain⟨y,c,h⟩:=zq h
 refine qm (γ:=Int) (rs [7,9,19,39]) (fun g=>[(7,(vi g))]) (fun g=>[x]++A) (fun g R=>y=g∧True) ?_ ?_
 refine zi (zh (vi 0) (z8 (zx (jb (γ:=Nat×Int×Int) (rs [7,9,19,39]) (fun g=>[(7,(vi g.2.1)),(8,(vi g.2.2))]) (fun g=>[x]++A) (fun g R=>vz N y6 e a g.1 g.2.1 g.2.2=some y∧True) (fun g=>g.1) (N,0,0) prm ⟨c,trivial⟩ ?_))));clear c;rintro⟨F,U,k⟩ aT aU l ⟨c,_⟩;rcases F with _|F
 exact qp c;replace c:vz N y6 e a (F+1) U k=some y:=c;rw [vz] at c;refine zw (zi (zf (vi k) (zf (vi a) (zk (j3 rfl rfl) (z8 (zu rfl c (fun c=>?_) (fun c=>?_)))))));refine qa ?_;obtain⟨V,d,c⟩:=zq c
 refine qm (γ:=Int) (rs [7,8,24,39]) (fun g=>[(7,(vi g))]) (fun g=>[x]++A) (fun g R=>V=g∧True) ?_ ?_;refine zx (zw (z4r 15 mixed (by kernel_rfl) (by kernel_rfl) ?_));refine wh (v:=v8) (ze rfl) ?_;refine wh (v:=s) (ze rfl) ?_;refine wh (v:=(vi k)) (ze rfl) ?_;obtain⟨Z,d⟩:=zb d
 refine z6v (fw (i:=k.toNat) z04 rfl (ja (C.mono (f.trans l))) (zg rfl Z.1) (zy Z)) fun aV ay=>?_;refine wh (rq (gq ty3 rfl ay)) ?_;obtain⟨aa,d⟩:=zb d;refine z6v (fw (i:=(ix e k).toNat) z04 rfl (ja (h9.mono ((t.trans f).trans l))) (zg rfl aa.1) (zy aa)) fun aW az=>?_
 refine wh (rq (gq ty3 rfl az)) ?_;refine wh (v:=v8) (ze rfl) ?_;refine wh (v:=s) (ze rfl) ?_;refine wh (v:=(vi a)) (ze rfl) ?_;obtain⟨ab,d⟩:=zb d;refine z6v (fw (i:=a.toNat) z04 rfl (ja (C.mono (f.trans l))) (zg rfl ab.1) (zy ab)) fun aX aA=>?_;refine wh (rq (gq ty3 rfl aA)) ?_
 obtain⟨ac,d⟩:=zb d;refine z6v (fw (i:=(ix e a).toNat) z04 rfl (ja (h9.mono ((t.trans f).trans l))) (zg rfl ac.1) (zy ac)) fun aY aB=>?_;refine wh (rq (gq ty3 rfl aB)) ?_;refine wh (bz rfl rfl) ?_;intro aZ I;refine z8 (zu rfl d (fun d=>?_) (fun d=>?_))
 refine zn (zh (vi 1) (z8 ?_));exact⟨dkt,I,jl,1,⟨rfl,trivial⟩,prm,(Option.some.inj d).symm,trivial⟩;refine qa ?_;exact⟨dkt,I,jl,U,⟨rfl,trivial⟩,prm,(Option.some.inj d).symm,trivial⟩;rintro V a0 a1 ad ⟨rfl,_⟩;refine zn (zf (vi k) ?_);obtain⟨aC,c⟩:=zb c
 refine zk (jh rfl rfl aC) (zh (vi (k+1)) (z8 ?_));exact⟨dkt,ad,jl,(F,V,k+1),Nat.lt_succ_self _,⟨rfl,rfl,trivial⟩,prm,c,trivial⟩;refine jk ?_;exact⟨dkt,l,jl,U,⟨rfl,trivial⟩,prm,(Option.some.inj c).symm,trivial⟩;rintro y a2 a3 n ⟨rfl,_⟩
 refine zi (zf (vi y) (zk (bz rfl rfl) (z8 (zu rfl h (fun h=>?_) (fun h=>?_)))));refine zn (zf P (zf s (zf (vi a) ?_)));obtain⟨K,h⟩:=zb h;refine kg (i:=a.toNat) rfl z04 rfl (ja (C.mono (f.trans n))) (zg rfl K.1) (zy K) fun aK ae=>?_
 refine qh rfl ty3 rfl ae fun aL af=>?_;obtain rfl:=jg.1 af;refine ol (T:=(qb .i64)) (X:=([(ix e a)]:List Int)) (ps:=[(0,(vi (ix e a)))]) (css:=[[(vi (ix e a))]]) rfl underlying32 zo3 rfl rfl (kv ⟨rfl,trivial⟩) rfl rfl (by decide) fun ag aM G ah=>?_;refine y5 (i:=0) rfl ah fun ai z aj=>?_
 have ak:VRep (tSl true (qb .i64)) ai ag ([(ix e a)]:List Int):=(z3a aj G);obtain⟨L,h⟩:=zb h;refine dh (i:=0) (X:=w) (Y:=([(ix e a)]:List Int)) rfl underlying32 zo3 rfl rfl rfl (Q.mono (n.trans z)) (ja (Sub.v (B:=(tSl false (qb .i64))) (uf Sub.refl (fun _=>rfl)) ak)) L.1 L.2 fun M al am=>?_
 refine zh M (z8 ?_);exact⟨dkt,(n.trans z),jl,((w++([(ix e a)]:List Int)),M,al),⟨rfl,trivial⟩,prm,(Option.some.inj h).symm,am,trivial⟩;refine qa ?_;exact⟨dkt,n,jl,(w,P,x),⟨rfl,trivial⟩,prm,(Option.some.inj h).symm,(Q.mono n),trivial⟩;rintro⟨S,aD,aE⟩ aN a4 an ⟨rfl,aF,_⟩
 refine zn (zf (vi a) ?_);obtain⟨ao,b⟩:=zb b;refine zk (jh rfl rfl ao) (zh (vi (a+1)) (z8 ?_));exact⟨dkt,an,jl,(E,S,a+1,aD,aE),Nat.lt_succ_self _,⟨rfl,rfl,trivial⟩,prm,b,aF,trivial⟩;refine jk ?_;exact⟨dkt,f,jl,(w,P,x),⟨rfl,trivial⟩,prm,(Option.some.inj b).symm,Q,trivial⟩
 rintro⟨u,H,a5⟩ aO a6 ap ⟨rfl,aG,_⟩;refine zi (zf H (zh H (z8 (ow (i:=0) rfl aG fun aq W ar=>?_))));have au:VRep (tSl false (qb .i64)) aq H u:=(z5t ar);refine ql ?_;obtain rfl:=Option.some.inj j
 refine q8 (D:=[]) (J:=[]) (rs:=[.tmp 2]) (vs:=[H]) ((((q.trans o).trans t).trans ap).trans W) rfl rfl ⟨rfl,trivial⟩ ?_;exact⟨rfl,au⟩
end GV
end Go.Proofs.Ytnnobdkjgafdmaa
