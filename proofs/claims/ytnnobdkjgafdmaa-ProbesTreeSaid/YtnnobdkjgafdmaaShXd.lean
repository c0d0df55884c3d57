import Derived.Test.YtnnobdkjgafdmaaShWe
import Derived.Test.YtnnobdkjgafdmaaShXb
import Derived.Test.YtnnobdkjgafdmaaShXc
import Derived.Test.YtnnobdkjgafdmaaRows
set_option linter.unusedVariables false
set_option linter.unusedSimpArgs false
set_option linter.unusedSectionVars false
namespace Go.Proofs.Ytnnobdkjgafdmaa
namespace GV
open _root_.Go.Proofs.Try
open Go.IntWalk
set_option maxRecDepth 100000
set_option maxHeartbeats 20000000
theorem qe8{a b:Bool}:TyOk prog 27 (z1x a b):=by
 obtain⟨i,hi,c⟩: ∃ i,prog.info? 27=some i∧i.size=5:=uz (by kernel_rfl);exact z2n underlying27 hi rfl c
theorem zwa:FieldOk prog 27 0 0:=by
 obtain⟨i,hi,a⟩: ∃ i,prog.info? 25=some i∧i.size=5:=uz (by kernel_rfl);exact au underlying27 rfl rfl hi (by rw [a];rfl)
theorem zwe:FieldOk prog 25 0 0:=by
 obtain⟨i,hi,a⟩: ∃ i,prog.info? 5=some i∧i.size=1:=uz (by kernel_rfl);exact au underlying25 rfl rfl hi (by rw [a];rfl)
theorem ag5: ∀ w,(isAgg 5).run prog w= .ok false w:=fun w=>by kernel_rfl
theorem sz5: ∀ w,(sizeOf 5).run prog w= .ok 1 w:=fun w=>by kernel_rfl
theorem qe6: ∀ w,(isAgg 25).run prog w= .ok true w:=fun w=>by kernel_rfl
theorem qe4: ∀ w,(sizeOf 25).run prog w= .ok 5 w:=fun w=>by kernel_rfl
theorem ty5:TyOk prog 5 (qb .u8):=by
 obtain⟨i,hi,a⟩: ∃ i,prog.info? 5=some i∧i.size=1:=uz (by kernel_rfl);exact z2n underlying5 hi rfl a
theorem q9k:FieldOk prog 25 1 1:=by
 obtain⟨i,hi,a⟩: ∃ i,prog.info? 5=some i∧i.size=1:=uz (by kernel_rfl);exact au underlying25 rfl rfl hi (by rw [a];rfl)
theorem q9i:FieldOk prog 25 2 2:=by
 obtain⟨i,hi,a⟩: ∃ i,prog.info? 5=some i∧i.size=1:=uz (by kernel_rfl);exact au underlying25 rfl rfl hi (by rw [a];rfl)
theorem q2k:FieldOk prog 25 4 4:=by
 obtain⟨i,hi,a⟩: ∃ i,prog.info? 23=some i∧i.size=1:=uz (by kernel_rfl);exact au underlying25 rfl rfl hi (by rw [a];rfl)
theorem qcf{a:Bool}:TyOk prog 23 (tSl a (qb .u16)):=by
 obtain⟨i,hi,b⟩: ∃ i,prog.info? 23=some i∧i.size=1:=uz (by kernel_rfl);exact z2n underlying23 hi rfl b
theorem qdg:SlOk prog 23 71 (qb .u16):=⟨underlying23,zzy⟩
theorem z8i{N:Nat}{R:RH}{d:(List Int)}{b:Value}(c:VRep (tSl false (qb .u16)) R b d){k:Int}{r:Int}(a:z0k N d k=some r):CallP prog 55 #[b,(vi k)] R (fun v R'=>v=(vi r)):=by
 refine qh (args:=[b,(vi k)]) func55 rfl rfl fun A=>?_;rw [z0k] at a;refine zk (zi (vi 0) (z8 (zt (zk (zh (vi k) (zh b (zl (qw rfl underlying23 rfl (ja c)) (zl (j6 rfl rfl) (z8 (zu rfl a (fun a=>?_) (fun a=>?_)))))))))));refine zk (zh b (zh (vi k) ?_))
 obtain⟨e,a⟩:=zb a;refine kg (i:=k.toNat) rfl qdg rfl (ja c) (zg rfl e.1) (zy e) fun j f=>?_;refine qj rfl zzy rfl f fun l g=>?_;obtain rfl:=j5.1 g;obtain⟨h,a⟩:=zb a;refine zl (z7f underlying71 underlying3 rfl h) (zi (vi (ix d k)) (z8 (qx ?_)));obtain rfl:=Option.some.inj a
 refine qd (D:=[]) (J:=[]) (rs:=[.tmp 4]) (vs:=[(vi (ix d k))]) (RH.le.refl _) rfl rfl ⟨rfl,trivial⟩ ?_;exact⟨rfl,rfl⟩;refine qa (zk (zi (vi 0) (z8 (qx ?_))));obtain rfl:=Option.some.inj a;refine qd (D:=[]) (J:=[]) (rs:=[.tmp 4]) (vs:=[(vi 0)]) (RH.le.refl _) rfl rfl ⟨rfl,trivial⟩ ?_;exact⟨rfl,rfl⟩
theorem qaq:Enters prog 55:=enters_of func55 rfl (by kernel_rfl)
theorem q4c:FieldOk prog 25 3 3:=by
 obtain⟨i,hi,a⟩: ∃ i,prog.info? 22=some i∧i.size=1:=uz (by kernel_rfl);exact au underlying25 rfl rfl hi (by rw [a];rfl)
theorem qay{a:Bool}:TyOk prog 22 (tSl a (qb .u8)):=by
 obtain⟨i,hi,b⟩: ∃ i,prog.info? 22=some i∧i.size=1:=uz (by kernel_rfl);exact z2n underlying22 hi rfl b
theorem qcx:SlOk prog 22 5 (qb .u8):=⟨underlying22,ty5⟩
theorem zu0:zad kEdge 0 (qb .i64) (fun(x:Edge) (y:Int)=>(⟨y,x.out⟩:Edge)):=qa9 zv5 (fun _ _=>rfl)
theorem zeg{N:Nat}{R:RH}{x:Sg}{bF:Value}(c7:VRep (aj false false) R bF x){r:Mach}(y:z3a N x=some r):CallP prog 30 #[bF] R (fun v R'=>VRep (jy false false) R' v r):=by
 refine qh (args:=[bF]) func30 rfl rfl fun A=>?_;rw [z3a] at y;refine zk (ug (T:=(aj false false)) rfl rfl rfl c7 fun v1 R3 c8 h5 h2=>?_);refine kv rfl ztb fun b6=>?_;refine j4 (je rfl zwe zef rfl h2 fun v8 h9=>?_);refine qj rfl ty5 rfl h9 fun f1 c9=>?_;obtain rfl:=j5.1 c9
 obtain⟨da,y⟩:=zb y;refine zl (z6w rfl rfl da) ?_;obtain⟨db,y⟩:=zb y;refine zl (z7f underlying5 underlying3 rfl db) ?_;obtain⟨dc,y⟩:=zb y;refine zl (jg rfl rfl dc) (zi (vi ((1:Int)+(x.fG%6))) (j4 (je rfl q9k zfa rfl h2 fun f2 dd=>?_)))
 refine qj rfl ty5 rfl dd fun f3 de=>?_;obtain rfl:=j5.1 de;obtain⟨df,y⟩:=zb y;refine zl (z6w rfl rfl df) ?_;obtain⟨dg,y⟩:=zb y;refine zl (z7f underlying5 underlying3 rfl dg) ?_;obtain⟨dh,y⟩:=zb y;refine zl (jg rfl rfl dh) (je rfl q9i zf9 rfl h2 fun f4 di=>?_)
 refine qj rfl ty5 rfl di fun f5 dj=>?_;obtain rfl:=j5.1 dj;obtain⟨dk,y⟩:=zb y;refine zl (z6w rfl rfl dk) ?_;obtain⟨dl,y⟩:=zb y;refine zl (z7f underlying5 underlying3 rfl dl) ?_;obtain⟨dm,y⟩:=zb y
 refine zl (jg rfl rfl dm) (zl (bg (ps:=[(0,(vi ((1:Int)+(x.fD%3)))),(1,(vi ((1:Int)+(x.fF%3))))]) (v:=(.agg #[(vi ((1:Int)+(x.fD%3))),(vi ((1:Int)+(x.fF%3))),vs0])) rfl (fun w=>by kernel_rfl)) (kv rfl ztb fun q=>?_))
 refine jr (i:=0) (vs:=[(vi ((1:Int)+(x.fD%3))),(vi ((1:Int)+(x.fF%3))),vs0]) z9z rfl rfl rfl rfl rfl rfl (qf rfl (qf rfl (qf rfl jv))) ?_;refine z8 ?_;obtain⟨aF,c,y⟩:=zo y
 refine qp (γ:=(List (List Edge))×Value×Frag) (rs [5,9,31,67]) (fun g=>[]) (fun g=>[box b6 [(vi 0),(vi 0),vs0] 30,box q [(vi ((1:Int)+(x.fD%3))),(vi ((1:Int)+(x.fF%3))),g.2.1] 30,g.2.2]++A) (fun g R=>aF=g.1∧NRep false kEdge R g.2.2 g.2.1 g.1∧True) ?_ ?_
 refine zk (zi (vi 0) (z8 (zx (z2l ?_))))
 refine jc (γ:=Nat×Int×(List (List Edge))×Value×Frag) (rs [5,9,31,67]) (fun g=>[(5,(vi g.2.1))]) (fun g=>[box b6 [(vi 0),(vi 0),vs0] 30,box q [(vi ((1:Int)+(x.fD%3))),(vi ((1:Int)+(x.fF%3))),g.2.2.2.1] 30,g.2.2.2.2]++A) (fun g R=>gy N x g.1 g.2.1 g.2.2.1=some aF∧NRep false kEdge R g.2.2.2.2 g.2.2.2.1 g.2.2.1∧True) (fun g=>g.1) (N,0,[],vs0,emp) ⟨[],(pk 2 rfl (pk 1 rfl (pk 0 rfl (List.Perm.refl _))))⟩ ⟨c,(ae (zuq (t:=false) (T:=kEdge) (R:=R3))),trivial⟩ ?_
 clear c;rintro⟨a9,ad,ba,bb,bc⟩ ej f6 bk ⟨c,⟨dp,bO⟩,_⟩;rcases a9 with _|a9;exact qo c;replace c:gy N x (a9+1) ad ba=some aF:=c;rw [gy] at c
 refine zt (zk (zh (vi ad) (zh (vi ((1:Int)+(x.fG%6))) (zl (j6 rfl rfl) (z8 (zu rfl c (fun c=>?_) (fun c=>?_)))))));refine qa (zt (zx (zk (zi vs0 (z8 ?_)))));obtain⟨aD,a,c⟩:=zo c
 refine qp (γ:=(List Edge)×Value×Frag) (rs [6,9,36,61]) (fun g=>[(6,g.2.1)]) (fun g=>[box b6 [(vi 0),(vi 0),vs0] 30,box q [(vi ((1:Int)+(x.fD%3))),(vi ((1:Int)+(x.fF%3))),bb] 30,bc,g.2.2]++A) (fun g R=>aD=g.1∧ORep kEdge R g.2.2 g.2.1 g.1∧True) ?_ ?_
 refine zk (zi (vi 0) (z8 (zx (z2l ?_))))
 refine jc (γ:=Nat×(List Edge)×Int×Value×Frag) (rs [6,9,36,61]) (fun g=>[(6,g.2.2.2.1),(7,(vi g.2.2.1))]) (fun g=>[box b6 [(vi 0),(vi 0),vs0] 30,box q [(vi ((1:Int)+(x.fD%3))),(vi ((1:Int)+(x.fF%3))),bb] 30,bc,g.2.2.2.2]++A) (fun g R=>dn N x ad g.1 g.2.1 g.2.2.1=some aD∧ORep kEdge R g.2.2.2.2 g.2.2.2.1 g.2.1∧True) (fun g=>g.1) (N,[],0,vs0,emp) ⟨[],(pk 1 rfl (pk 1 rfl (pk 1 rfl (pk 0 rfl (List.Perm.refl _)))))⟩ ⟨a,(lm (T:=kEdge)),trivial⟩ ?_
 clear a;rintro⟨be,bh,aE,bP,dq⟩ ek f7 bl ⟨a,bQ,_⟩;rcases be with _|be;exact qo a;replace a:dn N x ad (be+1) bh aE=some aD:=a;rw [dn] at a
 refine zt (zk (zh (vi aE) (zl (qg z4m rfl) (zl (qi (i:=1) ag3 rfl rfl rfl) (zl (j6 rfl rfl) (z8 (zu rfl a (fun a=>?_) (fun a=>?_))))))));refine qa (zt (zx (zk (je rfl q2k z9p rfl (h2.mono (bk.trans bl)) fun f8 dr=>?_))));refine qj rfl qcf rfl dr fun f9 ds=>?_
 refine zh (vi ad) (zl (qg z4m rfl) (zl (qi (i:=1) ag3 rfl rfl rfl) ?_));obtain⟨dt,a⟩:=zb a;refine zl (zqw rfl rfl dt) (zh (vi aE) ?_);obtain⟨du,a⟩:=zb a;refine zl (jg rfl rfl du) ?_;obtain⟨S,dv,a⟩:=zo a;refine jh rfl qaq rfl (z8i ds dv) fun ga gb bm dx=>?_
 obtain rfl:=dx;refine zi (vi S) (z8 ?_);obtain⟨dy,dA,a⟩:=q3m a;let G1:=([(⟨(-1),(S/((1:Int)+(x.fG%6)))%((1:Int)+(x.fF%3))⟩:Edge)]:List Edge)
 refine oh 9 [] [phX bP,phX (vi S),phX (vi ((1:Int)+(x.fG%6))),phX (vi (S/((1:Int)+(x.fG%6)))),phX (.pointer (some ⟨q,1,none⟩)),phX (vi ((1:Int)+(x.fF%3))),phX (vi ((S/((1:Int)+(x.fG%6)))%((1:Int)+(x.fF%3)))),phX (.agg #[(vi (-1)),(vi ((S/((1:Int)+(x.fG%6)))%((1:Int)+(x.fF%3))))]),phR (tSl true kEdge) G1] mixed (by kernel_rfl) (bi ⟨zq,zq,zq,zq,zq,zq,zq,zq,bf,trivial⟩) ⟨?_,?_,?_,?_,?_,?_,?_,?_,?_,trivial⟩ fun gc bn=>?_
 intro l dB n F hd;exact za rfl rfl rfl (q8 (zf (F 6 rfl)));intro l dC n F hd;exact za rfl rfl rfl (q8 (zf (F 8 rfl)));intro l dD n F hd;exact za rfl rfl rfl (q8 (zf (F 3 rfl)));rintro l dE n F ⟨O,d1,_⟩;exact za rfl rfl rfl (q8 (znl (O rfl) (d1 rfl) dy));intro l dF n F hd
 exact za rfl rfl rfl (q8 (qg zby (F 4 rfl)));rintro l dG n F ⟨O,_⟩;have bH:=O rfl;exact za rfl rfl rfl (q8 (qi (i:=1) ag3 bH rfl rfl));rintro l dH n F ⟨O,d1,_⟩;exact za rfl rfl rfl (q8 (z6w (O rfl) (d1 rfl) dA));rintro l dI n F ⟨O,_⟩
 have dJ:l 57=(vi ((S/((1:Int)+(x.fG%6)))%((1:Int)+(x.fF%3)))):=O rfl
 exact za rfl rfl rfl (q8 (bg (ps:=[(0,(vi (-1))),(1,(vi ((S/((1:Int)+(x.fG%6)))%((1:Int)+(x.fF%3)))))]) (v:=(.agg #[(vi (-1)),(vi ((S/((1:Int)+(x.fG%6)))%((1:Int)+(x.fF%3))))])) (by simp only [List.map,ev,dJ]<;>rfl) (fun w=>by kernel_rfl)));rintro l dK n F ⟨O,_⟩
 have dL:l 58=(.agg #[(vi (-1)),(vi ((S/((1:Int)+(x.fG%6)))%((1:Int)+(x.fF%3))))]):=O rfl
 exact za rfl rfl rfl (z5d (T:=kEdge) (X:=G1) (ps:=[(0,(.agg #[(vi (-1)),(vi ((S/((1:Int)+(x.fG%6)))%((1:Int)+(x.fF%3))))]))]) (css:=[[(vi (-1)),(vi ((S/((1:Int)+(x.fG%6)))%((1:Int)+(x.fF%3))))]]) underlying58 zui (by simp only [List.map,ev,dL]<;>rfl) rfl (ky ⟨⟨_,_,rfl,rfl,rfl⟩,trivial⟩) rfl rfl (by decide))
 intro ge dM gf dN gg dO gh dP gi dQ gj dR gk dS gl bR el bS;obtain rfl:=Eq.symm dM;obtain rfl:=Eq.symm dN;obtain rfl:=Eq.symm dO;obtain rfl:=Eq.symm dP;obtain rfl:=Eq.symm dQ;obtain rfl:=Eq.symm dR;obtain rfl:=Eq.symm dS;obtain rfl:=Eq.symm bR;obtain⟨bo,a⟩:=zb a
 refine pu (i:=3) (X:=bh) (Y:=G1) rfl underlying58 zui rfl rfl rfl (bQ.mono (bm.trans bn)) (ja (Sub.v (B:=(tSl false kEdge)) (uh Sub.refl (fun _=>rfl)) bS)) bo.1 bo.2 fun bp bT bU=>?_;refine zi bp (z8 (zm (zh (vi aE) ?_)));obtain⟨bV,a⟩:=zb a
 refine zl (jg rfl rfl bV) (zi (vi (aE+1)) (z8 ?_));exact⟨dkt,(bm.trans bn),jm,(be,(bh++G1),aE+1,bp,bT),Nat.lt_succ_self _,⟨rfl,rfl,trivial⟩,prm,a,bU,trivial⟩;refine jf ?_;exact⟨dkt,bl,jm,(bh,bP,dq),⟨rfl,trivial⟩,prm,(Option.some.inj a).symm,bQ,trivial⟩;rintro⟨aD,aH,bH⟩ em gm bq ⟨rfl,bI,_⟩
 refine zm (zl (qg xc rfl) (zl (qi (i:=1) zsk rfl rfl rfl) (zh aH (z2z rfl (z5d (T:=tHdr) (X:=[aH]) (ps:=[(0,aH)]) (css:=[[aH]]) underlying28 qbc rfl (by simp only [List.map_cons,List.map_nil,lw bI];rfl) (ky ⟨zr4 (z0w bI),trivial⟩) rfl rfl (by decide)) fun en eo au bW=>?_))))
 obtain⟨br,c⟩:=zb c
 refine zhs (Oc:=[bc,bH]) (Or:=[box b6 [(vi 0),(vi 0),vs0] 30,box q [(vi ((1:Int)+(x.fD%3))),(vi ((1:Int)+(x.fF%3))),bb] 30]++A) rfl (pk 2 rfl (pk 2 rfl (pk 0 rfl (pk 0 rfl (List.Perm.refl _))))) (zer underlying28 qbc rfl rfl (bO.mono (bq.trans au)) (bI.mono au) (ja bW) (fun e=>nomatch e) br.1 br.2) ?_
 rintro aI ep dT dU ⟨rfl,bs,rfl,af⟩;replace af:N2 false kEdge _ bs aI (dp++[aH]) (ba++[aD]):=af;refine zl (qg xc rfl) (jr (i:=2) (vs:=[aI]) qax rfl rfl (q54 af) rfl rfl rfl (qf (q4n af) jv) ?_);refine z8 (zm (zh (vi ad) ?_));obtain⟨bX,c⟩:=zb c
 refine zl (jg rfl rfl bX) (zi (vi (ad+1)) (z8 ?_));exact⟨dkt,(bq.trans au),jm,(a9,ad+1,(ba++[aD]),aI,bs),Nat.lt_succ_self _,⟨rfl,trivial⟩,⟨[],(pk 1 rfl (pk 1 rfl (pk 0 rfl (List.Perm.refl _))))⟩,c,(ae af),trivial⟩;refine jf ?_
 exact⟨dkt,bk,jm,(ba,bb,bc),trivial,prm,(Option.some.inj c).symm,(ae bO),trivial⟩;rintro⟨aF,o,dV⟩ eq gn aw ⟨rfl,⟨go,dW⟩,_⟩;obtain⟨ag,c,y⟩:=zo y
 refine qp (γ:=(List (List Edge))×Frag) (rs [9,13,67,137]) (fun g=>[]) (fun g=>[box b6 [(vi 0),(vi 0),vs0] 30,box q [(vi ((1:Int)+(x.fD%3))),(vi ((1:Int)+(x.fF%3))),o] 30,g.2]++A) (fun g R=>ag=g.1∧NRep false kEdge R g.2 o g.1∧True) ?_ ?_
 refine zk (zi (vi 1) (z8 (zx (jc (γ:=Nat×Int×(List (List Edge))×Frag) (rs [9,13,67,137]) (fun g=>[(9,(vi g.2.1))]) (fun g=>[box b6 [(vi 0),(vi 0),vs0] 30,box q [(vi ((1:Int)+(x.fD%3))),(vi ((1:Int)+(x.fF%3))),o] 30,g.2.2.2]++A) (fun g R=>dz N x g.1 g.2.1 g.2.2.1=some ag∧NRep false kEdge R g.2.2.2 o g.2.2.1∧True) (fun g=>g.1) (N,1,aF,dV) prm ⟨c,(ae dW),trivial⟩ ?_))))
 clear c;rintro⟨ax,s,I,Z⟩ er es av ⟨c,⟨ah,Q⟩,_⟩;rcases ax with _|ax;exact qo c;replace c:dz N x (ax+1) s I=some ag:=c;rw [dz] at c
 refine zt (zk (zh (vi s) (zh (vi ((1:Int)+(x.fG%6))) (zl (j6 rfl rfl) (z8 (zu rfl c (fun c=>?_) (fun c=>?_)))))));refine qa (zt (zx (zk (zi vs0 (z8 ?_)))));obtain⟨K,a,c⟩:=zo c
 refine qp (γ:=(List Int)×Value×Frag) (rs [10,12,72,100]) (fun g=>[(10,g.2.1)]) (fun g=>[box b6 [(vi 0),(vi 0),vs0] 30,box q [(vi ((1:Int)+(x.fD%3))),(vi ((1:Int)+(x.fF%3))),o] 30,Z,g.2.2]++A) (fun g R=>K=g.1∧ORep (qb .i64) R g.2.2 g.2.1 g.1∧True) ?_ ?_
 refine zk (zi (vi 0) (z8 (zx (z2l ?_))))
 refine jc (γ:=Nat×(List Int)×Int×Value×Frag) (rs [10,12,72,100]) (fun g=>[(10,g.2.2.2.1),(11,(vi g.2.2.1))]) (fun g=>[box b6 [(vi 0),(vi 0),vs0] 30,box q [(vi ((1:Int)+(x.fD%3))),(vi ((1:Int)+(x.fF%3))),o] 30,Z,g.2.2.2.2]++A) (fun g R=>yz N x s I g.1 g.2.1 g.2.2.1=some K∧ORep (qb .i64) R g.2.2.2.2 g.2.2.2.1 g.2.1∧True) (fun g=>g.1) (N,[],0,vs0,emp) ⟨[],(pk 1 rfl (pk 1 rfl (pk 1 rfl (pk 0 rfl (List.Perm.refl _)))))⟩ ⟨a,(lm (T:=(qb .i64))),trivial⟩ ?_
 clear a;rintro⟨ay,ak,f,aJ,az⟩ et eu U ⟨a,aK,_⟩;rcases ay with _|ay;exact qo a;replace a:yz N x s I (ay+1) ak f=some K:=a;rw [yz] at a;refine zt (zk (zh (vi f) (zh (vi s) (zl (qg z4m rfl) (zl (qi (i:=1) ag3 rfl rfl rfl) ?_)))))
 obtain⟨bY,a⟩:=zb a;refine zl (zqw rfl rfl bY) (zl (j6 rfl rfl) (z8 (zu rfl a (fun a=>?_) (fun a=>?_))));refine qa ?_;obtain⟨aL,p,a⟩:=zo a
 refine qp (γ:=(List Int)×Value×Frag) (rs [10,11,80,100]) (fun g=>[(10,g.2.1)]) (fun g=>[box b6 [(vi 0),(vi 0),vs0] 30,box q [(vi ((1:Int)+(x.fD%3))),(vi ((1:Int)+(x.fF%3))),o] 30,Z,g.2.2]++A) (fun g R=>aL=g.1∧ORep (qb .i64) R g.2.2 g.2.1 g.1∧True) ?_ ?_
 refine zx (zt (z4j 16 mixed (by kernel_rfl) (by kernel_rfl) ?_));refine uw (v:=(.pointer (some ⟨q,2,none⟩))) (qg xc rfl) ?_;refine uw (v:=o) (qi (i:=1) zsk rfl rfl rfl) ?_;refine uw (v:=(vi f)) (zf rfl) ?_;refine uw (v:=(.pointer (some ⟨q,0,none⟩))) (qg z4m rfl) ?_
 refine uw (v:=(vi ((1:Int)+(x.fD%3)))) (qi (i:=1) ag3 rfl rfl rfl) ?_;obtain⟨bZ,p⟩:=zb p;refine uw (znl rfl rfl bZ) ?_;obtain⟨al,p⟩:=zb p;refine z3n (zjv (i:=(f/((1:Int)+(x.fD%3))).toNat) (zbw (b:=true) zaq) rfl (Q.mono U) (zg rfl al.1) (zy al)) fun ew b0=>?_
 refine uw (v:=(ah.getD (f/((1:Int)+(x.fD%3))).toNat default)) (q9u (zm6 (i:=(f/((1:Int)+(x.fD%3))).toNat) (j:=2) (zb3 (b:=true) za8) (Q.mono U) rfl rfl b0 (zy al))) ?_;refine uw (v:=(vi f)) (zf rfl) ?_;refine uw (v:=(.pointer (some ⟨q,0,none⟩))) (qg z4m rfl) ?_
 refine uw (v:=(vi ((1:Int)+(x.fD%3)))) (qi (i:=1) ag3 rfl rfl rfl) ?_;obtain⟨b1,p⟩:=zb p;refine uw (z6w rfl rfl b1) ?_;obtain⟨aM,p⟩:=zb p
 refine z3n (zgh (i:=(f%((1:Int)+(x.fD%3))).toNat) (r:=(f/((1:Int)+(x.fD%3))).toNat) zb5 (Q.mono U) (zy al) rfl (zg rfl aM.1) (zy aM)) fun ex b2=>?_;refine z3n (zjq z0v rfl b2) fun b3 aN=>?_
 replace aN:za7 kEdge 0 (ah.getD (f/((1:Int)+(x.fD%3))).toNat default) (I.getD (f/((1:Int)+(x.fD%3))).toNat default) b3 (f%((1:Int)+(x.fD%3))).toNat:=aN
 refine uw (nz (zv1 (i:=(f%((1:Int)+(x.fD%3))).toNat) (r:=(f/((1:Int)+(x.fD%3))).toNat) (j:=2) ty3 zbb (Q.mono U) (zy al) rfl rfl aN (zy aM))) ?_;refine uw (j6 rfl rfl) ?_;intro ey ac;refine z8 (zu rfl p (fun p=>?_) (fun p=>?_))
 refine zm (zh aJ (zh (vi f) (sw (T:=(qb .i64)) (X:=([f]:List Int)) (ps:=[(0,(vi f))]) (css:=[[(vi f)]]) rfl underlying32 zo3 rfl rfl (ky ⟨rfl,trivial⟩) rfl rfl (by decide) fun b4 ez bj b5=>?_)));refine vo (i:=0) rfl b5 fun b7 aO b8=>?_
 have b9:VRep (tSl true (qb .i64)) b7 b4 ([f]:List Int):=(z3o b8 bj);obtain⟨bt,p⟩:=zb p;refine pu (i:=3) (X:=ak) (Y:=([f]:List Int)) rfl underlying32 zo3 rfl rfl rfl (aK.mono (ac.trans aO)) (ja (Sub.v (B:=(tSl false (qb .i64))) (uh Sub.refl (fun _=>rfl)) b9)) bt.1 bt.2 fun bu ca cb=>?_
 refine zi bu (z8 ?_);exact⟨dkt,(ac.trans aO),jm,((ak++([f]:List Int)),bu,ca),⟨rfl,trivial⟩,prm,(Option.some.inj p).symm,cb,trivial⟩;refine qa ?_;exact⟨dkt,ac,jm,(ak,aJ,az),⟨rfl,trivial⟩,prm,(Option.some.inj p).symm,(aK.mono ac),trivial⟩;rintro⟨aL,cc,aP⟩ eA eB bJ ⟨rfl,cd,_⟩
 refine zm (zh (vi f) ?_);obtain⟨ce,a⟩:=zb a;refine zl (jg rfl rfl ce) (zi (vi (f+1)) (z8 ?_));exact⟨dkt,bJ,jm,(ay,aL,f+1,cc,aP),Nat.lt_succ_self _,⟨rfl,rfl,trivial⟩,prm,a,cd,trivial⟩;refine jf ?_
 exact⟨dkt,U,jm,(ak,aJ,az),⟨rfl,trivial⟩,prm,(Option.some.inj a).symm,aK,trivial⟩;rintro⟨K,aQ,bv⟩ eC eD P ⟨rfl,am,_⟩;refine zk (zh aQ ?_);obtain⟨aR,c⟩:=zb c;refine ai (i:=(0:Int).toNat) rfl ic rfl am (zg rfl aR.1) (zy aR) fun eE cf=>?_
 refine z8p (i:=(0:Int).toNat) (j:=3) rfl ty3 am rfl rfl cf (zy aR) fun eF cg=>?_;obtain rfl:=j5.1 cg;refine zi (vi (ix K 0)) (z8 ?_);obtain⟨k,a,c⟩:=zo c
 refine qp (γ:=Int) (rs [12,13,103,122]) (fun g=>[(12,(vi g))]) (fun g=>[box b6 [(vi 0),(vi 0),vs0] 30,box q [(vi ((1:Int)+(x.fD%3))),(vi ((1:Int)+(x.fF%3))),o] 30,Z]++A) (fun g R=>k=g∧True) ?_ ?_;refine zk (zh (vi s) ?_);obtain⟨ch,a⟩:=zb a
 refine zl (z6q rfl rfl ch) (je rfl q4c z9s rfl (h2.mono ((aw.trans av).trans P)) fun eG ci=>?_);refine qj rfl qay rfl ci fun eH cj=>?_;refine zl (qw rfl underlying22 rfl (ja cj)) (zl (j6 rfl rfl) (z8 (zu rfl a (fun a=>?_) (fun a=>?_))))
 refine zm (zh aQ (je rfl q4c z9s rfl (h2.mono ((aw.trans av).trans P)) fun eI ck=>?_));refine qj rfl qay rfl ck fun eJ cl=>?_;refine zh (vi s) ?_;obtain⟨cm,a⟩:=zb a;refine zl (z6q rfl rfl cm) ?_;obtain⟨bw,a⟩:=zb a
 refine kg (i:=(s-1).toNat) rfl qcx rfl (ja cl) (zg rfl bw.1) (zy bw) fun eK cn=>?_;refine qj rfl ty5 rfl cn fun eL co=>?_;obtain rfl:=j5.1 co;obtain⟨cp,a⟩:=zb a;refine zl (z7f underlying5 underlying3 rfl cp) (zh aQ (zl (l6 rfl underlying32 rfl am) ?_))
 obtain⟨cq,a⟩:=zb a;refine zl (z6w rfl rfl cq) ?_;obtain⟨aS,a⟩:=zb a;refine ai (i:=((ix x.fH (s-1))%(↑K.length:Int)).toNat) rfl ic rfl am (zg rfl aS.1) (zy aS) fun eM cr=>?_
 refine z8p (i:=((ix x.fH (s-1))%(↑K.length:Int)).toNat) (j:=3) rfl ty3 am rfl rfl cr (zy aS) fun eN cs=>?_;obtain rfl:=j5.1 cs;refine zi (vi (ix K ((ix x.fH (s-1))%(↑K.length:Int)))) (z8 ?_)
 exact⟨dkt,(RH.le.refl _),jm,(ix K ((ix x.fH (s-1))%(↑K.length:Int))),⟨rfl,trivial⟩,⟨[bv],(pk 3 rfl (pk 0 rfl (pk 0 rfl (pk 0 rfl (List.Perm.refl _)))))⟩,(Option.some.inj a).symm,trivial⟩;refine qa ?_
 exact⟨dkt,(RH.le.refl _),jm,(ix K 0),⟨rfl,trivial⟩,⟨[bv],(pk 3 rfl (pk 0 rfl (pk 0 rfl (pk 0 rfl (List.Perm.refl _)))))⟩,(Option.some.inj a).symm,trivial⟩;rintro k eO eP V ⟨rfl,_⟩;refine z4j 15 mixed (by kernel_rfl) (by kernel_rfl) ?_;refine uw (v:=(.pointer (some ⟨q,2,none⟩))) (qg xc rfl) ?_
 refine uw (v:=o) (qi (i:=1) zsk rfl rfl rfl) ?_;refine uw (v:=(vi k)) (zf rfl) ?_;refine uw (v:=(.pointer (some ⟨q,0,none⟩))) (qg z4m rfl) ?_;refine uw (v:=(vi ((1:Int)+(x.fD%3)))) (qi (i:=1) ag3 rfl rfl rfl) ?_;obtain⟨ct,c⟩:=zb c;refine uw (znl rfl rfl ct) ?_
 obtain⟨an,c⟩:=zb c;refine z3n (zjv (i:=(k/((1:Int)+(x.fD%3))).toNat) (zbw (b:=true) zaq) rfl (Q.mono (P.trans V)) (zg rfl an.1) (zy an)) fun eQ cu=>?_
 refine uw (v:=(ah.getD (k/((1:Int)+(x.fD%3))).toNat default)) (q9u (zm6 (i:=(k/((1:Int)+(x.fD%3))).toNat) (j:=2) (zb3 (b:=true) za8) (Q.mono (P.trans V)) rfl rfl cu (zy an))) ?_;refine uw (v:=(vi k)) (zf rfl) ?_;refine uw (v:=(.pointer (some ⟨q,0,none⟩))) (qg z4m rfl) ?_
 refine uw (v:=(vi ((1:Int)+(x.fD%3)))) (qi (i:=1) ag3 rfl rfl rfl) ?_;obtain⟨cv,c⟩:=zb c;refine uw (z6w rfl rfl cv) ?_;refine uw (v:=(vi s)) (zf rfl) ?_;obtain⟨aT,c⟩:=zb c
 refine z3n (zgh (i:=(k%((1:Int)+(x.fD%3))).toNat) (r:=(k/((1:Int)+(x.fD%3))).toNat) zb5 (Q.mono (P.trans V)) (zy an) rfl (zg rfl aT.1) (zy aT)) fun eR cw=>?_;refine z3n (zjq z0v rfl cw) fun bx aU=>?_
 replace aU:za7 kEdge 0 (ah.getD (k/((1:Int)+(x.fD%3))).toNat default) (I.getD (k/((1:Int)+(x.fD%3))).toNat default) bx (k%((1:Int)+(x.fD%3))).toNat:=aU;intro eS aV
 refine zca (Oc:=[Z]) (Or:=[box b6 [(vi 0),(vi 0),vs0] 30,box q [(vi ((1:Int)+(x.fD%3))),(vi ((1:Int)+(x.fF%3))),o] 30]++A) (pk 2 rfl (pk 0 rfl (pk 0 rfl (List.Perm.refl _)))) (zke (i:=(k%((1:Int)+(x.fD%3))).toNat) (r:=(k/((1:Int)+(x.fD%3))).toNat) (u:=bx) zu0 ty3 (Q.mono ((P.trans V).trans aV)) (zy an) rfl aU (zy aT) rfl (j5.2 rfl)) ?_
 rintro eT eU dX dY ⟨rfl,bz,rfl,aW⟩;replace aW:N2 false kEdge _ bz o ah (up I (k/((1:Int)+(x.fD%3))) (up (ix I (k/((1:Int)+(x.fD%3)))) (k%((1:Int)+(x.fD%3))) (⟨s,(ix (ix I (k/((1:Int)+(x.fD%3)))) (k%((1:Int)+(x.fD%3)))).out⟩:Edge))):=aW
 refine z8 (zm (zh (vi s) ?_));obtain⟨cx,c⟩:=zb c;refine zl (jg rfl rfl cx) (zi (vi (s+1)) (z8 ?_))
 exact⟨dkt,((P.trans V).trans aV),jm,(ax,s+1,(up I (k/((1:Int)+(x.fD%3))) (up (ix I (k/((1:Int)+(x.fD%3)))) (k%((1:Int)+(x.fD%3))) (⟨s,(ix (ix I (k/((1:Int)+(x.fD%3)))) (k%((1:Int)+(x.fD%3)))).out⟩:Edge))),bz),Nat.lt_succ_self _,⟨rfl,trivial⟩,⟨[],(pk 1 rfl (pk 1 rfl (pk 0 rfl (List.Perm.refl _))))⟩,c,(ae aW),trivial⟩
 refine jf ?_;exact⟨dkt,av,jm,(I,Z),trivial,prm,(Option.some.inj c).symm,(ae Q),trivial⟩;rintro⟨ag,cy⟩ eV eW aX ⟨rfl,⟨eX,cz⟩,_⟩;obtain⟨aa,c,y⟩:=zo y
 refine qp (γ:=(List (List Edge))×Frag) (rs [13,15,137,177]) (fun g=>[]) (fun g=>[box b6 [(vi 0),(vi 0),vs0] 30,box q [(vi ((1:Int)+(x.fD%3))),(vi ((1:Int)+(x.fF%3))),o] 30,g.2]++A) (fun g R=>aa=g.1∧NRep false kEdge R g.2 o g.1∧True) ?_ ?_
 refine zk (zi (vi 0) (z8 (zx (jc (γ:=Nat×Int×(List (List Edge))×Frag) (rs [13,15,137,177]) (fun g=>[(13,(vi g.2.1))]) (fun g=>[box b6 [(vi 0),(vi 0),vs0] 30,box q [(vi ((1:Int)+(x.fD%3))),(vi ((1:Int)+(x.fF%3))),o] 30,g.2.2.2]++A) (fun g R=>dw N x g.1 g.2.1 g.2.2.1=some aa∧NRep false kEdge R g.2.2.2 o g.2.2.1∧True) (fun g=>g.1) (N,0,ag,cy) prm ⟨c,(ae cz),trivial⟩ ?_))))
 clear c;rintro⟨aA,d,aY,bA⟩ eY eZ aZ ⟨c,⟨e0,bB⟩,_⟩;rcases aA with _|aA;exact qo c;replace c:dw N x (aA+1) d aY=some aa:=c;rw [dw] at c
 refine zt (zk (zh (vi d) (zh (vi ((1:Int)+(x.fG%6))) (zl (j6 rfl rfl) (z8 (zu rfl c (fun c=>?_) (fun c=>?_)))))));refine qa ?_;obtain⟨ao,a,c⟩:=zo c
 refine qp (γ:=(List (List Edge))×Frag) (rs [14,15,142,177]) (fun g=>[]) (fun g=>[box b6 [(vi 0),(vi 0),vs0] 30,box q [(vi ((1:Int)+(x.fD%3))),(vi ((1:Int)+(x.fF%3))),o] 30,g.2]++A) (fun g R=>ao=g.1∧NRep false kEdge R g.2 o g.1∧True) ?_ ?_
 refine zx (zk (zi (vi 0) (z8 (zx (jc (γ:=Nat×Int×(List (List Edge))×Frag) (rs [14,15,142,177]) (fun g=>[(14,(vi g.2.1))]) (fun g=>[box b6 [(vi 0),(vi 0),vs0] 30,box q [(vi ((1:Int)+(x.fD%3))),(vi ((1:Int)+(x.fF%3))),o] 30,g.2.2.2]++A) (fun g R=>yx N x d g.1 g.2.1 g.2.2.1=some ao∧NRep false kEdge R g.2.2.2 o g.2.2.1∧True) (fun g=>g.1) (N,0,aY,bA) prm ⟨a,(ae bB),trivial⟩ ?_)))))
 clear a;rintro⟨aB,m,E,a0⟩ e1 e2 a1 ⟨a,⟨W,M⟩,_⟩;rcases aB with _|aB;exact qo a;replace a:yx N x d (aB+1) m E=some ao:=a;rw [yx] at a
 refine zt (zk (zh (vi m) (zl (qg z4m rfl) (zl (qi (i:=1) ag3 rfl rfl rfl) (zl (j6 rfl rfl) (z8 (zu rfl a (fun a=>?_) (fun a=>?_))))))));refine qa ?_;obtain⟨a2,p,a⟩:=zo a
 refine qp (γ:=(List (List Edge))×Frag) (rs [148,177]) (fun g=>[]) (fun g=>[box b6 [(vi 0),(vi 0),vs0] 30,box q [(vi ((1:Int)+(x.fD%3))),(vi ((1:Int)+(x.fF%3))),o] 30,g.2]++A) (fun g R=>a2=g.1∧NRep false kEdge R g.2 o g.1∧True) ?_ ?_
 refine zx (zk (zl (qg xc rfl) (zl (qi (i:=1) zsk rfl rfl rfl) (zh (vi d) ?_))));obtain⟨ap,p⟩:=zb p;refine z2z rfl (z8y (i:=d.toNat) (zbw (b:=true) zaq) rfl M (zg rfl ap.1) (zy ap)) fun e3 e4 z cA=>?_
 refine z2z rfl (zc9 (i:=d.toNat) (j:=2) (zb3 (b:=true) za8) (M.mono z) rfl rfl cA (zy ap)) fun e5 e6 C cB=>?_;obtain rfl:=Eq.symm cB;refine zh (vi m) ?_;obtain⟨a3,p⟩:=zb p
 refine z2z rfl (zd6 (i:=m.toNat) (r:=d.toNat) zb5 (M.mono (z.trans C)) (zy ap) rfl (zg rfl a3.1) (zy a3)) fun e7 e8 G cC=>?_;refine z2z rfl (zfr z0v rfl cC) fun cD e9 H a4=>?_;replace a4:za7 kEdge 0 (W.getD d.toNat default) (E.getD d.toNat default) cD m.toNat:=a4
 refine z2z rfl (yf (zur (i:=m.toNat) (r:=d.toNat) (j:=2) ty3 zbb (M.mono (((z.trans C).trans G).trans H)) (zy ap) rfl rfl a4 (zy a3)) (fun _ _ h=>j5.1 h)) fun fa fb L cE=>?_;obtain rfl:=Eq.symm cE;refine zl (j6 rfl rfl) (z8 (zu rfl p (fun p=>?_) (fun p=>?_)))
 obtain⟨aq,cF,cG,p⟩:=q3j p;obtain⟨aC,cH,p⟩:=zo p;obtain⟨cI,a5,p⟩:=q3m p
 refine oh 19 [] [phX (.pointer (some ⟨q,2,none⟩)),phX o,phX (vi d),(fun u _=>z5s tHdr o W u d.toNat),phX (W.getD d.toNat default),phX (vi m),phP (tSl false (qb .u16)) x.fJ,phR (tSl false (qb .u16)) x.fJ,phX (vi d),phX (.pointer (some ⟨q,0,none⟩)),phX (vi ((1:Int)+(x.fD%3))),phX (vi (d*((1:Int)+(x.fD%3)))),phX (vi m),phX (vi ((d*((1:Int)+(x.fD%3)))+m)),phX (vi aC),phX (vi ((1:Int)+(x.fG%6))),phX (vi (aC%((1:Int)+(x.fG%6)))),(fun u _=>z5s kEdge (W.getD d.toNat default) (E.getD d.toNat default) u m.toNat),(fun u _=>za7 kEdge 0 (W.getD d.toNat default) (E.getD d.toNat default) u m.toNat)] mixed (by kernel_rfl) (bi ⟨zq,zq,zq,(fun _ _ _ _ h=>h),zq,zq,uf,bf,zq,zq,zq,zq,zq,zq,zq,zq,zq,(fun _ _ _ _ h=>h),(fun _ _ _ _ h=>h),trivial⟩) ⟨?_,?_,?_,?_,?_,?_,?_,?_,?_,?_,?_,?_,?_,?_,?_,?_,?_,?_,?_,trivial⟩ fun fc a6=>?_
 intro l dB n F hd;exact za rfl rfl rfl (q8 (qg xc (F 4 rfl)));rintro l dC n F ⟨O,_⟩;exact za rfl rfl rfl (q8 (qi (i:=1) zsk (O rfl) rfl rfl));intro l dD n F hd;exact za rfl rfl rfl (q8 (zf (F 13 rfl)));rintro l dE n F ⟨O,d1,_⟩
 exact za rfl rfl rfl (z8y (i:=d.toNat) (zbw (b:=true) zaq) (O rfl) ((M.mono ((((z.trans C).trans G).trans H).trans L)).mono n) (zg (d1 rfl) aq.1) (zy aq));rintro l dF n F ⟨O,_⟩
 exact za rfl rfl rfl (zc9 (i:=d.toNat) (j:=2) (zb3 (b:=true) za8) ((M.mono ((((z.trans C).trans G).trans H).trans L)).mono n) rfl rfl (O rfl) (zy aq));intro l dG n F hd;exact za rfl rfl rfl (q8 (zf (F 14 rfl)));intro l dH n F hd
 exact za rfl rfl rfl (yt q2k z9p (F 1 rfl) ((h2.mono ((((((((aw.trans aX).trans aZ).trans a1).trans z).trans C).trans G).trans H).trans L)).mono n));rintro l dI n F ⟨O,_⟩;exact za rfl rfl rfl (jo qcf rfl (O rfl));intro l dK n F hd;exact za rfl rfl rfl (q8 (zf (F 13 rfl)))
 intro l gp n F hd;exact za rfl rfl rfl (q8 (qg z4m (F 4 rfl)));rintro l fd n F ⟨O,_⟩;exact za rfl rfl rfl (q8 (qi (i:=1) ag3 (O rfl) rfl rfl));rintro l fe n F ⟨O,d1,_⟩;exact za rfl rfl rfl (q8 (zqw (O rfl) (d1 rfl) cF));intro l ff n F hd;exact za rfl rfl rfl (q8 (zf (F 14 rfl)))
 rintro l fg n F ⟨O,d1,_⟩;exact za rfl rfl rfl (q8 (jg (O rfl) (d1 rfl) cG));rintro l fh n F ⟨O,d1,_⟩;have aP:l 171=(vi ((d*((1:Int)+(x.fD%3)))+m)):=d1 rfl
 exact za rfl rfl rfl (pg (vs:=[(l 165),(vi ((d*((1:Int)+(x.fD%3)))+m))]) qaq (by simp only [List.map,ev,aP]<;>rfl) (z8i (O rfl) cH) (fun _ _ h=>h));intro l fi n F hd;exact za rfl rfl rfl (q8 (zf (F 3 rfl)));rintro l fj n F ⟨O,d1,_⟩
 exact za rfl rfl rfl (q8 (z6w (O rfl) (d1 rfl) cI));rintro l fk n F ⟨O,d1,d2,d3,d4,d5,d6,d7,d8,d9,dZ,ea,eb,ec,ed,ee,ef,eg,gz,_⟩;have az:=O rfl
 exact za rfl rfl rfl (zd6 (i:=m.toNat) (r:=d.toNat) zb5 ((M.mono ((((z.trans C).trans G).trans H).trans L)).mono n) (zy aq) az (zg (d1 rfl) a5.1) (zy a5));rintro l fl n F ⟨O,d1,d2,d3,d4,d5,d6,d7,d8,d9,dZ,ea,eb,ec,ed,ee,ef,eg,_⟩;exact za rfl rfl rfl (zfr z0v rfl (O rfl))
 intro fm cJ fn cK fo cL fp fq fr cM fs cN ft fu fv fw fx cO fy cP fz cQ fA cR fB cS fC cT fE cU fI cV fK cW fL fM bC a7;obtain rfl:=Eq.symm cJ;obtain rfl:=Eq.symm cK;obtain rfl:=Eq.symm cL;obtain rfl:=Eq.symm cM;obtain rfl:=Eq.symm cN;obtain rfl:=Eq.symm cO;obtain rfl:=Eq.symm cP
 obtain rfl:=Eq.symm cQ;obtain rfl:=Eq.symm cR;obtain rfl:=Eq.symm cS;obtain rfl:=Eq.symm cT;obtain rfl:=Eq.symm cU;obtain rfl:=Eq.symm cV;obtain rfl:=Eq.symm cW;replace a7:za7 kEdge 0 (W.getD d.toNat default) (E.getD d.toNat default) bC m.toNat:=a7
 refine zca (Oc:=[a0]) (Or:=[box b6 [(vi 0),(vi 0),vs0] 30,box q [(vi ((1:Int)+(x.fD%3))),(vi ((1:Int)+(x.fF%3))),o] 30]++A) (pk 2 rfl (pk 0 rfl (pk 0 rfl (List.Perm.refl _)))) (zke (i:=m.toNat) (r:=d.toNat) (u:=bC) zu0 ty3 (M.mono (((((z.trans C).trans G).trans H).trans L).trans a6)) (zy aq) rfl a7 (zy a5) rfl (j5.2 rfl)) ?_
 rintro fN fO eh ei ⟨rfl,bD,rfl,a8⟩;replace a8:N2 false kEdge _ bD o W (up E d (up (ix E d) m (⟨aC%((1:Int)+(x.fG%6)),(ix (ix E d) m).out⟩:Edge))):=a8;refine z8 ?_
 exact⟨dkt,(((((z.trans C).trans G).trans H).trans L).trans a6),jm,((up E d (up (ix E d) m (⟨aC%((1:Int)+(x.fG%6)),(ix (ix E d) m).out⟩:Edge))),bD),trivial,⟨[],(pk 1 rfl (pk 1 rfl (pk 0 rfl (List.Perm.refl _))))⟩,(Option.some.inj p).symm,(ae a8),trivial⟩;refine qa ?_
 exact⟨dkt,((((z.trans C).trans G).trans H).trans L),jm,(E,a0),trivial,prm,(Option.some.inj p).symm,(ae (M.mono ((((z.trans C).trans G).trans H).trans L))),trivial⟩;rintro⟨a2,cX⟩ fP fQ bK ⟨rfl,⟨fR,cY⟩,_⟩;refine zm (zh (vi m) ?_);obtain⟨cZ,a⟩:=zb a
 refine zl (jg rfl rfl cZ) (zi (vi (m+1)) (z8 ?_));exact⟨dkt,bK,jm,(aB,m+1,a2,cX),Nat.lt_succ_self _,⟨rfl,trivial⟩,prm,a,(ae cY),trivial⟩;refine jf ?_;exact⟨dkt,a1,jm,(E,a0),trivial,prm,(Option.some.inj a).symm,(ae M),trivial⟩;rintro⟨ao,c0⟩ fS fT bL ⟨rfl,⟨fU,c1⟩,_⟩
 refine zm (zh (vi d) ?_);obtain⟨c2,c⟩:=zb c;refine zl (jg rfl rfl c2) (zi (vi (d+1)) (z8 ?_));exact⟨dkt,bL,jm,(aA,d+1,ao,c0),Nat.lt_succ_self _,⟨rfl,trivial⟩,prm,c,(ae c1),trivial⟩;refine jf ?_
 exact⟨dkt,aZ,jm,(aY,bA),trivial,prm,(Option.some.inj c).symm,(ae bB),trivial⟩;rintro⟨aa,fV⟩ fW fX bM ⟨rfl,⟨fY,bE⟩,_⟩
 refine zk (zl (ui (i:=1) zf8 z9z rfl rfl rfl rfl) (jr (i:=0) (vs:=[(vi ((1:Int)+(x.fD%3))),(vi ((1:Int)+(x.fF%3))),o]) z9z rfl rfl rfl rfl rfl rfl (qf rfl (qf rfl (qf (q4n bE) jv))) ?_));refine z8 (zgr (i:=2) rfl (ae bE) fun c3 bN c4=>?_)
 have c5:VRep (tSl false (tSl false kEdge)) c3 o aa:=(z5v c4);refine qx ?_;obtain rfl:=Option.some.inj y
 refine qd (D:=[]) (J:=[box b6 [(vi ((1:Int)+(x.fD%3))),(vi ((1:Int)+(x.fF%3))),o] 30,box q [(vi ((1:Int)+(x.fD%3))),(vi ((1:Int)+(x.fF%3))),o] 30]) (rs:=[.cell 2 30]) (vs:=[(.agg #[(vi ((1:Int)+(x.fD%3))),(vi ((1:Int)+(x.fF%3))),o])]) ((((c8.trans aw).trans aX).trans bM).trans bN) rfl rfl ⟨⟨_,rfl,fun w hh=>z0z (i:=0) hh rfl rfl zf8 z9z rfl rfl⟩,trivial⟩ ?_
 exact⟨rfl,(⟨_,⟨_,_,rfl,rfl,⟨_,_,rfl,rfl,(u6 rfl c5)⟩⟩,rfl⟩:VRep (jy false false) _ _ (⟨(1:Int)+(x.fD%3),(1:Int)+(x.fF%3),aa⟩:Mach))⟩
theorem qcz:Enters prog 30:=enters_of func30 rfl (by kernel_rfl)
theorem q7z:Enters prog 105:=enters_of func105 rfl (by kernel_rfl)
theorem zbe{N:Nat}(F:Nat): ∀ {R:RH} {m:Mach} {d:Value} (j:VRep (jy false false) R d m) {s:Int} {n:(List Int)} {c:Value} (g:VRep (tSl false (qb .i64)) R c n) {r:Int} (b:sj N F m s n=some r),CallP prog 105 #[d,(vi s),c] R (fun v R'=>v=(vi r)):=by
  induction F with
  |zero=>intros;rename_i b;exact qo b
  |succ F ih=>
    intro R m d j s n c g r b
    refine qh (args:=[d,(vi s),c]) func105 rfl rfl fun A=>?_
    rw [sj] at b
    refine zt ?_
    refine zm ?_
    refine ug (T:=(jy false false)) rfl rfl rfl j fun v1 R3 e h5 h2=>?_
    refine zi (vi 0) ?_
    refine z8 ?_
    refine zt ?_
    refine zt ?_
    refine zm ?_
    refine zh c ?_
    refine zl (qw rfl underlying32 rfl (ja (g.mono e))) ?_
    refine zl (yu rfl rfl) ?_
    refine z8 ?_
    refine zu rfl b (fun b=>?_) (fun b=>?_)
    · refine zt ?_
      refine zm ?_
      refine zh (vi s) ?_
      refine zi (vi s) ?_
      refine z8 ?_
      refine qx ?_
      obtain rfl:=Option.some.inj b
      refine qd (D:=[]) (J:=[]) (rs:=[.tmp 6]) (vs:=[(vi s)]) e rfl rfl ⟨rfl,trivial⟩ ?_
      exact⟨rfl,rfl⟩
    · refine qa ?_
      refine zt ?_
      obtain⟨g7,b⟩:=zb b
      obtain⟨q,c9,b⟩:=zo b
      obtain⟨o,b⟩:=zb b
      obtain⟨p,B,b⟩:=zo b
      refine oh 12 [] [phX d,phX d,phX (vi s),phX c,phP (qb .i64) (ix n 0),phX (vi (ix n 0)),phX (z0l q),phX (vi q.to),phX c,phR (tSl false (qb .i64)) (cut n 1 (↑n.length:Int)),phX (vi p),phX (vi p)] mixed (by kernel_rfl) (bi ⟨zq,zq,zq,zq,uf,zq,zq,zq,zq,bf,zq,zq,trivial⟩) ⟨?_,?_,?_,?_,?_,?_,?_,?_,?_,?_,?_,?_,trivial⟩ fun al t=>?_
      · intro l am a f x
        have C:l 3=v1:=f 3 rfl
        exact za rfl rfl rfl (q8 (u7 z2i rfl C (h5.mono a) ((j.mono e).mono a)))
      · intro l an a f x
        have C:l 3=v1:=f 3 rfl
        exact za rfl rfl rfl (q8 (u7 z2i rfl C (h5.mono a) ((j.mono e).mono a)))
      · intro l ao a f x
        have a1:l 1=(vi s):=f 1 rfl
        exact za rfl rfl rfl (q8 (zf a1))
      · intro l aq a f x
        have E:l 2=c:=f 2 rfl
        exact za rfl rfl rfl (q8 (zf E))
      · rintro l ar a f ⟨k,_⟩
        have G:=k rfl
        exact za rfl rfl rfl (uj (i:=(0:Int).toNat) ic G (ja ((g.mono e).mono a)) (zg rfl g7.1) (zy g7))
      · rintro l au a f ⟨k,_⟩
        have H:=k rfl
        exact za rfl rfl rfl (yf (jo ty3 rfl H) (fun _ _ h=>j5.1 h))
      · rintro l av a f ⟨k,y,z,_⟩
        have I:l 12=d:=k rfl
        have K:l 13=(vi s):=y rfl
        have L:l 16=(vi (ix n 0)):=z rfl
        exact za rfl rfl rfl (pg (vs:=[d,(vi s),(vi (ix n 0))]) qek (by simp only [List.map,ev,I,K,L]<;>rfl) (zee ((j.mono e).mono a) c9) (fun _ _ h=>h))
      · rintro l aw a f ⟨k,_⟩
        have M:=k rfl
        exact za rfl rfl rfl (q8 (q0k (v:=(z0l q)) (u:=(vi q.to)) M (fun w=>by kernel_rfl)))
      · intro l ax a f x
        have E:l 2=c:=f 2 rfl
        exact za rfl rfl rfl (q8 (zf E))
      · rintro l ay a f ⟨k,_⟩
        have O:=k rfl
        exact za rfl rfl rfl (q0l (lo:=(1:Int).toNat) (hi:=(↑n.length:Int).toNat) (mx:=(capOf c)) (X':=(cut n 1 (↑n.length:Int))) ic O (ja ((g.mono e).mono a)) (.inr ⟨_,congrArg some (zg rfl o.1)⟩) (.inl ⟨rfl,rfl,rfl⟩) (.inl ⟨rfl,rfl⟩) (zlr o) (zbk o) (fun h=>Nat.le_trans (zbk o) h) (fun _=>Nat.le_refl _) rfl)
      · rintro l ai a f ⟨k,y,z,d3,_⟩
        have P:l 11=d:=k rfl
        have Q:l 18=(vi q.to):=y rfl
        have S:=z rfl
        exact za rfl rfl rfl (pg (vs:=[d,(vi q.to),(l 20)]) q7z (by simp only [List.map,ev,P,Q]<;>rfl) (ih ((j.mono e).mono a) S B) (fun _ _ h=>h))
      · rintro l aj a f ⟨k,y,z,d3,d4,d5,d6,d7,d8,d9,aA,aB,aC,_⟩
        have U:=k rfl
        exact za rfl rfl rfl (q8 (l9 U))
      intro aD V
      intro aE W
      intro aF X
      intro aG Y
      intro aH aI
      intro aJ Z
      intro aK aa
      intro aL ab
      intro aM ac
      intro aN aO
      intro aP ad
      intro aQ ae
      obtain rfl:=Eq.symm V
      obtain rfl:=Eq.symm W
      obtain rfl:=Eq.symm X
      obtain rfl:=Eq.symm Y
      obtain rfl:=Eq.symm Z
      obtain rfl:=Eq.symm aa
      obtain rfl:=Eq.symm ab
      obtain rfl:=Eq.symm ac
      obtain rfl:=Eq.symm ad
      obtain rfl:=Eq.symm ae
      refine z8 ?_
      refine qx ?_
      obtain rfl:=Option.some.inj b
      refine qd (D:=[]) (J:=[]) (rs:=[.tmp 6]) (vs:=[(vi p)]) (e.trans t) rfl rfl ⟨rfl,trivial⟩ ?_
      exact⟨rfl,rfl⟩
theorem zea{N:Nat}{R:RH}{m:Mach}{b:Value}(d:VRep (jy false false) R b m){s:Int}{f:(List Int)}{a:Value}(c:VRep (tSl false (qb .i64)) R a f){r:Int}(e:sj N N m s f=some r):CallP prog 105 #[b,(vi s),a] R (fun v R'=>v=(vi r)):=zbe N d c e
theorem zf4{N:Nat}{R:RH}{w:(List Int)}{e:Value}(x:VRep (tSl false (qb .i64)) R e w){inputs:Int}{r:(List Int)}(c:z1f N w inputs=some r):CallP prog 104 #[e,(vi inputs)] R (fun v R'=>VRep (tSl false (qb .i64)) R' v r):=by
 refine qh (args:=[e,(vi inputs)]) func104 rfl rfl fun A=>?_;rw [z1f] at c;refine zk (zi vs0 (j4 (sw (T:=(qb .i64)) (X:=([]:List Int)) (ps:=[]) (css:=[]) rfl underlying32 zo3 rfl rfl (ky trivial) rfl rfl (by decide) fun v1 f2 ao h4=>?_)));refine zh e ?_;obtain⟨g6,c⟩:=zb c
 refine pu (i:=0) (X:=([]:List Int)) (Y:=w) rfl underlying32 zo3 rfl rfl rfl h4 (ja x) g6.1 g6.2 fun f f8 h9=>?_;refine zi f (z8 ?_);obtain⟨n,a,c⟩:=zo c;refine qp (γ:=(List Int)×Frag) (rs [4,5,6,7,10,34]) (fun g=>[]) (fun g=>[g.2]++A) (fun g R=>n=Ex.go g.1∧ORep (qb .i64) R g.2 f g.1∧True) ?_ ?_
 refine zk (zh f (zl (l6 rfl underlying32 rfl h9) ?_));obtain⟨G,a⟩:=zb a
 refine zl (z6q rfl rfl G) (zi (vi ((↑(([]:List Int)++w).length:Int)-1)) (z8 (zx (jc (γ:=Nat×Int×(List Int)×Frag) (rs [4,5,6,7,13,34]) (fun g=>[(6,(vi g.2.1))]) (fun g=>[g.2.2.2]++A) (fun g R=>gz N inputs g.1 g.2.1 g.2.2.1=some n∧ORep (qb .i64) R g.2.2.2 f g.2.2.1∧True) (fun g=>g.1) (N,(↑(([]:List Int)++w).length:Int)-1,(([]:List Int)++w),f8) prm ⟨a,h9,trivial⟩ ?_))))
 clear a;rintro⟨k,b,h,H⟩ av aw l ⟨a,d,_⟩;rcases k with _|k;exact qo a;replace a:gz N inputs (k+1) b h=some n:=a;rw [gz] at a;refine zt (zk (zh (vi b) (zl (z2a rfl rfl) (z8 (zu rfl a (fun a=>?_) (fun a=>?_))))))
 refine qa (zt (zx (zt (zk (zh f (zh (vi b) ?_))))));obtain⟨o,a⟩:=zb a;refine ai (i:=b.toNat) rfl ic rfl d (zg rfl o.1) (zy o) fun ax I=>?_;refine z8p (i:=b.toNat) (j:=0) rfl ty3 d rfl rfl I (zy o) fun ay K=>?_;obtain rfl:=j5.1 K;obtain⟨L,a⟩:=zb a
 refine zl (jg rfl rfl L) (zh (vi inputs) (zl (j6 rfl rfl) (z8 (zu rfl a (fun a=>?_) (fun a=>?_)))));refine zk (zh f (zh (vi b) ?_));obtain⟨p,a⟩:=zb a;refine ai (i:=b.toNat) rfl ic rfl d (zg rfl p.1) (zy p) fun az M=>?_
 refine z8p (i:=b.toNat) (j:=0) rfl ty3 d rfl rfl M (zy p) fun aA O=>?_;obtain rfl:=j5.1 O;obtain⟨P,a⟩:=zb a;refine zl (jg rfl rfl P) ?_;obtain⟨q,a⟩:=zb a;refine ai (i:=b.toNat) rfl ic rfl d (zg rfl q.1) (zy q) fun aB Q=>?_
 refine z1y (i:=b.toNat) (j:=0) ty3 d rfl rfl Q (zy q) rfl (j5.2 rfl) fun aC S=>?_;refine j4 (zh f (zi f (z8 (il (i:=0) rfl S fun U y V=>?_))));have W:VRep (tSl false (qb .i64)) U f (up h b ((ix h b)+1)):=(z5v V);refine qx ?_;replace c:=z2q a c;obtain rfl:=Option.some.inj c
 refine qd (D:=[]) (J:=[]) (rs:=[.tmp 4]) (vs:=[f]) (l.trans y) rfl rfl ⟨rfl,trivial⟩ ?_;exact⟨rfl,W⟩;refine qa (zm (zh f (zh (vi b) ?_)));obtain⟨s,a⟩:=zb a;refine ai (i:=b.toNat) rfl ic rfl d (zg rfl s.1) (zy s) fun aD Z=>?_
 refine z1y (i:=b.toNat) (j:=0) ty3 d rfl rfl Z (zy s) rfl (j5.2 rfl) fun aa ab=>?_;refine z8 (zm (zh (vi b) ?_));obtain⟨ac,a⟩:=zb a;refine zl (z6q rfl rfl ac) (zi (vi (b-1)) (z8 ?_))
 exact⟨dkt,(RH.le.refl _),jm,(k,b-1,(up h b 0),aa),Nat.lt_succ_self _,⟨rfl,trivial⟩,prm,a,ab,trivial⟩;refine jf ?_;exact⟨dkt,l,jm,(h,H),trivial,prm,(Option.some.inj a).symm,d,trivial⟩;rintro⟨z,aE⟩ aF aG C ⟨rfl,ad,_⟩;replace c:=z4h c
 refine zk (zh f (sw (T:=(qb .i64)) (X:=([0]:List Int)) (ps:=[(0,(vi 0))]) (css:=[[(vi 0)]]) rfl underlying32 zo3 rfl rfl (ky ⟨rfl,trivial⟩) rfl rfl (by decide) fun ae aH t af=>?_));refine vo (i:=0) rfl af fun ag m ah=>?_;have aj:VRep (tSl true (qb .i64)) ag ae ([0]:List Int):=(z3o ah t)
 obtain⟨E,c⟩:=zb c;refine pu (i:=0) (X:=z) (Y:=([0]:List Int)) rfl underlying32 zo3 rfl rfl rfl (ad.mono m) (ja (Sub.v (B:=(tSl false (qb .i64))) (uh Sub.refl (fun _=>rfl)) aj)) E.1 E.2 fun u aI ak=>?_;refine zi u (z8 (il (i:=0) rfl ak fun al F am=>?_))
 have an:VRep (tSl false (qb .i64)) al u (z++([0]:List Int)):=(z5v am);refine qx ?_;obtain rfl:=Option.some.inj c;refine qd (D:=[]) (J:=[]) (rs:=[.tmp 4]) (vs:=[u]) ((C.trans m).trans F) rfl rfl ⟨rfl,trivial⟩ ?_;exact⟨rfl,an⟩
theorem qb2:Enters prog 104:=enters_of func104 rfl (by kernel_rfl)
theorem ze5{N:Nat}{R:RH}{m:Mach}{Q:Value}(S:VRep (jy false false) R Q m){f:Int}{r:(List (List Int))×(List Bool)}(o:z10 N m f=some r):CallP prog 97 #[Q,(vi f)] R (fun v R'=> ∃ u0 u1,v= .tuple #[u0,u1]∧VRep (tSl true (tSl false (qb .i64))) R' u0 r.1∧VRep (tSl true pq) R' u1 r.2):=by
 refine qh (args:=[Q,(vi f)]) func97 rfl rfl fun A=>?_;rw [z10] at o;refine zk (ug (T:=(jy false false)) rfl rfl rfl S fun v1 R3 U h5 h2=>?_);refine zi vs0 (zi vs0 (j4 (je rfl xc uy rfl h2 fun v6 h7=>?_)));refine qj rfl z3p rfl h7 fun v8 h9=>?_
 refine zl (qw rfl underlying28 rfl (ja h9)) ?_;obtain⟨E,o⟩:=zb o;refine z7y (T:=(tSl false (qb .i64))) (m:=(↑m.rows.length:Int).toNat) (c:=(↑m.rows.length:Int).toNat) rfl underlying72 q4g (zg rfl E.1) (zg rfl E.1) (Nat.le_refl _) (zdv E) (zdy E) fun h aF V aG=>?_
 refine zi h (j4 (je rfl xc uy rfl h2 fun bg aH=>?_));refine qj rfl z3p rfl aH fun bh aI=>?_;refine zl (qw rfl underlying28 rfl (ja aI)) ?_;obtain⟨F,o⟩:=zb o
 refine z7y (T:=pq) (m:=(↑m.rows.length:Int).toNat) (c:=(↑m.rows.length:Int).toNat) rfl underlying117 zo4 (zg rfl F.1) (zg rfl F.1) (Nat.le_refl _) (zdv F) (zdy F) fun d aJ W aK=>?_;refine zi d (z8 ?_);obtain⟨q,b,o⟩:=zo o
 refine qp (γ:=(List (List Int)×List Bool)×Frag×Frag) (rs [8,10,18,49]) (fun g=>[]) (fun g=>[g.2.1,g.2.2]++A) (fun g R=>q=g.1∧ORep (tSl false (qb .i64)) R g.2.1 h g.1.1∧capOf h=g.1.1.length∧ORep pq R g.2.2 d g.1.2∧capOf d=g.1.2.length∧True) ?_ ?_
 refine zk (sw (T:=(qb .i64)) (X:=([]:List Int)) (ps:=[]) (css:=[]) rfl underlying32 zo3 rfl rfl (ky trivial) rfl rfl (by decide) fun Y bi Z aL=>?_);refine zi Y (z8 (zx (il (i:=0) rfl aL fun aM l aN=>?_)));have aO:VRep (tSl true (qb .i64)) aM Y ([]:List Int):=(z3o aN Z)
 refine jc (γ:=Nat×((List Int))×(List (List Int))×(List Bool)×Value×Frag×Frag) (rs [8,10,19,49]) (fun g=>[(8,g.2.2.2.2.1)]) (fun g=>[g.2.2.2.2.2.1,g.2.2.2.2.2.2]++A) (fun g R=>yg N m f g.1 g.2.1 g.2.2.1 g.2.2.2.1=some q∧VRep (tSl false (qb .i64)) R g.2.2.2.2.1 g.2.1∧ORep (tSl false (qb .i64)) R g.2.2.2.2.2.1 h g.2.2.1∧capOf h=g.2.2.1.length∧ORep pq R g.2.2.2.2.2.2 d g.2.2.2.1∧capOf d=g.2.2.2.1.length∧True) (fun g=>g.1) (N,[],(mk (↑m.rows.length:Int) ([]:List Int)),(mk (↑m.rows.length:Int) false),Y,aF,aJ) ⟨[],(pk 1 rfl (pk 0 rfl (List.Perm.refl _)))⟩ ⟨b,(Sub.v (B:=(tSl false (qb .i64))) (uh Sub.refl (fun _=>rfl)) aO),(aG.mono l),(V.trans List.length_replicate.symm),(aK.mono l),(W.trans List.length_replicate.symm),trivial⟩ ?_
 clear b;rintro⟨G,ac,H,I,K,ad,ae⟩ a5 bj n ⟨b,L,M,t,s,u,_⟩;rcases G with _|G;exact qo b;replace b:yg N m f (G+1) ac H I=some q:=b;rw [yg] at b
 refine zt (zk (zh K (zl (qw rfl underlying32 rfl (ja L)) (je rfl xc uy rfl (h2.mono (l.trans n)) fun bk aP=>?_))));refine qj rfl z3p rfl aP fun bl aQ=>?_;refine zl (qw rfl underlying28 rfl (ja aQ)) (zl (j6 rfl rfl) (z8 (zu rfl b (fun b=>?_) (fun b=>?_))));refine qa ?_
 obtain⟨O,k,b⟩:=zo b;refine qp (γ:=(List (List Int)×List Bool)×Frag×Frag) (rs [9,10,29,49]) (fun g=>[]) (fun g=>[g.2.1,g.2.2]++A) (fun g R=>O=g.1∧ORep (tSl false (qb .i64)) R g.2.1 h g.1.1∧capOf h=g.1.1.length∧ORep pq R g.2.2 d g.1.2∧capOf d=g.1.2.length∧True) ?_ ?_
 refine zx (zk (zl (u7 z2i rfl rfl (h5.mono (l.trans n)) (S.mono ((U.trans l).trans n))) (zh (vi f) (zh K ?_))));obtain⟨e,aR,k⟩:=zo k;refine jh rfl q7z rfl (zea (S.mono ((U.trans l).trans n)) L aR) fun bm bn a aS=>?_;obtain rfl:=aS
 refine zi (vi e) (j4 (jq (v:=(vi e)) rfl (zf rfl) (jq rfl (z2a rfl rfl) (jq (v:=(.bool (decide (0≤e)))) rfl (zf rfl) (qz rfl rfl rfl rfl (fun w=>ql (v:=d) (zf rfl)) fun bo aT=>?_)))));refine qz rfl rfl rfl rfl (fun w=>ql (v:=(vi e)) (zf rfl)) fun bp aU=>?_;obtain⟨aa,k⟩:=zb k
 refine qz rfl rfl rfl rfl (fun w=>z4r (i:=e.toNat) zbl (aT.1 (zn rfl w)) (s.mono a) (zg (aU.1 (zn rfl w)) (aa (zn rfl w)).1) (zy (aa (zn rfl w)))) fun bq aV=>?_
 refine qz rfl rfl rfl rfl (fun w=>ql (zqq (zay (i:=e.toNat) (j:=1) ty4 (s.mono a) rfl rfl (aV.1 (zn rfl w)) (zy (aa (zn rfl w)))))) fun br aW=>?_;refine qz rfl rfl rfl rfl (fun w=>ql (z0r (aW.1 (zn rfl w)))) fun bs aX=>?_
 refine jq rfl (ny rfl (fun hb=>(aX.1 (zn rfl hb))) rfl) (z8 (zu rfl k (fun k=>?_) (fun k=>?_)));refine zk (zh d (zh (vi e) ?_));obtain⟨ab,k⟩:=zb k;refine ai (i:=e.toNat) rfl zbl rfl (s.mono a) (zg rfl ab.1) (zy ab) fun bu af=>?_
 refine z1y (i:=e.toNat) (j:=1) ty4 (s.mono a) rfl rfl af (zy ab) rfl (z11.2 rfl) fun ag ah=>?_;refine z8 (zm (zh h (zh (vi e) (zh K ?_))));obtain⟨x,k⟩:=zb k;refine ai (i:=e.toNat) rfl zo0 rfl (M.mono a) (zg rfl x.1) (zy x) fun a6 aj=>?_
 refine z1y (i:=e.toNat) (j:=0) zcb (M.mono a) rfl rfl aj (zy x) rfl (L.mono a) fun ak al=>?_;refine z8 ?_;exact⟨dkt,a,jm,(((up H e ac),(up I e true)),ak,ag),trivial,prm,(Option.some.inj k).symm,al,(t.trans List.length_set.symm),ah,(u.trans List.length_set.symm),trivial⟩;refine qa ?_
 exact⟨dkt,a,jm,((H,I),ad,ae),trivial,prm,(Option.some.inj k).symm,(M.mono a),t,(s.mono a),u,trivial⟩;rintro⟨O,aY,aZ⟩ a7 bv y ⟨rfl,a0,am,a1,an,_⟩;refine zm (zh K (je rfl z4m z5g rfl (h2.mono ((l.trans n).trans y)) fun a8 ao=>?_));refine qj rfl ty3 rfl ao fun a9 ap=>?_
 obtain rfl:=j5.1 ap;obtain⟨aq,ar,b⟩:=zo b;refine jh rfl qb2 rfl (zf4 (L.mono y) ar) fun P ba p au=>?_;refine zi P (z8 ?_);exact⟨dkt,(y.trans p),jm,(G,aq,O.1,O.2,P,aY,aZ),Nat.lt_succ_self _,⟨rfl,trivial⟩,prm,b,au,(a0.mono p),am,(a1.mono p),an,trivial⟩
 refine jf ?_;exact⟨dkt,(l.trans n),jm,((H,I),ad,ae),trivial,prm,(Option.some.inj b).symm,M,t,s,u,trivial⟩;rintro⟨q,bw,bx⟩ bb bz av ⟨rfl,a2,aw,a3,ax,_⟩;refine zk (zh h (zh d (zi h (zi d (z8 (il (i:=0) rfl a2 fun ay z az=>?_))))))
 have aA:VRep (tSl true (tSl false (qb .i64))) ay h q.1:=(z3o az aw);refine il (i:=0) rfl (a3.mono z) fun aB C aC=>?_;have aD:VRep (tSl true pq) aB d q.2:=(z3o aC ax);refine qx ?_;obtain rfl:=Option.some.inj o
 refine qd (D:=[]) (J:=[]) (rs:=[.tmp 4,.tmp 5]) (vs:=[h,d]) (((U.trans av).trans z).trans C) rfl rfl ⟨rfl,rfl,trivial⟩ ?_;exact⟨rfl,⟨h,d,rfl,(aA.mono C),aD⟩⟩
theorem qef:Enters prog 97:=enters_of func97 rfl (by kernel_rfl)
theorem zds{N:Nat}{R:RH}{m:Mach}{b:Value}(c:VRep (jy false false) R b m){r:(List (List Int))×(List Bool)}(a:z1v N m=some r):CallP prog 83 #[b] R (fun v R'=> ∃ u0 j,v= .tuple #[u0,j]∧VRep (tSl true (tSl false (qb .i64))) R' u0 r.1∧VRep (tSl true pq) R' j r.2):=by
 refine qh (args:=[b]) func83 rfl rfl fun A=>?_;rw [z1v] at a;refine zk (ug (T:=(jy false false)) rfl rfl rfl c fun p q d k s=>?_);refine zi vs0 (zi vs0 (j4 (zl (u7 z2i rfl rfl k (c.mono d)) ?_)));obtain⟨t,l,a⟩:=zo a
 refine jh rfl qef rfl (ze5 (c.mono d) l) fun u n g o=>?_;obtain⟨e,f,rfl,h,i⟩:=o;refine zl (jl rfl rfl) (zl (jl rfl rfl) (zi e (zi f (z8 (qx ?_)))));obtain rfl:=Option.some.inj a
 refine qd (D:=[]) (J:=[]) (rs:=[.tmp 2,.tmp 3]) (vs:=[e,f]) (d.trans g) rfl rfl ⟨rfl,rfl,trivial⟩ ?_;exact⟨rfl,⟨e,f,rfl,h,i⟩⟩
theorem qdy:Enters prog 83:=enters_of func83 rfl (by kernel_rfl)
theorem zeu{N:Nat}{R:RH}{a:(List Int)}{f:Value}(l:VRep (tSl false (qb .i64)) R f a){b:(List Int)}{j:Value}(m:VRep (tSl false (qb .i64)) R j b){r:Int}(d:z0i N a b=some r):CallP prog 84 #[f,j] R (fun v R'=>v=(vi r)):=by
 refine qh (args:=[f,j]) func84 rfl rfl fun A=>?_;rw [z0i] at d;refine zk (zi (vi 0) (z8 (zt (zk (zh f (zl (qw rfl underlying32 rfl (ja l)) (zh j (zl (qw rfl underlying32 rfl (ja m)) (zl (xm rfl rfl) (z8 (zu rfl d (fun d=>?_) (fun d=>?_))))))))))))
 refine zt (zk (zh f (zl (qw rfl underlying32 rfl (ja l)) (zh j (zl (qw rfl underlying32 rfl (ja m)) (zl (j6 rfl rfl) (z8 (zu rfl d (fun d=>?_) (fun d=>?_)))))))));refine zk (zi (vi 1) (z8 (qx ?_)));obtain rfl:=Option.some.inj d
 refine qd (D:=[]) (J:=[]) (rs:=[.tmp 4]) (vs:=[(vi 1)]) (RH.le.refl _) rfl rfl ⟨rfl,trivial⟩ ?_;exact⟨rfl,rfl⟩;refine qa (zk (zi (vi 0) (z8 (qx ?_))));obtain rfl:=Option.some.inj d;refine qd (D:=[]) (J:=[]) (rs:=[.tmp 4]) (vs:=[(vi 0)]) (RH.le.refl _) rfl rfl ⟨rfl,trivial⟩ ?_;exact⟨rfl,rfl⟩;refine qa ?_
 obtain⟨u,c,d⟩:=zo d;refine qp (γ:=Unit) (rs [4,6,16,40]) (fun g=>[]) (fun g=>[]++A) (fun g R=>u=Ex.go g∧True) ?_ ?_
 refine zk (zi (vi 0) (z8 (zx (jc (γ:=Nat×Int) (rs [4,6,16,40]) (fun g=>[(5,(vi g.2))]) (fun g=>[]++A) (fun g R=>dx N a b g.1 g.2=some u∧True) (fun g=>g.1) (N,0) prm ⟨c,trivial⟩ ?_))));clear c;rintro⟨t,k⟩ E O e ⟨c,_⟩;rcases t with _|t;exact qo c
 replace c:dx N a b (t+1) k=some u:=c;rw [dx] at c;refine zt (zk (zh (vi k) (zh f (zl (qw rfl underlying32 rfl (ja (l.mono e))) (zl (j6 rfl rfl) (z8 (zu rfl c (fun c=>?_) (fun c=>?_))))))))
 refine qa (zt (zx (zt (z4j 9 mixed (by kernel_rfl) (by kernel_rfl) ?_))));refine uw (v:=f) (zf rfl) ?_;refine uw (v:=(vi k)) (zf rfl) ?_;obtain⟨o,c⟩:=zb c;refine z3n (mh (i:=k.toNat) ic rfl (ja (l.mono e)) (zg rfl o.1) (zy o)) fun F w=>?_;refine uw (nz (kw ty3 rfl w)) ?_
 refine uw (v:=j) (zf rfl) ?_;refine uw (v:=(vi k)) (zf rfl) ?_;obtain⟨p,c⟩:=zb c;refine z3n (mh (i:=k.toNat) ic rfl (ja (m.mono e)) (zg rfl p.1) (zy p)) fun G x=>?_;refine uw (nz (kw ty3 rfl x)) ?_;refine uw (xm rfl rfl) ?_;intro H h
 refine z8 (zu rfl c (fun c=>?_) (fun c=>?_));refine zt (zt (z4j 9 mixed (by kernel_rfl) (by kernel_rfl) ?_));refine uw (v:=f) (zf rfl) ?_;refine uw (v:=(vi k)) (zf rfl) ?_;obtain⟨q,c⟩:=zb c
 refine z3n (mh (i:=k.toNat) ic rfl (ja (l.mono (e.trans h))) (zg rfl q.1) (zy q)) fun I y=>?_;refine uw (nz (kw ty3 rfl y)) ?_;refine uw (v:=j) (zf rfl) ?_;refine uw (v:=(vi k)) (zf rfl) ?_;obtain⟨s,c⟩:=zb c
 refine z3n (mh (i:=k.toNat) ic rfl (ja (m.mono (e.trans h))) (zg rfl s.1) (zy s)) fun K z=>?_;refine uw (nz (kw ty3 rfl z)) ?_;refine uw (j6 rfl rfl) ?_;intro L n;refine z8 (zu rfl c (fun c=>?_) (fun c=>?_));refine zk (zi (vi 1) (z8 (qx ?_)));replace d:=z2q c d
 obtain rfl:=Option.some.inj d;refine qd (D:=[]) (J:=[]) (rs:=[.tmp 4]) (vs:=[(vi 1)]) ((e.trans h).trans n) rfl rfl ⟨rfl,trivial⟩ ?_;exact⟨rfl,rfl⟩;refine qa (zk (zi (vi 0) (z8 (qx ?_))));replace d:=z2q c d;obtain rfl:=Option.some.inj d
 refine qd (D:=[]) (J:=[]) (rs:=[.tmp 4]) (vs:=[(vi 0)]) ((e.trans h).trans n) rfl rfl ⟨rfl,trivial⟩ ?_;exact⟨rfl,rfl⟩;refine qa (zm (zh (vi k) ?_));obtain⟨B,c⟩:=zb c;refine zl (jg rfl rfl B) (zi (vi (k+1)) (z8 ?_))
 exact⟨dkt,h,jm,(t,k+1),Nat.lt_succ_self _,⟨rfl,trivial⟩,prm,c,trivial⟩;refine jf ?_;exact⟨dkt,e,jm,(),trivial,prm,(Option.some.inj c).symm,trivial⟩;rintro P M Q C ⟨rfl,_⟩;replace d:=z4h d;refine zk (zi (vi 0) (z8 (qx ?_)));obtain rfl:=Option.some.inj d
 refine qd (D:=[]) (J:=[]) (rs:=[.tmp 4]) (vs:=[(vi 0)]) C rfl rfl ⟨rfl,trivial⟩ ?_;exact⟨rfl,rfl⟩
theorem qd9:Enters prog 84:=enters_of func84 rfl (by kernel_rfl)
theorem ze4{N:Nat}{R:RH}{m:Mach}{ah:Value}(ai:VRep (jy false false) R ah m){r:(List Int)}(H:z2f N m=some r):CallP prog 74 #[ah] R (fun v R'=>VRep (tSl false (qb .i64)) R' v r):=by
 refine qh (args:=[ah]) func74 rfl rfl fun A=>?_;rw [z2f] at H;refine zk (ug (T:=(jy false false)) rfl rfl rfl ai fun v1 R3 aj h5 h2=>?_);refine zi vs0 (j4 (zl (u7 z2i rfl rfl h5 (ai.mono aj)) ?_));obtain⟨U,c7,H⟩:=zo H
 refine jh rfl qdy rfl (zds (ai.mono aj) c7) fun v8 bz ar h9=>?_;obtain⟨C,ak,rfl,al,aV⟩:=h9;refine zh (.tuple #[C,ak]) (zl (jl rfl rfl) (zl (jl rfl rfl) (zi C (zi ak (j4 (zi vs0 (z8 ?_)))))));obtain⟨K,n,H⟩:=zo H
 refine qp (γ:=(List Int)×Value×Frag) (rs [5,9,14,60]) (fun g=>[(5,g.2.1)]) (fun g=>[g.2.2]++A) (fun g R=>K=g.1∧ORep (qb .i64) R g.2.2 g.2.1 g.1∧True) ?_ ?_;refine zk (zi (vi 0) (z8 (zx (z2l ?_))))
 refine jc (γ:=Nat×(List Int)×Int×Value×Frag) (rs [5,9,14,60]) (fun g=>[(5,g.2.2.2.1),(6,(vi g.2.2.1))]) (fun g=>[g.2.2.2.2]++A) (fun g R=>bq N U g.1 g.2.1 g.2.2.1=some K∧ORep (qb .i64) R g.2.2.2.2 g.2.2.2.1 g.2.1∧True) (fun g=>g.1) (N,[],0,vs0,emp) prm ⟨n,(lm (T:=(qb .i64))),trivial⟩ ?_;clear n
 rintro⟨M,a,d,q,O⟩ ba bB z ⟨n,I,_⟩;rcases M with _|M;exact qo n;replace n:bq N U (M+1) a d=some K:=n;rw [bq] at n
 refine zt (zk (zh (vi d) (zh C (zl (qw rfl underlying72 rfl (ja (al.mono z))) (zl (j6 rfl rfl) (z8 (zu rfl n (fun n=>?_) (fun n=>?_))))))));refine qa ?_;obtain⟨am,e,n⟩:=zo n
 refine qp (γ:=(List Int)×Value×Frag) (rs [5,6,7,9,20,60]) (fun g=>[(5,g.2.1)]) (fun g=>[g.2.2]++A) (fun g R=>am=g.1∧ORep (qb .i64) R g.2.2 g.2.1 g.1∧True) ?_ ?_;refine zx (zt (zk (zh ak (zh (vi d) ?_))));obtain⟨au,e⟩:=zb e
 refine kg (i:=d.toNat) rfl zbl rfl (ja (aV.mono z)) (zg rfl au.1) (zy au) fun bC aW=>?_;refine qj rfl ty4 rfl aW fun bD aX=>?_;obtain rfl:=z11.1 aX;refine zl (z0r rfl) (z8 (zu rfl e (fun e=>?_) (fun e=>?_)));refine jf ?_
 exact⟨dkt,(RH.le.refl _),jm,(a,q,O),⟨rfl,trivial⟩,prm,(Option.some.inj e).symm,I,trivial⟩;refine qa (zk (zi (vi 0) (z8 ?_)));obtain⟨f,k,e⟩:=zo e;refine qp (γ:=Int) (rs [7,8,25,46]) (fun g=>[(7,(vi g))]) (fun g=>[O]++A) (fun g R=>f=g∧True) ?_ ?_
 refine zx (jc (γ:=Nat×Int) (rs [7,8,25,46]) (fun g=>[(7,(vi g.2))]) (fun g=>[O]++A) (fun g R=>bu N U a d g.1 g.2=some f∧True) (fun g=>g.1) (N,0) prm ⟨k,trivial⟩ ?_);clear k;rintro⟨P,b⟩ bb bE t ⟨k,_⟩;rcases P with _|P;exact qo k
 replace k:bu N U a d (P+1) b=some f:=k;rw [bu] at k;refine zt (zt ?_);obtain⟨an,av,aw,k⟩:=q3j k;obtain⟨L,aY,k⟩:=zo k
 refine oh 19 [] [phX (vi b),phX q,phX (vi (↑a.length:Int)),phX (.bool (decide (b<(↑a.length:Int)))),phX (.bool (decide (b<(↑a.length:Int)))),phG (true&&((decide (b<(↑a.length:Int)))==true)) (phX C),phG (true&&((decide (b<(↑a.length:Int)))==true)) (phX q),phG (true&&((decide (b<(↑a.length:Int)))==true)) (phX (vi b)),phG (true&&((decide (b<(↑a.length:Int)))==true)) ((fun u _=>z5s (qb .i64) q a u b.toNat)),phG (true&&((decide (b<(↑a.length:Int)))==true)) (phX (vi (ix a b))),phG (true&&((decide (b<(↑a.length:Int)))==true)) (phP (tSl false (qb .i64)) (ix U.1 (ix a b))),phG (true&&((decide (b<(↑a.length:Int)))==true)) (phR (tSl false (qb .i64)) (ix U.1 (ix a b))),phG (true&&((decide (b<(↑a.length:Int)))==true)) (phX C),phG (true&&((decide (b<(↑a.length:Int)))==true)) (phX (vi d)),phG (true&&((decide (b<(↑a.length:Int)))==true)) (phP (tSl false (qb .i64)) (ix U.1 d)),phG (true&&((decide (b<(↑a.length:Int)))==true)) (phR (tSl false (qb .i64)) (ix U.1 d)),phG (true&&((decide (b<(↑a.length:Int)))==true)) (phX (vi (L.getD default))),phG (true&&((decide (b<(↑a.length:Int)))==true)) (phX (.bool (decide ((L.getD default)=1)))),phX (.bool ((decide (b<(↑a.length:Int)))&&(decide ((L.getD default)=1))))] mixed (by kernel_rfl) (bi ⟨zq,zq,zq,zq,zq,(jb zq),(jb zq),(jb zq),(jb (fun _ _ _ _ h=>h)),(jb zq),(jb uf),(jb bf),(jb zq),(jb zq),(jb uf),(jb bf),(jb zq),(jb zq),zq,trivial⟩) ⟨?_,?_,?_,?_,?_,?_,?_,?_,?_,?_,?_,?_,?_,?_,?_,?_,?_,?_,?_,trivial⟩ fun bF V=>?_
 intro l bG c s hd;exact za rfl rfl rfl (q8 (zf (s 7 rfl)));intro l bI c s hd;exact za rfl rfl rfl (q8 (zf (s 5 rfl)));rintro l bJ c s ⟨o,_⟩;exact za rfl rfl rfl (q8 (l6 rfl underlying32 (o rfl) ((I.mono t).mono c)));rintro l bK c s ⟨o,x,_⟩;exact za rfl rfl rfl (q8 (j6 (o rfl) (x rfl)))
 rintro l bL c s ⟨o,_⟩;exact za rfl rfl rfl (q8 (zf (o rfl)));rintro l bM c s ⟨o,_⟩;exact zw (Gj:=true) (Bj:=decide (b<(↑a.length:Int))) rfl rfl rfl (ul (o rfl)) rfl (fun w p=>q8 (zf (s 3 rfl)));rintro l bN c s ⟨o,_⟩
 exact zw (Gj:=true) (Bj:=decide (b<(↑a.length:Int))) rfl rfl rfl (ul (o rfl)) rfl (fun w p=>q8 (zf (s 5 rfl)));rintro l bO c s ⟨o,_⟩;exact zw (Gj:=true) (Bj:=decide (b<(↑a.length:Int))) rfl rfl rfl (ul (o rfl)) rfl (fun w p=>q8 (zf (s 7 rfl)));rintro l bP c s ⟨o,x,d2,_⟩
 exact zw (Gj:=true) (Bj:=decide (b<(↑a.length:Int))) rfl rfl rfl (ul (d2 rfl)) rfl (fun w p=>zai (i:=b.toNat) ic (show l 31=q from(o rfl).1 (zn rfl p)) ((I.mono t).mono c) (zg (show l 32=(vi b) from(x rfl).1 (zn rfl p)) (an (zn w p)).1) (zy (an (zn w p))));rintro l bQ c s ⟨o,x,_⟩
 exact zw (Gj:=true) (Bj:=decide (b<(↑a.length:Int))) rfl rfl rfl (ul (x rfl)) rfl (fun w p=>yf (zs1 (i:=b.toNat) (j:=0) ty3 ((I.mono t).mono c) rfl rfl ((o rfl).1 (zn rfl p)) (zy (an (zn w p)))) (fun _ _ h=>j5.1 h));rintro l bc c s ⟨o,x,d2,_⟩
 exact zw (Gj:=true) (Bj:=decide (b<(↑a.length:Int))) rfl rfl rfl (ul (d2 rfl)) rfl (fun w p=>uj (i:=(ix a b).toNat) zo0 (show l 30=C from(o rfl).1 (zn rfl p)) (ja ((al.mono (z.trans t)).mono c)) (zg (show l 34=(vi (ix a b)) from(x rfl).1 (zn rfl p)) (av (zn w p)).1) (zy (av (zn w p))))
 rintro l be c s ⟨o,x,_⟩;exact zw (Gj:=true) (Bj:=decide (b<(↑a.length:Int))) rfl rfl rfl (ul (x rfl)) rfl (fun w p=>jo zcb rfl ((o rfl).1 (zn rfl p)));rintro l bg c s ⟨o,_⟩;exact zw (Gj:=true) (Bj:=decide (b<(↑a.length:Int))) rfl rfl rfl (ul (o rfl)) rfl (fun w p=>q8 (zf (s 3 rfl)))
 rintro l bh c s ⟨o,_⟩;exact zw (Gj:=true) (Bj:=decide (b<(↑a.length:Int))) rfl rfl rfl (ul (o rfl)) rfl (fun w p=>q8 (zf (s 6 rfl)));rintro l bj c s ⟨o,x,d2,_⟩
 exact zw (Gj:=true) (Bj:=decide (b<(↑a.length:Int))) rfl rfl rfl (ul (d2 rfl)) rfl (fun w p=>uj (i:=d.toNat) zo0 (show l 37=C from(o rfl).1 (zn rfl p)) (ja ((al.mono (z.trans t)).mono c)) (zg (show l 38=(vi d) from(x rfl).1 (zn rfl p)) (aw (zn w p)).1) (zy (aw (zn w p))))
 rintro l bk c s ⟨o,x,_⟩;exact zw (Gj:=true) (Bj:=decide (b<(↑a.length:Int))) rfl rfl rfl (ul (x rfl)) rfl (fun w p=>jo zcb rfl ((o rfl).1 (zn rfl p)));rintro l bl c s ⟨o,x,d2,d3,_⟩
 exact zw (Gj:=true) (Bj:=decide (b<(↑a.length:Int))) rfl rfl rfl (ul (d2 rfl)) rfl (fun w p=>pg (vs:=[(l 36),(l 40)]) qd9 rfl ((by have aZ:=(z3z aY (zn w p));exact zeu ((o rfl).1 (zn rfl p)) ((x rfl).1 (zn rfl p)) aZ)) (fun _ _ h=>h));rintro l bm c s ⟨o,x,_⟩
 exact zw (Gj:=true) (Bj:=decide (b<(↑a.length:Int))) rfl rfl rfl (ul (x rfl)) rfl (fun w p=>q8 (yu (show l 41=(vi (L.getD default)) from(o rfl).1 (zn rfl p)) rfl));rintro l bn c s ⟨o,x,_⟩
 exact za rfl rfl rfl (q8 (ny (o rfl) (fun hb=>(show l 42=(.bool (decide ((L.getD default)=1))) from(x rfl).1 (zn rfl hb))) rfl));intro bS a0 bT a1 bU a2 bV a3 bW a4 bX bY bZ b0 b1 b2 b3 b4 b5 b6 b7 b8 b9 ca cb cc cd ce cf cg ch ci cj ck cl cm cn a5;obtain rfl:=Eq.symm a0;obtain rfl:=Eq.symm a1;obtain rfl:=Eq.symm a2
 obtain rfl:=Eq.symm a3;obtain rfl:=Eq.symm a4;obtain rfl:=Eq.symm a5;refine z8 (zu rfl k (fun k=>?_) (fun k=>?_));refine qa (zx (zm (zh (vi b) ?_)));obtain⟨ax,k⟩:=zb k;refine zl (jg rfl rfl ax) (zi (vi (b+1)) (z8 ?_))
 exact⟨dkt,V,jm,(P,b+1),Nat.lt_succ_self _,⟨rfl,trivial⟩,prm,k,trivial⟩;refine jf ?_;exact⟨dkt,(t.trans V),jm,b,⟨rfl,trivial⟩,prm,(Option.some.inj k).symm,trivial⟩;rintro f bo co W ⟨rfl,_⟩
 refine zk (zi vs0 (j4 (zh vs0 (zh q (zh (vi f) (vo (i:=0) rfl (I.mono W) fun Z ap ay=>?_))))));have E:VRep (tSl false (qb .i64)) Z q a:=(z5v ay);obtain⟨F,e⟩:=zb e
 refine zco (v:=q) (lo:=(0:Int).toNat) (hi:=f.toNat) (mx:=(capOf q)) rfl ic rfl (ja E) (.inl ⟨rfl,rfl⟩) (.inr ⟨_,congrArg some (zg rfl (zkh F))⟩) (.inl ⟨rfl,rfl⟩) (zlr F) (zbk F) (Nat.le_trans (zbk F) (zw9 (ja E))) (Nat.le_refl _) (X':=(cut a 0 f)) rfl fun az aA aT=>?_
 have aB:VRep (tSl false (qb .i64)) Z az (cut a 0 f):=z5v aA;refine q4e ?_;obtain⟨aa,e⟩:=zb e;refine pu (i:=0) (X:=([]:List Int)) (Y:=(cut a 0 f)) rfl underlying32 zo3 rfl rfl rfl (lm (T:=(qb .i64))) (ja aB) aa.1 aa.2 fun ab bp aC=>?_
 refine zi ab (j4 (zh ab (zh (vi d) (sw (T:=(qb .i64)) (X:=([d]:List Int)) (ps:=[(0,(vi d))]) (css:=[[(vi d)]]) rfl underlying32 zo3 rfl rfl (ky ⟨rfl,trivial⟩) rfl rfl (by decide) fun aD br Q aE=>?_))));refine vo (i:=0) rfl aE fun ac y aF=>?_
 have aG:VRep (tSl true (qb .i64)) ac aD ([d]:List Int):=(z3o aF Q);obtain⟨ad,e⟩:=zb e;refine pu (i:=0) (X:=(([]:List Int)++(cut a 0 f))) (Y:=([d]:List Int)) rfl underlying32 zo3 rfl rfl rfl (aC.mono y) (ja (Sub.v (B:=(tSl false (qb .i64))) (uh Sub.refl (fun _=>rfl)) aG)) ad.1 ad.2 fun ae bs aH=>?_
 refine zi ae (z8 (zm (zh ae (zh q (zh (vi f) ?_)))));obtain⟨G,e⟩:=zb e
 refine zco (v:=q) (lo:=f.toNat) (hi:=(↑a.length:Int).toNat) (mx:=(capOf q)) rfl ic rfl (ja (E.mono y)) (.inr ⟨_,congrArg some (zg rfl G.1)⟩) (.inl ⟨rfl,rfl,rfl⟩) (.inl ⟨rfl,rfl⟩) (zlr G) (zbk G) (Nat.le_trans (zbk G) (zw9 (ja (E.mono y)))) (Nat.le_refl _) (X':=(cut a f (↑a.length:Int))) rfl fun aI aJ aU=>?_
 have aK:VRep (tSl false (qb .i64)) ac aI (cut a f (↑a.length:Int)):=z5v aJ;obtain⟨af,e⟩:=zb e;refine pu (i:=0) (X:=((([]:List Int)++(cut a 0 f))++([d]:List Int))) (Y:=(cut a f (↑a.length:Int))) rfl underlying32 zo3 rfl rfl rfl aH (ja aK) af.1 af.2 fun ag aL aM=>?_;refine zi ag (z8 ?_)
 exact⟨dkt,((W.trans ap).trans y),jm,((((([]:List Int)++(cut a 0 f))++([d]:List Int))++(cut a f (↑a.length:Int))),ag,aL),⟨rfl,trivial⟩,prm,(Option.some.inj e).symm,aM,trivial⟩;rintro⟨am,a6,a7⟩ bt cp aN ⟨rfl,a8,_⟩;refine zm (zh (vi d) ?_);obtain⟨aO,n⟩:=zb n
 refine zl (jg rfl rfl aO) (zi (vi (d+1)) (z8 ?_));exact⟨dkt,aN,jm,(M,am,d+1,a6,a7),Nat.lt_succ_self _,⟨rfl,rfl,trivial⟩,prm,n,a8,trivial⟩;refine jf ?_;exact⟨dkt,z,jm,(a,q,O),⟨rfl,trivial⟩,prm,(Option.some.inj n).symm,I,trivial⟩;rintro⟨K,S,cq⟩ bv cr aP ⟨rfl,a9,_⟩
 refine zk (zh S (zi S (z8 (il (i:=0) rfl a9 fun aQ aq aR=>?_))));have aS:VRep (tSl false (qb .i64)) aQ S K:=(z5v aR);refine qx ?_;obtain rfl:=Option.some.inj H;refine qd (D:=[]) (J:=[]) (rs:=[.tmp 2]) (vs:=[S]) (((aj.trans ar).trans aP).trans aq) rfl rfl ⟨rfl,trivial⟩ ?_;exact⟨rfl,aS⟩
theorem qe5:Enters prog 74:=enters_of func74 rfl (by kernel_rfl)
theorem z8n{N:Nat}{R:RH}{m:Mach}{O:Value}(p:VRep (jy false false) R O m){r:(List Int)}(j:z0p N m=some r):CallP prog 53 #[O] R (fun v R'=>VRep (tSl false (qb .i64)) R' v r):=by
 refine qh (args:=[O]) func53 rfl rfl fun A=>?_;rw [z0p] at j;refine zk (ug (T:=(jy false false)) rfl rfl rfl p fun v1 R3 q h5 h2=>?_);refine zi vs0 (j4 (zl (u7 z2i rfl rfl h5 (p.mono q)) ?_));obtain⟨y6,c7,j⟩:=zo j
 refine jh rfl qcn rfl (z7l (p.mono q) c7) fun v8 aQ o h9=>?_;refine zi v8 (j4 (zl (u7 z2i rfl rfl (h5.mono o) (p.mono (q.trans o))) ?_));obtain⟨e,ax,j⟩:=zo j;refine jh rfl qe5 rfl (ze4 (p.mono (q.trans o)) ax) fun s aR t C=>?_
 refine zi s (j4 (zi vs0 (z8 ?_)));obtain⟨u,b,j⟩:=zo j;refine qp (γ:=(List Int)×Value×Frag) (rs [5,9,13,48]) (fun g=>[(5,g.2.1)]) (fun g=>[g.2.2]++A) (fun g R=>u=g.1∧ORep (qb .i64) R g.2.2 g.2.1 g.1∧True) ?_ ?_;refine zk (zi (vi 0) (z8 (zx (z2l ?_))))
 refine jc (γ:=Nat×(List Int)×Int×Value×Frag) (rs [5,9,13,48]) (fun g=>[(5,g.2.2.2.1),(6,(vi g.2.2.1))]) (fun g=>[g.2.2.2.2]++A) (fun g R=>xu N y6 e g.1 g.2.1 g.2.2.1=some u∧ORep (qb .i64) R g.2.2.2.2 g.2.2.2.1 g.2.1∧True) (fun g=>g.1) (N,[],0,vs0,emp) prm ⟨b,(lm (T:=(qb .i64))),trivial⟩ ?_
 clear b;rintro⟨E,w,a,P,x⟩ aJ aS f ⟨b,Q,_⟩;rcases E with _|E;exact qo b;replace b:xu N y6 e (E+1) w a=some u:=b;rw [xu] at b
 refine zt (zk (zh (vi a) (zh s (zl (qw rfl underlying32 rfl (ja (C.mono f))) (zl (j6 rfl rfl) (z8 (zu rfl b (fun b=>?_) (fun b=>?_))))))));refine qa ?_;obtain⟨S,h,b⟩:=zo b
 refine qp (γ:=(List Int)×Value×Frag) (rs [5,6,7,9,19,48]) (fun g=>[(5,g.2.1)]) (fun g=>[g.2.2]++A) (fun g R=>S=g.1∧ORep (qb .i64) R g.2.2 g.2.1 g.1∧True) ?_ ?_;refine zx (zk (zi (vi 0) (z8 ?_)));obtain⟨y,c,h⟩:=zo h
 refine qp (γ:=Int) (rs [7,9,19,39]) (fun g=>[(7,(vi g))]) (fun g=>[x]++A) (fun g R=>y=g∧True) ?_ ?_
 refine zk (zi (vi 0) (z8 (zx (jc (γ:=Nat×Int×Int) (rs [7,9,19,39]) (fun g=>[(7,(vi g.2.1)),(8,(vi g.2.2))]) (fun g=>[x]++A) (fun g R=>gm N y6 e a g.1 g.2.1 g.2.2=some y∧True) (fun g=>g.1) (N,0,0) prm ⟨c,trivial⟩ ?_))));clear c;rintro⟨F,U,k⟩ aT aU l ⟨c,_⟩;rcases F with _|F
 exact qo c;replace c:gm N y6 e a (F+1) U k=some y:=c;rw [gm] at c;refine zt (zk (zh (vi k) (zh (vi a) (zl (j6 rfl rfl) (z8 (zu rfl c (fun c=>?_) (fun c=>?_)))))));refine qa ?_;obtain⟨V,d,c⟩:=zo c
 refine qp (γ:=Int) (rs [7,8,24,39]) (fun g=>[(7,(vi g))]) (fun g=>[x]++A) (fun g R=>V=g∧True) ?_ ?_;refine zx (zt (z4j 15 mixed (by kernel_rfl) (by kernel_rfl) ?_));refine uw (v:=v8) (zf rfl) ?_;refine uw (v:=s) (zf rfl) ?_;refine uw (v:=(vi k)) (zf rfl) ?_;obtain⟨Z,d⟩:=zb d
 refine z3n (mh (i:=k.toNat) ic rfl (ja (C.mono (f.trans l))) (zg rfl Z.1) (zy Z)) fun aV ay=>?_;refine uw (nz (kw ty3 rfl ay)) ?_;obtain⟨aa,d⟩:=zb d;refine z3n (mh (i:=(ix e k).toNat) ic rfl (ja (h9.mono ((t.trans f).trans l))) (zg rfl aa.1) (zy aa)) fun aW az=>?_
 refine uw (nz (kw ty3 rfl az)) ?_;refine uw (v:=v8) (zf rfl) ?_;refine uw (v:=s) (zf rfl) ?_;refine uw (v:=(vi a)) (zf rfl) ?_;obtain⟨ab,d⟩:=zb d;refine z3n (mh (i:=a.toNat) ic rfl (ja (C.mono (f.trans l))) (zg rfl ab.1) (zy ab)) fun aX aA=>?_;refine uw (nz (kw ty3 rfl aA)) ?_
 obtain⟨ac,d⟩:=zb d;refine z3n (mh (i:=(ix e a).toNat) ic rfl (ja (h9.mono ((t.trans f).trans l))) (zg rfl ac.1) (zy ac)) fun aY aB=>?_;refine uw (nz (kw ty3 rfl aB)) ?_;refine uw (yu rfl rfl) ?_;intro aZ I;refine z8 (zu rfl d (fun d=>?_) (fun d=>?_))
 refine zm (zi (vi 1) (z8 ?_));exact⟨dkt,I,jm,1,⟨rfl,trivial⟩,prm,(Option.some.inj d).symm,trivial⟩;refine qa ?_;exact⟨dkt,I,jm,U,⟨rfl,trivial⟩,prm,(Option.some.inj d).symm,trivial⟩;rintro V a0 a1 ad ⟨rfl,_⟩;refine zm (zh (vi k) ?_);obtain⟨aC,c⟩:=zb c
 refine zl (jg rfl rfl aC) (zi (vi (k+1)) (z8 ?_));exact⟨dkt,ad,jm,(F,V,k+1),Nat.lt_succ_self _,⟨rfl,rfl,trivial⟩,prm,c,trivial⟩;refine jf ?_;exact⟨dkt,l,jm,U,⟨rfl,trivial⟩,prm,(Option.some.inj c).symm,trivial⟩;rintro y a2 a3 n ⟨rfl,_⟩
 refine zk (zh (vi y) (zl (yu rfl rfl) (z8 (zu rfl h (fun h=>?_) (fun h=>?_)))));refine zm (zh P (zh s (zh (vi a) ?_)));obtain⟨K,h⟩:=zb h;refine kg (i:=a.toNat) rfl ic rfl (ja (C.mono (f.trans n))) (zg rfl K.1) (zy K) fun aK ae=>?_
 refine qj rfl ty3 rfl ae fun aL af=>?_;obtain rfl:=j5.1 af;refine sw (T:=(qb .i64)) (X:=([(ix e a)]:List Int)) (ps:=[(0,(vi (ix e a)))]) (css:=[[(vi (ix e a))]]) rfl underlying32 zo3 rfl rfl (ky ⟨rfl,trivial⟩) rfl rfl (by decide) fun ag aM G ah=>?_;refine vo (i:=0) rfl ah fun ai z aj=>?_
 have ak:VRep (tSl true (qb .i64)) ai ag ([(ix e a)]:List Int):=(z3o aj G);obtain⟨L,h⟩:=zb h;refine pu (i:=0) (X:=w) (Y:=([(ix e a)]:List Int)) rfl underlying32 zo3 rfl rfl rfl (Q.mono (n.trans z)) (ja (Sub.v (B:=(tSl false (qb .i64))) (uh Sub.refl (fun _=>rfl)) ak)) L.1 L.2 fun M al am=>?_
 refine zi M (z8 ?_);exact⟨dkt,(n.trans z),jm,((w++([(ix e a)]:List Int)),M,al),⟨rfl,trivial⟩,prm,(Option.some.inj h).symm,am,trivial⟩;refine qa ?_;exact⟨dkt,n,jm,(w,P,x),⟨rfl,trivial⟩,prm,(Option.some.inj h).symm,(Q.mono n),trivial⟩;rintro⟨S,aD,aE⟩ aN a4 an ⟨rfl,aF,_⟩
 refine zm (zh (vi a) ?_);obtain⟨ao,b⟩:=zb b;refine zl (jg rfl rfl ao) (zi (vi (a+1)) (z8 ?_));exact⟨dkt,an,jm,(E,S,a+1,aD,aE),Nat.lt_succ_self _,⟨rfl,rfl,trivial⟩,prm,b,aF,trivial⟩;refine jf ?_;exact⟨dkt,f,jm,(w,P,x),⟨rfl,trivial⟩,prm,(Option.some.inj b).symm,Q,trivial⟩
 rintro⟨u,H,a5⟩ aO a6 ap ⟨rfl,aG,_⟩;refine zk (zh H (zi H (z8 (il (i:=0) rfl aG fun aq W ar=>?_))));have au:VRep (tSl false (qb .i64)) aq H u:=(z5v ar);refine qx ?_;obtain rfl:=Option.some.inj j
 refine qd (D:=[]) (J:=[]) (rs:=[.tmp 2]) (vs:=[H]) ((((q.trans o).trans t).trans ap).trans W) rfl rfl ⟨rfl,trivial⟩ ?_;exact⟨rfl,au⟩
end GV
end Go.Proofs.Ytnnobdkjgafdmaa
