import Derived.Test.YtplgbkaollfmkaaGreatShWa
import Derived.Test.YtplgbkaollfmkaaGreatRows
set_option linter.unusedVariables false
set_option linter.unusedSimpArgs false
namespace Go.Proofs.YtplgbkaollfmkaaGreat
namespace GV
open _root_.Go.Proofs.Tryz
open Go.IntWalk
set_option maxRecDepth 100000
set_option maxHeartbeats 20000000
theorem qan{a b c:Bool}:TyOk prog 29 (z0h a b c):=by
 obtain⟨i,hi,d⟩: ∃ i,prog.info? 29=some i∧i.size=6:=jr (by kernel_rfl);exact z2n underlying29 hi rfl d
theorem zh3: ∀ w,∃ z,(zeroValue 32).run prog w= .ok z w∧z.cells=([.int .i64 0,.int .i64 0,.slice none 0 0]:List Value).toArray:=fun w=>⟨(.agg #[(vi 0),(vi 0),vs0]),by kernel_rfl,rfl⟩
theorem q6p:FieldOk prog 29 0 0:=by
 obtain⟨i,hi,a⟩: ∃ i,prog.info? 27=some i∧i.size=5:=jr (by kernel_rfl);exact uj underlying29 rfl rfl hi (by rw [a];rfl)
theorem qbj{a b:Bool}:TyOk prog 27 (z0f a b):=by
 obtain⟨i,hi,c⟩: ∃ i,prog.info? 27=some i∧i.size=5:=jr (by kernel_rfl);exact z2n underlying27 hi rfl c
theorem zu4:FieldOk prog 27 0 0:=by
 obtain⟨i,hi,a⟩: ∃ i,prog.info? 25=some i∧i.size=5:=jr (by kernel_rfl);exact uj underlying27 rfl rfl hi (by rw [a];rfl)
theorem zvd:FieldOk prog 25 0 0:=by
 obtain⟨i,hi,a⟩: ∃ i,prog.info? 5=some i∧i.size=1:=jr (by kernel_rfl);exact uj underlying25 rfl rfl hi (by rw [a];rfl)
theorem ag5: ∀ w,(isAgg 5).run prog w= .ok false w:=fun w=>by kernel_rfl
theorem sz5: ∀ w,(sizeOf 5).run prog w= .ok 1 w:=fun w=>by kernel_rfl
theorem qbf: ∀ w,(isAgg 25).run prog w= .ok true w:=fun w=>by kernel_rfl
theorem qbe: ∀ w,(sizeOf 25).run prog w= .ok 5 w:=fun w=>by kernel_rfl
theorem q63:FieldOk prog 25 1 1:=by
 obtain⟨i,hi,a⟩: ∃ i,prog.info? 5=some i∧i.size=1:=jr (by kernel_rfl);exact uj underlying25 rfl rfl hi (by rw [a];rfl)
theorem q6d:FieldOk prog 25 2 2:=by
 obtain⟨i,hi,a⟩: ∃ i,prog.info? 5=some i∧i.size=1:=jr (by kernel_rfl);exact uj underlying25 rfl rfl hi (by rw [a];rfl)
theorem z4k: ∀ w,(sizeOf 32).run prog w= .ok 3 w:=fun w=>by kernel_rfl
theorem av:FieldOk prog 32 0 0:=by
 obtain⟨i,hi,a⟩: ∃ i,prog.info? 3=some i∧i.size=1:=jr (by kernel_rfl);exact uj underlying32 rfl rfl hi (by rw [a];rfl)
theorem ag3: ∀ w,(isAgg 3).run prog w= .ok false w:=fun w=>by kernel_rfl
theorem q08:FieldOk prog 25 4 4:=by
 obtain⟨i,hi,a⟩: ∃ i,prog.info? 23=some i∧i.size=1:=jr (by kernel_rfl);exact uj underlying25 rfl rfl hi (by rw [a];rfl)
theorem q92{a:Bool}:TyOk prog 23 (tSl a (zu .u16)):=by
 obtain⟨i,hi,b⟩: ∃ i,prog.info? 23=some i∧i.size=1:=jr (by kernel_rfl);exact z2n underlying23 hi rfl b
theorem q5r:TyOk prog 123 (zu .u16):=by
 obtain⟨i,hi,a⟩: ∃ i,prog.info? 123=some i∧i.size=1:=jr (by kernel_rfl);exact z2n underlying123 hi rfl a
theorem qag:SlOk prog 23 123 (zu .u16):=⟨underlying23,q5r⟩
theorem z8w{N:Nat}{R:RH}{d:(List Int)}{b:Value}(c:VRep (tSl false (zu .u16)) R b d){k:Int}{r:Int}(a:z0q N d k=some r):CallP prog 44 #[b,(vi k)] R (fun v R'=>v=(vi r)):=by
 refine qg (args:=[b,(vi k)]) func44 rfl rfl fun A=>?_;rw [z0q] at a;refine zl (zi (vi 0) (z8 (q9 (zl (zg (vi k) (zg b (zo (qi rfl underlying23 rfl (qz c)) (zo (j3 rfl rfl) (z8 (zw rfl a (fun a=>?_) (fun a=>?_)))))))))))
 refine zl (zg b (zg (vi k) ?_));obtain⟨e,a⟩:=zb a;refine kw (i:=k.toNat) rfl qag rfl (qz c) (ze rfl e.1) (zz e) fun j f=>?_;refine qh rfl q5r rfl f fun l g=>?_;obtain rfl:=j6.1 g;obtain⟨h,a⟩:=zb a
 refine zo (z4w underlying123 underlying3 rfl h) (zi (vi (ix d k)) (z8 (qx ?_)));obtain rfl:=Option.some.inj a;refine qd (D:=[]) (J:=[]) (rs:=[.tmp 4]) (vs:=[(vi (ix d k))]) (RH.le.refl _) rfl rfl ⟨rfl,trivial⟩ ?_;exact⟨rfl,rfl⟩;refine qa (zl (zi (vi 0) (z8 (qx ?_))));obtain rfl:=Option.some.inj a
 refine qd (D:=[]) (J:=[]) (rs:=[.tmp 4]) (vs:=[(vi 0)]) (RH.le.refl _) rfl rfl ⟨rfl,trivial⟩ ?_;exact⟨rfl,rfl⟩
theorem q8p:Enters prog 44:=enters_of func44 rfl (by kernel_rfl)
theorem zaj:FieldOk prog 32 1 1:=by
 obtain⟨i,hi,a⟩: ∃ i,prog.info? 3=some i∧i.size=1:=jr (by kernel_rfl);exact uj underlying32 rfl rfl hi (by rw [a];rfl)
theorem zg9:ZeroOk prog 100 kEdge (⟨(0:Int),(0:Int)⟩:Edge) 16:=by
 obtain⟨i,zv,hi,a,c,d,f⟩:=z6d (P:=prog) (e:=100) (zv:=(.agg #[(vi 0),(vi 0)])) (k:=2) (b:=16) (by kernel_rfl);exact⟨i,zv,hi,a,c,d,fun R=>by subst f;exact⟨_,_,rfl,rfl,rfl⟩⟩
theorem mixed:prog.follows .mixedOrders=true:=by kernel_rfl
theorem ug:FieldOk prog 32 2 2:=by
 obtain⟨i,hi,a⟩: ∃ i,prog.info? 30=some i∧i.size=1:=jr (by kernel_rfl);exact uj underlying32 rfl rfl hi (by rw [a];rfl)
theorem zam: ∀ w,(isAgg 30).run prog w= .ok false w:=fun w=>by kernel_rfl
theorem zv8{a:Bool}:ZeroOk prog 97 (tSl a kEdge) ([]:List Edge) 24:=by
 obtain⟨i,zv,hi,c,d,f,g⟩:=z6d (P:=prog) (e:=97) (zv:=vs0) (k:=1) (b:=24) (by kernel_rfl);exact⟨i,zv,hi,c,d,f,fun R=>by subst g;exact(ku rfl z3f)⟩
theorem q0n: ∀ w,(sizeOf 30).run prog w= .ok 1 w:=fun w=>by kernel_rfl
theorem z7i{a:Bool}:TyOk prog 97 (tSl a kEdge):=by
 obtain⟨i,hi,b⟩: ∃ i,prog.info? 97=some i∧i.size=1:=jr (by kernel_rfl);exact z2n underlying97 hi rfl b
theorem z7n{a:Bool}:SlOk prog 30 97 (tSl a kEdge):=⟨underlying30,z7i⟩
theorem z7k:TyOk prog 100 kEdge:=by
 obtain⟨i,hi,a⟩: ∃ i,prog.info? 100=some i∧i.size=2:=jr (by kernel_rfl);exact z2n underlying100 hi rfl a
theorem z8x:SlOk prog 97 100 kEdge:=⟨underlying97,z7k⟩
theorem yo:FieldOk prog 100 0 0:=by
 obtain⟨i,hi,a⟩: ∃ i,prog.info? 3=some i∧i.size=1:=jr (by kernel_rfl);exact uj underlying100 rfl rfl hi (by rw [a];rfl)
theorem ty3:TyOk prog 3 (zu .i64):=by
 obtain⟨i,hi,a⟩: ∃ i,prog.info? 3=some i∧i.size=1:=jr (by kernel_rfl);exact z2n underlying3 hi rfl a
theorem fe:SlOk prog 33 3 (zu .i64):=⟨underlying33,ty3⟩
theorem q2g:FieldOk prog 25 3 3:=by
 obtain⟨i,hi,a⟩: ∃ i,prog.info? 22=some i∧i.size=1:=jr (by kernel_rfl);exact uj underlying25 rfl rfl hi (by rw [a];rfl)
theorem q3o{a:Bool}:TyOk prog 22 (tSl a (zu .u8)):=by
 obtain⟨i,hi,b⟩: ∃ i,prog.info? 22=some i∧i.size=1:=jr (by kernel_rfl);exact z2n underlying22 hi rfl b
theorem q38:ZeroOk prog 97 tHdr vs0 24:=by
 obtain⟨i,zv,hi,a,c,d,f⟩:=z6d (P:=prog) (e:=97) (zv:=vs0) (k:=1) (b:=24) (by kernel_rfl);exact⟨i,zv,hi,a,c,d,fun R=>by subst f;exact⟨rfl,rfl⟩⟩
theorem zsr:zft kEdge 0 (zu .i64) (fun(x:Edge) (y:Int)=>(⟨y,x.out⟩:Edge)):=q9q q68 (fun _ _=>rfl)
theorem z8u: ∀ w,(isAgg 32).run prog w= .ok true w:=fun w=>by kernel_rfl
theorem za8{N:Nat}{R:RH}{x:Sa}{bB:Value}(c3:VRep (gm false false) R bB x){r:Mach}(y:z0l N x=some r):CallP prog 18 #[bB] R (fun v R'=>VRep (ja false false) R' v r):=by
 refine qg (args:=[bB]) func18 rfl rfl fun A=>?_;rw [z0l] at y;refine zl (jy (T:=(gm false false)) rfl rfl rfl c3 fun v1 R3 c4 h5 h2=>?_);refine um rfl zh3 fun b6=>?_;refine qw (jb rfl zvd zfc rfl h2 fun v8 h9=>?_);refine qh rfl ty5 rfl h9 fun fV c5=>?_;obtain rfl:=j6.1 c5
 obtain⟨c6,y⟩:=zb y;refine zo (z2t rfl rfl c6) ?_;obtain⟨c7,y⟩:=zb y;refine zo (z4w underlying5 underlying3 rfl c7) ?_;obtain⟨c8,y⟩:=zb y;refine zo (j4 rfl rfl c8) (zi (vi ((1:Int)+(x.fB%6))) (qw (jb rfl q63 zei rfl h2 fun fW c9=>?_)))
 refine qh rfl ty5 rfl c9 fun fX da=>?_;obtain rfl:=j6.1 da;obtain⟨db,y⟩:=zb y;refine zo (z2t rfl rfl db) ?_;obtain⟨dc,y⟩:=zb y;refine zo (z4w underlying5 underlying3 rfl dc) ?_;obtain⟨dd,y⟩:=zb y;refine zo (j4 rfl rfl dd) (jb rfl q6d zex rfl h2 fun fY de=>?_)
 refine qh rfl ty5 rfl de fun fZ df=>?_;obtain rfl:=j6.1 df;obtain⟨dg,y⟩:=zb y;refine zo (z2t rfl rfl dg) ?_;obtain⟨dh,y⟩:=zb y;refine zo (z4w underlying5 underlying3 rfl dh) ?_;obtain⟨di,y⟩:=zb y
 refine zo (j4 rfl rfl di) (zo (yn (ps:=[(0,(vi ((1:Int)+(x.fA%3)))),(1,(vi ((1:Int)+(x.fC%3))))]) (v:=(.agg #[(vi ((1:Int)+(x.fA%3))),(vi ((1:Int)+(x.fC%3))),vs0])) rfl (fun w=>by kernel_rfl)) (um rfl zh3 fun q=>?_))
 refine jo (i:=0) (vs:=[(vi ((1:Int)+(x.fA%3))),(vi ((1:Int)+(x.fC%3))),vs0]) z4k rfl rfl rfl rfl rfl rfl (qf rfl (qf rfl (qf rfl jq))) ?_;refine z8 ?_;obtain⟨aE,c,y⟩:=zq y
 refine ql (γ:=(List (List Edge))×Value×Frag) (rs [5,9,31,67]) (fun g=>[]) (fun g=>[box b6 [(vi 0),(vi 0),vs0] 32,box q [(vi ((1:Int)+(x.fA%3))),(vi ((1:Int)+(x.fC%3))),g.2.1] 32,g.2.2]++A) (fun g R=>aE=g.1∧NRep false kEdge R g.2.2 g.2.1 g.1∧True) ?_ ?_
 refine zl (zi (vi 0) (z8 (zx (z1g ?_))))
 refine j5 (γ:=Nat×Int×(List (List Edge))×Value×Frag) (rs [5,9,31,67]) (fun g=>[(5,(vi g.2.1))]) (fun g=>[box b6 [(vi 0),(vi 0),vs0] 32,box q [(vi ((1:Int)+(x.fA%3))),(vi ((1:Int)+(x.fC%3))),g.2.2.2.1] 32,g.2.2.2.2]++A) (fun g R=>pq N x g.1 g.2.1 g.2.2.1=some aE∧NRep false kEdge R g.2.2.2.2 g.2.2.2.1 g.2.2.1∧True) (fun g=>g.1) (N,0,[],vs0,emp) ⟨[],(pk 2 rfl (pk 1 rfl (pk 0 rfl (List.Perm.refl _))))⟩ ⟨c,(om (zq8 (t:=false) (T:=kEdge) (R:=R3))),trivial⟩ ?_
 clear c;rintro⟨a8,ad,a9,ba,bb⟩ ec f0 bg ⟨c,⟨dj,bK⟩,_⟩;rcases a8 with _|a8;exact qp c;replace c:pq N x (a8+1) ad a9=some aE:=c;rw [pq] at c
 refine q9 (zl (zg (vi ad) (zg (vi ((1:Int)+(x.fB%6))) (zo (j3 rfl rfl) (z8 (zw rfl c (fun c=>?_) (fun c=>?_)))))));refine qa (q9 (zx (zl (zi vs0 (z8 ?_)))));obtain⟨aC,a,c⟩:=zq c
 refine ql (γ:=(List Edge)×Value×Frag) (rs [6,9,36,61]) (fun g=>[(6,g.2.1)]) (fun g=>[box b6 [(vi 0),(vi 0),vs0] 32,box q [(vi ((1:Int)+(x.fA%3))),(vi ((1:Int)+(x.fC%3))),ba] 32,bb,g.2.2]++A) (fun g R=>aC=g.1∧ORep kEdge R g.2.2 g.2.1 g.1∧True) ?_ ?_
 refine zl (zi (vi 0) (z8 (zx (z1g ?_))))
 refine j5 (γ:=Nat×(List Edge)×Int×Value×Frag) (rs [6,9,36,61]) (fun g=>[(6,g.2.2.2.1),(7,(vi g.2.2.1))]) (fun g=>[box b6 [(vi 0),(vi 0),vs0] 32,box q [(vi ((1:Int)+(x.fA%3))),(vi ((1:Int)+(x.fC%3))),ba] 32,bb,g.2.2.2.2]++A) (fun g R=>mi N x ad g.1 g.2.1 g.2.2.1=some aC∧ORep kEdge R g.2.2.2.2 g.2.2.2.1 g.2.1∧True) (fun g=>g.1) (N,[],0,vs0,emp) ⟨[],(pk 1 rfl (pk 1 rfl (pk 1 rfl (pk 0 rfl (List.Perm.refl _)))))⟩ ⟨a,(iy (T:=kEdge)),trivial⟩ ?_
 clear a;rintro⟨bc,be,aD,bL,dk⟩ ed f1 bh ⟨a,bM,_⟩;rcases bc with _|bc;exact qp a;replace a:mi N x ad (bc+1) be aD=some aC:=a;rw [mi] at a
 refine q9 (zl (zg (vi aD) (zo (q8 av rfl) (zo (qb (i:=1) ag3 rfl rfl rfl) (zo (j3 rfl rfl) (z8 (zw rfl a (fun a=>?_) (fun a=>?_))))))));refine qa (q9 (zx (zl (jb rfl q08 zaf rfl (h2.mono (bg.trans bh)) fun f2 dl=>?_))));refine qh rfl q92 rfl dl fun f3 dm=>?_
 refine zg (vi ad) (zo (q8 av rfl) (zo (qb (i:=1) ag3 rfl rfl rfl) ?_));obtain⟨dn,a⟩:=zb a;refine zo (zhv rfl rfl dn) (zg (vi aD) ?_);obtain⟨dp,a⟩:=zb a;refine zo (j4 rfl rfl dp) ?_;obtain⟨S,dq,a⟩:=zq a;refine jc rfl q8p rfl (z8w dm dq) fun f4 f5 bi dr=>?_
 obtain rfl:=dr;refine zi (vi S) (z8 ?_);obtain⟨ds,dt,a⟩:=q0s a;let G1:=([(⟨(-1),(S/((1:Int)+(x.fB%6)))%((1:Int)+(x.fC%3))⟩:Edge)]:List Edge)
 refine p8 9 [] [phX bL,phX (vi S),phX (vi ((1:Int)+(x.fB%6))),phX (vi (S/((1:Int)+(x.fB%6)))),phX (.pointer (some ⟨q,1,none⟩)),phX (vi ((1:Int)+(x.fC%3))),phX (vi ((S/((1:Int)+(x.fB%6)))%((1:Int)+(x.fC%3)))),phX (.agg #[(vi (-1)),(vi ((S/((1:Int)+(x.fB%6)))%((1:Int)+(x.fC%3))))]),phR (tSl true kEdge) G1] mixed (by kernel_rfl) (vw ⟨zh,zh,zh,zh,zh,zh,zh,zh,vo,trivial⟩) ⟨?_,?_,?_,?_,?_,?_,?_,?_,?_,trivial⟩ fun f6 bj=>?_
 intro l du n F hd;exact za rfl rfl rfl (zn (zf (F 6 rfl)));intro l dv n F hd;exact za rfl rfl rfl (zn (zf (F 8 rfl)));intro l dw n F hd;exact za rfl rfl rfl (zn (zf (F 3 rfl)));rintro l dx n F ⟨O,d1,_⟩;exact za rfl rfl rfl (zn (zii (O rfl) (d1 rfl) ds));intro l dy n F hd
 exact za rfl rfl rfl (zn (q8 zaj (F 4 rfl)));rintro l dz n F ⟨O,_⟩;have bD:=O rfl;exact za rfl rfl rfl (zn (qb (i:=1) ag3 bD rfl rfl));rintro l dA n F ⟨O,d1,_⟩;exact za rfl rfl rfl (zn (z2t (O rfl) (d1 rfl) dt));rintro l dB n F ⟨O,_⟩
 have dC:l 57=(vi ((S/((1:Int)+(x.fB%6)))%((1:Int)+(x.fC%3)))):=O rfl
 exact za rfl rfl rfl (zn (yn (ps:=[(0,(vi (-1))),(1,(vi ((S/((1:Int)+(x.fB%6)))%((1:Int)+(x.fC%3)))))]) (v:=(.agg #[(vi (-1)),(vi ((S/((1:Int)+(x.fB%6)))%((1:Int)+(x.fC%3))))])) (by simp only [List.map,ev,dC]<;>rfl) (fun w=>by kernel_rfl)));rintro l dD n F ⟨O,_⟩
 have dE:l 58=(.agg #[(vi (-1)),(vi ((S/((1:Int)+(x.fB%6)))%((1:Int)+(x.fC%3))))]):=O rfl
 exact za rfl rfl rfl (z4y (T:=kEdge) (X:=G1) (ps:=[(0,(.agg #[(vi (-1)),(vi ((S/((1:Int)+(x.fB%6)))%((1:Int)+(x.fC%3))))]))]) (css:=[[(vi (-1)),(vi ((S/((1:Int)+(x.fB%6)))%((1:Int)+(x.fC%3))))]]) underlying97 zg9 (by simp only [List.map,ev,dE]<;>rfl) rfl (kv ⟨⟨_,_,rfl,rfl,rfl⟩,trivial⟩) rfl rfl (by decide))
 intro f7 dF f8 dG f9 dH ga dI gb dJ gc dK ge dL gf bN ee bO;obtain rfl:=Eq.symm dF;obtain rfl:=Eq.symm dG;obtain rfl:=Eq.symm dH;obtain rfl:=Eq.symm dI;obtain rfl:=Eq.symm dJ;obtain rfl:=Eq.symm dK;obtain rfl:=Eq.symm dL;obtain rfl:=Eq.symm bN;obtain⟨bk,a⟩:=zb a
 refine wh (i:=3) (X:=be) (Y:=G1) rfl underlying97 zg9 rfl rfl rfl (bM.mono (bi.trans bj)) (qz (Sub.v (B:=(tSl false kEdge)) (u6 Sub.refl (fun _=>rfl)) bO)) bk.1 bk.2 fun bl bP bQ=>?_;refine zi bl (z8 (zy (zg (vi aD) ?_)));obtain⟨bR,a⟩:=zb a
 refine zo (j4 rfl rfl bR) (zi (vi (aD+1)) (z8 ?_));exact⟨dkt,(bi.trans bj),je,(bc,(be++G1),aD+1,bl,bP),Nat.lt_succ_self _,⟨rfl,rfl,trivial⟩,prm,a,bQ,trivial⟩;refine jd ?_;exact⟨dkt,bh,je,(be,bL,dk),⟨rfl,trivial⟩,prm,(Option.some.inj a).symm,bM,trivial⟩;rintro⟨aC,aG,bD⟩ ef gg bm ⟨rfl,bE,_⟩
 refine zy (zo (q8 ug rfl) (zo (qb (i:=1) zam rfl rfl rfl) (zg aG (z96 rfl (z4y (T:=tHdr) (X:=[aG]) (ps:=[(0,aG)]) (css:=[[aG]]) underlying30 q38 rfl (by simp only [List.map_cons,List.map_nil,au bE];rfl) (kv ⟨zl7 (wz bE),trivial⟩) rfl rfl (by decide)) fun eg eh ap bS=>?_))))
 obtain⟨bn,c⟩:=zb c
 refine zqm (Oc:=[bb,bD]) (Or:=[box b6 [(vi 0),(vi 0),vs0] 32,box q [(vi ((1:Int)+(x.fA%3))),(vi ((1:Int)+(x.fC%3))),ba] 32]++A) rfl (pk 2 rfl (pk 2 rfl (pk 0 rfl (pk 0 rfl (List.Perm.refl _))))) (zbt underlying30 q38 rfl rfl (bK.mono (bm.trans ap)) (bE.mono ap) (qz bS) (fun e=>nomatch e) bn.1 bn.2) ?_
 rintro aH ei dM dN ⟨rfl,bo,rfl,ae⟩;replace ae:N2 false kEdge _ bo aH (dj++[aG]) (a9++[aC]):=ae;refine zo (q8 ug rfl) (jo (i:=2) (vs:=[aH]) q0n rfl rfl (zsz ae) rfl rfl rfl (qf (zno ae) jq) ?_);refine z8 (zy (zg (vi ad) ?_));obtain⟨bT,c⟩:=zb c
 refine zo (j4 rfl rfl bT) (zi (vi (ad+1)) (z8 ?_));exact⟨dkt,(bm.trans ap),je,(a8,ad+1,(a9++[aC]),aH,bo),Nat.lt_succ_self _,⟨rfl,trivial⟩,⟨[],(pk 1 rfl (pk 1 rfl (pk 0 rfl (List.Perm.refl _))))⟩,c,(om ae),trivial⟩;refine jd ?_
 exact⟨dkt,bg,je,(a9,ba,bb),trivial,prm,(Option.some.inj c).symm,(om bK),trivial⟩;rintro⟨aE,o,dO⟩ ej gh ar ⟨rfl,⟨gi,dP⟩,_⟩;obtain⟨af,c,y⟩:=zq y
 refine ql (γ:=(List (List Edge))×Frag) (rs [9,13,67,137]) (fun g=>[]) (fun g=>[box b6 [(vi 0),(vi 0),vs0] 32,box q [(vi ((1:Int)+(x.fA%3))),(vi ((1:Int)+(x.fC%3))),o] 32,g.2]++A) (fun g R=>af=g.1∧NRep false kEdge R g.2 o g.1∧True) ?_ ?_
 refine zl (zi (vi 1) (z8 (zx (j5 (γ:=Nat×Int×(List (List Edge))×Frag) (rs [9,13,67,137]) (fun g=>[(9,(vi g.2.1))]) (fun g=>[box b6 [(vi 0),(vi 0),vs0] 32,box q [(vi ((1:Int)+(x.fA%3))),(vi ((1:Int)+(x.fC%3))),o] 32,g.2.2.2]++A) (fun g R=>mq N x g.1 g.2.1 g.2.2.1=some af∧NRep false kEdge R g.2.2.2 o g.2.2.1∧True) (fun g=>g.1) (N,1,aE,dO) prm ⟨c,(om dP),trivial⟩ ?_))))
 clear c;rintro⟨aw,s,I,Z⟩ ek el aq ⟨c,⟨ag,Q⟩,_⟩;rcases aw with _|aw;exact qp c;replace c:mq N x (aw+1) s I=some af:=c;rw [mq] at c
 refine q9 (zl (zg (vi s) (zg (vi ((1:Int)+(x.fB%6))) (zo (j3 rfl rfl) (z8 (zw rfl c (fun c=>?_) (fun c=>?_)))))));refine qa (q9 (zx (zl (zi vs0 (z8 ?_)))));obtain⟨K,a,c⟩:=zq c
 refine ql (γ:=(List Int)×Value×Frag) (rs [10,12,72,100]) (fun g=>[(10,g.2.1)]) (fun g=>[box b6 [(vi 0),(vi 0),vs0] 32,box q [(vi ((1:Int)+(x.fA%3))),(vi ((1:Int)+(x.fC%3))),o] 32,Z,g.2.2]++A) (fun g R=>K=g.1∧ORep (zu .i64) R g.2.2 g.2.1 g.1∧True) ?_ ?_
 refine zl (zi (vi 0) (z8 (zx (z1g ?_))))
 refine j5 (γ:=Nat×(List Int)×Int×Value×Frag) (rs [10,12,72,100]) (fun g=>[(10,g.2.2.2.1),(11,(vi g.2.2.1))]) (fun g=>[box b6 [(vi 0),(vi 0),vs0] 32,box q [(vi ((1:Int)+(x.fA%3))),(vi ((1:Int)+(x.fC%3))),o] 32,Z,g.2.2.2.2]++A) (fun g R=>yt N x s I g.1 g.2.1 g.2.2.1=some K∧ORep (zu .i64) R g.2.2.2.2 g.2.2.2.1 g.2.1∧True) (fun g=>g.1) (N,[],0,vs0,emp) ⟨[],(pk 1 rfl (pk 1 rfl (pk 1 rfl (pk 0 rfl (List.Perm.refl _)))))⟩ ⟨a,(iy (T:=(zu .i64))),trivial⟩ ?_
 clear a;rintro⟨ax,ah,f,aI,ay⟩ em en U ⟨a,aJ,_⟩;rcases ax with _|ax;exact qp a;replace a:yt N x s I (ax+1) ah f=some K:=a;rw [yt] at a;refine q9 (zl (zg (vi f) (zg (vi s) (zo (q8 av rfl) (zo (qb (i:=1) ag3 rfl rfl rfl) ?_)))))
 obtain⟨bU,a⟩:=zb a;refine zo (zhv rfl rfl bU) (zo (j3 rfl rfl) (z8 (zw rfl a (fun a=>?_) (fun a=>?_))));refine qa ?_;obtain⟨aK,p,a⟩:=zq a
 refine ql (γ:=(List Int)×Value×Frag) (rs [10,11,80,100]) (fun g=>[(10,g.2.1)]) (fun g=>[box b6 [(vi 0),(vi 0),vs0] 32,box q [(vi ((1:Int)+(x.fA%3))),(vi ((1:Int)+(x.fC%3))),o] 32,Z,g.2.2]++A) (fun g R=>aK=g.1∧ORep (zu .i64) R g.2.2 g.2.1 g.1∧True) ?_ ?_
 refine zx (q9 (z1i 16 mixed (by kernel_rfl) (by kernel_rfl) ?_));refine kg (v:=(.pointer (some ⟨q,2,none⟩))) (q8 ug rfl) ?_;refine kg (v:=o) (qb (i:=1) zam rfl rfl rfl) ?_;refine kg (v:=(vi f)) (zf rfl) ?_;refine kg (v:=(.pointer (some ⟨q,0,none⟩))) (q8 av rfl) ?_
 refine kg (v:=(vi ((1:Int)+(x.fA%3)))) (qb (i:=1) ag3 rfl rfl rfl) ?_;obtain⟨bV,p⟩:=zb p;refine kg (zii rfl rfl bV) ?_;obtain⟨ai,p⟩:=zb p;refine z06 (zjt (i:=(f/((1:Int)+(x.fA%3))).toNat) (zh7 (b:=true) z7n) rfl (Q.mono U) (ze rfl ai.1) (zz ai)) fun eo bW=>?_
 refine kg (v:=(ag.getD (f/((1:Int)+(x.fA%3))).toNat default)) (q7h (zli (i:=(f/((1:Int)+(x.fA%3))).toNat) (j:=2) (zes (b:=true) z7i) (Q.mono U) rfl rfl bW (zz ai))) ?_;refine kg (v:=(vi f)) (zf rfl) ?_;refine kg (v:=(.pointer (some ⟨q,0,none⟩))) (q8 av rfl) ?_
 refine kg (v:=(vi ((1:Int)+(x.fA%3)))) (qb (i:=1) ag3 rfl rfl rfl) ?_;obtain⟨bX,p⟩:=zb p;refine kg (z2t rfl rfl bX) ?_;obtain⟨aL,p⟩:=zb p
 refine z06 (zh6 (i:=(f%((1:Int)+(x.fA%3))).toNat) (r:=(f/((1:Int)+(x.fA%3))).toNat) z8x (Q.mono U) (zz ai) rfl (ze rfl aL.1) (zz aL)) fun ep bY=>?_;refine z06 (zk6 yo rfl bY) fun bZ aM=>?_
 replace aM:z8b kEdge 0 (ag.getD (f/((1:Int)+(x.fA%3))).toNat default) (I.getD (f/((1:Int)+(x.fA%3))).toNat default) bZ (f%((1:Int)+(x.fA%3))).toNat:=aM
 refine kg (ny (zv5 (i:=(f%((1:Int)+(x.fA%3))).toNat) (r:=(f/((1:Int)+(x.fA%3))).toNat) (j:=2) ty3 z6u (Q.mono U) (zz ai) rfl rfl aM (zz aL))) ?_;refine kg (j3 rfl rfl) ?_;intro eq ac;refine z8 (zw rfl p (fun p=>?_) (fun p=>?_))
 refine zy (zg aI (zg (vi f) (mf (T:=(zu .i64)) (X:=([f]:List Int)) (ps:=[(0,(vi f))]) (css:=[[(vi f)]]) rfl underlying33 zo3 rfl rfl (kv ⟨rfl,trivial⟩) rfl rfl (by decide) fun b0 er bf b1=>?_)));refine ui (i:=0) rfl b1 fun b2 aN b3=>?_
 have b4:VRep (tSl true (zu .i64)) b2 b0 ([f]:List Int):=(z1d b3 bf);obtain⟨bp,p⟩:=zb p;refine wh (i:=3) (X:=ah) (Y:=([f]:List Int)) rfl underlying33 zo3 rfl rfl rfl (aJ.mono (ac.trans aN)) (qz (Sub.v (B:=(tSl false (zu .i64))) (u6 Sub.refl (fun _=>rfl)) b4)) bp.1 bp.2 fun bq b5 b7=>?_
 refine zi bq (z8 ?_);exact⟨dkt,(ac.trans aN),je,((ah++([f]:List Int)),bq,b5),⟨rfl,trivial⟩,prm,(Option.some.inj p).symm,b7,trivial⟩;refine qa ?_;exact⟨dkt,ac,je,(ah,aI,ay),⟨rfl,trivial⟩,prm,(Option.some.inj p).symm,(aJ.mono ac),trivial⟩;rintro⟨aK,b8,aO⟩ es et bF ⟨rfl,b9,_⟩
 refine zy (zg (vi f) ?_);obtain⟨ca,a⟩:=zb a;refine zo (j4 rfl rfl ca) (zi (vi (f+1)) (z8 ?_));exact⟨dkt,bF,je,(ax,aK,f+1,b8,aO),Nat.lt_succ_self _,⟨rfl,rfl,trivial⟩,prm,a,b9,trivial⟩;refine jd ?_
 exact⟨dkt,U,je,(ah,aI,ay),⟨rfl,trivial⟩,prm,(Option.some.inj a).symm,aJ,trivial⟩;rintro⟨K,aP,br⟩ eu ew P ⟨rfl,aj,_⟩;refine zl (zg aP ?_);obtain⟨aQ,c⟩:=zb c;refine uz (i:=(0:Int).toNat) rfl fe rfl aj (ze rfl aQ.1) (zz aQ) fun ex cb=>?_
 refine z2a (i:=(0:Int).toNat) (j:=3) rfl ty3 aj rfl rfl cb (zz aQ) fun ey cc=>?_;obtain rfl:=j6.1 cc;refine zi (vi (ix K 0)) (z8 ?_);obtain⟨k,a,c⟩:=zq c
 refine ql (γ:=Int) (rs [12,13,103,122]) (fun g=>[(12,(vi g))]) (fun g=>[box b6 [(vi 0),(vi 0),vs0] 32,box q [(vi ((1:Int)+(x.fA%3))),(vi ((1:Int)+(x.fC%3))),o] 32,Z]++A) (fun g R=>k=g∧True) ?_ ?_;refine zl (zg (vi s) ?_);obtain⟨cd,a⟩:=zb a
 refine zo (z99 rfl rfl cd) (jb rfl q2g za5 rfl (h2.mono ((ar.trans aq).trans P)) fun ez ce=>?_);refine qh rfl q3o rfl ce fun eA cf=>?_;refine zo (qi rfl underlying22 rfl (qz cf)) (zo (j3 rfl rfl) (z8 (zw rfl a (fun a=>?_) (fun a=>?_))))
 refine zy (zg aP (jb rfl q2g za5 rfl (h2.mono ((ar.trans aq).trans P)) fun eB cg=>?_));refine qh rfl q3o rfl cg fun eC ch=>?_;refine zg (vi s) ?_;obtain⟨ci,a⟩:=zb a;refine zo (z99 rfl rfl ci) ?_;obtain⟨bs,a⟩:=zb a
 refine kw (i:=(s-1).toNat) rfl q8w rfl (qz ch) (ze rfl bs.1) (zz bs) fun eD cj=>?_;refine qh rfl ty5 rfl cj fun eE ck=>?_;obtain rfl:=j6.1 ck;obtain⟨cl,a⟩:=zb a;refine zo (z4w underlying5 underlying3 rfl cl) (zg aP (zo (z2k rfl underlying33 rfl aj) ?_))
 obtain⟨cm,a⟩:=zb a;refine zo (z2t rfl rfl cm) ?_;obtain⟨aR,a⟩:=zb a;refine uz (i:=((ix x.fI (s-1))%(↑K.length:Int)).toNat) rfl fe rfl aj (ze rfl aR.1) (zz aR) fun eF cn=>?_
 refine z2a (i:=((ix x.fI (s-1))%(↑K.length:Int)).toNat) (j:=3) rfl ty3 aj rfl rfl cn (zz aR) fun eG co=>?_;obtain rfl:=j6.1 co;refine zi (vi (ix K ((ix x.fI (s-1))%(↑K.length:Int)))) (z8 ?_)
 exact⟨dkt,(RH.le.refl _),je,(ix K ((ix x.fI (s-1))%(↑K.length:Int))),⟨rfl,trivial⟩,⟨[br],(pk 3 rfl (pk 0 rfl (pk 0 rfl (pk 0 rfl (List.Perm.refl _)))))⟩,(Option.some.inj a).symm,trivial⟩;refine qa ?_
 exact⟨dkt,(RH.le.refl _),je,(ix K 0),⟨rfl,trivial⟩,⟨[br],(pk 3 rfl (pk 0 rfl (pk 0 rfl (pk 0 rfl (List.Perm.refl _)))))⟩,(Option.some.inj a).symm,trivial⟩;rintro k eH eI V ⟨rfl,_⟩;refine z1i 15 mixed (by kernel_rfl) (by kernel_rfl) ?_;refine kg (v:=(.pointer (some ⟨q,2,none⟩))) (q8 ug rfl) ?_
 refine kg (v:=o) (qb (i:=1) zam rfl rfl rfl) ?_;refine kg (v:=(vi k)) (zf rfl) ?_;refine kg (v:=(.pointer (some ⟨q,0,none⟩))) (q8 av rfl) ?_;refine kg (v:=(vi ((1:Int)+(x.fA%3)))) (qb (i:=1) ag3 rfl rfl rfl) ?_;obtain⟨cp,c⟩:=zb c;refine kg (zii rfl rfl cp) ?_
 obtain⟨ak,c⟩:=zb c;refine z06 (zjt (i:=(k/((1:Int)+(x.fA%3))).toNat) (zh7 (b:=true) z7n) rfl (Q.mono (P.trans V)) (ze rfl ak.1) (zz ak)) fun eJ cq=>?_
 refine kg (v:=(ag.getD (k/((1:Int)+(x.fA%3))).toNat default)) (q7h (zli (i:=(k/((1:Int)+(x.fA%3))).toNat) (j:=2) (zes (b:=true) z7i) (Q.mono (P.trans V)) rfl rfl cq (zz ak))) ?_;refine kg (v:=(vi k)) (zf rfl) ?_;refine kg (v:=(.pointer (some ⟨q,0,none⟩))) (q8 av rfl) ?_
 refine kg (v:=(vi ((1:Int)+(x.fA%3)))) (qb (i:=1) ag3 rfl rfl rfl) ?_;obtain⟨cr,c⟩:=zb c;refine kg (z2t rfl rfl cr) ?_;refine kg (v:=(vi s)) (zf rfl) ?_;obtain⟨aS,c⟩:=zb c
 refine z06 (zh6 (i:=(k%((1:Int)+(x.fA%3))).toNat) (r:=(k/((1:Int)+(x.fA%3))).toNat) z8x (Q.mono (P.trans V)) (zz ak) rfl (ze rfl aS.1) (zz aS)) fun eK cs=>?_;refine z06 (zk6 yo rfl cs) fun bt aT=>?_
 replace aT:z8b kEdge 0 (ag.getD (k/((1:Int)+(x.fA%3))).toNat default) (I.getD (k/((1:Int)+(x.fA%3))).toNat default) bt (k%((1:Int)+(x.fA%3))).toNat:=aT;intro eL aU
 refine zhf (Oc:=[Z]) (Or:=[box b6 [(vi 0),(vi 0),vs0] 32,box q [(vi ((1:Int)+(x.fA%3))),(vi ((1:Int)+(x.fC%3))),o] 32]++A) (pk 2 rfl (pk 0 rfl (pk 0 rfl (List.Perm.refl _)))) (zkh (i:=(k%((1:Int)+(x.fA%3))).toNat) (r:=(k/((1:Int)+(x.fA%3))).toNat) (u:=bt) zsr ty3 (Q.mono ((P.trans V).trans aU)) (zz ak) rfl aT (zz aS) rfl (j6.2 rfl)) ?_
 rintro eM eN dQ dR ⟨rfl,bu,rfl,aV⟩;replace aV:N2 false kEdge _ bu o ag (up I (k/((1:Int)+(x.fA%3))) (up (ix I (k/((1:Int)+(x.fA%3)))) (k%((1:Int)+(x.fA%3))) (⟨s,(ix (ix I (k/((1:Int)+(x.fA%3)))) (k%((1:Int)+(x.fA%3)))).out⟩:Edge))):=aV
 refine z8 (zy (zg (vi s) ?_));obtain⟨ct,c⟩:=zb c;refine zo (j4 rfl rfl ct) (zi (vi (s+1)) (z8 ?_))
 exact⟨dkt,((P.trans V).trans aU),je,(aw,s+1,(up I (k/((1:Int)+(x.fA%3))) (up (ix I (k/((1:Int)+(x.fA%3)))) (k%((1:Int)+(x.fA%3))) (⟨s,(ix (ix I (k/((1:Int)+(x.fA%3)))) (k%((1:Int)+(x.fA%3)))).out⟩:Edge))),bu),Nat.lt_succ_self _,⟨rfl,trivial⟩,⟨[],(pk 1 rfl (pk 1 rfl (pk 0 rfl (List.Perm.refl _))))⟩,c,(om aV),trivial⟩
 refine jd ?_;exact⟨dkt,aq,je,(I,Z),trivial,prm,(Option.some.inj c).symm,(om Q),trivial⟩;rintro⟨af,cu⟩ eO eP aW ⟨rfl,⟨eQ,cv⟩,_⟩;obtain⟨aa,c,y⟩:=zq y
 refine ql (γ:=(List (List Edge))×Frag) (rs [13,15,137,177]) (fun g=>[]) (fun g=>[box b6 [(vi 0),(vi 0),vs0] 32,box q [(vi ((1:Int)+(x.fA%3))),(vi ((1:Int)+(x.fC%3))),o] 32,g.2]++A) (fun g R=>aa=g.1∧NRep false kEdge R g.2 o g.1∧True) ?_ ?_
 refine zl (zi (vi 0) (z8 (zx (j5 (γ:=Nat×Int×(List (List Edge))×Frag) (rs [13,15,137,177]) (fun g=>[(13,(vi g.2.1))]) (fun g=>[box b6 [(vi 0),(vi 0),vs0] 32,box q [(vi ((1:Int)+(x.fA%3))),(vi ((1:Int)+(x.fC%3))),o] 32,g.2.2.2]++A) (fun g R=>mr N x g.1 g.2.1 g.2.2.1=some aa∧NRep false kEdge R g.2.2.2 o g.2.2.1∧True) (fun g=>g.1) (N,0,af,cu) prm ⟨c,(om cv),trivial⟩ ?_))))
 clear c;rintro⟨az,d,aX,bv⟩ eR eS aY ⟨c,⟨eT,bw⟩,_⟩;rcases az with _|az;exact qp c;replace c:mr N x (az+1) d aX=some aa:=c;rw [mr] at c
 refine q9 (zl (zg (vi d) (zg (vi ((1:Int)+(x.fB%6))) (zo (j3 rfl rfl) (z8 (zw rfl c (fun c=>?_) (fun c=>?_)))))));refine qa ?_;obtain⟨al,a,c⟩:=zq c
 refine ql (γ:=(List (List Edge))×Frag) (rs [14,15,142,177]) (fun g=>[]) (fun g=>[box b6 [(vi 0),(vi 0),vs0] 32,box q [(vi ((1:Int)+(x.fA%3))),(vi ((1:Int)+(x.fC%3))),o] 32,g.2]++A) (fun g R=>al=g.1∧NRep false kEdge R g.2 o g.1∧True) ?_ ?_
 refine zx (zl (zi (vi 0) (z8 (zx (j5 (γ:=Nat×Int×(List (List Edge))×Frag) (rs [14,15,142,177]) (fun g=>[(14,(vi g.2.1))]) (fun g=>[box b6 [(vi 0),(vi 0),vs0] 32,box q [(vi ((1:Int)+(x.fA%3))),(vi ((1:Int)+(x.fC%3))),o] 32,g.2.2.2]++A) (fun g R=>yu N x d g.1 g.2.1 g.2.2.1=some al∧NRep false kEdge R g.2.2.2 o g.2.2.1∧True) (fun g=>g.1) (N,0,aX,bv) prm ⟨a,(om bw),trivial⟩ ?_)))))
 clear a;rintro⟨aA,m,E,aZ⟩ eU eV a0 ⟨a,⟨W,M⟩,_⟩;rcases aA with _|aA;exact qp a;replace a:yu N x d (aA+1) m E=some al:=a;rw [yu] at a
 refine q9 (zl (zg (vi m) (zo (q8 av rfl) (zo (qb (i:=1) ag3 rfl rfl rfl) (zo (j3 rfl rfl) (z8 (zw rfl a (fun a=>?_) (fun a=>?_))))))));refine qa ?_;obtain⟨a1,p,a⟩:=zq a
 refine ql (γ:=(List (List Edge))×Frag) (rs [148,177]) (fun g=>[]) (fun g=>[box b6 [(vi 0),(vi 0),vs0] 32,box q [(vi ((1:Int)+(x.fA%3))),(vi ((1:Int)+(x.fC%3))),o] 32,g.2]++A) (fun g R=>a1=g.1∧NRep false kEdge R g.2 o g.1∧True) ?_ ?_
 refine zx (zl (zo (q8 ug rfl) (zo (qb (i:=1) zam rfl rfl rfl) (zg (vi d) ?_))));obtain⟨am,p⟩:=zb p;refine z96 rfl (zfs (i:=d.toNat) (zh7 (b:=true) z7n) rfl M (ze rfl am.1) (zz am)) fun eW eX z cw=>?_
 refine z96 rfl (zie (i:=d.toNat) (j:=2) (zes (b:=true) z7i) (M.mono z) rfl rfl cw (zz am)) fun eY eZ C cx=>?_;obtain rfl:=Eq.symm cx;refine zg (vi m) ?_;obtain⟨a2,p⟩:=zb p
 refine z96 rfl (zda (i:=m.toNat) (r:=d.toNat) z8x (M.mono (z.trans C)) (zz am) rfl (ze rfl a2.1) (zz a2)) fun e0 e1 G cy=>?_;refine z96 rfl (zcx yo rfl cy) fun cz e2 H a3=>?_;replace a3:z8b kEdge 0 (W.getD d.toNat default) (E.getD d.toNat default) cz m.toNat:=a3
 refine z96 rfl (uu (zte (i:=m.toNat) (r:=d.toNat) (j:=2) ty3 z6u (M.mono (((z.trans C).trans G).trans H)) (zz am) rfl rfl a3 (zz a2)) (fun _ _ h=>j6.1 h)) fun e3 e4 L cA=>?_;obtain rfl:=Eq.symm cA;refine zo (j3 rfl rfl) (z8 (zw rfl p (fun p=>?_) (fun p=>?_)))
 obtain⟨an,cB,cC,p⟩:=q1s p;obtain⟨aB,cD,p⟩:=zq p;obtain⟨cE,a4,p⟩:=q0s p
 refine p8 19 [] [phX (.pointer (some ⟨q,2,none⟩)),phX o,phX (vi d),(fun u _=>z4e tHdr o W u d.toNat),phX (W.getD d.toNat default),phX (vi m),phP (tSl false (zu .u16)) x.fE,phR (tSl false (zu .u16)) x.fE,phX (vi d),phX (.pointer (some ⟨q,0,none⟩)),phX (vi ((1:Int)+(x.fA%3))),phX (vi (d*((1:Int)+(x.fA%3)))),phX (vi m),phX (vi ((d*((1:Int)+(x.fA%3)))+m)),phX (vi aB),phX (vi ((1:Int)+(x.fB%6))),phX (vi (aB%((1:Int)+(x.fB%6)))),(fun u _=>z4e kEdge (W.getD d.toNat default) (E.getD d.toNat default) u m.toNat),(fun u _=>z8b kEdge 0 (W.getD d.toNat default) (E.getD d.toNat default) u m.toNat)] mixed (by kernel_rfl) (vw ⟨zh,zh,zh,(fun _ _ _ _ h=>h),zh,zh,wm,vo,zh,zh,zh,zh,zh,zh,zh,zh,zh,(fun _ _ _ _ h=>h),(fun _ _ _ _ h=>h),trivial⟩) ⟨?_,?_,?_,?_,?_,?_,?_,?_,?_,?_,?_,?_,?_,?_,?_,?_,?_,?_,?_,trivial⟩ fun e5 a5=>?_
 intro l du n F hd;exact za rfl rfl rfl (zn (q8 ug (F 4 rfl)));rintro l dv n F ⟨O,_⟩;exact za rfl rfl rfl (zn (qb (i:=1) zam (O rfl) rfl rfl));intro l dw n F hd;exact za rfl rfl rfl (zn (zf (F 13 rfl)));rintro l dx n F ⟨O,d1,_⟩
 exact za rfl rfl rfl (zfs (i:=d.toNat) (zh7 (b:=true) z7n) (O rfl) ((M.mono ((((z.trans C).trans G).trans H).trans L)).mono n) (ze (d1 rfl) an.1) (zz an));rintro l dy n F ⟨O,_⟩
 exact za rfl rfl rfl (zie (i:=d.toNat) (j:=2) (zes (b:=true) z7i) ((M.mono ((((z.trans C).trans G).trans H).trans L)).mono n) rfl rfl (O rfl) (zz an));intro l dz n F hd;exact za rfl rfl rfl (zn (zf (F 14 rfl)));intro l dA n F hd
 exact za rfl rfl rfl (oq q08 zaf (F 1 rfl) ((h2.mono ((((((((ar.trans aW).trans aY).trans a0).trans z).trans C).trans G).trans H).trans L)).mono n));rintro l dB n F ⟨O,_⟩;exact za rfl rfl rfl (kz q92 rfl (O rfl));intro l dD n F hd;exact za rfl rfl rfl (zn (zf (F 13 rfl)))
 intro l gj n F hd;exact za rfl rfl rfl (zn (q8 av (F 4 rfl)));rintro l e6 n F ⟨O,_⟩;exact za rfl rfl rfl (zn (qb (i:=1) ag3 (O rfl) rfl rfl));rintro l e7 n F ⟨O,d1,_⟩;exact za rfl rfl rfl (zn (zhv (O rfl) (d1 rfl) cB));intro l e8 n F hd;exact za rfl rfl rfl (zn (zf (F 14 rfl)))
 rintro l e9 n F ⟨O,d1,_⟩;exact za rfl rfl rfl (zn (j4 (O rfl) (d1 rfl) cC));rintro l fa n F ⟨O,d1,_⟩;have aO:l 171=(vi ((d*((1:Int)+(x.fA%3)))+m)):=d1 rfl
 exact za rfl rfl rfl (ww (vs:=[(l 165),(vi ((d*((1:Int)+(x.fA%3)))+m))]) q8p (by simp only [List.map,ev,aO]<;>rfl) (z8w (O rfl) cD) (fun _ _ h=>h));intro l fb n F hd;exact za rfl rfl rfl (zn (zf (F 3 rfl)));rintro l fc n F ⟨O,d1,_⟩
 exact za rfl rfl rfl (zn (z2t (O rfl) (d1 rfl) cE));rintro l fd n F ⟨O,d1,d2,d3,d4,d5,d6,d7,d8,d9,dS,dT,dU,dV,dW,dX,dY,dZ,gt,_⟩;have ay:=O rfl
 exact za rfl rfl rfl (zda (i:=m.toNat) (r:=d.toNat) z8x ((M.mono ((((z.trans C).trans G).trans H).trans L)).mono n) (zz an) ay (ze (d1 rfl) a4.1) (zz a4));rintro l ff n F ⟨O,d1,d2,d3,d4,d5,d6,d7,d8,d9,dS,dT,dU,dV,dW,dX,dY,dZ,_⟩;exact za rfl rfl rfl (zcx yo rfl (O rfl))
 intro fg cF fh cG fi cH fj fk fl cI fm cJ fn fo fp fq fr cK fs cL ft cM fu cN fv cO fw cP fx cQ fy cR fz cS fD fF bx a6;obtain rfl:=Eq.symm cF;obtain rfl:=Eq.symm cG;obtain rfl:=Eq.symm cH;obtain rfl:=Eq.symm cI;obtain rfl:=Eq.symm cJ;obtain rfl:=Eq.symm cK;obtain rfl:=Eq.symm cL
 obtain rfl:=Eq.symm cM;obtain rfl:=Eq.symm cN;obtain rfl:=Eq.symm cO;obtain rfl:=Eq.symm cP;obtain rfl:=Eq.symm cQ;obtain rfl:=Eq.symm cR;obtain rfl:=Eq.symm cS;replace a6:z8b kEdge 0 (W.getD d.toNat default) (E.getD d.toNat default) bx m.toNat:=a6
 refine zhf (Oc:=[aZ]) (Or:=[box b6 [(vi 0),(vi 0),vs0] 32,box q [(vi ((1:Int)+(x.fA%3))),(vi ((1:Int)+(x.fC%3))),o] 32]++A) (pk 2 rfl (pk 0 rfl (pk 0 rfl (List.Perm.refl _)))) (zkh (i:=m.toNat) (r:=d.toNat) (u:=bx) zsr ty3 (M.mono (((((z.trans C).trans G).trans H).trans L).trans a5)) (zz an) rfl a6 (zz a4) rfl (j6.2 rfl)) ?_
 rintro fG fH ea eb ⟨rfl,bz,rfl,a7⟩;replace a7:N2 false kEdge _ bz o W (up E d (up (ix E d) m (⟨aB%((1:Int)+(x.fB%6)),(ix (ix E d) m).out⟩:Edge))):=a7;refine z8 ?_
 exact⟨dkt,(((((z.trans C).trans G).trans H).trans L).trans a5),je,((up E d (up (ix E d) m (⟨aB%((1:Int)+(x.fB%6)),(ix (ix E d) m).out⟩:Edge))),bz),trivial,⟨[],(pk 1 rfl (pk 1 rfl (pk 0 rfl (List.Perm.refl _))))⟩,(Option.some.inj p).symm,(om a7),trivial⟩;refine qa ?_
 exact⟨dkt,((((z.trans C).trans G).trans H).trans L),je,(E,aZ),trivial,prm,(Option.some.inj p).symm,(om (M.mono ((((z.trans C).trans G).trans H).trans L))),trivial⟩;rintro⟨a1,cT⟩ fJ fK bG ⟨rfl,⟨fL,cU⟩,_⟩;refine zy (zg (vi m) ?_);obtain⟨cV,a⟩:=zb a
 refine zo (j4 rfl rfl cV) (zi (vi (m+1)) (z8 ?_));exact⟨dkt,bG,je,(aA,m+1,a1,cT),Nat.lt_succ_self _,⟨rfl,trivial⟩,prm,a,(om cU),trivial⟩;refine jd ?_;exact⟨dkt,a0,je,(E,aZ),trivial,prm,(Option.some.inj a).symm,(om M),trivial⟩;rintro⟨al,cW⟩ fM fN bH ⟨rfl,⟨fO,cX⟩,_⟩
 refine zy (zg (vi d) ?_);obtain⟨cY,c⟩:=zb c;refine zo (j4 rfl rfl cY) (zi (vi (d+1)) (z8 ?_));exact⟨dkt,bH,je,(az,d+1,al,cW),Nat.lt_succ_self _,⟨rfl,trivial⟩,prm,c,(om cX),trivial⟩;refine jd ?_
 exact⟨dkt,aY,je,(aX,bv),trivial,prm,(Option.some.inj c).symm,(om bw),trivial⟩;rintro⟨aa,fP⟩ fQ fR bI ⟨rfl,⟨fS,bA⟩,_⟩
 refine zl (zo (wu (i:=1) z8u z4k rfl rfl rfl rfl) (jo (i:=0) (vs:=[(vi ((1:Int)+(x.fA%3))),(vi ((1:Int)+(x.fC%3))),o]) z4k rfl rfl rfl rfl rfl rfl (qf rfl (qf rfl (qf (zno bA) jq))) ?_));refine z8 (zgk (i:=2) rfl (om bA) fun cZ bJ c0=>?_)
 have c1:VRep (tSl false (tSl false kEdge)) cZ o aa:=(z3g c0);refine qx ?_;obtain rfl:=Option.some.inj y
 refine qd (D:=[]) (J:=[box b6 [(vi ((1:Int)+(x.fA%3))),(vi ((1:Int)+(x.fC%3))),o] 32,box q [(vi ((1:Int)+(x.fA%3))),(vi ((1:Int)+(x.fC%3))),o] 32]) (rs:=[.cell 2 32]) (vs:=[(.agg #[(vi ((1:Int)+(x.fA%3))),(vi ((1:Int)+(x.fC%3))),o])]) ((((c4.trans ar).trans aW).trans bI).trans bJ) rfl rfl ⟨⟨_,rfl,fun w hh=>z2r (i:=0) hh rfl rfl z8u z4k rfl rfl⟩,trivial⟩ ?_
 exact⟨rfl,(⟨_,⟨_,_,rfl,rfl,⟨_,_,rfl,rfl,(ku rfl c1)⟩⟩,rfl⟩:VRep (ja false false) _ _ (⟨(1:Int)+(x.fA%3),(1:Int)+(x.fC%3),aa⟩:Mach))⟩
theorem q9f:Enters prog 18:=enters_of func18 rfl (by kernel_rfl)
theorem rf{a b:Bool}:TyOk prog 32 (ja a b):=by
 obtain⟨i,hi,c⟩: ∃ i,prog.info? 32=some i∧i.size=3:=jr (by kernel_rfl);exact z2n underlying32 hi rfl c
theorem z0c{a b:Bool}:TyOk prog 30 (tSl a (tSl b kEdge)):=by
 obtain⟨i,hi,c⟩: ∃ i,prog.info? 30=some i∧i.size=1:=jr (by kernel_rfl);exact z2n underlying30 hi rfl c
theorem zo4:ZeroOk prog 4 jl false 1:=by
 obtain⟨i,zv,hi,a,c,d,f⟩:=z6d (P:=prog) (e:=4) (zv:=(.bool false)) (k:=1) (b:=1) (by kernel_rfl);exact⟨i,zv,hi,a,c,d,fun R=>by subst f;exact rfl⟩
theorem qaw{a:Bool}:ZeroOk prog 64 (tSl a jl) ([]:List Bool) 24:=by
 obtain⟨i,zv,hi,c,d,f,g⟩:=z6d (P:=prog) (e:=64) (zv:=vs0) (k:=1) (b:=24) (by kernel_rfl);exact⟨i,zv,hi,c,d,f,fun R=>by subst g;exact(ku rfl z3f)⟩
theorem z6v: ∀ w,∃ z,(zeroValue 100).run prog w= .ok z w∧z.cells=([.int .i64 0,.int .i64 0]:List Value).toArray:=fun w=>⟨(.agg #[(vi 0),(vi 0)]),by kernel_rfl,rfl⟩
theorem z4o: ∀ w,(sizeOf 100).run prog w= .ok 2 w:=fun w=>by kernel_rfl
theorem z6i:FieldOk prog 100 1 1:=by
 obtain⟨i,hi,a⟩: ∃ i,prog.info? 3=some i∧i.size=1:=jr (by kernel_rfl);exact uj underlying100 rfl rfl hi (by rw [a];rfl)
theorem zg4{a:Bool}:TyOk prog 64 (tSl a jl):=by
 obtain⟨i,hi,b⟩: ∃ i,prog.info? 64=some i∧i.size=1:=jr (by kernel_rfl);exact z2n underlying64 hi rfl b
theorem zj0{a:Bool}:SlOk prog 121 64 (tSl a jl):=⟨underlying121,zg4⟩
theorem ty4:TyOk prog 4 jl:=by
 obtain⟨i,hi,a⟩: ∃ i,prog.info? 4=some i∧i.size=1:=jr (by kernel_rfl);exact z2n underlying4 hi rfl a
theorem z4p:SlOk prog 64 4 jl:=⟨underlying64,ty4⟩
theorem zea{N:Nat}{R:RH}{m:Mach}{P:Value}(am:VRep (ja false false) R P m){marked:(List (List Bool))}{o:Value}(H:VRep (tSl false (tSl false jl)) R o marked){s:Int}{t:Int}{r:Int}(B:z2u N m marked s t=some r):CallP prog 88 #[P,o,(vi s),(vi t)] R (fun v R'=>v=(vi r)):=by
 refine qg (args:=[P,o,(vi s),(vi t)]) func88 rfl rfl fun A=>?_;rw [z2u] at B;refine zl (jy (T:=(ja false false)) rfl rfl rfl am fun v1 R3 Q h5 h2=>?_);refine zi (vi 0) (z8 ?_);obtain⟨q7,j,B⟩:=zq B
 refine ql (γ:=Unit) (rs [8,60]) (fun g=>[]) (fun g=>[]++A) (fun g R=>q7=Ex.go g∧True) ?_ ?_;refine zl (zi (vi 0) (z8 (zx (j5 (γ:=Nat×Int) (rs [8,60]) (fun g=>[(9,(vi g.2))]) (fun g=>[]++A) (fun g R=>vz N m marked s t g.1 g.2=some q7∧True) (fun g=>g.1) (N,0) prm ⟨j,trivial⟩ ?_))));clear j
 rintro⟨L,a⟩ a7 bD z ⟨j,_⟩;rcases L with _|L;exact qp j;replace j:vz N m marked s t (L+1) a=some q7:=j;rw [vz] at j;refine q9 (zl (zg (vi a) (jb rfl av nz rfl (h2.mono z) fun bE ap=>?_)));refine qh rfl ty3 rfl ap fun bF aq=>?_;obtain rfl:=j6.1 aq
 refine zo (j3 rfl rfl) (z8 (zw rfl j (fun j=>?_) (fun j=>?_)));refine qa (q9 (zx (q9 ?_)));obtain⟨S,U,V,W,j⟩:=q2j j
 refine z9s [16,17,18,19] [(fun es=>phP (tSl false (tSl false kEdge)) m.rows),(fun es=>phR (tSl false (tSl false kEdge)) m.rows),(fun es=>phX (vi s)),(fun es=>phP (tSl false kEdge) (ix m.rows s)),(fun es=>phR (tSl false kEdge) (ix m.rows s)),(fun es=>phX (vi a)),(fun es=>phP kEdge (ix (ix m.rows s) a)),(fun es=>phX (z0s (ix (ix m.rows s) a))),(fun es=>phP (tSl false (tSl false kEdge)) m.rows),(fun es=>phR (tSl false (tSl false kEdge)) m.rows),(fun es=>phX (vi t)),(fun es=>phP (tSl false kEdge) (ix m.rows t)),(fun es=>phR (tSl false kEdge) (ix m.rows t)),(fun es=>phX (vi a)),(fun es=>phP kEdge (ix (ix m.rows t) a)),(fun es=>phX (z0s (ix (ix m.rows t) a))),(fun es=>(fun v _=>v= .pointer (some ⟨z4a v,0,none⟩))),(fun es=>(fun v _=>v= .pointer (some ⟨z4a v,0,none⟩))),(fun es=>(fun _ _=>True)),(fun es=>(fun _ _=>True))] (fun fl es R O=>(fl=[false,false,false,false]∧O.Perm ([]++A)∧True)∨(fl=[true,false,false,false]∧O.Perm ([box (z4a (es.getD 0 undef)) [(vi 0),(vi 0)] 100]++A)∧True)∨(fl=[false,true,false,false]∧O.Perm ([box (z4a (es.getD 1 undef)) [(vi 0),(vi 0)] 100]++A)∧True)∨(fl=[true,true,false,false]∧O.Perm ([box (z4a (es.getD 0 undef)) [(vi 0),(vi 0)] 100,box (z4a (es.getD 1 undef)) [(vi 0),(vi 0)] 100]++A)∧True)∨(fl=[true,true,true,false]∧O.Perm ([box (z4a (es.getD 0 undef)) [(vi ((ix (ix m.rows s) a).to)),(vi ((ix (ix m.rows s) a).out))] 100,box (z4a (es.getD 1 undef)) [(vi 0),(vi 0)] 100]++A)∧True)∨(fl=[true,true,true,true]∧O.Perm ([box (z4a (es.getD 0 undef)) [(vi ((ix (ix m.rows s) a).to)),(vi ((ix (ix m.rows s) a).out))] 100,box (z4a (es.getD 1 undef)) [(vi ((ix (ix m.rows t) a).to)),(vi ((ix (ix m.rows t) a).out))] 100]++A)∧True)) mixed (by kernel_rfl) ⟨(qy wm),(qy vo),(qy zh),(qy wm),(qy vo),(qy zh),(qy wm),(qy zh),(qy wm),(qy vo),(qy zh),(qy wm),(qy vo),(qy zh),(qy wm),(qy zh),(fun _ _ _ _ _ h=>h),(fun _ _ _ _ _ h=>h),(fun _ _ _ _ _ h=>h),(fun _ _ _ _ _ h=>h),trivial⟩ (by rintro fl es R R' O c (⟨rfl,n,_⟩|⟨rfl,n,_⟩|⟨rfl,n,_⟩|⟨rfl,n,_⟩|⟨rfl,n,_⟩|⟨rfl,n,_⟩);exact(.inl ⟨rfl,n,trivial⟩);exact(.inr (.inl ⟨rfl,n,trivial⟩));exact(.inr (.inr (.inl ⟨rfl,n,trivial⟩)));exact(.inr (.inr (.inr (.inl ⟨rfl,n,trivial⟩))));exact(.inr (.inr (.inr (.inr (.inl ⟨rfl,n,trivial⟩)))));exact(.inr (.inr (.inr (.inr (.inr ⟨rfl,n,trivial⟩)))))) ⟨(fun _ _ _ _ _ h=>h),(fun _ _ _ _ _ h=>h),(fun _ _ _ _ _ h=>h),(fun _ _ _ _ _ h=>h),(fun _ _ _ _ _ h=>h),(fun _ _ _ _ _ h=>h),(fun _ _ _ _ _ h=>h),(fun _ _ _ _ _ h=>h),(fun _ _ _ _ _ h=>h),(fun _ _ _ _ _ h=>h),(fun _ _ _ _ _ h=>h),(fun _ _ _ _ _ h=>h),(fun _ _ _ _ _ h=>h),(fun _ _ _ _ _ h=>h),(fun _ _ _ _ _ h=>h),(fun _ _ _ _ _ h=>h),(fun _ _ _ _ _ h=>h),(fun _ _ _ _ _ h=>h),(fun _ _ _ _ _ h=>h),(fun _ _ _ _ _ h=>h),trivial⟩ (fun es=> .inl ⟨rfl,(List.Perm.refl _),trivial⟩) ⟨?_,?_,?_,?_,?_,?_,?_,?_,?_,?_,?_,?_,?_,?_,?_,?_,?_,?_,?_,?_,trivial⟩ fun bG K=>?_
 intro l ar fl O c f q x y;exact oq ug ko (f 4 rfl) ((h2.mono z).mono c);intro l au fl O c f q x y;obtain⟨d,_⟩:=q;exact kz z0c rfl (d rfl);intro l aw fl O c f q x y;exact zn (zf (f 2 rfl));intro l ay fl O c f q x y;obtain⟨d,k,_⟩:=q
 exact ut (i:=s.toNat) z7n rfl (qz (d rfl)) (ze (k rfl) S.1) (zz S);intro l az fl O c f q x y;obtain⟨d,_⟩:=q;exact kz z7i rfl (d rfl);intro l aA fl O c f q x y;exact zn (zf (f 9 rfl));intro l aB fl O c f q x y;obtain⟨d,k,_⟩:=q
 exact ut (i:=a.toNat) z8x rfl (qz (d rfl)) (ze (k rfl) U.1) (zz U);intro l aC fl O c f q x y;obtain⟨d,_⟩:=q;exact uu (kz z7k rfl (d rfl)) (fun _ _ h=>ax.1 h);intro l aD fl O c f q x y;obtain⟨d,_⟩:=q;exact oq ug ko (f 4 rfl) ((h2.mono z).mono c);intro l aE fl O c f q x y
 obtain⟨d,k,_⟩:=q;exact kz z0c rfl (d rfl);intro l X fl O c f q x y;obtain⟨d,_⟩:=q;exact zn (zf (f 3 rfl));intro l Y fl O c f q x y;obtain⟨d,k,F,_⟩:=q;exact ut (i:=t.toNat) z7n rfl (qz (d rfl)) (ze (k rfl) V.1) (zz V);intro l Z fl O c f q x y;obtain⟨d,k,_⟩:=q;exact kz z7i rfl (d rfl)
 intro l aa fl O c f q x y;obtain⟨d,_⟩:=q;exact zn (zf (f 9 rfl));intro l ab fl O c f q x y;obtain⟨d,k,F,_⟩:=q;exact ut (i:=a.toNat) z8x rfl (qz (d rfl)) (ze (k rfl) W.1) (zz W);intro l ac fl O c f q x y;obtain⟨d,k,_⟩:=q;exact uu (kz z7k rfl (d rfl)) (fun _ _ h=>ax.1 h)
 intro l ad fl O c f q x G y;rcases y with⟨rfl,n,_⟩|⟨rfl,n,_⟩|⟨rfl,n,_⟩|⟨rfl,n,_⟩|⟨rfl,n,_⟩|⟨rfl,n,_⟩;refine uw n ?_;refine Eff.mono (z6b z6v) ?_;rintro v R' O' hle' ⟨rfl,b,rfl,rfl⟩;exact⟨rfl,.inr (.inl ⟨rfl,(List.Perm.refl _),trivial⟩)⟩;cases G;refine uw n ?_;refine Eff.mono (z6b z6v) ?_
 rintro v R' O' hle' ⟨rfl,b,rfl,rfl⟩;exact⟨rfl,.inr (.inr (.inr (.inl ⟨rfl,(List.Perm.refl _),trivial⟩)))⟩;cases G;cases G;cases G;intro l ae fl O c f q x G y;rcases y with⟨rfl,n,_⟩|⟨rfl,n,_⟩|⟨rfl,n,_⟩|⟨rfl,n,_⟩|⟨rfl,n,_⟩|⟨rfl,n,_⟩;refine uw n ?_;refine Eff.mono (z6b z6v) ?_;rintro v R' O' hle' ⟨rfl,b,rfl,rfl⟩
 exact⟨rfl,.inr (.inr (.inl ⟨rfl,(List.Perm.refl _),trivial⟩))⟩;refine uw n ?_;refine Eff.mono (z6b z6v) ?_;rintro v R' O' hle' ⟨rfl,b,rfl,rfl⟩;exact⟨rfl,.inr (.inr (.inr (.inl ⟨rfl,(pk 1 rfl (pk 0 rfl (List.Perm.refl _))),trivial⟩)))⟩;cases G;cases G;cases G;cases G;intro l af fl O c f q x G y
 obtain⟨d,k,F,d3,d4,d5,d6,d7,d8,d9,aF,aG,aH,aI,aJ,aK,aL,aM,aN,aO,_⟩:=q;rcases y with⟨rfl,n,_⟩|⟨rfl,n,_⟩|⟨rfl,n,_⟩|⟨rfl,n,_⟩|⟨rfl,n,_⟩|⟨rfl,n,_⟩;exact il x (by kernel_rfl);exact il x (by kernel_rfl);exact il x (by kernel_rfl);refine uw n ?_
 refine Eff.mono (z2m (i:=0) (vs:=[(vi ((ix (ix m.rows s) a).to)),(vi ((ix (ix m.rows s) a).out))]) z4o (d rfl) (k rfl) rfl rfl rfl (Nat.le_of_ble_eq_true rfl) (qf rfl (qf rfl jq))) ?_;rintro v R' O' hle' ⟨_,rfl,rfl⟩;exact⟨trivial,.inr (.inr (.inr (.inr (.inl ⟨rfl,(List.Perm.refl _),trivial⟩))))⟩;cases G;cases G
 intro l ag fl O c f q x G y;obtain⟨d,k,F,d3,d4,d5,d6,d7,d8,d9,aF,aG,aH,aI,aJ,aK,aL,aM,aN,aO,bO,bP,_⟩:=q;rcases y with⟨rfl,n,_⟩|⟨rfl,n,_⟩|⟨rfl,n,_⟩|⟨rfl,n,_⟩|⟨rfl,n,_⟩|⟨rfl,n,_⟩;exact il x (by kernel_rfl);exact il x (by kernel_rfl);exact il x (by kernel_rfl);exact il x (by kernel_rfl)
 refine uw n ?_;refine Eff.mono (z2m (i:=1) (vs:=[(vi ((ix (ix m.rows t) a).to)),(vi ((ix (ix m.rows t) a).out))]) z4o (d rfl) (k rfl) rfl rfl rfl (Nat.le_of_ble_eq_true rfl) (qf rfl (qf rfl jq))) ?_;rintro v R' O' hle' ⟨_,rfl,rfl⟩;exact⟨trivial,.inr (.inr (.inr (.inr (.inr ⟨rfl,(List.Perm.refl _),trivial⟩))))⟩;cases G
 intro bQ bR bS bT bU bV bW bX bY bZ b0 b1 b2 b3 b4 b5 aP aQ b6 b7 aR b8 b9 aS ca aT cb cc aU cd ce aV cf aW aX aY;rintro a8 (⟨e,_⟩|⟨e,_⟩|⟨e,_⟩|⟨e,_⟩|⟨e,_⟩|⟨_,n,_⟩);cases e;cases e;cases e;cases e;cases e;refine⟨[],_,n,?_⟩;obtain⟨C,rfl⟩: ∃ b,aP= .pointer (some ⟨b,0,none⟩):=⟨_,aX⟩
 obtain⟨E,rfl⟩: ∃ b,aQ= .pointer (some ⟨b,0,none⟩):=⟨_,aY⟩;obtain rfl:=Eq.symm aR;obtain rfl:=Eq.symm aS;obtain rfl:=Eq.symm aT;obtain rfl:=Eq.symm aU;obtain rfl:=Eq.symm aV;obtain rfl:=Eq.symm aW;refine z8 (q9 ?_);obtain⟨ah,ai,j⟩:=q0s j
 let G1:=(((decide (0≤((ix (ix m.rows s) a).to)))&&(decide (0≤((ix (ix m.rows t) a).to))))&&(ix (ix marked ((ix (ix m.rows s) a).to)) ((ix (ix m.rows t) a).to)));let w:=(true&&((decide (((ix (ix m.rows s) a).out)≠((ix (ix m.rows t) a).out)))==false));let I:=((decide (0≤((ix (ix m.rows s) a).to)))&&(decide (0≤((ix (ix m.rows t) a).to))))
 refine p8 26 [] [phX (.pointer (some ⟨C,1,none⟩)),phX (vi ((ix (ix m.rows s) a).out)),phX (.pointer (some ⟨E,1,none⟩)),phX (vi ((ix (ix m.rows t) a).out)),phX (.bool (decide (((ix (ix m.rows s) a).out)≠((ix (ix m.rows t) a).out)))),phX (.bool (decide (((ix (ix m.rows s) a).out)≠((ix (ix m.rows t) a).out)))),phG w (phX (.pointer (some ⟨C,0,none⟩))),phG w (phX (vi ((ix (ix m.rows s) a).to))),phG w (phX (.bool (decide (0≤((ix (ix m.rows s) a).to))))),phG w (phX (.bool (decide (0≤((ix (ix m.rows s) a).to))))),phG (w&&((decide (0≤((ix (ix m.rows s) a).to)))==true)) (phX (.pointer (some ⟨E,0,none⟩))),phG (w&&((decide (0≤((ix (ix m.rows s) a).to)))==true)) (phX (vi ((ix (ix m.rows t) a).to))),phG (w&&((decide (0≤((ix (ix m.rows s) a).to)))==true)) (phX (.bool (decide (0≤((ix (ix m.rows t) a).to))))),phG w (phX (.bool I)),phG w (phX (.bool I)),phG (w&&(I==true)) (phX o),phG (w&&(I==true)) (phX (.pointer (some ⟨C,0,none⟩))),phG (w&&(I==true)) (phX (vi ((ix (ix m.rows s) a).to))),phG (w&&(I==true)) (phP (tSl false jl) (ix marked ((ix (ix m.rows s) a).to))),phG (w&&(I==true)) (phR (tSl false jl) (ix marked ((ix (ix m.rows s) a).to))),phG (w&&(I==true)) (phX (.pointer (some ⟨E,0,none⟩))),phG (w&&(I==true)) (phX (vi ((ix (ix m.rows t) a).to))),phG (w&&(I==true)) (phP jl (ix (ix marked ((ix (ix m.rows s) a).to)) ((ix (ix m.rows t) a).to))),phG (w&&(I==true)) (phX (.bool (ix (ix marked ((ix (ix m.rows s) a).to)) ((ix (ix m.rows t) a).to)))),phG w (phX (.bool G1)),phX (.bool ((decide (((ix (ix m.rows s) a).out)≠((ix (ix m.rows t) a).out)))||G1))] mixed (by kernel_rfl) (vw ⟨zh,zh,zh,zh,zh,zh,(qj zh),(qj zh),(qj zh),(qj zh),(qj zh),(qj zh),(qj zh),(qj zh),(qj zh),(qj zh),(qj zh),(qj zh),(qj wm),(qj vo),(qj zh),(qj zh),(qj wm),(qj zh),(qj zh),zh,trivial⟩) ⟨?_,?_,?_,?_,?_,?_,?_,?_,?_,?_,?_,?_,?_,?_,?_,?_,?_,?_,?_,?_,?_,?_,?_,?_,?_,?_,trivial⟩ fun cg M=>?_
 intro l ar c f q;exact za rfl rfl rfl (zn (q8 z6i (f 10 rfl)));rintro l au c f ⟨d,_⟩;exact za rfl rfl rfl (zn (qb (i:=0) ag3 (d rfl) rfl rfl));intro l aw c f q;exact za rfl rfl rfl (zn (q8 z6i (f 11 rfl)));rintro l ay c f ⟨d,_⟩
 exact za rfl rfl rfl (zn (qb (i:=1) ag3 (d rfl) rfl rfl));rintro l az c f ⟨d,k,_⟩;exact za rfl rfl rfl (zn (xx (d rfl) (k rfl)));rintro l aA c f ⟨d,_⟩;exact za rfl rfl rfl (zn (zf (d rfl)));rintro l aB c f ⟨d,_⟩
 exact zm (Gj:=true) (Bj:=decide (((ix (ix m.rows s) a).out)≠((ix (ix m.rows t) a).out))) rfl rfl rfl (jm (d rfl)) rfl (fun u p=>zn (q8 yo (f 10 rfl)));rintro l aC c f ⟨d,k,_⟩
 exact zm (Gj:=true) (Bj:=decide (((ix (ix m.rows s) a).out)≠((ix (ix m.rows t) a).out))) rfl rfl rfl (jm (k rfl)) rfl (fun u p=>zn (qb (i:=0) ag3 (show l 40=(.pointer (some ⟨C,0,none⟩)) from(d rfl).1 (zt rfl p)) rfl rfl));rintro l aD c f ⟨d,k,_⟩
 exact zm (Gj:=true) (Bj:=decide (((ix (ix m.rows s) a).out)≠((ix (ix m.rows t) a).out))) rfl rfl rfl (jm (k rfl)) rfl (fun u p=>zn (z10 (show l 41=(vi ((ix (ix m.rows s) a).to)) from(d rfl).1 (zt rfl p)) rfl));rintro l aE c f ⟨d,k,F,_⟩
 exact zm (Gj:=true) (Bj:=decide (((ix (ix m.rows s) a).out)≠((ix (ix m.rows t) a).out))) rfl rfl rfl (jm (k rfl)) rfl (fun u p=>zn (zf (show l 42=(.bool (decide (0≤((ix (ix m.rows s) a).to)))) from(d rfl).1 (zt rfl p))));rintro l X c f ⟨d,_⟩
 exact zm (Gj:=w) (Bj:=decide (0≤((ix (ix m.rows s) a).to))) rfl rfl rfl (d rfl) rfl (fun u p=>zn (q8 yo (f 11 rfl)));rintro l Y c f ⟨d,k,_⟩
 exact zm (Gj:=w) (Bj:=decide (0≤((ix (ix m.rows s) a).to))) rfl rfl rfl (k rfl) rfl (fun u p=>zn (qb (i:=1) ag3 (show l 44=(.pointer (some ⟨E,0,none⟩)) from(d rfl).1 (zt u p)) rfl rfl));rintro l Z c f ⟨d,k,_⟩
 exact zm (Gj:=w) (Bj:=decide (0≤((ix (ix m.rows s) a).to))) rfl rfl rfl (k rfl) rfl (fun u p=>zn (z10 (show l 45=(vi ((ix (ix m.rows t) a).to)) from(d rfl).1 (zt u p)) rfl));rintro l aa c f ⟨d,k,F,_⟩
 exact zm (Gj:=true) (Bj:=decide (((ix (ix m.rows s) a).out)≠((ix (ix m.rows t) a).out))) rfl rfl rfl (jm (F rfl)) rfl (fun u p=>zn (xz (show l 43=(.bool (decide (0≤((ix (ix m.rows s) a).to)))) from(d rfl).1 (zt rfl p)) (fun hb=>(show l 46=(.bool (decide (0≤((ix (ix m.rows t) a).to)))) from(k rfl).1 (zt (zt rfl p) hb))) rfl))
 rintro l ab c f ⟨d,k,F,_⟩;exact zm (Gj:=true) (Bj:=decide (((ix (ix m.rows s) a).out)≠((ix (ix m.rows t) a).out))) rfl rfl rfl (jm (F rfl)) rfl (fun u p=>zn (zf (show l 47=(.bool I) from(d rfl).1 (zt rfl p))));rintro l ac c f ⟨d,_⟩
 exact zm (Gj:=w) (Bj:=(decide (0≤((ix (ix m.rows s) a).to)))&&(decide (0≤((ix (ix m.rows t) a).to)))) rfl rfl rfl (d rfl) rfl (fun u p=>zn (zf (f 1 rfl)));rintro l ad c f ⟨d,_⟩
 exact zm (Gj:=w) (Bj:=(decide (0≤((ix (ix m.rows s) a).to)))&&(decide (0≤((ix (ix m.rows t) a).to)))) rfl rfl rfl (d rfl) rfl (fun u p=>zn (q8 yo (f 10 rfl)));rintro l ae c f ⟨d,k,_⟩
 exact zm (Gj:=w) (Bj:=(decide (0≤((ix (ix m.rows s) a).to)))&&(decide (0≤((ix (ix m.rows t) a).to)))) rfl rfl rfl (k rfl) rfl (fun u p=>zn (qb (i:=0) ag3 (show l 50=(.pointer (some ⟨C,0,none⟩)) from(d rfl).1 (zt u p)) rfl rfl));rintro l af c f ⟨d,k,F,_⟩
 exact zm (Gj:=w) (Bj:=(decide (0≤((ix (ix m.rows s) a).to)))&&(decide (0≤((ix (ix m.rows t) a).to)))) rfl rfl rfl (F rfl) rfl (fun u p=>ut (i:=((ix (ix m.rows s) a).to).toNat) zj0 (show l 49=o from(d rfl).1 (zt u p)) (qz ((H.mono ((Q.trans z).trans K)).mono c)) (ze (show l 51=(vi ((ix (ix m.rows s) a).to)) from(k rfl).1 (zt u p)) (ah (zt u p)).1) (zz (ah (zt u p))))
 rintro l ag c f ⟨d,k,_⟩;exact zm (Gj:=w) (Bj:=(decide (0≤((ix (ix m.rows s) a).to)))&&(decide (0≤((ix (ix m.rows t) a).to)))) rfl rfl rfl (k rfl) rfl (fun u p=>kz zg4 rfl ((d rfl).1 (zt u p)));rintro l a9 c f ⟨d,_⟩
 exact zm (Gj:=w) (Bj:=(decide (0≤((ix (ix m.rows s) a).to)))&&(decide (0≤((ix (ix m.rows t) a).to)))) rfl rfl rfl (d rfl) rfl (fun u p=>zn (q8 yo (f 11 rfl)));rintro l ba c f ⟨d,k,_⟩
 exact zm (Gj:=w) (Bj:=(decide (0≤((ix (ix m.rows s) a).to)))&&(decide (0≤((ix (ix m.rows t) a).to)))) rfl rfl rfl (k rfl) rfl (fun u p=>zn (qb (i:=1) ag3 (show l 54=(.pointer (some ⟨E,0,none⟩)) from(d rfl).1 (zt u p)) rfl rfl));rintro l bb c f ⟨d,k,F,_⟩
 exact zm (Gj:=w) (Bj:=(decide (0≤((ix (ix m.rows s) a).to)))&&(decide (0≤((ix (ix m.rows t) a).to)))) rfl rfl rfl (F rfl) rfl (fun u p=>ut (i:=((ix (ix m.rows t) a).to).toNat) z4p rfl (qz ((d rfl).1 (zt u p))) (ze (show l 55=(vi ((ix (ix m.rows t) a).to)) from(k rfl).1 (zt u p)) (ai (zt u p)).1) (zz (ai (zt u p))))
 rintro l bc c f ⟨d,k,_⟩;exact zm (Gj:=w) (Bj:=(decide (0≤((ix (ix m.rows s) a).to)))&&(decide (0≤((ix (ix m.rows t) a).to)))) rfl rfl rfl (k rfl) rfl (fun u p=>uu (kz ty4 rfl ((d rfl).1 (zt u p))) (fun _ _ h=>ul.1 h));rintro l be c f ⟨d,k,F,_⟩
 exact zm (Gj:=true) (Bj:=decide (((ix (ix m.rows s) a).out)≠((ix (ix m.rows t) a).out))) rfl rfl rfl (jm (F rfl)) rfl (fun u p=>zn (xz (show l 48=(.bool I) from(d rfl).1 (zt rfl p)) (fun hb=>(show l 57=(.bool (ix (ix marked ((ix (ix m.rows s) a).to)) ((ix (ix m.rows t) a).to))) from(k rfl).1 (zt (zt rfl p) hb))) rfl))
 rintro l bf c f ⟨d,k,_⟩;exact za rfl rfl rfl (zn (z0v (d rfl) rfl (fun hb=>(show l 58=(.bool G1) from(k rfl).1 (zt rfl hb)))));intro ch a0 ci a1 cj a2 ck a3 cl a4 cm a5 cn co cp cq cr cs ct cu cv cw cx cy cz cA cB cC cD cE bg bh bi bj bk bl bm bn bo bp bq br bs bt bu bv bw bx bz bA bB ak
 obtain rfl:=Eq.symm a0;obtain rfl:=Eq.symm a1;obtain rfl:=Eq.symm a2;obtain rfl:=Eq.symm a3;obtain rfl:=Eq.symm a4;obtain rfl:=Eq.symm a5;obtain rfl:=Eq.symm ak;refine z8 (zw rfl j (fun j=>?_) (fun j=>?_));refine zl (zi (vi 1) (z8 (qx ?_)));replace B:=z3k j B;obtain rfl:=Option.some.inj B
 refine qd (D:=[]) (J:=[box C [(vi ((ix (ix m.rows s) a).to)),(vi ((ix (ix m.rows s) a).out))] 100,box E [(vi ((ix (ix m.rows t) a).to)),(vi ((ix (ix m.rows t) a).out))] 100]) (rs:=[.tmp 8]) (vs:=[(vi 1)]) (((Q.trans z).trans K).trans M) rfl rfl ⟨rfl,trivial⟩ ?_;exact⟨rfl,rfl⟩
 refine qa (zy (zg (vi a) ?_));obtain⟨al,j⟩:=zb j;refine zo (j4 rfl rfl al) (zi (vi (a+1)) (z8 ?_))
 exact⟨dkt,(K.trans M),je,(L,a+1),Nat.lt_succ_self _,⟨rfl,trivial⟩,⟨[box C [(vi ((ix (ix m.rows s) a).to)),(vi ((ix (ix m.rows s) a).out))] 100,box E [(vi ((ix (ix m.rows t) a).to)),(vi ((ix (ix m.rows t) a).out))] 100],(List.Perm.refl _)⟩,j,trivial⟩;refine jd ?_
 exact⟨dkt,z,je,(),trivial,prm,(Option.some.inj j).symm,trivial⟩;rintro o6 bC R8 a6 ⟨rfl,_⟩;replace B:=z4x B;refine zl (zi (vi 0) (z8 (qx ?_)));obtain rfl:=Option.some.inj B;refine qd (D:=[]) (J:=[]) (rs:=[.tmp 8]) (vs:=[(vi 0)]) (Q.trans a6) rfl rfl ⟨rfl,trivial⟩ ?_;exact⟨rfl,rfl⟩
theorem qby:Enters prog 88:=enters_of func88 rfl (by kernel_rfl)
theorem q3r:ZeroOk prog 64 tHdr vs0 24:=by
 obtain⟨i,zv,hi,a,c,d,f⟩:=z6d (P:=prog) (e:=64) (zv:=vs0) (k:=1) (b:=24) (by kernel_rfl);exact⟨i,zv,hi,a,c,d,fun R=>by subst f;exact⟨rfl,rfl⟩⟩
theorem z5n{N:Nat}{R:RH}{m:Mach}{L:Value}(aG:VRep (ja false false) R L m){k:Int}{r:(List (List Bool))}(Y:ni N m k=some r):CallP prog 68 #[L,(vi k)] R (fun v R'=>VRep (tSl false (tSl true jl)) R' v r):=by
 refine qg (args:=[L,(vi k)]) func68 rfl rfl fun A=>?_;rw [ni] at Y;refine zl (jy (T:=(ja false false)) rfl rfl rfl aG fun v1 R3 aH h5 h2=>?_);refine zi vs0 (qw (jb rfl ug ko rfl h2 fun v6 h7=>?_));refine qh rfl z0c rfl h7 fun v8 h9=>?_
 refine zo (qi rfl underlying30 rfl (qz h9)) (zi (vi (↑m.rows.length:Int)) (qw (zi vs0 (z8 ?_))));obtain⟨ab,f,Y⟩:=zq Y;refine ql (γ:=(List (List Bool))×Value×Frag) (rs [6,8,15,25]) (fun g=>[(6,g.2.1)]) (fun g=>[g.2.2]++A) (fun g R=>ab=g.1∧NRep true jl R g.2.2 g.2.1 g.1∧True) ?_ ?_
 refine zl (zi (vi 0) (z8 (zx (z1g ?_))))
 refine j5 (γ:=Nat×(List (List Bool))×Int×Value×Frag) (rs [6,8,15,25]) (fun g=>[(6,g.2.2.2.1),(7,(vi g.2.2.1))]) (fun g=>[g.2.2.2.2]++A) (fun g R=>gq N m g.1 g.2.1 g.2.2.1=some ab∧NRep true jl R g.2.2.2.2 g.2.2.2.1 g.2.1∧True) (fun g=>g.1) (N,[],0,vs0,emp) prm ⟨f,(om (zq8 (t:=true) (T:=jl) (R:=R3))),trivial⟩ ?_
 clear f;rintro⟨aq,ar,ac,aQ,aR⟩ cW cX aS ⟨f,⟨bz,aT⟩,_⟩;rcases aq with _|aq;exact qp f;replace f:gq N m (aq+1) ar ac=some ab:=f;rw [gq] at f
 refine q9 (zl (zg (vi ac) (zg (vi (↑m.rows.length:Int)) (zo (j3 rfl rfl) (z8 (zw rfl f (fun f=>?_) (fun f=>?_)))))));refine qa (q9 (zx (zy (zg aQ (zg (vi (↑m.rows.length:Int)) ?_)))));obtain⟨av,f⟩:=zb f
 refine z2p (T:=jl) (m:=(↑m.rows.length:Int).toNat) (c:=(↑m.rows.length:Int).toNat) rfl underlying64 zo4 (ze rfl av.1) (ze rfl av.1) (Nat.le_refl _) (z3h av) (z3m av) fun aw bA aI aJ=>?_
 refine z96 rfl (z4y (T:=tHdr) (X:=[aw]) (ps:=[(0,aw)]) (css:=[[aw]]) underlying121 q3r rfl (by simp only [List.map_cons,List.map_nil,au aJ];rfl) (kv ⟨zl7 (wz aJ),trivial⟩) rfl rfl (by decide)) fun cY cZ ad bB=>?_;obtain⟨aU,f⟩:=zb f
 refine zqm (Oc:=[aR,bA]) (Or:=[]++A) rfl (pk 1 rfl (pk 0 rfl (List.Perm.refl _))) (zbt underlying121 q3r rfl rfl (aT.mono ad) (aJ.mono ad) (qz bB) (fun _=>(aI.trans List.length_replicate.symm)) aU.1 aU.2) ?_;rintro aK c0 bT bU ⟨rfl,aV,rfl,aL⟩;replace aL:N2 true jl _ aV aK (bz++[aw]) (ar++[(mk (↑m.rows.length:Int) false)]):=aL
 refine zi aK (z8 (zy (zg (vi ac) ?_)));obtain⟨bC,f⟩:=zb f;refine zo (j4 rfl rfl bC) (zi (vi (ac+1)) (z8 ?_));exact⟨dkt,ad,je,(aq,(ar++[(mk (↑m.rows.length:Int) false)]),ac+1,aK,aV),Nat.lt_succ_self _,⟨rfl,rfl,trivial⟩,prm,f,(om aL),trivial⟩;refine jd ?_
 exact⟨dkt,aS,je,(ar,aQ,aR),⟨rfl,trivial⟩,prm,(Option.some.inj f).symm,(om aT),trivial⟩;rintro⟨ab,bD,bE⟩ c1 c2 O ⟨rfl,⟨c3,bF⟩,_⟩;obtain⟨ae,f,Y⟩:=zq Y
 refine ql (γ:=(List (List Bool))×Value×Frag) (rs [6,7,8,12,25,67]) (fun g=>[(6,g.2.1)]) (fun g=>[g.2.2]++A) (fun g R=>ae=g.1∧NRep true jl R g.2.2 g.2.1 g.1∧True) ?_ ?_
 refine zl (zi (vi 0) (z8 (zx (j5 (γ:=Nat×(List (List Bool))×Int×Value×Frag) (rs [6,7,8,12,25,67]) (fun g=>[(6,g.2.2.2.1),(8,(vi g.2.2.1))]) (fun g=>[g.2.2.2.2]++A) (fun g R=>bq N m k g.1 g.2.1 g.2.2.1=some ae∧NRep true jl R g.2.2.2.2 g.2.2.2.1 g.2.1∧True) (fun g=>g.1) (N,ab,0,bD,bE) prm ⟨f,(om bF),trivial⟩ ?_))))
 clear f;rintro⟨ax,q,af,G,M⟩ bV bG P ⟨f,⟨aM,Z⟩,_⟩;rcases ax with _|ax;exact qp f;replace f:bq N m k (ax+1) q af=some ae:=f;rw [bq] at f;refine q9 (zl (zg (vi af) (zg (vi k) (zo (j3 rfl rfl) (z8 (zw rfl f (fun f=>?_) (fun f=>?_)))))))
 refine qa (q9 (zx (zl (zi vs0 (z8 ?_)))));obtain⟨ag,w,f⟩:=zq f;refine ql (γ:=(List (List Bool))×Value×Frag) (rs [9,12,30,66]) (fun g=>[(9,g.2.1)]) (fun g=>[g.2.2]++A) (fun g R=>ag=g.1∧NRep true jl R g.2.2 g.2.1 g.1∧True) ?_ ?_;refine zl (zi (vi 0) (z8 (zx (z1g ?_))))
 refine j5 (γ:=Nat×(List (List Bool))×Int×Value×Frag) (rs [9,12,30,66]) (fun g=>[(9,g.2.2.2.1),(10,(vi g.2.2.1))]) (fun g=>[M,g.2.2.2.2]++A) (fun g R=>bv N m q g.1 g.2.1 g.2.2.1=some ag∧NRep true jl R g.2.2.2.2 g.2.2.2.1 g.2.1∧True) (fun g=>g.1) (N,[],0,vs0,emp) ⟨[],(pk 1 rfl (pk 0 rfl (List.Perm.refl _)))⟩ ⟨w,(om (zq8 (t:=true) (T:=jl) (R:=bG))),trivial⟩ ?_
 clear w;rintro⟨ay,az,d,aW,aX⟩ bW c4 y ⟨w,⟨bH,aY⟩,_⟩;rcases ay with _|ay;exact qp w;replace w:bv N m q (ay+1) az d=some ag:=w;rw [bv] at w
 refine q9 (zl (zg (vi d) (zg (vi (↑m.rows.length:Int)) (zo (j3 rfl rfl) (z8 (zw rfl w (fun w=>?_) (fun w=>?_)))))));refine qa ?_;obtain⟨ah,o,w⟩:=zq w
 refine ql (γ:=(List (List Bool))×Value×Frag) (rs [9,10,11,12,35,66]) (fun g=>[(9,g.2.1)]) (fun g=>[M,g.2.2]++A) (fun g R=>ah=g.1∧NRep true jl R g.2.2 g.2.1 g.1∧True) ?_ ?_;refine zx (zl (zg aW (zg (vi (↑m.rows.length:Int)) ?_)));obtain⟨Q,o⟩:=zb o
 refine z2p (T:=jl) (m:=(↑m.rows.length:Int).toNat) (c:=(↑m.rows.length:Int).toNat) rfl underlying64 zo4 (ze rfl Q.1) (ze rfl Q.1) (Nat.le_refl _) (z3h Q) (z3m Q) fun S aZ aA ai=>?_
 refine z96 rfl (z4y (T:=tHdr) (X:=[S]) (ps:=[(0,S)]) (css:=[[S]]) underlying121 q3r rfl (by simp only [List.map_cons,List.map_nil,au ai];rfl) (kv ⟨zl7 (wz ai),trivial⟩) rfl rfl (by decide)) fun bX bY p a0=>?_;obtain⟨aC,o⟩:=zb o
 refine zqm (Oc:=[aX,aZ]) (Or:=[M]++A) rfl (pk 2 rfl (pk 0 rfl (pk 0 rfl (List.Perm.refl _)))) (zbt underlying121 q3r rfl rfl (aY.mono p) (ai.mono p) (qz a0) (fun _=>(aA.trans List.length_replicate.symm)) aC.1 aC.2) ?_;rintro E bZ bI bJ ⟨rfl,aD,rfl,aj⟩
 replace aj:N2 true jl _ aD E (bH++[S]) (az++[(mk (↑m.rows.length:Int) false)]):=aj
 refine zi E (qw (zi (vi 0) (z8 (zx (j5 (γ:=Nat×Int×(List (List Bool))×Frag) (rs [11,12,40,66]) (fun g=>[(11,(vi g.2.1))]) (fun g=>[M,g.2.2.2]++A) (fun g R=>bf N m q d g.1 g.2.1 g.2.2.1=some ah∧NRep true jl R g.2.2.2 E g.2.2.1∧True) (fun g=>g.1) (N,0,(az++[(mk (↑m.rows.length:Int) false)]),aD) ⟨[],(pk 1 rfl (pk 0 rfl (List.Perm.refl _)))⟩ ⟨o,(om aj),trivial⟩ ?_)))))
 clear o;rintro⟨U,a,F,aE⟩ b0 b1 s ⟨o,⟨V,H⟩,_⟩;rcases U with _|U;exact qp o;replace o:bf N m q d (U+1) a F=some ah:=o;rw [bf] at o
 refine q9 (zl (zg (vi a) (zg (vi (↑m.rows.length:Int)) (zo (j3 rfl rfl) (z8 (zw rfl o (fun o=>?_) (fun o=>?_)))))));refine qa (q9 (zx ?_));obtain⟨I,K,ak,o⟩:=q1s o;obtain⟨C,a1,o⟩:=zq o;obtain⟨al,o⟩:=zb o
 let G1:=(true&&((ix (ix q d) a)==false))
 refine p8 21 [] [phX E,phX (vi d),(fun u _=>z4e tHdr E V u d.toNat),phX (V.getD d.toNat default),phX (vi a),phX G,phX (vi d),(fun u _=>z4e tHdr G aM u d.toNat),phX (aM.getD d.toNat default),phX (vi a),(fun u _=>z4e jl (aM.getD d.toNat default) (q.getD d.toNat default) u a.toNat),phX (.bool (ix (ix q d) a)),phX (.bool (ix (ix q d) a)),phG G1 (phX L),phG G1 (phX G),phG G1 (phX (vi d)),phG G1 (phX (vi a)),phG G1 (phX (vi (C.getD default))),phG G1 (phX (.bool (decide ((C.getD default)=1)))),phX (.bool ((ix (ix q d) a)||(decide ((C.getD default)=1)))),(fun u _=>z4e jl (V.getD d.toNat default) (F.getD d.toNat default) u a.toNat)] mixed (by kernel_rfl) (vw ⟨zh,zh,(fun _ _ _ _ h=>h),zh,zh,zh,zh,(fun _ _ _ _ h=>h),zh,zh,(fun _ _ _ _ h=>h),zh,zh,(qj zh),(qj zh),(qj zh),(qj zh),(qj zh),(qj zh),zh,(fun _ _ _ _ h=>h),trivial⟩) ⟨?_,?_,?_,?_,?_,?_,?_,?_,?_,?_,?_,?_,?_,?_,?_,?_,?_,?_,?_,?_,?_,trivial⟩ fun b2 am=>?_
 intro l c5 n x hd;exact za rfl rfl rfl (zn (zf (x 9 rfl)));intro l a3 n x hd;exact za rfl rfl rfl (zn (zf (x 10 rfl)));rintro l c6 n x ⟨z,d1,_⟩;exact za rfl rfl rfl (zfs (i:=d.toNat) (zh7 (b:=true) zj0) (z rfl) (H.mono n) (ze (d1 rfl) I.1) (zz I));rintro l c7 n x ⟨z,_⟩
 exact za rfl rfl rfl (zie (i:=d.toNat) (j:=1) (zes (b:=true) zg4) (H.mono n) rfl rfl (z rfl) (zz I));intro l c8 n x hd;exact za rfl rfl rfl (zn (zf (x 11 rfl)));intro l c9 n x hd;exact za rfl rfl rfl (zn (zf (x 6 rfl)));intro l da n x hd;exact za rfl rfl rfl (zn (zf (x 10 rfl)))
 rintro l db n x ⟨z,d1,_⟩;exact za rfl rfl rfl (zfs (i:=d.toNat) (zh7 (b:=true) zj0) (z rfl) ((Z.mono ((y.trans p).trans s)).mono n) (ze (d1 rfl) K.1) (zz K));rintro l dc n x ⟨z,_⟩
 exact za rfl rfl rfl (zie (i:=d.toNat) (j:=0) (zes (b:=true) zg4) ((Z.mono ((y.trans p).trans s)).mono n) rfl rfl (z rfl) (zz K));intro l dd n x hd;exact za rfl rfl rfl (zn (zf (x 11 rfl)));rintro l b3 n x ⟨z,d1,_⟩
 exact za rfl rfl rfl (zda (i:=a.toNat) (r:=d.toNat) z4p ((Z.mono ((y.trans p).trans s)).mono n) (zz K) (z rfl) (ze (d1 rfl) ak.1) (zz ak));rintro l b4 n x ⟨z,_⟩
 exact za rfl rfl rfl (uu (zxe (i:=a.toNat) (r:=d.toNat) (j:=0) ty4 ((Z.mono ((y.trans p).trans s)).mono n) (zz K) rfl rfl (z rfl) (zz ak)) (fun _ _ h=>ul.1 h));rintro l b5 n x ⟨z,_⟩;exact za rfl rfl rfl (zn (zf (z rfl)));rintro l b6 n x ⟨z,_⟩
 exact zm (Gj:=true) (Bj:=(ix (ix q d) a)) rfl rfl rfl (jm (z rfl)) rfl (fun hG hB=>zn (jg rf rfl (x 2 rfl) ((h5.mono ((((O.trans P).trans y).trans p).trans s)).mono n) ((aG.mono (((((aH.trans O).trans P).trans y).trans p).trans s)).mono n)));rintro l b7 n x ⟨z,_⟩
 exact zm (Gj:=true) (Bj:=(ix (ix q d) a)) rfl rfl rfl (jm (z rfl)) rfl (fun hG hB=>zn (zf (x 6 rfl)));rintro l b8 n x ⟨z,_⟩;exact zm (Gj:=true) (Bj:=(ix (ix q d) a)) rfl rfl rfl (jm (z rfl)) rfl (fun hG hB=>zn (zf (x 10 rfl)));rintro l b9 n x ⟨z,_⟩
 exact zm (Gj:=true) (Bj:=(ix (ix q d) a)) rfl rfl rfl (jm (z rfl)) rfl (fun hG hB=>zn (zf (x 11 rfl)));rintro l W n x ⟨z,d1,d2,d3,d4,d5,_⟩;have a4:phG G1 (phX L) (l 58) W:=z rfl;have a5:phG G1 (phX G) (l 59) W:=d1 rfl;have a6:phG G1 (phX (vi d)) (l 60) W:=d2 rfl
 have a7:phG G1 (phX (vi a)) (l 61) W:=d3 rfl
 exact zm (Gj:=true) (Bj:=(ix (ix q d) a)) rfl rfl rfl (jm (d4 rfl)) rfl (fun hG hB=>zd5 (cs:=[]) (vs:=[L,G,(vi d),(vi a)]) (φ:=fun v=>v=(vi (C.getD default))) qby rfl (by simp only [List.map,ev,(show l 58=L from a4.1 (zt rfl hB)),(show l 59=G from a5.1 (zt rfl hB)),(show l 60=(vi d) from a6.1 (zt rfl hB)),(show l 61=(vi a) from a7.1 (zt rfl hB))]<;>rfl) (fun a3 a8 llq=>(by have bK:=(z1h a1 (zt hG hB));exact zea (((aG.mono (((((aH.trans O).trans P).trans y).trans p).trans s)).mono n).mono a8) (Sub.v (B:=(tSl false (tSl false jl))) (u6 (u6 Sub.refl (fun _=>rfl)) (fun e=>e)) (z3g ((q76 0 rfl ((om (Z.mono ((y.trans p).trans s))).mono n) a8 llq):VRep (yx (tSl true jl)) a3 G q))) bK)))
 rintro l cd n x ⟨z,d1,_⟩;exact zm (Gj:=true) (Bj:=(ix (ix q d) a)) rfl rfl rfl (jm (d1 rfl)) rfl (fun hG hB=>zn (iw (show l 62=(vi (C.getD default)) from(z rfl).1 (zt rfl hB)) rfl));rintro l ce n x ⟨z,d1,_⟩
 exact za rfl rfl rfl (zn (z0v (z rfl) rfl (fun hb=>(show l 63=(.bool (decide ((C.getD default)=1))) from(d1 rfl).1 (zt rfl hb)))));rintro l cf n x ⟨z,d1,d2,d3,d4,d5,d6,d7,d8,d9,dg,dh,di,dj,dk,dl,dm,dn,dp,dq,dr,ds,_⟩
 exact za rfl rfl rfl (zda (i:=a.toNat) (r:=d.toNat) z4p (H.mono n) (zz I) (z rfl) (ze (d1 rfl) al.1) (zz al));intro cg a9 ch ba ci cj ck bb cl bc cm be cn bg co cp cq bh cr bi ct cu cv bj cw bk cx cy cz cA cB cC cD cE cF cG cH cI cJ bl cK bm
 obtain rfl:=Eq.symm a9;obtain rfl:=Eq.symm ba;obtain rfl:=Eq.symm bb;obtain rfl:=Eq.symm bc;obtain rfl:=Eq.symm be;obtain rfl:=Eq.symm bg;obtain rfl:=Eq.symm bh;obtain rfl:=Eq.symm bi;obtain rfl:=Eq.symm bj;obtain rfl:=Eq.symm bk;obtain rfl:=Eq.symm bl
 refine zhf (Oc:=[aE]) (Or:=[M]++A) (pk 1 rfl (pk 0 rfl (List.Perm.refl _))) (zml (i:=a.toNat) (r:=d.toNat) ty4 (H.mono am) (zz I) rfl bm (zz al) rfl (ul.2 rfl)) ?_;rintro cL cM bL bM ⟨rfl,aF,rfl,ao⟩
 replace ao:N2 true jl _ aF E V (up F d (up (ix F d) a ((ix (ix q d) a)||(decide ((C.getD default)=1))))):=ao;refine z8 (zy (zg (vi a) ?_));obtain⟨bn,o⟩:=zb o;refine zo (j4 rfl rfl bn) (zi (vi (a+1)) (z8 ?_))
 exact⟨dkt,am,je,(U,a+1,(up F d (up (ix F d) a ((ix (ix q d) a)||(decide ((C.getD default)=1))))),aF),Nat.lt_succ_self _,⟨rfl,trivial⟩,⟨[],(pk 1 rfl (pk 0 rfl (List.Perm.refl _)))⟩,o,(om ao),trivial⟩;refine jd ?_
 exact⟨dkt,(p.trans s),je,(F,E,aE),⟨rfl,trivial⟩,prm,(Option.some.inj o).symm,(om H),trivial⟩;rintro⟨ah,bN,bO⟩ cN dt bo ⟨rfl,⟨cO,bP⟩,_⟩;refine zy (zg (vi d) ?_);obtain⟨bp,w⟩:=zb w;refine zo (j4 rfl rfl bp) (zi (vi (d+1)) (z8 ?_))
 exact⟨dkt,bo,je,(ay,ah,d+1,bN,bO),Nat.lt_succ_self _,⟨rfl,rfl,trivial⟩,prm,w,(om bP),trivial⟩;refine jd ?_;exact⟨dkt,y,je,(az,aW,aX),⟨rfl,trivial⟩,⟨[M],(List.Perm.refl _)⟩,(Option.some.inj w).symm,(om aY),trivial⟩;rintro⟨ag,aN,bQ⟩ cP du br ⟨rfl,⟨dv,bR⟩,_⟩
 refine zy (zg aN (zi aN (z8 (zy (zg (vi af) ?_)))));obtain⟨bs,f⟩:=zb f;refine zo (j4 rfl rfl bs) (zi (vi (af+1)) (z8 ?_));exact⟨dkt,br,je,(ax,ag,af+1,aN,bQ),Nat.lt_succ_self _,⟨rfl,rfl,trivial⟩,prm,f,(om bR),trivial⟩;refine jd ?_
 exact⟨dkt,P,je,(q,G,M),⟨rfl,trivial⟩,prm,(Option.some.inj f).symm,(om Z),trivial⟩;rintro⟨ae,aB,dw⟩ cQ dx bt ⟨rfl,⟨dy,bS⟩,_⟩;refine zl (zg aB (zi aB (z8 (zgk (i:=0) rfl (om bS) fun bu aO bw=>?_))));have bx:VRep (tSl false (tSl true jl)) bu aB ae:=(z3g bw);refine qx ?_
 obtain rfl:=Option.some.inj Y;refine qd (D:=[]) (J:=[]) (rs:=[.tmp 4]) (vs:=[aB]) (((aH.trans O).trans bt).trans aO) rfl rfl ⟨rfl,trivial⟩ ?_;exact⟨rfl,bx⟩
end GV
end Go.Proofs.YtplgbkaollfmkaaGreat
