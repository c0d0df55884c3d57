import Derived.Test.YtkhihcleegljhaaShWg
import Derived.Test.YtkhihcleegljhaaRows
set_option linter.unusedVariables false
set_option linter.unusedSimpArgs false
namespace Go.Proofs.Ytkhihcleegljhaa
namespace GV
open _root_.Go.Proofs.Try
open Go.IntWalk
set_option maxRecDepth 100000
set_option maxHeartbeats 20000000
theorem zor{a:Bool}:TyOk prog 24 (mh a):=by
 obtain⟨i,hi,b⟩: ∃ i,prog.info? 24=some i∧i.size=2:=gm (by kernel_rfl);exact z0d underlying24 hi rfl b
theorem zgj:FieldOk prog 24 1 1:=by
 obtain⟨i,hi,a⟩: ∃ i,prog.info? 22=some i∧i.size=1:=gm (by kernel_rfl);exact z1l underlying24 rfl rfl hi (by rw [a];rfl)
theorem zlt{a:Bool}:TyOk prog 22 (tSl a (zu .u16)):=by
 obtain⟨i,hi,b⟩: ∃ i,prog.info? 22=some i∧i.size=1:=gm (by kernel_rfl);exact z0d underlying22 hi rfl b
theorem zm5:FieldOk prog 24 0 0:=by
 obtain⟨i,hi,a⟩: ∃ i,prog.info? 5=some i∧i.size=1:=gm (by kernel_rfl);exact z1l underlying24 rfl rfl hi (by rw [a];rfl)
theorem ty5:TyOk prog 5 (zu .u8):=by
 obtain⟨i,hi,a⟩: ∃ i,prog.info? 5=some i∧i.size=1:=gm (by kernel_rfl);exact z0d underlying5 hi rfl a
theorem zlo:TyOk prog 54 (zu .u16):=by
 obtain⟨i,hi,a⟩: ∃ i,prog.info? 54=some i∧i.size=1:=gm (by kernel_rfl);exact z0d underlying54 hi rfl a
theorem zmj:SlOk prog 22 54 (zu .u16):=⟨underlying22,zlo⟩
theorem znf: ∀ w,(sizeOf 25).run prog w= .ok 1 w:=fun w=>by kernel_rfl
theorem z8d{N:Nat}{R:RH}{x:Sb}{S:Value}(aG:VRep (mh false) R S x){r:Sa}(s:lq N x=some r):CallP prog 6 #[S] R (fun v R'=>VRep (zn false false) R' v r):=by
 refine qg (args:=[S]) func6 rfl rfl fun A=>?_;rw [lq] at s;refine zm (vv (T:=(mh false)) rfl rfl rfl aG fun v1 R3 aH h5 h2=>?_);refine cz rfl zdz fun V=>?_;refine qp (zy (ng (ps:=[]) (v:=(.agg #[vs0])) rfl (fun w=>by kernel_rfl)) (cz rfl zdz fun W=>?_))
 refine w9 (i:=0) (vs:=[vs0]) z03 rfl rfl rfl rfl rfl rfl (jm rfl xu) ?_;refine z8 ?_;obtain⟨l,c,s⟩:=zo s
 refine qj (γ:=(List (List Int))×Value×Frag) (rs [4,8,9,58]) (fun g=>[]) (fun g=>[box V [vs0] 27,box W [g.2.1] 27,g.2.2]++A) (fun g R=>l=g.1∧ORep (tSl false (zu .i64)) R g.2.2 g.2.1 g.1∧True) ?_ ?_;refine zm (zh (vi 0) (z8 (qb (z7d ?_))))
 refine qy (γ:=Nat×Int×(List (List Int))×Value×Frag) (rs [4,8,9,58]) (fun g=>[(4,(vi g.2.1))]) (fun g=>[box V [vs0] 27,box W [g.2.2.2.1] 27,g.2.2.2.2]++A) (fun g R=>xc N x g.1 g.2.1 g.2.2.1=some l∧ORep (tSl false (zu .i64)) R g.2.2.2.2 g.2.2.2.1 g.2.2.1∧True) (fun g=>g.1) (N,0,[],vs0,emp) ⟨[],(pk 2 rfl (pk 1 rfl (pk 0 rfl (List.Perm.refl _))))⟩ ⟨c,(z2v (T:=(tSl false (zu .i64)))),trivial⟩ ?_
 clear c;rintro⟨t,d,u,y,z⟩ a7 bf j ⟨c,Z,_⟩;rcases t with _|t;exact qo c;replace c:xc N x (t+1) d u=some l:=c;rw [xc] at c;refine zz (zm (jl (v:=(vi d)) rfl (za rfl) (zgr rfl (z0y zgj z1j rfl (h2.mono j)) fun bh aI=>?_)))
 refine zgr rfl (nk zlt rfl aI) fun bi aJ=>?_;refine jl rfl (qm rfl underlying22 rfl (jk aJ)) (jl rfl (j5 rfl rfl) (jl (v:=(.bool (decide (d<(↑x.fC.length:Int))))) rfl (za rfl) (j4 rfl rfl rfl rfl (fun hB=>ql (v:=(vi d)) (za rfl)) fun bj aK=>?_)))
 refine j4 rfl rfl rfl rfl (fun hB=>ql (j5 (aK.1 (zq rfl hB)) rfl)) fun bk aL=>?_;refine jl rfl (pq rfl (fun hb=>(aL.1 (zq rfl hb))) rfl) (z8 (zx rfl c (fun c=>?_) (fun c=>?_)))
 refine qa (zz (qb (zm (bg (T:=(zu .i64)) (X:=([]:List Int)) (ps:=[]) (css:=[]) rfl underlying33 zo3 rfl rfl (jh trivial) rfl rfl (by decide) fun aa aM aN aO=>?_))));refine zh aa (z8 ?_);obtain⟨e,a,c⟩:=zo c
 refine qj (γ:=(List Int)×Value×Frag) (rs [5,8,21,52]) (fun g=>[(5,g.2.1)]) (fun g=>[box V [vs0] 27,box W [y] 27,z,g.2.2]++A) (fun g R=>e=g.1∧ORep (zu .i64) R g.2.2 g.2.1 g.1∧True) ?_ ?_
 refine zm (zh (vi 0) (z8 (qb (qy (γ:=Nat×Int×(List Int)×Value×Frag) (rs [5,8,21,52]) (fun g=>[(5,g.2.2.2.1),(6,(vi g.2.1))]) (fun g=>[box V [vs0] 27,box W [y] 27,z,g.2.2.2.2]++A) (fun g R=>uo N x d g.1 g.2.1 g.2.2.1=some e∧ORep (zu .i64) R g.2.2.2.2 g.2.2.2.1 g.2.2.1∧True) (fun g=>g.1) (N,0,[],aa,aM) ⟨[],(pk 1 rfl (pk 1 rfl (pk 1 rfl (pk 0 rfl (List.Perm.refl _)))))⟩ ⟨a,aO,trivial⟩ ?_))))
 clear a;rintro⟨C,f,E,ab,ac⟩ a9 bm k ⟨a,ad,_⟩;rcases C with _|C;exact qo a;replace a:uo N x d (C+1) f E=some e:=a;rw [uo] at a;refine zz (zm (ze (vi f) (xn rfl zm5 z88 rfl (h2.mono (j.trans k)) fun bn aP=>?_)))
 refine qz rfl ty5 rfl aP fun bo aQ=>?_;obtain rfl:=q9.1 aQ;obtain⟨aR,a⟩:=zb a;refine zy (za7 rfl rfl aR) ?_;obtain⟨aS,a⟩:=zb a;refine zy (z4s underlying5 underlying3 rfl aS) (zy (j5 rfl rfl) (z8 (zx rfl a (fun a=>?_) (fun a=>?_))))
 refine qa (zz (qb (zm (zh (vi (-1)) (z8 ?_)))));obtain⟨h,b,a⟩:=zo a;refine qj (γ:=Int) (rs [7,8,29,47]) (fun g=>[(7,(vi g))]) (fun g=>[box V [vs0] 27,box W [y] 27,z,ac]++A) (fun g R=>h=g∧True) ?_ ?_
 refine zm (xn rfl zgj z1j rfl (h2.mono (j.trans k)) fun bp aT=>?_);refine qz rfl zlt rfl aT fun bq aU=>?_;refine ze (vi d) ?_;obtain⟨ae,b⟩:=zb b;refine jy (i:=d.toNat) rfl zmj rfl (jk aU) (zi rfl ae.1) (q8 ae) fun br aV=>?_;refine qz rfl zlo rfl aV fun bs aW=>?_
 obtain rfl:=q9.1 aW;refine ze (vi f) ?_;obtain⟨aX,b⟩:=zb b;refine zy (z5l rfl rfl aX) ?_;obtain⟨aY,b⟩:=zb b;refine zy (za7 rfl rfl aY) (zy (mo rfl rfl) (z8 (zx rfl b (fun b=>?_) (fun b=>?_))));refine zw (xn rfl zgj z1j rfl (h2.mono (j.trans k)) fun bt aZ=>?_)
 refine qz rfl zlt rfl aZ fun bu a0=>?_;refine ze (vi d) ?_;obtain⟨ag,b⟩:=zb b;refine jy (i:=d.toNat) rfl zmj rfl (jk a0) (zi rfl ag.1) (q8 ag) fun bv a1=>?_;refine qz rfl zlo rfl a1 fun bw a2=>?_;obtain rfl:=q9.1 a2;obtain⟨a3,b⟩:=zb b;refine zy (z5l rfl rfl a3) ?_
 obtain⟨a4,b⟩:=zb b;refine zy (z4s underlying54 underlying3 rfl a4) (ze (vi f) ?_);obtain⟨a5,b⟩:=zb b;refine zy (qi rfl rfl a5) (zh (vi ((af (ix x.fC d) (8:Int))+f)) (z8 ?_));exact⟨dkt,(RH.le.refl _),jc,(af (ix x.fC d) (8:Int))+f,⟨rfl,trivial⟩,prm,(Option.some.inj b).symm,trivial⟩
 refine qa ?_;exact⟨dkt,(RH.le.refl _),jc,(-1),⟨rfl,trivial⟩,prm,(Option.some.inj b).symm,trivial⟩;rintro h bx bz I ⟨rfl,_⟩
 refine zw (ze ab (ze (vi h) (zy (zjm rfl underlying3 rfl rfl) (bg (T:=(zu .i64)) (X:=([min h 255]:List Int)) (ps:=[(0,(vi (min h 255)))]) (css:=[[(vi (min h 255))]]) rfl underlying33 zo3 rfl rfl (jh ⟨rfl,trivial⟩) rfl rfl (by decide) fun ah ba F ai=>?_))))
 refine kg (i:=0) rfl ai fun aj m ak=>?_;have al:VRep (tSl true (zu .i64)) aj ah ([min h 255]:List Int):=(fo ak F);obtain⟨K,a⟩:=zb a
 refine z10 (i:=3) (X:=E) (Y:=([min h 255]:List Int)) rfl underlying33 zo3 rfl rfl rfl (ad.mono (I.trans m)) (jk (Sub.v (B:=(tSl false (zu .i64))) (ui Sub.refl (fun _=>rfl)) al)) K.1 K.2 fun L am an=>?_;refine zh L (z8 (zw (ze (vi f) ?_)));obtain⟨ao,a⟩:=zb a
 refine zy (qi rfl rfl ao) (zh (vi (f+1)) (z8 ?_));exact⟨dkt,(I.trans m),jc,(C,f+1,(E++([min h 255]:List Int)),L,am),Nat.lt_succ_self _,⟨rfl,rfl,trivial⟩,prm,a,an,trivial⟩;refine ja ?_;exact⟨dkt,k,jc,(E,ab,ac),⟨rfl,trivial⟩,prm,(Option.some.inj a).symm,ad,trivial⟩
 rintro⟨e,G,bA⟩ bb bB M ⟨rfl,a6,_⟩;refine zw (zy (fq ry rfl) (zy (xe (i:=1) zfo rfl rfl rfl) (ze G (kg (i:=3) rfl a6 fun ap n aq=>?_))));have O:VRep (tSl false (zu .i64)) ap G e:=(z6k aq)
 refine bg (T:=(tSl false (zu .i64))) (X:=([e]:List (List Int))) (ps:=[(0,G)]) (css:=[[G]]) rfl underlying25 zfr rfl (by simp only [List.map_cons,List.map_nil,xw O];rfl) (jh ⟨(jf rfl O),trivial⟩) rfl rfl (by decide) fun ar bc H au=>?_;refine kg (i:=0) rfl au fun av o aw=>?_
 have ax:VRep (tSl true (tSl false (zu .i64))) av ar ([e]:List (List Int)):=(fo aw H);obtain⟨P,c⟩:=zb c
 refine z10 (i:=2) (X:=u) (Y:=([e]:List (List Int))) rfl underlying25 zfr rfl rfl rfl (Z.mono ((M.trans n).trans o)) (jk (Sub.v (B:=(tSl false (tSl false (zu .i64)))) (ui Sub.refl (fun _=>rfl)) ax)) P.1 P.2 fun Q ay p=>?_
 refine zy (fq ry rfl) (w9 (i:=1) (vs:=[Q]) znf rfl rfl (z1h p) rfl rfl rfl (jm (z1e p) xu) ?_);refine z8 (zw (ze (vi d) ?_));obtain⟨az,c⟩:=zb c;refine zy (qi rfl rfl az) (zh (vi (d+1)) (z8 ?_))
 exact⟨dkt,((M.trans n).trans o),jc,(t,d+1,(u++([e]:List (List Int))),Q,ay),Nat.lt_succ_self _,⟨rfl,trivial⟩,prm,c,p,trivial⟩;refine ja ?_;exact⟨dkt,j,jc,(u,y,z),trivial,prm,(Option.some.inj c).symm,Z,trivial⟩;rintro⟨l,q,bC⟩ be bD aA ⟨rfl,aB,_⟩
 refine zm (zy (uj (i:=1) z2t z03 rfl rfl rfl rfl) (w9 (i:=0) (vs:=[q]) z03 rfl rfl rfl rfl rfl rfl (jm (z1e aB) xu) ?_));refine z8 (lm (i:=2) rfl aB fun aC U aD=>?_);have aE:VRep (tSl false (tSl false (zu .i64))) aC q l:=(z6k aD);refine qd ?_;obtain rfl:=Option.some.inj s
 refine qc (D:=[]) (J:=[box V [q] 27,box W [q] 27]) (rs:=[.cell 2 27]) (vs:=[(.agg #[q])]) ((aH.trans aA).trans U) rfl rfl ⟨⟨_,rfl,fun w hh=>z1t (i:=0) hh rfl rfl z2t z03 rfl rfl⟩,trivial⟩ ?_;exact⟨rfl,(⟨_,(jf (T:=(tSl false (tSl false (zu .i64)))) rfl aE),rfl⟩:VRep (zn false false) _ _ (⟨l⟩:Sa))⟩
theorem en6:Enters prog 6:=enters_of func6 rfl (by kernel_rfl)
theorem z7u{N:Nat}{R:RH}{x:Sa}{i:Value}(j:VRep (zn false false) R i x){column:Int}{r:Int}(f:l6 N x column=some r):CallP prog 11 #[i,(vi column)] R (fun v R'=>v=(vi r)):=by
 refine qg (args:=[i,(vi column)]) func11 rfl rfl fun A=>?_;rw [l6] at f;refine zm (vv (T:=(zn false false)) rfl rfl rfl j fun P Q k z B=>?_);refine zh (vi 0) (qp (zh (vi 0) (z8 ?_)));obtain⟨l,a,f⟩:=zo f
 refine qj (γ:=Int) (rs [5,20]) (fun g=>[(5,(vi g))]) (fun g=>[]++A) (fun g R=>l=g∧True) ?_ ?_
 refine zm (zh (vi 0) (z8 (qb (qy (γ:=Nat×Int×Int) (rs [5,20]) (fun g=>[(5,(vi g.2.1)),(6,(vi g.2.2))]) (fun g=>[]++A) (fun g R=>yg N x column g.1 g.2.1 g.2.2=some l∧True) (fun g=>g.1) (N,0,0) prm ⟨a,trivial⟩ ?_))));clear a;rintro⟨o,d,e⟩ C E c ⟨a,_⟩;rcases o with _|o
 exact qo a;replace a:yg N x column (o+1) d e=some l:=a;rw [yg] at a;refine zz (zm (ze (vi e) (xn rfl ry ji rfl (B.mono c) fun F p=>?_)));refine qz rfl z7n rfl p fun G q=>?_
 refine zy (qm rfl underlying25 rfl (jk q)) (zy (j5 rfl rfl) (z8 (zx rfl a (fun a=>?_) (fun a=>?_))));refine qa ?_;obtain⟨m,b,a⟩:=zo a;refine qj (γ:=Int) [14,15,16,17,18,19,5] (fun g=>[(5,(vi g))]) (fun g=>[]++A) (fun g R=>m=g∧True) ?_ ?_
 refine qb (zm (zy (jq z1o rfl rfl (z.mono c) (j.mono (k.trans c))) (ze (vi e) (ze (vi column) ?_))));obtain⟨H,s,b⟩:=zo b;refine j3 rfl zlu rfl (z16 (j.mono (k.trans c)) s) fun I K h t=>?_;obtain rfl:=t;refine z8 (zx rfl b (fun b=>?_) (fun b=>?_))
 refine zw (ze (vi d) ?_);obtain⟨u,b⟩:=zb b;refine zy (qi rfl rfl u) (zh (vi (d+1)) (z8 ?_));exact⟨dkt,h,jc,d+1,⟨rfl,trivial⟩,prm,(Option.some.inj b).symm,trivial⟩;refine qa ?_;exact⟨dkt,h,jc,d,⟨rfl,trivial⟩,prm,(Option.some.inj b).symm,trivial⟩;rintro m L M n ⟨rfl,_⟩
 refine zw (ze (vi e) ?_);obtain⟨w,a⟩:=zb a;refine zy (qi rfl rfl w) (zh (vi (e+1)) (z8 ?_));exact⟨dkt,n,jc,(o,m,e+1),Nat.lt_succ_self _,⟨rfl,rfl,trivial⟩,prm,a,trivial⟩;refine ja ?_;exact⟨dkt,c,jc,d,⟨rfl,trivial⟩,prm,(Option.some.inj a).symm,trivial⟩;rintro l O S y ⟨rfl,_⟩
 refine zm (ze (vi l) (zh (vi l) (z8 (qd ?_))));obtain rfl:=Option.some.inj f;refine qc (D:=[]) (J:=[]) (rs:=[.tmp 4]) (vs:=[(vi l)]) (k.trans y) rfl rfl ⟨rfl,trivial⟩ ?_;exact⟨rfl,rfl⟩
theorem zoz:Enters prog 11:=enters_of func11 rfl (by kernel_rfl)
theorem z3m{N:Nat}{R:RH}{x:Sb}{aO:Value}(aP:VRep (mh false) R aO x){bits:Int}{rows:Int}{r:Bool}(a:pu N x bits rows=some r):CallP prog 3 #[aO,(.int .u8 bits),(.int .u8 rows)] R (fun v R'=>v=(.bool r)):=by
 refine qg (args:=[aO,(.int .u8 bits),(.int .u8 rows)]) func3 rfl rfl fun A=>?_;rw [pu] at a;refine zm (vv (T:=(mh false)) rfl rfl rfl aP fun v1 R3 P h5 h2=>?_);refine zh (.bool false) (qp (zy (jq zor rfl rfl h5 (aP.mono P)) ?_));obtain⟨y,c7,a⟩:=zo a
 refine j3 rfl en6 rfl (z8d (aP.mono P) c7) fun v8 dW O h9=>?_;refine cz rfl zdz fun G=>?_;obtain⟨k,rfl,I⟩:=z0n h9;refine w9 (i:=0) (vs:=[k]) z03 rfl rfl rfl rfl rfl rfl (jm (zb1 I) xu) ?_;refine qp (zy (uj (i:=0) z2t z03 rfl rfl rfl rfl) ?_);obtain⟨o,cj,a⟩:=zo a
 refine j3 rfl en7 rfl (z5q (⟨_,(jf (T:=(tSl false (tSl false (zu .i64)))) rfl I),rfl⟩:VRep (zn false false) _ _ (⟨y.fB⟩:Sa)) cj) fun dY dZ m ck=>?_;obtain⟨U,rfl,ae⟩:=ck
 refine ze (.tuple #[U,(vi o.2)]) (zy (qw rfl rfl) (zy (qw rfl rfl) (zh U (zh (vi o.2) (qp (zy (uj (i:=0) z2t z03 rfl rfl rfl rfl) ?_))))));obtain⟨z,cl,a⟩:=zo a
 refine j3 rfl en8 rfl (z5n (⟨_,(jf (T:=(tSl false (tSl false (zu .i64)))) rfl (I.mono m)),rfl⟩:VRep (zn false false) _ _ (⟨y.fB⟩:Sa)) cl) fun d2 d3 j cm=>?_;obtain⟨V,rfl,af⟩:=cm
 refine ze (.tuple #[V,(vi z.2)]) (zy (qw rfl rfl) (zy (qw rfl rfl) (zh V (zh (vi z.2) (z8 (zz (zm (jl (v:=(vi o.2)) rfl (za rfl) (jl rfl (uq rfl rfl) (jl (v:=(.bool (decide (o.2≠0)))) rfl (za rfl) (j4 rfl rfl rfl rfl (fun f=>ql (v:=(vi z.2)) (za rfl)) fun d4 cn=>?_)))))))))))
 refine j4 rfl rfl rfl rfl (fun f=>ql (uq (cn.1 (zq rfl f)) rfl)) fun d5 co=>?_;refine jl rfl (df rfl rfl (fun Q=>(co.1 (zq rfl Q)))) (jl (v:=(.bool ((decide (o.2≠0))||(decide (z.2≠0))))) rfl (za rfl) (j4 rfl rfl rfl rfl (fun f=>ql (v:=U) (za rfl)) fun d6 cp=>?_))
 refine j4 rfl rfl rfl rfl (fun f=>ql (qm rfl underlying29 (cp.1 (zq rfl f)) (jk (ae.mono j)))) fun d7 cq=>?_;refine j4 rfl rfl rfl rfl (fun f=>ql (v:=(.pointer (some ⟨G,0,none⟩))) (fq ry rfl)) fun d8 cr=>?_
 refine j4 rfl rfl rfl rfl (fun f=>ql (v:=k) (xe (i:=0) zfo (cr.1 (zq rfl f)) rfl rfl)) fun d9 ct=>?_;refine j4 rfl rfl rfl rfl (fun f=>ql (qm rfl underlying25 (ct.1 (zq rfl f)) (jk (I.mono (m.trans j))))) fun ea cu=>?_
 refine j4 rfl rfl rfl rfl (fun f=>ql (uq (cq.1 (zq rfl f)) (cu.1 (zq rfl f)))) fun eb cv=>?_
 refine jl rfl (df rfl rfl (fun Q=>(cv.1 (zq rfl Q)))) (jl (v:=(.bool (((decide (o.2≠0))||(decide (z.2≠0)))||(decide ((↑o.1.length:Int)≠(↑y.fB.length:Int)))))) rfl (za rfl) (j4 rfl rfl rfl rfl (fun f=>ql (v:=V) (za rfl)) fun ec cw=>?_))
 refine j4 rfl rfl rfl rfl (fun f=>ql (qm rfl underlying33 (cw.1 (zq rfl f)) (jk af))) fun ed cx=>?_;refine j4 rfl rfl rfl rfl (fun f=>ql (v:=(.agg #[k])) (uj (i:=0) z2t z03 rfl rfl rfl rfl)) fun ee cy=>?_;obtain⟨aQ,cA,a⟩:=zo a
 refine rq rfl rfl rfl rfl (fun f=>kv (vs:=[(.agg #[k])]) en9 (z4d (cy.1 (zq rfl f)) rfl) ((by have ag:=(mi cA (zq rfl f));exact z6o (⟨_,(jf (T:=(tSl false (tSl false (zu .i64)))) rfl (I.mono (m.trans j))),rfl⟩:VRep (zn false false) _ _ (⟨y.fB⟩:Sa)) ag)) (fun _ _ h=>h)) fun cB cC d aR=>?_
 replace aR:phG (true&&((((decide (o.2≠0))||(decide (z.2≠0)))||(decide ((↑o.1.length:Int)≠(↑y.fB.length:Int))))==false)) (phX (vi (aQ.getD default))) cB cC:=aR;refine j4 rfl rfl rfl rfl (fun f=>ql (uq (((qh zf) _ _ _ d cx).1 (zq rfl f)) (aR.1 (zq rfl f)))) fun ef cD=>?_
 refine jl rfl (df rfl rfl (fun Q=>(cD.1 (zq rfl Q)))) (jl (v:=(.bool ((((decide (o.2≠0))||(decide (z.2≠0)))||(decide ((↑o.1.length:Int)≠(↑y.fB.length:Int))))||(decide ((↑z.1.length:Int)≠(aQ.getD default)))))) rfl (za rfl) (j4 rfl rfl rfl rfl (fun f=>ql (v:=U) (za rfl)) fun eg cE=>?_))
 refine j4 rfl rfl rfl rfl (fun f=>ql (zcb rfl underlying29 (cE.1 (zq rfl f)) (ae.mono (j.trans d)))) fun eh cF=>?_;refine j4 rfl rfl rfl rfl (fun f=>ql (v:=U) (za rfl)) fun ei cG=>?_;refine j4 rfl rfl rfl rfl (fun f=>ql (qm rfl underlying29 (cG.1 (zq rfl f)) (jk (ae.mono (j.trans d))))) fun ej cH=>?_
 refine j4 rfl rfl rfl rfl (fun f=>ql (uq (cF.1 (zq rfl f)) (cH.1 (zq rfl f)))) fun ek cI=>?_
 refine jl rfl (df rfl rfl (fun Q=>(cI.1 (zq rfl Q)))) (jl (v:=(.bool (((((decide (o.2≠0))||(decide (z.2≠0)))||(decide ((↑o.1.length:Int)≠(↑y.fB.length:Int))))||(decide ((↑z.1.length:Int)≠(aQ.getD default))))||(decide ((↑o.1.length:Int)≠(↑o.1.length:Int)))))) rfl (za rfl) (j4 rfl rfl rfl rfl (fun f=>ql (v:=V) (za rfl)) fun el cJ=>?_))
 refine j4 rfl rfl rfl rfl (fun f=>ql (zcb rfl underlying33 (cJ.1 (zq rfl f)) (af.mono d))) fun em cK=>?_;refine j4 rfl rfl rfl rfl (fun f=>ql (v:=V) (za rfl)) fun en cL=>?_;refine j4 rfl rfl rfl rfl (fun f=>ql (qm rfl underlying33 (cL.1 (zq rfl f)) (jk (af.mono d)))) fun cQ aX=>?_
 refine j4 rfl rfl rfl rfl (fun f=>ql (uq (cK.1 (zq rfl f)) (aX.1 (zq rfl f)))) fun cR aY=>?_;refine jl rfl (df rfl rfl (fun Q=>(aY.1 (zq rfl Q)))) (z8 (zx rfl a (fun a=>?_) (fun a=>?_)));refine zm (zh (.bool false) (z8 (qd ?_)));obtain rfl:=Option.some.inj a
 refine qc (D:=[]) (J:=[box G [k] 27]) (rs:=[.tmp 6]) (vs:=[(.bool false)]) ((((P.trans O).trans m).trans j).trans d) rfl rfl ⟨rfl,trivial⟩ ?_;exact⟨rfl,rfl⟩;refine qa ?_;obtain⟨ah,b,a⟩:=zo a;refine qj (γ:=Unit) (rs [6,7,12,13,65,79]) (fun g=>[]) (fun g=>[box G [k] 27]++A) (fun g R=>ah=Ex.go g∧True) ?_ ?_
 refine zm (zh (vi 0) (z8 (qb (qy (γ:=Nat×Int) (rs [6,7,12,13,65,79]) (fun g=>[(12,(vi g.2))]) (fun g=>[box G [k] 27]++A) (fun g R=>jr N y o g.1 g.2=some ah∧True) (fun g=>g.1) (N,0) prm ⟨b,trivial⟩ ?_))));clear b;rintro⟨aa,p⟩ cS cT K ⟨b,_⟩;rcases aa with _|aa
 exact qo b;replace b:jr N y o (aa+1) p=some ah:=b;rw [jr] at b;refine zz (zm (ze (vi p) (ze U (zy (qm rfl underlying29 rfl (jk (ae.mono ((j.trans d).trans K)))) (zy (j5 rfl rfl) (z8 (zx rfl b (fun b=>?_) (fun b=>?_))))))))
 refine qa (zz (qb (zz ?_)));obtain⟨aD,b⟩:=zb b;obtain⟨aE,aZ,b⟩:=zo b
 refine bf 8 [] [phX U,phX (vi p),phP z2n (ix o.1 p),phX (.bool (ix o.1 p)),phX (.agg #[k]),phX (vi p),phX (.bool aE),phX (.bool (decide ((ix o.1 p)≠aE)))] mixed (by kernel_rfl) (vz ⟨zf,zf,z2k,zf,zf,zf,zf,zf,trivial⟩) ⟨?_,?_,?_,?_,?_,?_,?_,?_,trivial⟩ fun cU aj=>?_
 intro l a0 c t hd;exact zg rfl rfl rfl (zk (za (t 8 rfl)));intro l aB c t hd;exact zg rfl rfl rfl (zk (za (t 12 rfl)));rintro l a1 c t ⟨C,W,_⟩;exact zg rfl rfl rfl (z1q (i:=p.toNat) zis (C rfl) (jk ((ae.mono ((j.trans d).trans K)).mono c)) (zi (W rfl) aD.1) (q8 aD))
 rintro l a2 c t ⟨C,_⟩;exact zg rfl rfl rfl (qx (oz ty4 rfl (C rfl)) (fun _ _ h=>mq.1 h));intro l a3 c t hd;exact zg rfl rfl rfl (zk (uj (i:=0) z2t z03 (t 7 rfl) rfl rfl rfl));intro l a4 c t hd;exact zg rfl rfl rfl (zk (za (t 12 rfl)));rintro l a5 c t ⟨C,W,_⟩;have cM:l 75=(.agg #[k]):=C rfl
 have cN:l 76=(vi p):=W rfl
 exact zg rfl rfl rfl (kv (vs:=[(.agg #[k]),(vi p)]) zmc (by simp only [List.map,ev,cM,cN]<;>rfl) (z3a (⟨_,(jf (T:=(tSl false (tSl false (zu .i64)))) rfl ((I.mono (((m.trans j).trans d).trans K)).mono c)),rfl⟩:VRep (zn false false) _ _ (⟨y.fB⟩:Sa)) aZ) (fun _ _ h=>h))
 rintro l a6 c t ⟨C,W,_⟩;exact zg rfl rfl rfl (zk (zf5 underlying4 (C rfl) (W rfl)));intro cV a7 cW a8 cX cY cZ a9 c0 ba c1 bb c2 bc c3 be;obtain rfl:=Eq.symm a7;obtain rfl:=Eq.symm a8;obtain rfl:=Eq.symm a9;obtain rfl:=Eq.symm ba;obtain rfl:=Eq.symm bb;obtain rfl:=Eq.symm bc;obtain rfl:=Eq.symm be
 refine z8 (zx rfl b (fun b=>?_) (fun b=>?_));refine zm (zh (.bool false) (z8 (qd ?_)));replace a:=ic b a;obtain rfl:=Option.some.inj a;refine qc (D:=[]) (J:=[box G [k] 27]) (rs:=[.tmp 6]) (vs:=[(.bool false)]) ((((((P.trans O).trans m).trans j).trans d).trans K).trans aj) rfl rfl ⟨rfl,trivial⟩ ?_
 exact⟨rfl,rfl⟩;refine qa (zw (ze (vi p) ?_));obtain⟨bh,b⟩:=zb b;refine zy (qi rfl rfl bh) (zh (vi (p+1)) (z8 ?_));exact⟨dkt,aj,jc,(aa,p+1),Nat.lt_succ_self _,⟨rfl,trivial⟩,prm,b,trivial⟩;refine ja ?_;exact⟨dkt,K,jc,(),trivial,prm,(Option.some.inj b).symm,trivial⟩
 rintro c4 c5 c6 n ⟨rfl,_⟩;replace a:=lv a;refine zm (zh vs0 (z8 ?_));obtain⟨al,b,a⟩:=zo a;refine qj (γ:=(List Int)×Value×Frag) (rs [6,7,13,15,79,102]) (fun g=>[(13,g.2.1)]) (fun g=>[box G [k] 27,g.2.2]++A) (fun g R=>al=Ex.go g.1∧ORep (zu .i64) R g.2.2 g.2.1 g.1∧True) ?_ ?_
 refine zm (zh (vi 0) (z8 (qb (z7d ?_))))
 refine qy (γ:=Nat×(List Int)×Int×Value×Frag) (rs [6,7,13,15,79,102]) (fun g=>[(13,g.2.2.2.1),(14,(vi g.2.2.1))]) (fun g=>[box G [k] 27,g.2.2.2.2]++A) (fun g R=>jv N bits y z g.1 g.2.1 g.2.2.1=some al∧ORep (zu .i64) R g.2.2.2.2 g.2.2.2.1 g.2.1∧True) (fun g=>g.1) (N,[],0,vs0,emp) ⟨[],(pk 1 rfl (pk 0 rfl (List.Perm.refl _)))⟩ ⟨b,(z2v (T:=(zu .i64))),trivial⟩ ?_
 clear b;rintro⟨ab,S,e,am,an⟩ c8 c9 L ⟨b,ao,_⟩;rcases ab with _|ab;exact qo b;replace b:jv N bits y z (ab+1) S e=some al:=b;rw [jv] at b
 refine zz (zm (ze (vi e) (ze V (zy (qm rfl underlying33 rfl (jk (af.mono ((d.trans n).trans L)))) (zy (j5 rfl rfl) (z8 (zx rfl b (fun b=>?_) (fun b=>?_))))))));refine qa ?_;obtain⟨bi,s,b⟩:=zo b
 refine qj (γ:=(List Int)×Value×Frag) (rs [6,7,13,14,85,102]) (fun g=>[(13,g.2.1)]) (fun g=>[box G [k] 27,g.2.2]++A) (fun g R=>bi=Ex.go g.1∧ORep (zu .i64) R g.2.2 g.2.1 g.1∧True) ?_ ?_;refine qb (zz (zz ?_));obtain⟨aF,s⟩:=zb s;obtain⟨aG,bj,s⟩:=zo s
 refine bf 8 [] [phX V,phX (vi e),phP (zu .i64) (ix z.1 e),phX (vi (ix z.1 e)),phX (.agg #[k]),phX (vi e),phX (vi aG),phX (.bool (decide ((ix z.1 e)≠aG)))] mixed (by kernel_rfl) (vz ⟨zf,zf,z2k,zf,zf,zf,zf,zf,trivial⟩) ⟨?_,?_,?_,?_,?_,?_,?_,?_,trivial⟩ fun da M=>?_
 intro l a0 c t hd;exact zg rfl rfl rfl (zk (za (t 10 rfl)));intro l aB c t hd;exact zg rfl rfl rfl (zk (za (t 14 rfl)));rintro l a1 c t ⟨C,W,_⟩;exact zg rfl rfl rfl (z1q (i:=e.toNat) l5 (C rfl) (jk ((af.mono ((d.trans n).trans L)).mono c)) (zi (W rfl) aF.1) (q8 aF))
 rintro l a2 c t ⟨C,_⟩;exact zg rfl rfl rfl (qx (oz ty3 rfl (C rfl)) (fun _ _ h=>q9.1 h));intro l a3 c t hd;exact zg rfl rfl rfl (zk (uj (i:=0) z2t z03 (t 7 rfl) rfl rfl rfl));intro l a4 c t hd;exact zg rfl rfl rfl (zk (za (t 14 rfl)));rintro l a5 c t ⟨C,W,_⟩;have cO:l 89=(.agg #[k]):=C rfl
 have cP:l 90=(vi e):=W rfl
 exact zg rfl rfl rfl (kv (vs:=[(.agg #[k]),(vi e)]) zoz (by simp only [List.map,ev,cO,cP]<;>rfl) (z7u (⟨_,(jf (T:=(tSl false (tSl false (zu .i64)))) rfl ((I.mono ((((m.trans j).trans d).trans n).trans L)).mono c)),rfl⟩:VRep (zn false false) _ _ (⟨y.fB⟩:Sa)) bj) (fun _ _ h=>h))
 rintro l a6 c t ⟨C,W,_⟩;exact zg rfl rfl rfl (zk (uq (C rfl) (W rfl)));intro db bk dc bl dd de dg bm dh bn di bo dj bp dk bq;obtain rfl:=Eq.symm bk;obtain rfl:=Eq.symm bl;obtain rfl:=Eq.symm bm;obtain rfl:=Eq.symm bn;obtain rfl:=Eq.symm bo;obtain rfl:=Eq.symm bp;obtain rfl:=Eq.symm bq
 refine z8 (zx rfl s (fun s=>?_) (fun s=>?_));refine zm (zh (.bool false) (z8 (qd ?_)));replace b:=ic s b;replace a:=ic b a;obtain rfl:=Option.some.inj a
 refine qc (D:=[]) (J:=[box G [k] 27,an]) (rs:=[.tmp 6]) (vs:=[(.bool false)]) (((((((P.trans O).trans m).trans j).trans d).trans n).trans L).trans M) rfl rfl ⟨rfl,trivial⟩ ?_;exact⟨rfl,rfl⟩;refine qa (zm (ze (.int .u8 bits) (ze (vi e) ?_)));obtain⟨br,s⟩:=zb s;refine zy (z5l rfl rfl br) ?_
 obtain⟨bs,s⟩:=zb s;refine zy (za7 rfl rfl bs) (zy (mo rfl rfl) (z8 (zx rfl s (fun s=>?_) (fun s=>?_))))
 refine zw (ze am (ze (vi e) (bg (T:=(zu .i64)) (X:=([e]:List Int)) (ps:=[(0,(vi e))]) (css:=[[(vi e)]]) rfl underlying33 zo3 rfl rfl (jh ⟨rfl,trivial⟩) rfl rfl (by decide) fun bt dl aC bu=>?_)));refine kg (i:=0) rfl bu fun bv ap bw=>?_
 have bx:VRep (tSl true (zu .i64)) bv bt ([e]:List Int):=(fo bw aC);obtain⟨aH,s⟩:=zb s;refine z10 (i:=1) (X:=S) (Y:=([e]:List Int)) rfl underlying33 zo3 rfl rfl rfl (ao.mono (M.trans ap)) (jk (Sub.v (B:=(tSl false (zu .i64))) (ui Sub.refl (fun _=>rfl)) bx)) aH.1 aH.2 fun aI bz bA=>?_
 refine zh aI (z8 ?_);exact⟨dkt,(M.trans ap),jc,((S++([e]:List Int)),aI,bz),⟨rfl,trivial⟩,prm,(Option.some.inj s).symm,bA,trivial⟩;refine qa ?_;exact⟨dkt,M,jc,(S,am,an),⟨rfl,trivial⟩,prm,(Option.some.inj s).symm,(ao.mono M),trivial⟩;rintro⟨bB,bC,bD⟩ dm dn aS ⟨rfl,bE,_⟩;replace b:=lv b
 refine zw (ze (vi e) ?_);obtain⟨bF,b⟩:=zb b;refine zy (qi rfl rfl bF) (zh (vi (e+1)) (z8 ?_));exact⟨dkt,aS,jc,(ab,bB,e+1,bC,bD),Nat.lt_succ_self _,⟨rfl,rfl,trivial⟩,prm,b,bE,trivial⟩;refine ja ?_
 exact⟨dkt,L,jc,(S,am,an),⟨rfl,trivial⟩,prm,(Option.some.inj b).symm,ao,trivial⟩;rintro⟨aq,H,ar⟩ dp dq E ⟨rfl,au,_⟩;replace a:=lv a;refine zm (zy (uj (i:=0) z2t z03 rfl rfl rfl rfl) (ze H ?_));obtain⟨q,bG,a⟩:=zo a
 refine z3v (cs:=[]) (vs:=[(.agg #[k]),H]) (φ:=fun v=>v= .tuple #[(.bool q.1),(vi q.2)]) rfl zkf rfl rfl (fun bH av aT=>z18 (⟨_,(jf (T:=(tSl false (tSl false (zu .i64)))) rfl ((I.mono ((((m.trans j).trans d).trans n).trans E)).mono av)),rfl⟩:VRep (zn false false) _ _ (⟨y.fB⟩:Sa)) (z6k ((z5z 1 rfl au av aT):VRep (yo (zu .i64)) bH H aq)) bG) fun dr bI=>?_
 obtain rfl:=bI
 refine ze (.tuple #[(.bool q.1),(vi q.2)]) (zy (qw rfl rfl) (zy (qw rfl rfl) (zh (.bool q.1) (zh (vi q.2) (z8 (zz (zm (jl (v:=(vi q.2)) rfl (za rfl) (jl rfl (uq rfl rfl) (jl (v:=(.bool (decide (q.2≠0)))) rfl (za rfl) (j4 rfl rfl rfl rfl (fun f=>ql (v:=(.bool q.1)) (za rfl)) fun ds bJ=>?_)))))))))))
 refine j4 rfl rfl rfl rfl (fun f=>ql (v:=(.agg #[k])) (uj (i:=0) z2t z03 rfl rfl rfl rfl)) fun dt bK=>?_;refine j4 rfl rfl rfl rfl (fun f=>ql (v:=H) (za rfl)) fun du bL=>?_;obtain⟨aJ,bM,a⟩:=zo a
 refine rq rfl rfl rfl rfl (fun f=>zkv (cs:=[]) (vs:=[(.agg #[k]),H]) (φ:=fun v=>v=(.bool (aJ.getD default))) zom rfl (z4d (bK.1 (zq rfl f)) (z4d (bL.1 (zq rfl f)) rfl)) (fun aB bN llq=>(by have ag:=(mi bM (zq rfl f));exact z6x (⟨_,(jf (T:=(tSl false (tSl false (zu .i64)))) rfl ((I.mono ((((m.trans j).trans d).trans n).trans E)).mono bN)),rfl⟩:VRep (zn false false) _ _ (⟨y.fB⟩:Sa)) (z6k ((z5z 1 rfl au bN llq):VRep (yo (zu .i64)) aB H aq)) ag))) fun bO bP F aw=>?_
 replace aw:phG (true&&((decide (q.2≠0))==false)) (phX (.bool (aJ.getD default))) bO bP:=aw;refine j4 rfl rfl rfl rfl (fun f=>ql (zf5 underlying4 (((qh zf) _ _ _ F bJ).1 (zq rfl f)) (aw.1 (zq rfl f)))) fun dv bQ=>?_
 refine jl rfl (df rfl rfl (fun Q=>(bQ.1 (zq rfl Q)))) (z8 (zx rfl a (fun a=>?_) (fun a=>?_)));refine zm (zh (.bool false) (z8 (qd ?_)));obtain rfl:=Option.some.inj a
 refine qc (D:=[]) (J:=[box G [k] 27,ar]) (rs:=[.tmp 6]) (vs:=[(.bool false)]) (((((((P.trans O).trans m).trans j).trans d).trans n).trans E).trans F) rfl rfl ⟨rfl,trivial⟩ ?_;exact⟨rfl,rfl⟩;refine qa (zz ?_);obtain⟨bR,bS,bT,ac,a⟩:=zk7 a
 refine bf 12 [⟨11,[.slice none 0 0],27⟩] [phX (.pointer (some ⟨G,0,none⟩)),phX k,phX (.int .u8 rows),phX (vi rows),phX (.pointer (some ⟨G,0,none⟩)),phX k,phX (vi (↑y.fB.length:Int)),phX (vi ((↑y.fB.length:Int)+1)),phX (vi (rows%((↑y.fB.length:Int)+1))),phR (tSl false (tSl false (zu .i64))) (cut y.fB 0 (rows%((↑y.fB.length:Int)+1))),phR (zn false false) (⟨(cut y.fB 0 (rows%((↑y.fB.length:Int)+1)))⟩:Sa),phB] mixed (by kernel_rfl) (vz ⟨zf,zf,zf,zf,zf,zf,zf,zf,zf,z2d,z2d,zlw,trivial⟩) ⟨?_,?_,?_,?_,?_,?_,?_,?_,?_,?_,?_,?_,trivial⟩ fun dw Z=>?_
 intro l a0 c t hd;exact zg rfl rfl rfl (zk (fq ry (t 7 rfl)));rintro l aB c t ⟨C,_⟩;exact zg rfl rfl rfl (zk (xe (i:=0) zfo (C rfl) rfl rfl));intro l a1 c t hd;exact zg rfl rfl rfl (zk (za (t 2 rfl)));rintro l a2 c t ⟨C,_⟩
 exact zg rfl rfl rfl (zk (z4s underlying5 underlying3 (C rfl) bR));intro l a3 c t hd;exact zg rfl rfl rfl (zk (fq ry (t 7 rfl)));rintro l a4 c t ⟨C,_⟩;exact zg rfl rfl rfl (zk (xe (i:=0) zfo (C rfl) rfl rfl));rintro l a5 c t ⟨C,_⟩
 exact zg rfl rfl rfl (zk (qm rfl underlying25 (C rfl) (jk ((I.mono (((((m.trans j).trans d).trans n).trans E).trans F)).mono c))));rintro l a6 c t ⟨C,_⟩;exact zg rfl rfl rfl (zk (qi (C rfl) rfl bS));rintro l eo c t ⟨C,W,_⟩;exact zg rfl rfl rfl (zk (za7 (C rfl) (W rfl) bT))
 rintro l ep c t ⟨C,W,_⟩
 exact zg rfl rfl rfl (zi5 (lo:=(0:Int).toNat) (hi:=(rows%((↑y.fB.length:Int)+1)).toNat) (mx:=(capOf k)) (X':=(cut y.fB 0 (rows%((↑y.fB.length:Int)+1)))) z7q (C rfl) (jk ((I.mono (((((m.trans j).trans d).trans n).trans E).trans F)).mono c)) (.inl ⟨rfl,rfl⟩) (.inr ⟨_,congrArg some (zi (W rfl) (zb7 ac))⟩) (.inl ⟨rfl,rfl⟩) (z5p ac) (z2q ac) (fun h=>Nat.le_trans (z2q ac) h) (fun _=>Nat.le_refl _) rfl)
 rintro l bU c t ⟨C,_⟩;have aK:phR (tSl false (tSl false (zu .i64))) (cut y.fB 0 (rows%((↑y.fB.length:Int)+1))) (l 126) bU:=C rfl
 exact zg rfl rfl rfl (zj9 (z0t [(0,(.agg #[(l 126)]))] (ps:=[(0,(l 126))]) (v:=(.agg #[(l 126)])) rfl (by simp only [List.map_cons,List.map_nil,xw aK]<;>rfl) (fun w=>by kernel_rfl)) (⟨_,(jf (T:=(tSl false (tSl false (zu .i64)))) rfl aK),rfl⟩:VRep (zn false false) _ _ (⟨(cut y.fB 0 (rows%((↑y.fB.length:Int)+1)))⟩:Sa)))
 intro l dx c t hd;exact zid rfl rfl rfl rfl zdz;intro dy bV dA bW dB bX dC bY dD bZ dE b0 dF b1 dG b2 dH b3 dI dJ dK b4 dL b5;obtain rfl:=Eq.symm bV;obtain rfl:=Eq.symm bW;obtain rfl:=Eq.symm bX;obtain rfl:=Eq.symm bY;obtain rfl:=Eq.symm bZ;obtain rfl:=Eq.symm b0;obtain rfl:=Eq.symm b1;obtain rfl:=Eq.symm b2
 obtain rfl:=Eq.symm b3;obtain⟨aL,rfl⟩:=b5;obtain⟨ad,rfl,ax⟩:=z0n b4;refine w9 (i:=0) (vs:=[ad]) z03 rfl rfl rfl rfl rfl rfl (jm (zb1 ax) xu) ?_
 refine z8 (zz (zm (zy (fq ry rfl) (zy (xe (i:=0) zfo rfl rfl rfl) (zy (qm rfl underlying25 rfl (jk ax)) (zy (mo rfl rfl) (z8 (zx rfl a (fun a=>?_) (fun a=>?_)))))))));refine zm ?_;obtain⟨aM,b6,a⟩:=zo a;refine j3 rfl zn6 rfl (z3l  b6) fun dM dN aU b7=>?_
 obtain rfl:=b7;refine zh (.bool aM) (z8 (qd ?_));obtain rfl:=Option.some.inj a;refine qc (D:=[]) (J:=[box aL [ad] 27,box G [k] 27,ar]) (rs:=[.tmp 6]) (vs:=[(.bool aM)]) (((((((((P.trans O).trans m).trans j).trans d).trans n).trans E).trans F).trans Z).trans aU) rfl rfl ⟨rfl,trivial⟩ ?_;exact⟨rfl,rfl⟩
 refine qa (zm (zy (uj (i:=0) z2t z03 rfl rfl rfl rfl) (ze H ?_)));obtain⟨u,b8,a⟩:=zo a
 refine z3v (cs:=[]) (vs:=[(.agg #[ad]),H]) (φ:=fun v=>v= .tuple #[(.bool u.1),(vi u.2)]) rfl zkf rfl rfl (fun b9 ay aV=>z18 (⟨_,(jf (T:=(tSl false (tSl false (zu .i64)))) rfl (ax.mono ay)),rfl⟩:VRep (zn false false) _ _ (⟨(cut y.fB 0 (rows%((↑y.fB.length:Int)+1)))⟩:Sa)) (z6k ((z5z 2 rfl (au.mono (F.trans Z)) ay aV):VRep (yo (zu .i64)) b9 H aq)) b8) fun dO ca=>?_
 obtain rfl:=ca
 refine ze (.tuple #[(.bool u.1),(vi u.2)]) (zy (qw rfl rfl) (zy (qw rfl rfl) (zh (.bool u.1) (zh (vi u.2) (qp (jl (v:=(vi u.2)) rfl (za rfl) (jl rfl (mo rfl rfl) (jl (v:=(.bool (decide (u.2=0)))) rfl (za rfl) (j4 rfl rfl rfl rfl (fun f=>ql (v:=(.bool q.1)) (za rfl)) fun dP cb=>?_)))))))))
 refine j4 rfl rfl rfl rfl (fun f=>ql (dz (cb.1 (zq rfl f)))) fun dQ cc=>?_;refine j4 rfl rfl rfl rfl (fun f=>ql (v:=(.bool (!q.1))) (za (cc.1 (zq rfl f)))) fun dR aN=>?_;refine ze9 rfl rfl rfl aN (fun hG f=>ql (v:=(.bool u.1)) (za rfl)) fun dS cd=>?_
 refine j4 rfl rfl rfl rfl (fun f=>ql (df (aN.1 (zq rfl f)) rfl (fun Q=>(cd.1 (zq (zq rfl f) Q))))) fun dT ce=>?_;refine jl rfl (pq rfl (fun Q=>(ce.1 (zq rfl Q))) rfl) ?_;let G1:=((decide (u.2=0))&&((!q.1)||u.1));refine jl (v:=(.bool G1)) rfl (za rfl) ?_;obtain⟨az,cf,a⟩:=zo a
 refine rq rfl rfl rfl rfl (fun f=>kv (vs:=[]) zn6 rfl ((by have ag:=(mi cf (zq rfl f));exact z3l  ag)) (fun _ _ h=>h)) fun cg ch aW aA=>?_;replace aA:phG (true&&(G1==true)) (phX (.bool (az.getD default))) cg ch:=aA
 refine jl rfl (pq rfl (fun Q=>(aA.1 (zq rfl Q))) rfl) (jl (v:=(.bool (G1&&(az.getD default)))) rfl (ai rfl) (z8 (qd ?_)));obtain rfl:=Option.some.inj a
 refine qc (D:=[]) (J:=[box aL [ad] 27,box G [k] 27,ar]) (rs:=[.tmp 6]) (vs:=[(.bool (G1&&(az.getD default)))]) (((((((((P.trans O).trans m).trans j).trans d).trans n).trans E).trans F).trans Z).trans aW) rfl rfl ⟨rfl,trivial⟩ ?_;exact⟨rfl,rfl⟩
end GV
end Go.Proofs.Ytkhihcleegljhaa
