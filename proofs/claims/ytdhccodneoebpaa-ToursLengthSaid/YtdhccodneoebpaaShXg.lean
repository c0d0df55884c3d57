import Derived.Test.YtdhccodneoebpaaShWe
import Derived.Test.YtdhccodneoebpaaShXa
import Derived.Test.YtdhccodneoebpaaShXb
import Derived.Test.YtdhccodneoebpaaShXc
import Derived.Test.YtdhccodneoebpaaRows
set_option linter.unusedVariables false
set_option linter.unusedSimpArgs false
set_option linter.unusedSectionVars false
namespace Go.Proofs.Ytdhccodneoebpaa
namespace GV
open _root_.Go.Proofs.Try
open Go.IntWalk
set_option maxRecDepth 100000
set_option maxHeartbeats 20000000
theorem q4u{a:Bool}:TyOk prog 41 (mh a):=by
 obtain⟨i,hi,b⟩: ∃ i,prog.info? 41=some i∧i.size=3:=jf (by kernel_rfl);exact ib underlying41 hi rfl b
theorem q1h:FieldOk prog 41 0 0:=by
 obtain⟨i,hi,a⟩: ∃ i,prog.info? 5=some i∧i.size=1:=jf (by kernel_rfl);exact uo underlying41 rfl rfl hi (by rw [a];rfl)
theorem q2a:FieldOk prog 41 1 1:=by
 obtain⟨i,hi,a⟩: ∃ i,prog.info? 5=some i∧i.size=1:=jf (by kernel_rfl);exact uo underlying41 rfl rfl hi (by rw [a];rfl)
theorem zn8:FieldOk prog 41 2 2:=by
 obtain⟨i,hi,a⟩: ∃ i,prog.info? 39=some i∧i.size=1:=jf (by kernel_rfl);exact uo underlying41 rfl rfl hi (by rw [a];rfl)
theorem zzw{a:Bool}:TyOk prog 39 (tSl a (zy .u8)):=by
 obtain⟨i,hi,b⟩: ∃ i,prog.info? 39=some i∧i.size=1:=jf (by kernel_rfl);exact ib underlying39 hi rfl b
theorem q0w:SlOk prog 39 5 (zy .u8):=⟨underlying39,ty5⟩
theorem zcy{N:Nat}{R:RH}{x:Sg}{ab:Value}(aY:VRep (mh false) R ab x){r:Mach}(d:z13 N x=some r):CallP prog 17 #[ab] R (fun v R'=>VRep (jg false false) R' v r):=by
 refine qp (args:=[ab]) func17 rfl rfl fun A=>?_;rw [z13] at d;refine zo (y5 (T:=(mh false)) rfl rfl rfl aY fun v1 R3 aZ h5 h2=>?_);refine jc rfl zg0 fun b6=>?_;refine j4 (jq rfl q1h zci rfl h2 fun v8 h9=>?_);refine j3 rfl ty5 rfl h9 fun bH a0=>?_;obtain rfl:=qj.1 a0
 obtain⟨a1,d⟩:=za d;refine zi (z4d underlying5 underlying3 rfl a1) ?_;obtain⟨a2,d⟩:=za d;refine zi (z4i rfl rfl a2) ?_;obtain⟨a3,d⟩:=za d;refine zi (ji rfl rfl a3) (zm (vi ((1:Int)+(x.fAe%5))) (j4 (jq rfl q2a zcq rfl h2 fun bI a4=>?_)))
 refine j3 rfl ty5 rfl a4 fun bJ a5=>?_;obtain rfl:=qj.1 a5;obtain⟨a6,d⟩:=za d;refine zi (z4d underlying5 underlying3 rfl a6) ?_;obtain⟨a7,d⟩:=za d;refine zi (z4i rfl rfl a7) ?_;obtain⟨a8,d⟩:=za d
 refine zi (ji rfl rfl a8) (zi (jy (ps:=[(0,(vi ((1:Int)+(x.fO%2)))),(1,(vi 2))]) (v:=(.agg #[(vi ((1:Int)+(x.fO%2))),(vi 2),vs0])) rfl (fun w=>by kernel_rfl)) (jc rfl zg0 fun o=>?_))
 refine ql (i:=0) (vs:=[(vi ((1:Int)+(x.fO%2))),(vi 2),vs0]) z3d rfl rfl rfl rfl rfl rfl (qb rfl (qb rfl (qb rfl qy))) ?_;refine z8 ?_;obtain⟨p,e,d⟩:=zu d
 refine jb (γ:=(List (List Edge))×Value×Frag) (rs [5,10,21,80]) (fun g=>[]) (fun g=>[box b6 [(vi 0),(vi 0),vs0] 27,box o [(vi ((1:Int)+(x.fO%2))),(vi 2),g.2.1] 27,g.2.2]++A) (fun g R=>p=g.1∧ORep (tSl false kEdge) R g.2.2 g.2.1 g.1∧True) ?_ ?_;refine zo (zm (vi 0) (z8 (zz (z4z ?_))))
 refine ky (γ:=Nat×Int×(List (List Edge))×Value×Frag) (rs [5,10,21,80]) (fun g=>[(5,(vi g.2.1))]) (fun g=>[box b6 [(vi 0),(vi 0),vs0] 27,box o [(vi ((1:Int)+(x.fO%2))),(vi 2),g.2.2.2.1] 27,g.2.2.2.2]++A) (fun g R=>xh N x g.1 g.2.1 g.2.2.1=some p∧ORep (tSl false kEdge) R g.2.2.2.2 g.2.2.2.1 g.2.2.1∧True) (fun g=>g.1) (N,0,[],vs0,emp) ⟨[],(pk 2 rfl (pk 1 rfl (pk 0 rfl (List.Perm.refl _))))⟩ ⟨e,(z0y (T:=(tSl false kEdge))),trivial⟩ ?_
 clear e;rintro⟨z,a,C,E,F⟩ bp bK l ⟨e,ah,_⟩;rcases z with _|z;exact j6 e;replace e:xh N x (z+1) a C=some p:=e;rw [xh] at e
 refine q9 (zo (zl (vi a) (zl (vi ((1:Int)+(x.fAe%5))) (zi (jk rfl rfl) (z8 (qa rfl e (fun e=>?_) (fun e=>?_)))))));refine qc (q9 (zz (zo (zm vs0 (z8 ?_)))));obtain⟨k,f,e⟩:=zu e
 refine jb (γ:=(List Edge)×Value×Frag) (rs [6,10,26,74]) (fun g=>[(6,g.2.1)]) (fun g=>[box b6 [(vi 0),(vi 0),vs0] 27,box o [(vi ((1:Int)+(x.fO%2))),(vi 2),E] 27,F,g.2.2]++A) (fun g R=>k=g.1∧ORep kEdge R g.2.2 g.2.1 g.1∧True) ?_ ?_;refine zo (zm (vi 0) (z8 (zz (z4z ?_))))
 refine ky (γ:=Nat×(List Edge)×Int×Value×Frag) (rs [6,10,26,74]) (fun g=>[(6,g.2.2.2.1),(7,(vi g.2.2.1))]) (fun g=>[box b6 [(vi 0),(vi 0),vs0] 27,box o [(vi ((1:Int)+(x.fO%2))),(vi 2),E] 27,F,g.2.2.2.2]++A) (fun g R=>xx N x a g.1 g.2.1 g.2.2.1=some k∧ORep kEdge R g.2.2.2.2 g.2.2.2.1 g.2.1∧True) (fun g=>g.1) (N,[],0,vs0,emp) ⟨[],(pk 1 rfl (pk 1 rfl (pk 1 rfl (pk 0 rfl (List.Perm.refl _)))))⟩ ⟨f,(z0y (T:=kEdge)),trivial⟩ ?_
 clear f;rintro⟨G,H,c,ai,aj⟩ bq bL m ⟨f,al,_⟩;rcases G with _|G;exact j6 f;replace f:xx N x a (G+1) H c=some k:=f;rw [xx] at f
 refine q9 (zo (zl (vi c) (zi (qd z3q rfl) (zi (zf (i:=1) ag3 rfl rfl rfl) (zi (jk rfl rfl) (z8 (qa rfl f (fun f=>?_) (fun f=>?_))))))))
 refine qc (q9 (zz (zo (zi (jy (ps:=[(0,(vi (-1))),(1,(vi (-1)))]) (v:=(.agg #[(vi (-1)),(vi (-1))])) rfl (fun w=>by kernel_rfl)) (jc rfl zta fun am=>?_)))));refine ql (i:=0) (vs:=[(vi (-1)),(vi (-1))]) zh0 rfl rfl rfl rfl rfl rfl (qb rfl (qb rfl qy)) ?_;refine z8 ?_
 obtain⟨h,b,f⟩:=zu f;refine jb (γ:=(Int×Int)) (rs [9,10,33,70]) (fun g=>[]) (fun g=>[box b6 [(vi 0),(vi 0),vs0] 27,box o [(vi ((1:Int)+(x.fO%2))),(vi 2),E] 27,F,aj,box am [(vi g.1),(vi g.2)] 53]++A) (fun g R=>h=g∧True) ?_ ?_
 refine zo (zl (vi a) (zi (qd z3q rfl) (zi (zf (i:=2) ag3 rfl rfl rfl) ?_)));obtain⟨a9,b⟩:=za b;refine zi (zd4 rfl rfl a9) (zl (vi c) ?_);obtain⟨ba,b⟩:=za b
 refine zi (ji rfl rfl ba) (zm (vi ((a*((1:Int)+(x.fO%2)))+c)) (j4 (jd (v:=(vi ((a*((1:Int)+(x.fO%2)))+c))) rfl (zg rfl) (zqp rfl (ak zn8 z1y rfl (h2.mono (l.trans m))) fun bM bb=>?_))));refine zqp rfl (u6 zzw rfl bb) fun bN bc=>?_
 refine jd rfl (qx rfl underlying39 rfl (je bc)) (jd rfl (jk rfl rfl) (jd (v:=(.bool (decide (((a*((1:Int)+(x.fO%2)))+c)<(↑x.fZ.length:Int))))) rfl (zg rfl) (j5 rfl rfl rfl rfl (fun n=>ak zn8 z1y rfl (h2.mono (l.trans m))) fun bO be=>?_)))
 refine j5 rfl rfl rfl rfl (fun n=>u6 zzw rfl (be.1 (zk rfl n))) fun bP bf=>?_;refine j5 rfl rfl rfl rfl (fun n=>qi (v:=(vi ((a*((1:Int)+(x.fO%2)))+c))) (zg rfl)) fun bQ bg=>?_;obtain⟨an,b⟩:=za b
 refine j5 rfl rfl rfl rfl (fun n=>wz (i:=((a*((1:Int)+(x.fO%2)))+c).toNat) q0w rfl (je (bf.1 (zk rfl n))) (zb (bg.1 (zk rfl n)) (an (zk rfl n)).1) (zn (an (zk rfl n)))) fun bR bh=>?_;refine j5 rfl rfl rfl rfl (fun n=>qi (pg (u6 ty5 rfl (bh.1 (zk rfl n))))) fun bS bi=>?_;obtain⟨bj,b⟩:=za b
 refine j5 rfl rfl rfl rfl (fun n=>qi (z4i (bi.1 (zk rfl n)) rfl (bj (zk rfl n)))) fun bT bk=>?_;refine j5 rfl rfl rfl rfl (fun n=>qi (jk (bk.1 (zk rfl n)) rfl)) fun bU bl=>?_;refine jd rfl (uk rfl (fun hb=>(bl.1 (zk rfl hb))) rfl) (z8 (qa rfl b (fun b=>?_) (fun b=>?_)))
 refine z10 17 mixed (by kernel_rfl) (by kernel_rfl) ?_;refine eu (ak zn8 z1y rfl (h2.mono (l.trans m))) fun bW bm=>?_;refine eu (u6 zzw rfl bm) fun br ao=>?_;refine kv (v:=(vi ((a*((1:Int)+(x.fO%2)))+c))) (zg rfl) ?_;obtain⟨M,b⟩:=za b
 refine eu (wz (i:=((a*((1:Int)+(x.fO%2)))+c).toNat) q0w rfl (je ao) (zb rfl M.1) (zn M)) fun bs ap=>?_;refine kv (pg (u6 ty5 rfl ap)) ?_;obtain⟨aq,b⟩:=za b;refine kv (zs6 rfl rfl aq) ?_;obtain⟨ar,b⟩:=za b;refine kv (z4d underlying5 underlying3 rfl ar) ?_
 refine kv (v:=(vi ((1:Int)+(x.fAe%5)))) (zg rfl) ?_;obtain⟨au,b⟩:=za b;refine kv (z4i rfl rfl au) ?_;refine eu (ak zn8 z1y rfl (h2.mono (l.trans m))) fun bt av=>?_;refine eu (u6 zzw rfl av) fun bu aw=>?_;refine kv (v:=(vi ((a*((1:Int)+(x.fO%2)))+c))) (zg rfl) ?_
 obtain⟨O,b⟩:=za b;refine eu (wz (i:=((a*((1:Int)+(x.fO%2)))+c).toNat) q0w rfl (je aw) (zb rfl O.1) (zn O)) fun bw ax=>?_;refine kv (pg (u6 ty5 rfl ax)) ?_;obtain⟨ay,b⟩:=za b;refine kv (z4d underlying5 underlying3 rfl ay) ?_;obtain⟨az,b⟩:=za b
 refine kv (z4i rfl rfl az) ?_
 refine kv (v:=(.agg #[(vi ((IntKind.u8.wrap (Int.tdiv (ix x.fZ ((a*((1:Int)+(x.fO%2)))+c)) 8))%((1:Int)+(x.fAe%5)))),(vi ((ix x.fZ ((a*((1:Int)+(x.fO%2)))+c))%2))])) (jy (ps:=[(0,(vi ((IntKind.u8.wrap (Int.tdiv (ix x.fZ ((a*((1:Int)+(x.fO%2)))+c)) 8))%((1:Int)+(x.fAe%5))))),(1,(vi ((ix x.fZ ((a*((1:Int)+(x.fO%2)))+c))%2)))]) (v:=(.agg #[(vi ((IntKind.u8.wrap (Int.tdiv (ix x.fZ ((a*((1:Int)+(x.fO%2)))+c)) 8))%((1:Int)+(x.fAe%5)))),(vi ((ix x.fZ ((a*((1:Int)+(x.fO%2)))+c))%2))])) rfl (fun w=>by kernel_rfl)) ?_
 intro bx ac;refine ql (i:=0) (vs:=[(vi ((IntKind.u8.wrap (Int.tdiv (ix x.fZ ((a*((1:Int)+(x.fO%2)))+c)) 8))%((1:Int)+(x.fAe%5)))),(vi ((ix x.fZ ((a*((1:Int)+(x.fO%2)))+c))%2))]) zh0 rfl rfl rfl rfl rfl rfl (qb rfl (qb rfl qy)) ?_;refine z8 ?_
 exact⟨dkt,ac,jr,((IntKind.u8.wrap (Int.tdiv (ix x.fZ ((a*((1:Int)+(x.fO%2)))+c)) 8))%((1:Int)+(x.fAe%5)),(ix x.fZ ((a*((1:Int)+(x.fO%2)))+c))%2),trivial,⟨[],(pk 1 rfl (pk 1 rfl (pk 1 rfl (pk 1 rfl (pk 0 rfl (List.Perm.refl _))))))⟩,(Option.some.inj b).symm,trivial⟩;refine qc ?_
 exact⟨dkt,(RH.le.refl _),jr,((-1),(-1)),trivial,⟨[],(pk 1 rfl (pk 1 rfl (pk 1 rfl (pk 1 rfl (pk 0 rfl (List.Perm.refl _))))))⟩,(Option.some.inj b).symm,trivial⟩;rintro h bz bX P ⟨rfl,_⟩
 refine zt (zl ai (zi (xg (i:=4) zzy zh0 rfl rfl rfl rfl) (bv (T:=kEdge) (X:=([(⟨h.1,h.2⟩:Edge)]:List Edge)) (ps:=[(0,(.agg #[(vi h.1),(vi h.2)]))]) (css:=[[(vi h.1),(vi h.2)]]) rfl underlying54 ze1 rfl rfl (jv ⟨⟨_,_,rfl,rfl,rfl⟩,trivial⟩) rfl rfl (by decide) fun aA bA I aB=>?_)))
 refine u7 (i:=0) rfl aB fun aC q aD=>?_;have aE:VRep (tSl true kEdge) aC aA ([(⟨h.1,h.2⟩:Edge)]:List Edge):=(z0d aD I);obtain⟨Q,f⟩:=za f
 refine gq (i:=3) (X:=H) (Y:=([(⟨h.1,h.2⟩:Edge)]:List Edge)) rfl underlying54 ze1 rfl rfl rfl (al.mono (P.trans q)) (je (Sub.v (B:=(tSl false kEdge)) (uh Sub.refl (fun _=>rfl)) aE)) Q.1 Q.2 fun S aF aG=>?_;refine zm S (z8 (zt (zl (vi c) ?_)));obtain⟨aH,f⟩:=za f
 refine zi (ji rfl rfl aH) (zm (vi (c+1)) (z8 ?_));exact⟨dkt,(P.trans q),jr,(G,(H++([(⟨h.1,h.2⟩:Edge)]:List Edge)),c+1,S,aF),Nat.lt_succ_self _,⟨rfl,rfl,trivial⟩,⟨[box am [(vi h.1),(vi h.2)] 53],(pk 4 rfl (pk 0 rfl (pk 0 rfl (pk 0 rfl (pk 0 rfl (List.Perm.refl _))))))⟩,f,aG,trivial⟩;refine jm ?_
 exact⟨dkt,m,jr,(H,ai,aj),⟨rfl,trivial⟩,prm,(Option.some.inj f).symm,al,trivial⟩;rintro⟨k,K,bY⟩ bB bZ U ⟨rfl,bn,_⟩;refine zt (zi (qd dx rfl) (zi (zf (i:=1) q2b rfl rfl rfl) (zl K (u7 (i:=3) rfl bn fun aI s aJ=>?_))));have V:VRep (tSl false kEdge) aI K k:=(z6h aJ)
 refine bv (T:=(tSl false kEdge)) (X:=([k]:List (List Edge))) (ps:=[(0,K)]) (css:=[[K]]) rfl underlying25 zke rfl (by simp only [List.map_cons,List.map_nil,z0s V];rfl) (jv ⟨(kw rfl V),trivial⟩) rfl rfl (by decide) fun aK bC L aL=>?_;refine u7 (i:=0) rfl aL fun aM t aN=>?_
 have aO:VRep (tSl true (tSl false kEdge)) aM aK ([k]:List (List Edge)):=(z0d aN L);obtain⟨W,e⟩:=za e
 refine gq (i:=2) (X:=C) (Y:=([k]:List (List Edge))) rfl underlying25 zke rfl rfl rfl (ah.mono ((U.trans s).trans t)) (je (Sub.v (B:=(tSl false (tSl false kEdge))) (uh Sub.refl (fun _=>rfl)) aO)) W.1 W.2 fun Z aP u=>?_
 refine zi (qd dx rfl) (ql (i:=1) (vs:=[Z]) q1t rfl rfl (ui u) rfl rfl rfl (qb (uq u) qy) ?_);refine z8 (zt (zl (vi a) ?_));obtain⟨aQ,e⟩:=za e;refine zi (ji rfl rfl aQ) (zm (vi (a+1)) (z8 ?_))
 exact⟨dkt,((U.trans s).trans t),jr,(z,a+1,(C++([k]:List (List Edge))),Z,aP),Nat.lt_succ_self _,⟨rfl,trivial⟩,prm,e,u,trivial⟩;refine jm ?_;exact⟨dkt,l,jr,(C,E,F),trivial,prm,(Option.some.inj e).symm,ah,trivial⟩;rintro⟨p,aR,b0⟩ bD b1 aS ⟨rfl,bo,_⟩
 refine zo (zi (xg (i:=1) z7w z3d rfl rfl rfl rfl) (u7 (i:=2) rfl bo fun aT ad aU=>?_));have aV:VRep (tSl false (tSl false kEdge)) aT aR p:=(z6h aU);obtain⟨j,aW,d⟩:=zu d
 refine jl rfl q3j rfl (z4x (⟨_,⟨_,_,rfl,rfl,⟨_,_,rfl,rfl,(kw rfl aV)⟩⟩,rfl⟩:VRep (jg false false) _ _ (⟨(1:Int)+(x.fO%2),2,p⟩:Mach)) aW) fun bE bF ae aX=>?_;obtain⟨y,rfl,aa⟩:=z6q aX
 refine ql (i:=0) (vs:=[(vi j.inputs),(vi j.outputs),y]) z3d rfl rfl rfl rfl rfl rfl (qb rfl (qb rfl (qb (zhq aa) qy))) ?_;refine z8 (qw ?_);obtain rfl:=Option.some.inj d
 refine qh (D:=[]) (J:=[box b6 [(vi j.inputs),(vi j.outputs),y] 27,box o [(vi ((1:Int)+(x.fO%2))),(vi 2),aR] 27]) (rs:=[.cell 2 27]) (vs:=[(.agg #[(vi j.inputs),(vi j.outputs),y])]) (((aZ.trans aS).trans ad).trans ae) rfl rfl ⟨⟨_,rfl,fun w hh=>z3i (i:=0) hh rfl rfl z7w z3d rfl rfl⟩,trivial⟩ ?_
 exact⟨rfl,(⟨_,⟨_,_,rfl,rfl,⟨_,_,rfl,rfl,(kw rfl aa)⟩⟩,rfl⟩:VRep (jg false false) _ _ (⟨j.inputs,j.outputs,j.rows⟩:Mach))⟩
theorem q5j:Enters prog 17:=enters_of func17 rfl (by kernel_rfl)
end GV
end Go.Proofs.Ytdhccodneoebpaa
