import Derived.Test.YtkcccdcloealfaaGreatShWd
import Derived.Test.YtkcccdcloealfaaGreatShXa
import Derived.Test.YtkcccdcloealfaaGreatShXb
import Derived.Test.YtkcccdcloealfaaGreatShXc
import Derived.Test.YtkcccdcloealfaaGreatShXe
import Derived.Test.YtkcccdcloealfaaGreatShXg
import Derived.Test.YtkcccdcloealfaaGreatShXh
import Derived.Test.YtkcccdcloealfaaGreatRows
set_option linter.unusedVariables false
set_option linter.unusedSimpArgs false
namespace Go.Proofs.YtkcccdcloealfaaGreat
namespace GV
open Go.IntWalk
set_option maxRecDepth 100000
set_option maxHeartbeats 20000000
theorem z8j{N:Nat}{R:RH}{x:MDat}{S:Value}(U:VRep (z3k false) R S x){y:WDat}{V:Value}(W:VRep (zcd false) R V y){r:Bool}(b:su N x y=some r):CallP Tryz.prog 3 #[S,V] R (fun v R'=>v=(.bool r)):=by
 refine qf (args:=[S,V]) Tryz.func3 rfl rfl fun A=>?_;rw [su] at b;refine zn (ky (T:=(z3k false)) rfl rfl rfl U fun v1 R3 u h5 h2=>?_);refine ky (T:=(zcd false)) rfl rfl rfl (W.mono u) fun v6 R8 w ap h7=>?_
 refine zf (.bool false) (qw (zq (jl zx0 rfl rfl (h5.mono w) (U.mono (u.trans w))) ?_));obtain⟨c,aq,b⟩:=zm b;refine j3 rfl en9 rfl (z15 (U.mono (u.trans w)) aq) fun be bf q ar=>?_;refine kv rfl z5j fun aa=>?_;obtain⟨o,rfl,P⟩:=oz ar
 refine jd (i:=0) (vs:=[(vi c.inputs),(vi c.outputs),o]) yh rfl rfl rfl rfl rfl rfl (zu rfl (zu rfl (zu (z2g P) jh))) ?_;refine qw (zq (jl q5l rfl rfl (ap.mono q) (W.mono ((u.trans w).trans q))) (zq (qd av rfl) (zq (qi (i:=0) ag3 rfl rfl rfl) ?_)));obtain⟨bg,au,b⟩:=zm b
 refine j3 rfl q5r rfl (z5y (W.mono ((u.trans w).trans q)) au) fun z bh s ab=>?_;refine zf z (qw (zq (ql (i:=0) ry yh rfl rfl rfl rfl) ?_));obtain⟨a,aw,b⟩:=zm b
 refine j3 rfl ztk rfl (z0j (⟨_,⟨_,_,rfl,rfl,⟨_,_,rfl,rfl,(je rfl (P.mono s))⟩⟩,rfl⟩:VRep (qz false false) _ _ (⟨c.inputs,c.outputs,c.rows⟩:Mach)) aw) fun bi bj n ax=>?_;obtain⟨ay,rfl,az⟩:=ax
 refine zh (.tuple #[ay,(vi a.2)]) (zq (qm rfl rfl) (zq (qm rfl rfl) (kv rfl z5j fun ac=>?_)));obtain⟨j,rfl,G⟩:=oz az;refine jd (i:=0) (vs:=[(vi a.1.inputs),(vi a.1.outputs),j]) yh rfl rfl rfl rfl rfl rfl (zu rfl (zu rfl (zu (z2g G) jh))) ?_
 refine zf (vi a.2) (z8 (q8 (q8 ?_)));obtain⟨aA,aB,b⟩:=zm b;obtain⟨e,aC,b⟩:=zm b;obtain⟨aD,aE,b⟩:=zm b;obtain⟨aF,aG,b⟩:=zm b;obtain⟨I,aH,b⟩:=zm b
 refine dn 16 [] [phX (.agg #[(vi a.1.inputs),(vi a.1.outputs),j]),phX (vi a.2),phX (.agg #[(vi c.inputs),(vi c.outputs),o]),phR (qz false false) aA,phX (.bool e),phX (.bool (!e)),phX (.bool (!e)),phG (true&&((!e)==false)) (phX (.agg #[(vi a.1.inputs),(vi a.1.outputs),j])),phG (true&&((!e)==false)) (phX z),phG (true&&((!e)==false)) (phR (tSl false (qc .i64)) (aD.getD default)),phG (true&&((!e)==false)) (phX (.agg #[(vi c.inputs),(vi c.outputs),o])),phG (true&&((!e)==false)) (phX z),phG (true&&((!e)==false)) (phR (tSl false (qc .i64)) (aF.getD default)),phG (true&&((!e)==false)) (phX (.bool (I.getD default))),phG (true&&((!e)==false)) (phX (.bool (!(I.getD default)))),phX (.bool ((!e)||(!(I.getD default))))] mixed (by kernel_rfl) (yl ⟨zi,zi,zi,bz,zi,zi,zi,(qg zi),(qg zi),(qg bz),(qg zi),(qg zi),(qg bz),(qg zi),(qg zi),zi,trivial⟩) ⟨?_,?_,?_,?_,?_,?_,?_,?_,?_,?_,?_,?_,?_,?_,?_,?_,trivial⟩ fun bk t=>?_
 intro l bl d m hd;exact za rfl rfl rfl (zt (ql (i:=0) ry yh (m 7 rfl) rfl rfl rfl));intro l bm d m hd;exact za rfl rfl rfl (zt (zb (m 8 rfl)));intro l bn d m hd;exact za rfl rfl rfl (zt (ql (i:=1) ry yh (m 5 rfl) rfl rfl rfl));rintro l bo d m ⟨g,_⟩
 have aI:l 26=(.agg #[(vi c.inputs),(vi c.outputs),o]):=g rfl
 exact za rfl rfl rfl (jy (vs:=[(.agg #[(vi c.inputs),(vi c.outputs),o])]) q6l (by simp only [List.map,ev,aI]<;>rfl) (z5b (⟨_,⟨_,_,rfl,rfl,⟨_,_,rfl,rfl,(je rfl ((P.mono (s.trans n)).mono d))⟩⟩,rfl⟩:VRep (qz false false) _ _ (⟨c.inputs,c.outputs,c.rows⟩:Mach)) aB) (fun _ _ h=>h))
 rintro l bp d m ⟨g,H,d2,d3,_⟩;have aJ:l 24=(.agg #[(vi a.1.inputs),(vi a.1.outputs),j]):=g rfl;have aK:l 25=(vi a.2):=H rfl
 exact za rfl rfl rfl (jy (vs:=[(.agg #[(vi a.1.inputs),(vi a.1.outputs),j]),(vi a.2),(l 27)]) q3f (by simp only [List.map,ev,aJ,aK]<;>rfl) (z2t (⟨_,⟨_,_,rfl,rfl,⟨_,_,rfl,rfl,(je rfl (G.mono d))⟩⟩,rfl⟩:VRep (qz true true) _ _ (⟨a.1.inputs,a.1.outputs,a.1.rows⟩:Mach)) (d2 rfl) aC) (fun _ _ h=>h))
 rintro l bq d m ⟨g,_⟩;exact za rfl rfl rfl (zt (ow (g rfl)));rintro l br d m ⟨g,H,_⟩;exact za rfl rfl rfl (zt (zb (g rfl)));rintro l bs d m ⟨g,_⟩;exact zg (Gj:=true) (Bj:= !e) rfl rfl rfl (jk (g rfl)) rfl (fun O k=>zt (ql (i:=0) ry yh (m 7 rfl) rfl rfl rfl));rintro l bt d m ⟨g,_⟩
 exact zg (Gj:=true) (Bj:= !e) rfl rfl rfl (jk (g rfl)) rfl (fun O k=>zt (zb (m 6 rfl)));rintro l bu d m ⟨g,H,d2,d3,_⟩
 exact zg (Gj:=true) (Bj:= !e) rfl rfl rfl (jk (d2 rfl)) rfl (fun O k=>jy (vs:=[(.agg #[(vi a.1.inputs),(vi a.1.outputs),j]),(vi 0),z]) zw6 (by simp only [List.map,ev,(show l 31=(.agg #[(vi a.1.inputs),(vi a.1.outputs),j]) from(g rfl).1 (zo rfl k)),(show l 32=z from(H rfl).1 (zo rfl k))]<;>rfl) ((by have C:=(mq aE (zo O k));exact z1i (⟨_,⟨_,_,rfl,rfl,⟨_,_,rfl,rfl,(je rfl (Sub.v (B:=(tSl false (tSl false kEdge))) (ku (ku Sub.refl (fun _=>rfl)) (fun _=>rfl)) (G.mono d)))⟩⟩,rfl⟩:VRep (qz false false) _ _ (⟨a.1.inputs,a.1.outputs,a.1.rows⟩:Mach)) ((ab.mono n).mono d) C)) (fun _ _ h=>h))
 rintro l a0 d m ⟨g,_⟩;exact zg (Gj:=true) (Bj:= !e) rfl rfl rfl (jk (g rfl)) rfl (fun O k=>zt (ql (i:=1) ry yh (m 5 rfl) rfl rfl rfl));rintro l a1 d m ⟨g,_⟩;exact zg (Gj:=true) (Bj:= !e) rfl rfl rfl (jk (g rfl)) rfl (fun O k=>zt (zb (m 6 rfl)));rintro l a2 d m ⟨g,H,d2,d3,_⟩
 exact zg (Gj:=true) (Bj:= !e) rfl rfl rfl (jk (d3 rfl)) rfl (fun O k=>jy (vs:=[(.agg #[(vi c.inputs),(vi c.outputs),o]),(vi 0),z]) zw6 (by simp only [List.map,ev,(show l 34=(.agg #[(vi c.inputs),(vi c.outputs),o]) from(g rfl).1 (zo rfl k)),(show l 35=z from(H rfl).1 (zo rfl k))]<;>rfl) ((by have C:=(mq aG (zo O k));exact z1i (⟨_,⟨_,_,rfl,rfl,⟨_,_,rfl,rfl,(je rfl ((P.mono (s.trans n)).mono d))⟩⟩,rfl⟩:VRep (qz false false) _ _ (⟨c.inputs,c.outputs,c.rows⟩:Mach)) ((ab.mono n).mono d) C)) (fun _ _ h=>h))
 rintro l a3 d m ⟨g,H,d2,d3,_⟩;exact zg (Gj:=true) (Bj:= !e) rfl rfl rfl (jk (d3 rfl)) rfl (fun O k=>jy (vs:=[(l 33),(l 36)]) q42 rfl ((by have C:=(mq aH (zo O k));exact z4k ((g rfl).1 (zo rfl k)) ((H rfl).1 (zo rfl k)) C)) (fun _ _ h=>h));rintro l a4 d m ⟨g,H,_⟩
 exact zg (Gj:=true) (Bj:= !e) rfl rfl rfl (jk (H rfl)) rfl (fun O k=>zt (ow (show l 37=(.bool (I.getD default)) from(g rfl).1 (zo rfl k))));rintro l a5 d m ⟨g,H,_⟩;exact za rfl rfl rfl (zt (sw (g rfl) rfl (fun X=>(show l 38=(.bool (!(I.getD default))) from(H rfl).1 (zo rfl X)))))
 intro bv aL bw aM bx aN bA bB bC aO bD aP bE aQ bF bG bH bI bJ bK bL bM bN bO bP bQ bR bS bT bU bV aR;obtain rfl:=Eq.symm aL;obtain rfl:=Eq.symm aM;obtain rfl:=Eq.symm aN;obtain rfl:=Eq.symm aO;obtain rfl:=Eq.symm aP;obtain rfl:=Eq.symm aQ;obtain rfl:=Eq.symm aR;refine z8 (zw rfl b (fun b=>?_) (fun b=>?_))
 refine zn (zf (.bool false) (z8 (qp ?_)));obtain rfl:=Option.some.inj b;refine q9 (D:=[]) (J:=[box ac [(vi a.1.inputs),(vi a.1.outputs),j] 30,box aa [(vi c.inputs),(vi c.outputs),o] 30]) (rs:=[.tmp 4]) (vs:=[(.bool false)]) (((((u.trans w).trans q).trans s).trans n).trans t) rfl rfl ⟨rfl,trivial⟩ ?_
 exact⟨rfl,rfl⟩;refine qa (zn (zq (ql (i:=0) ry yh rfl rfl rfl rfl) ?_));obtain⟨f,aS,b⟩:=zm b
 refine j3 rfl ztk rfl (z0j (⟨_,⟨_,_,rfl,rfl,⟨_,_,rfl,rfl,(je rfl (Sub.v (B:=(tSl false (tSl false kEdge))) (ku (ku Sub.refl (fun _=>rfl)) (fun _=>rfl)) (G.mono t)))⟩⟩,rfl⟩:VRep (qz false false) _ _ (⟨a.1.inputs,a.1.outputs,a.1.rows⟩:Mach)) aS) fun bW bX K aT=>?_;obtain⟨aU,rfl,aV⟩:=aT
 refine zh (.tuple #[aU,(vi f.2)]) (zq (qm rfl rfl) (zq (qm rfl rfl) (kv rfl z5j fun aW=>?_)));obtain⟨Q,rfl,af⟩:=oz aV;refine jd (i:=0) (vs:=[(vi f.1.inputs),(vi f.1.outputs),Q]) yh rfl rfl rfl rfl rfl rfl (zu rfl (zu rfl (zu (z2g af) jh))) ?_
 refine zf (vi f.2) (qw (zq (ql (i:=1) ry yh rfl rfl rfl rfl) ?_));obtain⟨p,aX,b⟩:=zm b
 refine j3 rfl q0y rfl (z1n (⟨_,⟨_,_,rfl,rfl,⟨_,_,rfl,rfl,(je rfl (Sub.v (B:=(tSl false (tSl false kEdge))) (ku (ku Sub.refl (fun _=>rfl)) (fun _=>rfl)) (G.mono (t.trans K))))⟩⟩,rfl⟩:VRep (qz false false) _ _ (⟨a.1.inputs,a.1.outputs,a.1.rows⟩:Mach)) aX) fun bY a6 E aY=>?_;obtain rfl:=aY
 refine zh (.tuple #[(.bool p.1),(vi p.2)]) (zq (qm rfl rfl) (zq (qm rfl rfl) (zf (.bool p.1) (zf (vi p.2) (qw (ji (v:=(.agg #[(vi f.1.inputs),(vi f.1.outputs),Q])) rfl (ql (i:=0) ry yh rfl rfl rfl rfl) (ji (v:=(vi f.2)) rfl (zb rfl) (ji (v:=(.agg #[(vi a.1.inputs),(vi a.1.outputs),j])) rfl (ql (i:=1) ry yh rfl rfl rfl rfl) ?_))))))))
 obtain⟨F,ag,b⟩:=zm b
 refine z6c (φ:=phX (.bool F)) rfl (jy (vs:=[(.agg #[(vi f.1.inputs),(vi f.1.outputs),Q]),(vi f.2),(.agg #[(vi a.1.inputs),(vi a.1.outputs),j])]) q3f rfl (z2t (⟨_,⟨_,_,rfl,rfl,⟨_,_,rfl,rfl,(je rfl (af.mono E))⟩⟩,rfl⟩:VRep (qz true true) _ _ (⟨f.1.inputs,f.1.outputs,f.1.rows⟩:Mach)) (⟨_,⟨_,_,rfl,rfl,⟨_,_,rfl,rfl,(je rfl (Sub.v (B:=(tSl false (tSl false kEdge))) (ku (ku Sub.refl (fun _=>rfl)) (fun _=>rfl)) (G.mono ((t.trans K).trans E))))⟩⟩,rfl⟩:VRep (qz false false) _ _ (⟨a.1.inputs,a.1.outputs,a.1.rows⟩:Mach)) ag) (fun _ _ h=>h)) fun a7 a8 Y ah=>?_
 obtain rfl:=Eq.symm ah;refine ji (v:=(.bool F)) rfl (zb rfl) (j5 rfl rfl rfl rfl (fun k=>qx (v:=(.bool p.1)) (zb rfl)) fun a9 ai=>?_)
 refine ji rfl (uk rfl (fun X=>(ai.1 (zo rfl X))) rfl) (ji (v:=(.bool (F&&p.1))) rfl (zb rfl) (j5 rfl rfl rfl rfl (fun k=>qx (v:=(vi p.2)) (zb rfl)) fun ba aj=>?_));refine j5 rfl rfl rfl rfl (fun k=>qx (x9 (aj.1 (zo rfl k)) rfl)) fun bb ak=>?_
 refine ji rfl (uk rfl (fun X=>(ak.1 (zo rfl X))) rfl) ?_;let G1:=((F&&p.1)&&(decide (p.2=0)));refine ji (v:=(.bool G1)) rfl (zb rfl) ?_;obtain⟨L,al,b⟩:=zm b
 refine z5a rfl rfl rfl rfl (fun k=>jy (vs:=[]) zp5 rfl ((by have C:=(mq al (zo rfl k));exact oh  C)) (fun _ _ h=>h)) fun am an Z M=>?_;replace M:phG (true&&(G1==true)) (phX (.bool (L.getD default))) am an:=M
 refine ji rfl (uk rfl (fun X=>(M.1 (zo rfl X))) rfl) (ji (v:=(.bool (G1&&(L.getD default)))) rfl (ni rfl) (z8 (qp ?_)));obtain rfl:=Option.some.inj b
 refine q9 (D:=[]) (J:=[box aW [(vi f.1.inputs),(vi f.1.outputs),Q] 30,box ac [(vi a.1.inputs),(vi a.1.outputs),j] 30,box aa [(vi c.inputs),(vi c.outputs),o] 30]) (rs:=[.tmp 4]) (vs:=[(.bool (G1&&(L.getD default)))]) (((((((((u.trans w).trans q).trans s).trans n).trans t).trans K).trans E).trans Y).trans Z) rfl rfl ⟨rfl,trivial⟩ ?_
 exact⟨rfl,rfl⟩
end GV
end Go.Proofs.YtkcccdcloealfaaGreat
