import Derived.Test.YtjmlpkkbmnjhcaaShPlain
import Derived.Test.YtjmlpkkbmnjhcaaRows
set_option linter.unusedVariables false
set_option linter.unusedSimpArgs false
set_option linter.unusedSectionVars false
namespace Go.Proofs.Ytjmlpkkbmnjhcaa
namespace GV
open _root_.Go.Proofs.Try
open Go.IntWalk
set_option maxRecDepth 100000
set_option maxHeartbeats 20000000
theorem zxg{a b:Bool}:TyOk prog 25 (gz a b):=by
 obtain⟨i,hi,c⟩: ∃ i,prog.info? 25=some i∧i.size=5:=yf (by kernel_rfl);exact z1n underlying25 hi rfl c
theorem zgv: ∀ w,∃ z,(zeroValue 28).run prog w= .ok z w∧z.cells=([.int .i64 0,.int .i64 0,.slice none 0 0]:List Value).toArray:=fun w=>⟨(.agg #[(vi 0),(vi 0),vs0]),by kernel_rfl,rfl⟩
theorem zvm:FieldOk prog 25 0 0:=by
 obtain⟨i,hi,a⟩: ∃ i,prog.info? 5=some i∧i.size=1:=yf (by kernel_rfl);exact fe underlying25 rfl rfl hi (by rw [a];rfl)
theorem ty5:TyOk prog 5 (q8 .u8):=by
 obtain⟨i,hi,a⟩: ∃ i,prog.info? 5=some i∧i.size=1:=yf (by kernel_rfl);exact z1n underlying5 hi rfl a
theorem zw0:FieldOk prog 25 1 1:=by
 obtain⟨i,hi,a⟩: ∃ i,prog.info? 5=some i∧i.size=1:=yf (by kernel_rfl);exact fe underlying25 rfl rfl hi (by rw [a];rfl)
theorem zvr:FieldOk prog 25 2 2:=by
 obtain⟨i,hi,a⟩: ∃ i,prog.info? 5=some i∧i.size=1:=yf (by kernel_rfl);exact fe underlying25 rfl rfl hi (by rw [a];rfl)
theorem z3q: ∀ w,(sizeOf 28).run prog w= .ok 3 w:=fun w=>by kernel_rfl
theorem z1k:FieldOk prog 28 0 0:=by
 obtain⟨i,hi,a⟩: ∃ i,prog.info? 3=some i∧i.size=1:=yf (by kernel_rfl);exact fe underlying28 rfl rfl hi (by rw [a];rfl)
theorem ag3: ∀ w,(isAgg 3).run prog w= .ok false w:=fun w=>by kernel_rfl
theorem zqx:FieldOk prog 25 4 4:=by
 obtain⟨i,hi,a⟩: ∃ i,prog.info? 23=some i∧i.size=1:=yf (by kernel_rfl);exact fe underlying25 rfl rfl hi (by rw [a];rfl)
theorem zye{a:Bool}:TyOk prog 23 (tSl a (q8 .u16)):=by
 obtain⟨i,hi,b⟩: ∃ i,prog.info? 23=some i∧i.size=1:=yf (by kernel_rfl);exact z1n underlying23 hi rfl b
theorem bq:TyOk prog 67 (q8 .u16):=by
 obtain⟨i,hi,a⟩: ∃ i,prog.info? 67=some i∧i.size=1:=yf (by kernel_rfl);exact z1n underlying67 hi rfl a
theorem bn:SlOk prog 23 67 (q8 .u16):=⟨underlying23,bq⟩
theorem z5k{N:Nat}{R:RH}{d:(List Int)}{b:Value}(c:VRep (tSl false (q8 .u16)) R b d){k:Int}{r:Int}(a:z06 N d k=some r):CallP prog 16 #[b,(vi k)] R (fun v R'=>v=(vi r)):=by
 refine ql (args:=[b,(vi k)]) func16 rfl rfl fun A=>?_;rw [z06] at a;refine zu (zi (vi 0) (za (qb (zu (zf (vi k) (zf b (zy (jb rfl underlying23 rfl (jv c)) (zy (ji rfl rfl) (za (qa rfl a (fun a=>?_) (fun a=>?_)))))))))));refine zu (zf b (zf (vi k) ?_))
 obtain⟨e,a⟩:=zb a;refine eu (i:=k.toNat) rfl bn rfl (jv c) (zl rfl e.1) (zw e) fun j f=>?_;refine jf rfl bq rfl f fun l g=>?_;obtain rfl:=qc.1 g;obtain⟨h,a⟩:=zb a;refine zy (z1b underlying67 underlying3 rfl h) (zi (vi (ix d k)) (za (qm ?_)));obtain rfl:=Option.some.inj a
 refine qg (D:=[]) (J:=[]) (rs:=[.tmp 4]) (vs:=[(vi (ix d k))]) (RH.le.refl _) rfl rfl ⟨rfl,trivial⟩ ?_;exact⟨rfl,rfl⟩;refine qf (zu (zi (vi 0) (za (qm ?_))));obtain rfl:=Option.some.inj a;refine qg (D:=[]) (J:=[]) (rs:=[.tmp 4]) (vs:=[(vi 0)]) (RH.le.refl _) rfl rfl ⟨rfl,trivial⟩ ?_;exact⟨rfl,rfl⟩
theorem zy5:Enters prog 16:=enters_of func16 rfl (by kernel_rfl)
theorem zf7:FieldOk prog 28 1 1:=by
 obtain⟨i,hi,a⟩: ∃ i,prog.info? 3=some i∧i.size=1:=yf (by kernel_rfl);exact fe underlying28 rfl rfl hi (by rw [a];rfl)
theorem zji:ZeroOk prog 45 kEdge (⟨(0:Int),(0:Int)⟩:Edge) 16:=by
 obtain⟨i,zv,hi,a,c,d,f⟩:=z14 (P:=prog) (e:=45) (zv:=(.agg #[(vi 0),(vi 0)])) (k:=2) (b:=16) (by kernel_rfl);exact⟨i,zv,hi,a,c,d,fun R=>by subst f;exact⟨_,_,rfl,rfl,rfl⟩⟩
theorem mixed:prog.follows .mixedOrders=true:=by kernel_rfl
theorem mi:FieldOk prog 28 2 2:=by
 obtain⟨i,hi,a⟩: ∃ i,prog.info? 26=some i∧i.size=1:=yf (by kernel_rfl);exact fe underlying28 rfl rfl hi (by rw [a];rfl)
theorem zlw: ∀ w,(isAgg 26).run prog w= .ok false w:=fun w=>by kernel_rfl
theorem zxe{a:Bool}:ZeroOk prog 46 (tSl a kEdge) ([]:List Edge) 24:=by
 obtain⟨i,zv,hi,c,d,f,g⟩:=z14 (P:=prog) (e:=46) (zv:=vs0) (k:=1) (b:=24) (by kernel_rfl);exact⟨i,zv,hi,c,d,f,fun R=>by subst g;exact(u6 rfl z0p)⟩
theorem zyu: ∀ w,(sizeOf 26).run prog w= .ok 1 w:=fun w=>by kernel_rfl
theorem z8y{a:Bool}:TyOk prog 46 (tSl a kEdge):=by
 obtain⟨i,hi,b⟩: ∃ i,prog.info? 46=some i∧i.size=1:=yf (by kernel_rfl);exact z1n underlying46 hi rfl b
theorem za4{a:Bool}:SlOk prog 26 46 (tSl a kEdge):=⟨underlying26,z8y⟩
theorem zog:TyOk prog 45 kEdge:=by
 obtain⟨i,hi,a⟩: ∃ i,prog.info? 45=some i∧i.size=2:=yf (by kernel_rfl);exact z1n underlying45 hi rfl a
theorem z8s:SlOk prog 46 45 kEdge:=⟨underlying46,zog⟩
theorem z3a:FieldOk prog 45 0 0:=by
 obtain⟨i,hi,a⟩: ∃ i,prog.info? 3=some i∧i.size=1:=yf (by kernel_rfl);exact fe underlying45 rfl rfl hi (by rw [a];rfl)
theorem ty3:TyOk prog 3 (q8 .i64):=by
 obtain⟨i,hi,a⟩: ∃ i,prog.info? 3=some i∧i.size=1:=yf (by kernel_rfl);exact z1n underlying3 hi rfl a
theorem zo3:ZeroOk prog 3 (q8 .i64) (0:Int) 8:=by
 obtain⟨i,zv,hi,a,c,d,f⟩:=z14 (P:=prog) (e:=3) (zv:=(vi 0)) (k:=1) (b:=8) (by kernel_rfl);exact⟨i,zv,hi,a,c,d,fun R=>by subst f;exact rfl⟩
theorem z3c:SlOk prog 30 3 (q8 .i64):=⟨underlying30,ty3⟩
theorem zqh:FieldOk prog 25 3 3:=by
 obtain⟨i,hi,a⟩: ∃ i,prog.info? 22=some i∧i.size=1:=yf (by kernel_rfl);exact fe underlying25 rfl rfl hi (by rw [a];rfl)
theorem zyn{a:Bool}:TyOk prog 22 (tSl a (q8 .u8)):=by
 obtain⟨i,hi,b⟩: ∃ i,prog.info? 22=some i∧i.size=1:=yf (by kernel_rfl);exact z1n underlying22 hi rfl b
theorem zzb:SlOk prog 22 5 (q8 .u8):=⟨underlying22,ty5⟩
theorem zxv:ZeroOk prog 46 tHdr vs0 24:=by
 obtain⟨i,zv,hi,a,c,d,f⟩:=z14 (P:=prog) (e:=46) (zv:=vs0) (k:=1) (b:=24) (by kernel_rfl);exact⟨i,zv,hi,a,c,d,fun R=>by subst f;exact⟨rfl,rfl⟩⟩
theorem zjz:zbr kEdge 0 (q8 .i64) (fun(x:Edge) (y:Int)=>(⟨y,x.out⟩:Edge)):=zxr zvy (fun _ _=>rfl)
theorem z6w: ∀ w,(isAgg 28).run prog w= .ok true w:=fun w=>by kernel_rfl
theorem z6n{N:Nat}{R:RH}{x:Sd}{bE:Value}(c5:VRep (gz false false) R bE x){r:Mach}(y:z02 N x=some r):CallP prog 6 #[bE] R (fun v R'=>VRep (wz false false) R' v r):=by
 refine ql (args:=[bE]) func6 rfl rfl fun A=>?_;rw [z02] at y;refine zu (ah (T:=(gz false false)) rfl rfl rfl c5 fun v1 R3 c6 h5 h2=>?_);refine aj rfl zgv fun b6=>?_;refine qw (uy rfl zvm zay rfl h2 fun v8 h9=>?_);refine jf rfl ty5 rfl h9 fun fZ c7=>?_;obtain rfl:=qc.1 c7
 obtain⟨c8,y⟩:=zb y;refine zy (z4g rfl rfl c8) ?_;obtain⟨c9,y⟩:=zb y;refine zy (z1b underlying5 underlying3 rfl c9) ?_;obtain⟨da,y⟩:=zb y;refine zy (qz rfl rfl da) (zi (vi ((1:Int)+(x.fD%6))) (qw (uy rfl zw0 zbb rfl h2 fun f0 db=>?_)))
 refine jf rfl ty5 rfl db fun f1 dc=>?_;obtain rfl:=qc.1 dc;obtain⟨dd,y⟩:=zb y;refine zy (z4g rfl rfl dd) ?_;obtain⟨de,y⟩:=zb y;refine zy (z1b underlying5 underlying3 rfl de) ?_;obtain⟨df,y⟩:=zb y;refine zy (qz rfl rfl df) (uy rfl zvr zbh rfl h2 fun f2 dg=>?_)
 refine jf rfl ty5 rfl dg fun f3 dh=>?_;obtain rfl:=qc.1 dh;obtain⟨di,y⟩:=zb y;refine zy (z4g rfl rfl di) ?_;obtain⟨dj,y⟩:=zb y;refine zy (z1b underlying5 underlying3 rfl dj) ?_;obtain⟨dk,y⟩:=zb y
 refine zy (qz rfl rfl dk) (zy (bi (ps:=[(0,(vi ((1:Int)+(x.fB%3)))),(1,(vi ((1:Int)+(x.fC%3))))]) (v:=(.agg #[(vi ((1:Int)+(x.fB%3))),(vi ((1:Int)+(x.fC%3))),vs0])) rfl (fun w=>by kernel_rfl)) (aj rfl zgv fun q=>?_))
 refine oh (i:=0) (vs:=[(vi ((1:Int)+(x.fB%3))),(vi ((1:Int)+(x.fC%3))),vs0]) z3q rfl rfl rfl rfl rfl rfl (jk rfl (jk rfl (jk rfl ay))) ?_;refine za ?_;obtain⟨aG,c,y⟩:=zx y
 refine qo (γ:=(List (List Edge))×Value×Frag) (rs [5,9,31,67]) (fun g=>[]) (fun g=>[box b6 [(vi 0),(vi 0),vs0] 28,box q [(vi ((1:Int)+(x.fB%3))),(vi ((1:Int)+(x.fC%3))),g.2.1] 28,g.2.2]++A) (fun g R=>aG=g.1∧NRep false kEdge R g.2.2 g.2.1 g.1∧True) ?_ ?_
 refine zu (zi (vi 0) (za (qd (z5f ?_))))
 refine j4 (γ:=Nat×Int×(List (List Edge))×Value×Frag) (rs [5,9,31,67]) (fun g=>[(5,(vi g.2.1))]) (fun g=>[box b6 [(vi 0),(vi 0),vs0] 28,box q [(vi ((1:Int)+(x.fB%3))),(vi ((1:Int)+(x.fC%3))),g.2.2.2.1] 28,g.2.2.2.2]++A) (fun g R=>bg N x g.1 g.2.1 g.2.2.1=some aG∧NRep false kEdge R g.2.2.2.2 g.2.2.2.1 g.2.2.1∧True) (fun g=>g.1) (N,0,[],vs0,emp) ⟨[],(pk 2 rfl (pk 1 rfl (pk 0 rfl (List.Perm.refl _))))⟩ ⟨c,(ol (zrz (t:=false) (T:=kEdge) (R:=R3))),trivial⟩ ?_
 clear c;rintro⟨a9,ad,ba,bb,bc⟩ ef f4 bj ⟨c,⟨dl,bN⟩,_⟩;rcases a9 with _|a9;exact qy c;replace c:bg N x (a9+1) ad ba=some aG:=c;rw [bg] at c
 refine qb (zu (zf (vi ad) (zf (vi ((1:Int)+(x.fD%6))) (zy (ji rfl rfl) (za (qa rfl c (fun c=>?_) (fun c=>?_)))))));refine qf (qb (qd (zu (zi vs0 (za ?_)))));obtain⟨aE,a,c⟩:=zx c
 refine qo (γ:=(List Edge)×Value×Frag) (rs [6,9,36,61]) (fun g=>[(6,g.2.1)]) (fun g=>[box b6 [(vi 0),(vi 0),vs0] 28,box q [(vi ((1:Int)+(x.fB%3))),(vi ((1:Int)+(x.fC%3))),bb] 28,bc,g.2.2]++A) (fun g R=>aE=g.1∧ORep kEdge R g.2.2 g.2.1 g.1∧True) ?_ ?_
 refine zu (zi (vi 0) (za (qd (z5f ?_))))
 refine j4 (γ:=Nat×(List Edge)×Int×Value×Frag) (rs [6,9,36,61]) (fun g=>[(6,g.2.2.2.1),(7,(vi g.2.2.1))]) (fun g=>[box b6 [(vi 0),(vi 0),vs0] 28,box q [(vi ((1:Int)+(x.fB%3))),(vi ((1:Int)+(x.fC%3))),bb] 28,bc,g.2.2.2.2]++A) (fun g R=>mf N x ad g.1 g.2.1 g.2.2.1=some aE∧ORep kEdge R g.2.2.2.2 g.2.2.2.1 g.2.1∧True) (fun g=>g.1) (N,[],0,vs0,emp) ⟨[],(pk 1 rfl (pk 1 rfl (pk 1 rfl (pk 0 rfl (List.Perm.refl _)))))⟩ ⟨a,(z2d (T:=kEdge)),trivial⟩ ?_
 clear a;rintro⟨be,bf,aF,bO,dm⟩ eg f5 bk ⟨a,bP,_⟩;rcases be with _|be;exact qy a;replace a:mf N x ad (be+1) bf aF=some aE:=a;rw [mf] at a
 refine qb (zu (zf (vi aF) (zy (uq z1k rfl) (zy (ku (i:=1) ag3 rfl rfl rfl) (zy (ji rfl rfl) (za (qa rfl a (fun a=>?_) (fun a=>?_))))))));refine qf (qb (qd (zu (uy rfl zqx z6l rfl (h2.mono (bj.trans bk)) fun f6 dn=>?_))));refine jf rfl zye rfl dn fun f7 dp=>?_
 refine zf (vi ad) (zy (uq z1k rfl) (zy (ku (i:=1) ag3 rfl rfl rfl) ?_));obtain⟨dq,a⟩:=zb a;refine zy (z6b rfl rfl dq) (zf (vi aF) ?_);obtain⟨dr,a⟩:=zb a;refine zy (qz rfl rfl dr) ?_;obtain⟨S,ds,a⟩:=zx a;refine jh rfl zy5 rfl (z5k dp ds) fun f8 f9 bl dt=>?_
 obtain rfl:=dt;refine zi (vi S) (za ?_);obtain⟨du,dv,a⟩:=zrg a;let G1:=([(⟨(-1),(S/((1:Int)+(x.fD%6)))%((1:Int)+(x.fC%3))⟩:Edge)]:List Edge)
 refine oz 9 [] [phX bO,phX (vi S),phX (vi ((1:Int)+(x.fD%6))),phX (vi (S/((1:Int)+(x.fD%6)))),phX (.pointer (some ⟨q,1,none⟩)),phX (vi ((1:Int)+(x.fC%3))),phX (vi ((S/((1:Int)+(x.fD%6)))%((1:Int)+(x.fC%3)))),phX (.agg #[(vi (-1)),(vi ((S/((1:Int)+(x.fD%6)))%((1:Int)+(x.fC%3))))]),phR (tSl true kEdge) G1] mixed (by kernel_rfl) (dw ⟨zh,zh,zh,zh,zh,zh,zh,zh,z1d,trivial⟩) ⟨?_,?_,?_,?_,?_,?_,?_,?_,?_,trivial⟩ fun ga bm=>?_
 intro l dx n F hd;exact zg rfl rfl rfl (zn (z8 (F 6 rfl)));intro l dy n F hd;exact zg rfl rfl rfl (zn (z8 (F 8 rfl)));intro l dz n F hd;exact zg rfl rfl rfl (zn (z8 (F 3 rfl)));rintro l dA n F ⟨O,d1,_⟩;exact zg rfl rfl rfl (zn (z4b (O rfl) (d1 rfl) du));intro l dB n F hd
 exact zg rfl rfl rfl (zn (uq zf7 (F 4 rfl)));rintro l dC n F ⟨O,_⟩;have bG:=O rfl;exact zg rfl rfl rfl (zn (ku (i:=1) ag3 bG rfl rfl));rintro l dD n F ⟨O,d1,_⟩;exact zg rfl rfl rfl (zn (z4g (O rfl) (d1 rfl) dv));rintro l dE n F ⟨O,_⟩
 have dF:l 57=(vi ((S/((1:Int)+(x.fD%6)))%((1:Int)+(x.fC%3)))):=O rfl
 exact zg rfl rfl rfl (zn (bi (ps:=[(0,(vi (-1))),(1,(vi ((S/((1:Int)+(x.fD%6)))%((1:Int)+(x.fC%3)))))]) (v:=(.agg #[(vi (-1)),(vi ((S/((1:Int)+(x.fD%6)))%((1:Int)+(x.fC%3))))])) (by simp only [List.map,ev,dF]<;>rfl) (fun w=>by kernel_rfl)));rintro l dG n F ⟨O,_⟩
 have dH:l 58=(.agg #[(vi (-1)),(vi ((S/((1:Int)+(x.fD%6)))%((1:Int)+(x.fC%3))))]):=O rfl
 exact zg rfl rfl rfl (z3f (T:=kEdge) (X:=G1) (ps:=[(0,(.agg #[(vi (-1)),(vi ((S/((1:Int)+(x.fD%6)))%((1:Int)+(x.fC%3))))]))]) (css:=[[(vi (-1)),(vi ((S/((1:Int)+(x.fD%6)))%((1:Int)+(x.fC%3))))]]) underlying46 zji (by simp only [List.map,ev,dH]<;>rfl) rfl (ko ⟨⟨_,_,rfl,rfl,rfl⟩,trivial⟩) rfl rfl (by decide))
 intro gb dI gc dJ ge dK gf dL gg dM gh dN gi dO gj bQ eh bR;obtain rfl:=Eq.symm dI;obtain rfl:=Eq.symm dJ;obtain rfl:=Eq.symm dK;obtain rfl:=Eq.symm dL;obtain rfl:=Eq.symm dM;obtain rfl:=Eq.symm dN;obtain rfl:=Eq.symm dO;obtain rfl:=Eq.symm bQ;obtain⟨bn,a⟩:=zb a
 refine z0j (i:=3) (X:=bf) (Y:=G1) rfl underlying46 zji rfl rfl rfl (bP.mono (bl.trans bm)) (jv (Sub.v (B:=(tSl false kEdge)) (wm Sub.refl (fun _=>rfl)) bR)) bn.1 bn.2 fun bo bS bT=>?_;refine zi bo (za (zz (zf (vi aF) ?_)));obtain⟨bU,a⟩:=zb a
 refine zy (qz rfl rfl bU) (zi (vi (aF+1)) (za ?_));exact⟨dkt,(bl.trans bm),je,(be,(bf++G1),aF+1,bo,bS),Nat.lt_succ_self _,⟨rfl,rfl,trivial⟩,prm,a,bT,trivial⟩;refine jl ?_;exact⟨dkt,bk,je,(bf,bO,dm),⟨rfl,trivial⟩,prm,(Option.some.inj a).symm,bP,trivial⟩;rintro⟨aE,aH,bG⟩ ei gk bp ⟨rfl,bH,_⟩
 refine zz (zy (uq mi rfl) (zy (ku (i:=1) zlw rfl rfl rfl) (zf aH (z10 rfl (z3f (T:=tHdr) (X:=[aH]) (ps:=[(0,aH)]) (css:=[[aH]]) underlying26 zxv rfl (by simp only [List.map_cons,List.map_nil,z2q bH];rfl) (ko ⟨zmx (z5l bH),trivial⟩) rfl rfl (by decide)) fun ej ek au bV=>?_))))
 obtain⟨bq,c⟩:=zb c
 refine zob (Oc:=[bc,bG]) (Or:=[box b6 [(vi 0),(vi 0),vs0] 28,box q [(vi ((1:Int)+(x.fB%3))),(vi ((1:Int)+(x.fC%3))),bb] 28]++A) rfl (pk 2 rfl (pk 2 rfl (pk 0 rfl (pk 0 rfl (List.Perm.refl _))))) (zek underlying26 zxv rfl rfl (bN.mono (bp.trans au)) (bH.mono au) (jv bV) (fun e=>nomatch e) bq.1 bq.2) ?_
 rintro aI el dP dQ ⟨rfl,br,rfl,ae⟩;replace ae:N2 false kEdge _ br aI (dl++[aH]) (ba++[aE]):=ae;refine zy (uq mi rfl) (oh (i:=2) (vs:=[aI]) zyu rfl rfl (zpz ae) rfl rfl rfl (jk (zqo ae) ay) ?_);refine za (zz (zf (vi ad) ?_));obtain⟨bW,c⟩:=zb c
 refine zy (qz rfl rfl bW) (zi (vi (ad+1)) (za ?_));exact⟨dkt,(bp.trans au),je,(a9,ad+1,(ba++[aE]),aI,br),Nat.lt_succ_self _,⟨rfl,trivial⟩,⟨[],(pk 1 rfl (pk 1 rfl (pk 0 rfl (List.Perm.refl _))))⟩,c,(ol ae),trivial⟩;refine jl ?_
 exact⟨dkt,bj,je,(ba,bb,bc),trivial,prm,(Option.some.inj c).symm,(ol bN),trivial⟩;rintro⟨aG,o,dR⟩ em gl aw ⟨rfl,⟨gm,dS⟩,_⟩;obtain⟨af,c,y⟩:=zx y
 refine qo (γ:=(List (List Edge))×Frag) (rs [9,13,67,137]) (fun g=>[]) (fun g=>[box b6 [(vi 0),(vi 0),vs0] 28,box q [(vi ((1:Int)+(x.fB%3))),(vi ((1:Int)+(x.fC%3))),o] 28,g.2]++A) (fun g R=>af=g.1∧NRep false kEdge R g.2 o g.1∧True) ?_ ?_
 refine zu (zi (vi 1) (za (qd (j4 (γ:=Nat×Int×(List (List Edge))×Frag) (rs [9,13,67,137]) (fun g=>[(9,(vi g.2.1))]) (fun g=>[box b6 [(vi 0),(vi 0),vs0] 28,box q [(vi ((1:Int)+(x.fB%3))),(vi ((1:Int)+(x.fC%3))),o] 28,g.2.2.2]++A) (fun g R=>nk N x g.1 g.2.1 g.2.2.1=some af∧NRep false kEdge R g.2.2.2 o g.2.2.1∧True) (fun g=>g.1) (N,1,aG,dR) prm ⟨c,(ol dS),trivial⟩ ?_))))
 clear c;rintro⟨ax,s,I,Z⟩ en eo av ⟨c,⟨ag,Q⟩,_⟩;rcases ax with _|ax;exact qy c;replace c:nk N x (ax+1) s I=some af:=c;rw [nk] at c
 refine qb (zu (zf (vi s) (zf (vi ((1:Int)+(x.fD%6))) (zy (ji rfl rfl) (za (qa rfl c (fun c=>?_) (fun c=>?_)))))));refine qf (qb (qd (zu (zi vs0 (za ?_)))));obtain⟨K,a,c⟩:=zx c
 refine qo (γ:=(List Int)×Value×Frag) (rs [10,12,72,100]) (fun g=>[(10,g.2.1)]) (fun g=>[box b6 [(vi 0),(vi 0),vs0] 28,box q [(vi ((1:Int)+(x.fB%3))),(vi ((1:Int)+(x.fC%3))),o] 28,Z,g.2.2]++A) (fun g R=>K=g.1∧ORep (q8 .i64) R g.2.2 g.2.1 g.1∧True) ?_ ?_
 refine zu (zi (vi 0) (za (qd (z5f ?_))))
 refine j4 (γ:=Nat×(List Int)×Int×Value×Frag) (rs [10,12,72,100]) (fun g=>[(10,g.2.2.2.1),(11,(vi g.2.2.1))]) (fun g=>[box b6 [(vi 0),(vi 0),vs0] 28,box q [(vi ((1:Int)+(x.fB%3))),(vi ((1:Int)+(x.fC%3))),o] 28,Z,g.2.2.2.2]++A) (fun g R=>xe N x s I g.1 g.2.1 g.2.2.1=some K∧ORep (q8 .i64) R g.2.2.2.2 g.2.2.2.1 g.2.1∧True) (fun g=>g.1) (N,[],0,vs0,emp) ⟨[],(pk 1 rfl (pk 1 rfl (pk 1 rfl (pk 0 rfl (List.Perm.refl _)))))⟩ ⟨a,(z2d (T:=(q8 .i64))),trivial⟩ ?_
 clear a;rintro⟨az,ak,f,aJ,aA⟩ ep eq U ⟨a,aK,_⟩;rcases az with _|az;exact qy a;replace a:xe N x s I (az+1) ak f=some K:=a;rw [xe] at a;refine qb (zu (zf (vi f) (zf (vi s) (zy (uq z1k rfl) (zy (ku (i:=1) ag3 rfl rfl rfl) ?_)))))
 obtain⟨bX,a⟩:=zb a;refine zy (z6b rfl rfl bX) (zy (ji rfl rfl) (za (qa rfl a (fun a=>?_) (fun a=>?_))));refine qf ?_;obtain⟨aL,p,a⟩:=zx a
 refine qo (γ:=(List Int)×Value×Frag) (rs [10,11,80,100]) (fun g=>[(10,g.2.1)]) (fun g=>[box b6 [(vi 0),(vi 0),vs0] 28,box q [(vi ((1:Int)+(x.fB%3))),(vi ((1:Int)+(x.fC%3))),o] 28,Z,g.2.2]++A) (fun g R=>aL=g.1∧ORep (q8 .i64) R g.2.2 g.2.1 g.1∧True) ?_ ?_
 refine qd (qb (z2s 16 mixed (by kernel_rfl) (by kernel_rfl) ?_));refine w9 (v:=(.pointer (some ⟨q,2,none⟩))) (uq mi rfl) ?_;refine w9 (v:=o) (ku (i:=1) zlw rfl rfl rfl) ?_;refine w9 (v:=(vi f)) (z8 rfl) ?_;refine w9 (v:=(.pointer (some ⟨q,0,none⟩))) (uq z1k rfl) ?_
 refine w9 (v:=(vi ((1:Int)+(x.fB%3)))) (ku (i:=1) ag3 rfl rfl rfl) ?_;obtain⟨bY,p⟩:=zb p;refine w9 (z4b rfl rfl bY) ?_;obtain⟨al,p⟩:=zb p;refine z01 (zhy (i:=(f/((1:Int)+(x.fB%3))).toNat) (zck (b:=true) za4) rfl (Q.mono U) (zl rfl al.1) (zw al)) fun er bZ=>?_
 refine w9 (v:=(ag.getD (f/((1:Int)+(x.fB%3))).toNat default)) (zxx (zjf (i:=(f/((1:Int)+(x.fB%3))).toNat) (j:=2) (zaz (b:=true) z8y) (Q.mono U) rfl rfl bZ (zw al))) ?_;refine w9 (v:=(vi f)) (z8 rfl) ?_;refine w9 (v:=(.pointer (some ⟨q,0,none⟩))) (uq z1k rfl) ?_
 refine w9 (v:=(vi ((1:Int)+(x.fB%3)))) (ku (i:=1) ag3 rfl rfl rfl) ?_;obtain⟨b0,p⟩:=zb p;refine w9 (z4g rfl rfl b0) ?_;obtain⟨aM,p⟩:=zb p
 refine z01 (zf8 (i:=(f%((1:Int)+(x.fB%3))).toNat) (r:=(f/((1:Int)+(x.fB%3))).toNat) z8s (Q.mono U) (zw al) rfl (zl rfl aM.1) (zw aM)) fun es b1=>?_;refine z01 (zhs z3a rfl b1) fun b2 aN=>?_
 replace aN:z92 kEdge 0 (ag.getD (f/((1:Int)+(x.fB%3))).toNat default) (I.getD (f/((1:Int)+(x.fB%3))).toNat default) b2 (f%((1:Int)+(x.fB%3))).toNat:=aN
 refine w9 (fu (zmn (i:=(f%((1:Int)+(x.fB%3))).toNat) (r:=(f/((1:Int)+(x.fB%3))).toNat) (j:=2) ty3 z1h (Q.mono U) (zw al) rfl rfl aN (zw aM))) ?_;refine w9 (ji rfl rfl) ?_;intro et ac;refine za (qa rfl p (fun p=>?_) (fun p=>?_))
 refine zz (zf aJ (zf (vi f) (ai (T:=(q8 .i64)) (X:=([f]:List Int)) (ps:=[(0,(vi f))]) (css:=[[(vi f)]]) rfl underlying30 zo3 rfl rfl (ko ⟨rfl,trivial⟩) rfl rfl (by decide) fun b3 ew bh b4=>?_)));refine xy (i:=0) rfl b4 fun b5 aO b7=>?_
 have b8:VRep (tSl true (q8 .i64)) b5 b3 ([f]:List Int):=(z1y b7 bh);obtain⟨bs,p⟩:=zb p;refine z0j (i:=3) (X:=ak) (Y:=([f]:List Int)) rfl underlying30 zo3 rfl rfl rfl (aK.mono (ac.trans aO)) (jv (Sub.v (B:=(tSl false (q8 .i64))) (wm Sub.refl (fun _=>rfl)) b8)) bs.1 bs.2 fun bt b9 ca=>?_
 refine zi bt (za ?_);exact⟨dkt,(ac.trans aO),je,((ak++([f]:List Int)),bt,b9),⟨rfl,trivial⟩,prm,(Option.some.inj p).symm,ca,trivial⟩;refine qf ?_;exact⟨dkt,ac,je,(ak,aJ,aA),⟨rfl,trivial⟩,prm,(Option.some.inj p).symm,(aK.mono ac),trivial⟩;rintro⟨aL,cb,aP⟩ ex ey bI ⟨rfl,cc,_⟩
 refine zz (zf (vi f) ?_);obtain⟨cd,a⟩:=zb a;refine zy (qz rfl rfl cd) (zi (vi (f+1)) (za ?_));exact⟨dkt,bI,je,(az,aL,f+1,cb,aP),Nat.lt_succ_self _,⟨rfl,rfl,trivial⟩,prm,a,cc,trivial⟩;refine jl ?_
 exact⟨dkt,U,je,(ak,aJ,aA),⟨rfl,trivial⟩,prm,(Option.some.inj a).symm,aK,trivial⟩;rintro⟨K,aQ,bu⟩ ez eA P ⟨rfl,am,_⟩;refine zu (zf aQ ?_);obtain⟨aR,c⟩:=zb c;refine z1l (i:=(0:Int).toNat) rfl z3c rfl am (zl rfl aR.1) (zw aR) fun eB ce=>?_
 refine z6k (i:=(0:Int).toNat) (j:=3) rfl ty3 am rfl rfl ce (zw aR) fun eC cf=>?_;obtain rfl:=qc.1 cf;refine zi (vi (ix K 0)) (za ?_);obtain⟨k,a,c⟩:=zx c
 refine qo (γ:=Int) (rs [12,13,103,122]) (fun g=>[(12,(vi g))]) (fun g=>[box b6 [(vi 0),(vi 0),vs0] 28,box q [(vi ((1:Int)+(x.fB%3))),(vi ((1:Int)+(x.fC%3))),o] 28,Z]++A) (fun g R=>k=g∧True) ?_ ?_;refine zu (zf (vi s) ?_);obtain⟨cg,a⟩:=zb a
 refine zy (ul rfl rfl cg) (uy rfl zqh z6i rfl (h2.mono ((aw.trans av).trans P)) fun eD ch=>?_);refine jf rfl zyn rfl ch fun eE ci=>?_;refine zy (jb rfl underlying22 rfl (jv ci)) (zy (ji rfl rfl) (za (qa rfl a (fun a=>?_) (fun a=>?_))))
 refine zz (zf aQ (uy rfl zqh z6i rfl (h2.mono ((aw.trans av).trans P)) fun eF cj=>?_));refine jf rfl zyn rfl cj fun eG ck=>?_;refine zf (vi s) ?_;obtain⟨cl,a⟩:=zb a;refine zy (ul rfl rfl cl) ?_;obtain⟨bv,a⟩:=zb a
 refine eu (i:=(s-1).toNat) rfl zzb rfl (jv ck) (zl rfl bv.1) (zw bv) fun eH cm=>?_;refine jf rfl ty5 rfl cm fun eI cn=>?_;obtain rfl:=qc.1 cn;obtain⟨co,a⟩:=zb a;refine zy (z1b underlying5 underlying3 rfl co) (zf aQ (zy (z1p rfl underlying30 rfl am) ?_))
 obtain⟨cp,a⟩:=zb a;refine zy (z4g rfl rfl cp) ?_;obtain⟨aS,a⟩:=zb a;refine z1l (i:=((ix x.fF (s-1))%(↑K.length:Int)).toNat) rfl z3c rfl am (zl rfl aS.1) (zw aS) fun eJ cq=>?_
 refine z6k (i:=((ix x.fF (s-1))%(↑K.length:Int)).toNat) (j:=3) rfl ty3 am rfl rfl cq (zw aS) fun eK cr=>?_;obtain rfl:=qc.1 cr;refine zi (vi (ix K ((ix x.fF (s-1))%(↑K.length:Int)))) (za ?_)
 exact⟨dkt,(RH.le.refl _),je,(ix K ((ix x.fF (s-1))%(↑K.length:Int))),⟨rfl,trivial⟩,⟨[bu],(pk 3 rfl (pk 0 rfl (pk 0 rfl (pk 0 rfl (List.Perm.refl _)))))⟩,(Option.some.inj a).symm,trivial⟩;refine qf ?_
 exact⟨dkt,(RH.le.refl _),je,(ix K 0),⟨rfl,trivial⟩,⟨[bu],(pk 3 rfl (pk 0 rfl (pk 0 rfl (pk 0 rfl (List.Perm.refl _)))))⟩,(Option.some.inj a).symm,trivial⟩;rintro k eL eM V ⟨rfl,_⟩;refine z2s 15 mixed (by kernel_rfl) (by kernel_rfl) ?_;refine w9 (v:=(.pointer (some ⟨q,2,none⟩))) (uq mi rfl) ?_
 refine w9 (v:=o) (ku (i:=1) zlw rfl rfl rfl) ?_;refine w9 (v:=(vi k)) (z8 rfl) ?_;refine w9 (v:=(.pointer (some ⟨q,0,none⟩))) (uq z1k rfl) ?_;refine w9 (v:=(vi ((1:Int)+(x.fB%3)))) (ku (i:=1) ag3 rfl rfl rfl) ?_;obtain⟨cs,c⟩:=zb c;refine w9 (z4b rfl rfl cs) ?_
 obtain⟨an,c⟩:=zb c;refine z01 (zhy (i:=(k/((1:Int)+(x.fB%3))).toNat) (zck (b:=true) za4) rfl (Q.mono (P.trans V)) (zl rfl an.1) (zw an)) fun eN ct=>?_
 refine w9 (v:=(ag.getD (k/((1:Int)+(x.fB%3))).toNat default)) (zxx (zjf (i:=(k/((1:Int)+(x.fB%3))).toNat) (j:=2) (zaz (b:=true) z8y) (Q.mono (P.trans V)) rfl rfl ct (zw an))) ?_;refine w9 (v:=(vi k)) (z8 rfl) ?_;refine w9 (v:=(.pointer (some ⟨q,0,none⟩))) (uq z1k rfl) ?_
 refine w9 (v:=(vi ((1:Int)+(x.fB%3)))) (ku (i:=1) ag3 rfl rfl rfl) ?_;obtain⟨cu,c⟩:=zb c;refine w9 (z4g rfl rfl cu) ?_;refine w9 (v:=(vi s)) (z8 rfl) ?_;obtain⟨aT,c⟩:=zb c
 refine z01 (zf8 (i:=(k%((1:Int)+(x.fB%3))).toNat) (r:=(k/((1:Int)+(x.fB%3))).toNat) z8s (Q.mono (P.trans V)) (zw an) rfl (zl rfl aT.1) (zw aT)) fun eO cv=>?_;refine z01 (zhs z3a rfl cv) fun bw aU=>?_
 replace aU:z92 kEdge 0 (ag.getD (k/((1:Int)+(x.fB%3))).toNat default) (I.getD (k/((1:Int)+(x.fB%3))).toNat default) bw (k%((1:Int)+(x.fB%3))).toNat:=aU;intro eP aV
 refine zav (Oc:=[Z]) (Or:=[box b6 [(vi 0),(vi 0),vs0] 28,box q [(vi ((1:Int)+(x.fB%3))),(vi ((1:Int)+(x.fC%3))),o] 28]++A) (pk 2 rfl (pk 0 rfl (pk 0 rfl (List.Perm.refl _)))) (zed (i:=(k%((1:Int)+(x.fB%3))).toNat) (r:=(k/((1:Int)+(x.fB%3))).toNat) (u:=bw) zjz ty3 (Q.mono ((P.trans V).trans aV)) (zw an) rfl aU (zw aT) rfl (qc.2 rfl)) ?_
 rintro eQ eR dT dU ⟨rfl,bx,rfl,aW⟩;replace aW:N2 false kEdge _ bx o ag (up I (k/((1:Int)+(x.fB%3))) (up (ix I (k/((1:Int)+(x.fB%3)))) (k%((1:Int)+(x.fB%3))) (⟨s,(ix (ix I (k/((1:Int)+(x.fB%3)))) (k%((1:Int)+(x.fB%3)))).out⟩:Edge))):=aW
 refine za (zz (zf (vi s) ?_));obtain⟨cw,c⟩:=zb c;refine zy (qz rfl rfl cw) (zi (vi (s+1)) (za ?_))
 exact⟨dkt,((P.trans V).trans aV),je,(ax,s+1,(up I (k/((1:Int)+(x.fB%3))) (up (ix I (k/((1:Int)+(x.fB%3)))) (k%((1:Int)+(x.fB%3))) (⟨s,(ix (ix I (k/((1:Int)+(x.fB%3)))) (k%((1:Int)+(x.fB%3)))).out⟩:Edge))),bx),Nat.lt_succ_self _,⟨rfl,trivial⟩,⟨[],(pk 1 rfl (pk 1 rfl (pk 0 rfl (List.Perm.refl _))))⟩,c,(ol aW),trivial⟩
 refine jl ?_;exact⟨dkt,av,je,(I,Z),trivial,prm,(Option.some.inj c).symm,(ol Q),trivial⟩;rintro⟨af,cx⟩ eS eT aX ⟨rfl,⟨eU,cy⟩,_⟩;obtain⟨aa,c,y⟩:=zx y
 refine qo (γ:=(List (List Edge))×Frag) (rs [13,15,137,177]) (fun g=>[]) (fun g=>[box b6 [(vi 0),(vi 0),vs0] 28,box q [(vi ((1:Int)+(x.fB%3))),(vi ((1:Int)+(x.fC%3))),o] 28,g.2]++A) (fun g R=>aa=g.1∧NRep false kEdge R g.2 o g.1∧True) ?_ ?_
 refine zu (zi (vi 0) (za (qd (j4 (γ:=Nat×Int×(List (List Edge))×Frag) (rs [13,15,137,177]) (fun g=>[(13,(vi g.2.1))]) (fun g=>[box b6 [(vi 0),(vi 0),vs0] 28,box q [(vi ((1:Int)+(x.fB%3))),(vi ((1:Int)+(x.fC%3))),o] 28,g.2.2.2]++A) (fun g R=>mg N x g.1 g.2.1 g.2.2.1=some aa∧NRep false kEdge R g.2.2.2 o g.2.2.1∧True) (fun g=>g.1) (N,0,af,cx) prm ⟨c,(ol cy),trivial⟩ ?_))))
 clear c;rintro⟨aB,d,aY,bz⟩ eV eW aZ ⟨c,⟨eX,bA⟩,_⟩;rcases aB with _|aB;exact qy c;replace c:mg N x (aB+1) d aY=some aa:=c;rw [mg] at c
 refine qb (zu (zf (vi d) (zf (vi ((1:Int)+(x.fD%6))) (zy (ji rfl rfl) (za (qa rfl c (fun c=>?_) (fun c=>?_)))))));refine qf ?_;obtain⟨ao,a,c⟩:=zx c
 refine qo (γ:=(List (List Edge))×Frag) (rs [14,15,142,177]) (fun g=>[]) (fun g=>[box b6 [(vi 0),(vi 0),vs0] 28,box q [(vi ((1:Int)+(x.fB%3))),(vi ((1:Int)+(x.fC%3))),o] 28,g.2]++A) (fun g R=>ao=g.1∧NRep false kEdge R g.2 o g.1∧True) ?_ ?_
 refine qd (zu (zi (vi 0) (za (qd (j4 (γ:=Nat×Int×(List (List Edge))×Frag) (rs [14,15,142,177]) (fun g=>[(14,(vi g.2.1))]) (fun g=>[box b6 [(vi 0),(vi 0),vs0] 28,box q [(vi ((1:Int)+(x.fB%3))),(vi ((1:Int)+(x.fC%3))),o] 28,g.2.2.2]++A) (fun g R=>xc N x d g.1 g.2.1 g.2.2.1=some ao∧NRep false kEdge R g.2.2.2 o g.2.2.1∧True) (fun g=>g.1) (N,0,aY,bz) prm ⟨a,(ol bA),trivial⟩ ?_)))))
 clear a;rintro⟨aC,m,E,a0⟩ eY eZ a1 ⟨a,⟨W,M⟩,_⟩;rcases aC with _|aC;exact qy a;replace a:xc N x d (aC+1) m E=some ao:=a;rw [xc] at a
 refine qb (zu (zf (vi m) (zy (uq z1k rfl) (zy (ku (i:=1) ag3 rfl rfl rfl) (zy (ji rfl rfl) (za (qa rfl a (fun a=>?_) (fun a=>?_))))))));refine qf ?_;obtain⟨a2,p,a⟩:=zx a
 refine qo (γ:=(List (List Edge))×Frag) (rs [148,177]) (fun g=>[]) (fun g=>[box b6 [(vi 0),(vi 0),vs0] 28,box q [(vi ((1:Int)+(x.fB%3))),(vi ((1:Int)+(x.fC%3))),o] 28,g.2]++A) (fun g R=>a2=g.1∧NRep false kEdge R g.2 o g.1∧True) ?_ ?_
 refine qd (zu (zy (uq mi rfl) (zy (ku (i:=1) zlw rfl rfl rfl) (zf (vi d) ?_))));obtain⟨ap,p⟩:=zb p;refine z10 rfl (z8w (i:=d.toNat) (zck (b:=true) za4) rfl M (zl rfl ap.1) (zw ap)) fun e0 e1 z cz=>?_
 refine z10 rfl (zb2 (i:=d.toNat) (j:=2) (zaz (b:=true) z8y) (M.mono z) rfl rfl cz (zw ap)) fun e2 e3 C cA=>?_;obtain rfl:=Eq.symm cA;refine zf (vi m) ?_;obtain⟨a3,p⟩:=zb p
 refine z10 rfl (z7p (i:=m.toNat) (r:=d.toNat) z8s (M.mono (z.trans C)) (zw ap) rfl (zl rfl a3.1) (zw a3)) fun e4 e5 G cB=>?_;refine z10 rfl (zhd z3a rfl cB) fun cC e6 H a4=>?_;replace a4:z92 kEdge 0 (W.getD d.toNat default) (E.getD d.toNat default) cC m.toNat:=a4
 refine z10 rfl (j3 (zlj (i:=m.toNat) (r:=d.toNat) (j:=2) ty3 z1h (M.mono (((z.trans C).trans G).trans H)) (zw ap) rfl rfl a4 (zw a3)) (fun _ _ h=>qc.1 h)) fun e7 e8 L cD=>?_;obtain rfl:=Eq.symm cD;refine zy (ji rfl rfl) (za (qa rfl p (fun p=>?_) (fun p=>?_)))
 obtain⟨aq,cE,cF,p⟩:=zs3 p;obtain⟨aD,cG,p⟩:=zx p;obtain⟨cH,a5,p⟩:=zrg p
 refine oz 19 [] [phX (.pointer (some ⟨q,2,none⟩)),phX o,phX (vi d),(fun u _=>yh tHdr o W u d.toNat),phX (W.getD d.toNat default),phX (vi m),phP (tSl false (q8 .u16)) x.fI,phR (tSl false (q8 .u16)) x.fI,phX (vi d),phX (.pointer (some ⟨q,0,none⟩)),phX (vi ((1:Int)+(x.fB%3))),phX (vi (d*((1:Int)+(x.fB%3)))),phX (vi m),phX (vi ((d*((1:Int)+(x.fB%3)))+m)),phX (vi aD),phX (vi ((1:Int)+(x.fD%6))),phX (vi (aD%((1:Int)+(x.fD%6)))),(fun u _=>yh kEdge (W.getD d.toNat default) (E.getD d.toNat default) u m.toNat),(fun u _=>z92 kEdge 0 (W.getD d.toNat default) (E.getD d.toNat default) u m.toNat)] mixed (by kernel_rfl) (dw ⟨zh,zh,zh,(fun _ _ _ _ h=>h),zh,zh,lc,z1d,zh,zh,zh,zh,zh,zh,zh,zh,zh,(fun _ _ _ _ h=>h),(fun _ _ _ _ h=>h),trivial⟩) ⟨?_,?_,?_,?_,?_,?_,?_,?_,?_,?_,?_,?_,?_,?_,?_,?_,?_,?_,?_,trivial⟩ fun e9 a6=>?_
 intro l dx n F hd;exact zg rfl rfl rfl (zn (uq mi (F 4 rfl)));rintro l dy n F ⟨O,_⟩;exact zg rfl rfl rfl (zn (ku (i:=1) zlw (O rfl) rfl rfl));intro l dz n F hd;exact zg rfl rfl rfl (zn (z8 (F 13 rfl)));rintro l dA n F ⟨O,d1,_⟩
 exact zg rfl rfl rfl (z8w (i:=d.toNat) (zck (b:=true) za4) (O rfl) ((M.mono ((((z.trans C).trans G).trans H).trans L)).mono n) (zl (d1 rfl) aq.1) (zw aq));rintro l dB n F ⟨O,_⟩
 exact zg rfl rfl rfl (zb2 (i:=d.toNat) (j:=2) (zaz (b:=true) z8y) ((M.mono ((((z.trans C).trans G).trans H).trans L)).mono n) rfl rfl (O rfl) (zw aq));intro l dC n F hd;exact zg rfl rfl rfl (zn (z8 (F 14 rfl)));intro l dD n F hd
 exact zg rfl rfl rfl (lm zqx z6l (F 1 rfl) ((h2.mono ((((((((aw.trans aX).trans aZ).trans a1).trans z).trans C).trans G).trans H).trans L)).mono n));rintro l dE n F ⟨O,_⟩;exact zg rfl rfl rfl (mo zye rfl (O rfl));intro l dG n F hd;exact zg rfl rfl rfl (zn (z8 (F 13 rfl)))
 intro l gn n F hd;exact zg rfl rfl rfl (zn (uq z1k (F 4 rfl)));rintro l fa n F ⟨O,_⟩;exact zg rfl rfl rfl (zn (ku (i:=1) ag3 (O rfl) rfl rfl));rintro l fb n F ⟨O,d1,_⟩;exact zg rfl rfl rfl (zn (z6b (O rfl) (d1 rfl) cE));intro l fc n F hd;exact zg rfl rfl rfl (zn (z8 (F 14 rfl)))
 rintro l fd n F ⟨O,d1,_⟩;exact zg rfl rfl rfl (zn (qz (O rfl) (d1 rfl) cF));rintro l fe n F ⟨O,d1,_⟩;have aP:l 171=(vi ((d*((1:Int)+(x.fB%3)))+m)):=d1 rfl
 exact zg rfl rfl rfl (yc (vs:=[(l 165),(vi ((d*((1:Int)+(x.fB%3)))+m))]) zy5 (by simp only [List.map,ev,aP]<;>rfl) (z5k (O rfl) cG) (fun _ _ h=>h));intro l ff n F hd;exact zg rfl rfl rfl (zn (z8 (F 3 rfl)));rintro l fg n F ⟨O,d1,_⟩
 exact zg rfl rfl rfl (zn (z4g (O rfl) (d1 rfl) cH));rintro l fh n F ⟨O,d1,d2,d3,d4,d5,d6,d7,d8,d9,dV,dW,dX,dY,dZ,ea,eb,ec,gw,_⟩;have aA:=O rfl
 exact zg rfl rfl rfl (z7p (i:=m.toNat) (r:=d.toNat) z8s ((M.mono ((((z.trans C).trans G).trans H).trans L)).mono n) (zw aq) aA (zl (d1 rfl) a5.1) (zw a5));rintro l fi n F ⟨O,d1,d2,d3,d4,d5,d6,d7,d8,d9,dV,dW,dX,dY,dZ,ea,eb,ec,_⟩;exact zg rfl rfl rfl (zhd z3a rfl (O rfl))
 intro fj cI fk cJ fl cK fm fn fo cL fp cM fq fr fs ft fv cN fw cO fx cP fy cQ fz cR fA cS fE cT fG cU fH cV fJ fK bB a7;obtain rfl:=Eq.symm cI;obtain rfl:=Eq.symm cJ;obtain rfl:=Eq.symm cK;obtain rfl:=Eq.symm cL;obtain rfl:=Eq.symm cM;obtain rfl:=Eq.symm cN;obtain rfl:=Eq.symm cO
 obtain rfl:=Eq.symm cP;obtain rfl:=Eq.symm cQ;obtain rfl:=Eq.symm cR;obtain rfl:=Eq.symm cS;obtain rfl:=Eq.symm cT;obtain rfl:=Eq.symm cU;obtain rfl:=Eq.symm cV;replace a7:z92 kEdge 0 (W.getD d.toNat default) (E.getD d.toNat default) bB m.toNat:=a7
 refine zav (Oc:=[a0]) (Or:=[box b6 [(vi 0),(vi 0),vs0] 28,box q [(vi ((1:Int)+(x.fB%3))),(vi ((1:Int)+(x.fC%3))),o] 28]++A) (pk 2 rfl (pk 0 rfl (pk 0 rfl (List.Perm.refl _)))) (zed (i:=m.toNat) (r:=d.toNat) (u:=bB) zjz ty3 (M.mono (((((z.trans C).trans G).trans H).trans L).trans a6)) (zw aq) rfl a7 (zw a5) rfl (qc.2 rfl)) ?_
 rintro fL fM ed ee ⟨rfl,bC,rfl,a8⟩;replace a8:N2 false kEdge _ bC o W (up E d (up (ix E d) m (⟨aD%((1:Int)+(x.fD%6)),(ix (ix E d) m).out⟩:Edge))):=a8;refine za ?_
 exact⟨dkt,(((((z.trans C).trans G).trans H).trans L).trans a6),je,((up E d (up (ix E d) m (⟨aD%((1:Int)+(x.fD%6)),(ix (ix E d) m).out⟩:Edge))),bC),trivial,⟨[],(pk 1 rfl (pk 1 rfl (pk 0 rfl (List.Perm.refl _))))⟩,(Option.some.inj p).symm,(ol a8),trivial⟩;refine qf ?_
 exact⟨dkt,((((z.trans C).trans G).trans H).trans L),je,(E,a0),trivial,prm,(Option.some.inj p).symm,(ol (M.mono ((((z.trans C).trans G).trans H).trans L))),trivial⟩;rintro⟨a2,cW⟩ fN fO bJ ⟨rfl,⟨fP,cX⟩,_⟩;refine zz (zf (vi m) ?_);obtain⟨cY,a⟩:=zb a
 refine zy (qz rfl rfl cY) (zi (vi (m+1)) (za ?_));exact⟨dkt,bJ,je,(aC,m+1,a2,cW),Nat.lt_succ_self _,⟨rfl,trivial⟩,prm,a,(ol cX),trivial⟩;refine jl ?_;exact⟨dkt,a1,je,(E,a0),trivial,prm,(Option.some.inj a).symm,(ol M),trivial⟩;rintro⟨ao,cZ⟩ fQ fR bK ⟨rfl,⟨fS,c0⟩,_⟩
 refine zz (zf (vi d) ?_);obtain⟨c1,c⟩:=zb c;refine zy (qz rfl rfl c1) (zi (vi (d+1)) (za ?_));exact⟨dkt,bK,je,(aB,d+1,ao,cZ),Nat.lt_succ_self _,⟨rfl,trivial⟩,prm,c,(ol c0),trivial⟩;refine jl ?_
 exact⟨dkt,aZ,je,(aY,bz),trivial,prm,(Option.some.inj c).symm,(ol bA),trivial⟩;rintro⟨aa,fT⟩ fU fV bL ⟨rfl,⟨fW,bD⟩,_⟩
 refine zu (zy (vz (i:=1) z6w z3q rfl rfl rfl rfl) (oh (i:=0) (vs:=[(vi ((1:Int)+(x.fB%3))),(vi ((1:Int)+(x.fC%3))),o]) z3q rfl rfl rfl rfl rfl rfl (jk rfl (jk rfl (jk (zqo bD) ay))) ?_));refine za (zfi (i:=2) rfl (ol bD) fun c2 bM c3=>?_)
 have c4:VRep (tSl false (tSl false kEdge)) c2 o aa:=(z7k c3);refine qm ?_;obtain rfl:=Option.some.inj y
 refine qg (D:=[]) (J:=[box b6 [(vi ((1:Int)+(x.fB%3))),(vi ((1:Int)+(x.fC%3))),o] 28,box q [(vi ((1:Int)+(x.fB%3))),(vi ((1:Int)+(x.fC%3))),o] 28]) (rs:=[.cell 2 28]) (vs:=[(.agg #[(vi ((1:Int)+(x.fB%3))),(vi ((1:Int)+(x.fC%3))),o])]) ((((c6.trans aw).trans aX).trans bL).trans bM) rfl rfl ⟨⟨_,rfl,fun w hh=>z9a (i:=0) hh rfl rfl z6w z3q rfl rfl⟩,trivial⟩ ?_
 exact⟨rfl,(⟨_,⟨_,_,rfl,rfl,⟨_,_,rfl,rfl,(u6 rfl c4)⟩⟩,rfl⟩:VRep (wz false false) _ _ (⟨(1:Int)+(x.fB%3),(1:Int)+(x.fC%3),aa⟩:Mach))⟩
theorem en6:Enters prog 6:=enters_of func6 rfl (by kernel_rfl)
theorem z5i{a b:Bool}:TyOk prog 28 (wz a b):=by
 obtain⟨i,hi,c⟩: ∃ i,prog.info? 28=some i∧i.size=3:=yf (by kernel_rfl);exact z1n underlying28 hi rfl c
theorem z3b{a b:Bool}:TyOk prog 26 (tSl a (tSl b kEdge)):=by
 obtain⟨i,hi,c⟩: ∃ i,prog.info? 26=some i∧i.size=1:=yf (by kernel_rfl);exact z1n underlying26 hi rfl c
theorem z6x{N:Nat}{R:RH}{s:(List Edge)}{c:Value}(k:VRep (tSl false kEdge) R c s){f:Edge→Option Bool}{e:Value}(n:FOk1 prog R e kEdge z07 f){r:Int}(b:l6 N s f=some r):CallP prog 96 #[c,e] R (fun v R'=>v=(vi r)):=by
 refine ql (args:=[c,e]) func96 rfl rfl fun A=>?_;rw [l6] at b;refine zu (zi (vi 0) (za ?_));obtain⟨o,a,b⟩:=zx b;refine qo (γ:=Unit) (rs [4,19]) (fun g=>[]) (fun g=>[]++A) (fun g R=>o=Ex.go g∧True) ?_ ?_
 refine zu (zf c (zy (jb rfl underlying46 rfl (jv k)) (zf (vi 0) (za (qd (j4 (γ:=Nat×Int) (rs [4,6,8,19]) (fun g=>[(8,(vi g.2))]) (fun g=>[]++A) (fun g R=>ww N s f g.1 g.2=some o∧True) (fun g=>g.1) (N,0) prm ⟨a,trivial⟩ ?_))))));clear a;rintro⟨m,d⟩ y H h ⟨a,_⟩
 rcases m with _|m;exact qy a;replace a:ww N s f (m+1) d=some o:=a;rw [ww] at a;refine zu (zy (ji rfl rfl) (za (qb (qa rfl a (fun a=>?_) (fun a=>?_)))))
 refine qf (qb (qd (zu (zf (vi d) (zi (vi d) (qw (zf e (zf c (zf (vi d) ?_)))))))));obtain⟨l,a⟩:=zb a;refine eu (i:=d.toNat) rfl z8s rfl (jv (k.mono h)) (zl rfl l.1) (zw l) fun z p=>?_;refine jf rfl zog rfl p fun B q=>?_;obtain rfl:=z3s.1 q
 obtain⟨C,t,a⟩:=zx a;refine z1g rfl rfl rfl ((n.mono h) _ (RH.le.refl _) (ix s d) _ _ (z3s.2 rfl) t) fun E F j u=>?_;obtain rfl:=z04.1 u;refine za (qa rfl a (fun a=>?_) (fun a=>?_));refine zu (zf (vi d) (zi (vi d) (za (qm ?_))));replace b:=z1e a b;obtain rfl:=Option.some.inj b
 refine qg (D:=[]) (J:=[]) (rs:=[.tmp 4]) (vs:=[(vi d)]) (h.trans j) rfl rfl ⟨rfl,trivial⟩ ?_;exact⟨rfl,rfl⟩;refine qf (zz ?_);obtain⟨w,a⟩:=zb a;refine zy (qz rfl rfl w) (zf (vi (d+1)) (za ?_));exact⟨dkt,j,je,(m,d+1),Nat.lt_succ_self _,⟨rfl,trivial⟩,prm,a,trivial⟩;refine jl ?_
 exact⟨dkt,h,je,(),trivial,prm,(Option.some.inj a).symm,trivial⟩;rintro I G K x ⟨rfl,_⟩;replace b:=z1x b;refine zu (zi (vi (-1)) (za (qm ?_)));obtain rfl:=Option.some.inj b;refine qg (D:=[]) (J:=[]) (rs:=[.tmp 4]) (vs:=[(vi (-1))]) x rfl rfl ⟨rfl,trivial⟩ ?_;exact⟨rfl,rfl⟩
theorem zzr:Enters prog 96:=enters_of func96 rfl (by kernel_rfl)
theorem z5y{N:Nat}{R:RH}{s:(List Edge)}{a:Value}(d:VRep (tSl false kEdge) R a s){f:Edge→Option Bool}{b:Value}(e:FOk1 prog R b kEdge z07 f){r:Bool}(c:ik N s f=some r):CallP prog 69 #[a,b] R (fun v R'=>v=(.bool r)):=by
 refine ql (args:=[a,b]) func69 rfl rfl fun A=>?_;rw [ik] at c;refine zu (zi (.bool false) (qw (zf a (zf b ?_))));obtain⟨h,i,c⟩:=zx c;refine jh rfl zzr rfl (z6x d e i) fun k l g j=>?_;obtain rfl:=j
 refine zy (lh rfl rfl) (zi (.bool (decide (0≤h))) (za (qm ?_)));obtain rfl:=Option.some.inj c;refine qg (D:=[]) (J:=[]) (rs:=[.tmp 4]) (vs:=[(.bool (decide (0≤h)))]) g rfl rfl ⟨rfl,trivial⟩ ?_;exact⟨rfl,rfl⟩
theorem zz2:Enters prog 69:=enters_of func69 rfl (by kernel_rfl)
theorem zta: ∀ w,∃ z,(zeroValue 45).run prog w= .ok z w∧z.cells=([.int .i64 0,.int .i64 0]:List Value).toArray:=fun w=>⟨(.agg #[(vi 0),(vi 0)]),by kernel_rfl,rfl⟩
theorem zjy: ∀ w,(sizeOf 45).run prog w= .ok 2 w:=fun w=>by kernel_rfl
theorem zvz: ∀ w,(isAgg 45).run prog w= .ok true w:=fun w=>by kernel_rfl
theorem z6t{N:Nat}{R:RH}  {r:Edge} (a:z1t N  =some r):CallP prog 73 #[] R (fun v R'=>v=(z4c r)):=by
 refine ql (args:=[]) func73 rfl rfl fun A=>?_;rw [z1t] at a;refine zu (aj rfl zta fun b=>?_)
 refine qw (zy (bi (ps:=[(0,(vi (-1))),(1,(vi (-1)))]) (v:=(.agg #[(vi (-1)),(vi (-1))])) rfl (fun w=>by kernel_rfl)) (oh (i:=0) (vs:=[(vi (-1)),(vi (-1))]) zjy rfl rfl rfl rfl rfl rfl (jk rfl (jk rfl ay)) ?_));refine za (qm ?_);obtain rfl:=Option.some.inj a
 refine qg (D:=[]) (J:=[box b [(vi (-1)),(vi (-1))] 45]) (rs:=[.cell 0 45]) (vs:=[(.agg #[(vi (-1)),(vi (-1))])]) (RH.le.refl _) rfl rfl ⟨⟨_,rfl,fun w c=>z9a (i:=0) c rfl rfl zvz zjy rfl rfl⟩,trivial⟩ ?_;exact⟨rfl,rfl⟩
theorem zw4:Enters prog 73:=enters_of func73 rfl (by kernel_rfl)
theorem zxd:zr4 prog 45:=zie (f0:=((prog.fieldsOf 45).toList.getD 0 default)) (f1:=((prog.fieldsOf 45).toList.getD 1 default)) (by kernel_rfl) (by kernel_rfl) (by kernel_rfl) (by kernel_rfl) (by kernel_rfl) (by kernel_rfl) (by kernel_rfl) (by kernel_rfl) (by kernel_rfl) (by kernel_rfl)
theorem zgi:FieldOk prog 45 1 1:=by
 obtain⟨i,hi,a⟩: ∃ i,prog.info? 3=some i∧i.size=1:=yf (by kernel_rfl);exact fe underlying45 rfl rfl hi (by rw [a];rfl)
theorem zeo{N:Nat}{R:RH}{m:Mach}{p:Value}(w:VRep (wz false false) R p m){x:Edge}{r:Bool}(n:z8h N m x=some r):CallP prog 71 #[p,(z4c x)] R (fun v R'=>v=(.bool r)):=by
 refine ql (args:=[p,(z4c x)]) func71 rfl rfl fun A=>?_;rw [z8h] at n;refine zu (ah (T:=(wz false false)) rfl rfl rfl w fun v1 R3 y h5 I=>?_);refine z8c (T:=kEdge) rfl rfl (z3s.2 rfl) fun v6 R8 q t=>?_;refine zi (.bool false) (za (qb ?_));obtain⟨b,z,n⟩:=zx n
 let G1:=((decide (x.to=b.to∧x.out=b.out))||((((decide (0≤x.to))&&(decide (x.to<(↑m.rows.length:Int))))&&(decide (0≤x.out)))&&(decide (x.out<m.outputs))));let K:=((((decide (0≤x.to))&&(decide (x.to<(↑m.rows.length:Int))))&&(decide (0≤x.out)))&&(decide (x.out<m.outputs)))
 let o:=(((decide (0≤x.to))&&(decide (x.to<(↑m.rows.length:Int))))&&(decide (0≤x.out)));let k:=((decide (0≤x.to))&&(decide (x.to<(↑m.rows.length:Int))));let e:=(true&&((decide (x.to=b.to∧x.out=b.out))==false))
 refine oz 29 [] [phX (z4c x),phX (z4c b),phX (.bool (decide (x.to=b.to∧x.out=b.out))),phX (.bool (decide (x.to=b.to∧x.out=b.out))),phG e (phP (q8 .i64) x.to),phG e (phX (vi x.to)),phG e (phX (.bool (decide (0≤x.to)))),phG e (phX (.bool (decide (0≤x.to)))),phG (e&&((decide (0≤x.to))==true)) (phP (q8 .i64) x.to),phG (e&&((decide (0≤x.to))==true)) (phX (vi x.to)),phG (e&&((decide (0≤x.to))==true)) (phP (tSl false (tSl false kEdge)) m.rows),phG (e&&((decide (0≤x.to))==true)) (phR (tSl false (tSl false kEdge)) m.rows),phG (e&&((decide (0≤x.to))==true)) (phX (vi (↑m.rows.length:Int))),phG (e&&((decide (0≤x.to))==true)) (phX (.bool (decide (x.to<(↑m.rows.length:Int))))),phG e (phX (.bool k)),phG e (phX (.bool k)),phG (e&&(k==true)) (phP (q8 .i64) x.out),phG (e&&(k==true)) (phX (vi x.out)),phG (e&&(k==true)) (phX (.bool (decide (0≤x.out)))),phG e (phX (.bool o)),phG e (phX (.bool o)),phG (e&&(o==true)) (phP (q8 .i64) x.out),phG (e&&(o==true)) (phX (vi x.out)),phG (e&&(o==true)) (phP (q8 .i64) m.outputs),phG (e&&(o==true)) (phX (vi m.outputs)),phG (e&&(o==true)) (phX (.bool (decide (x.out<m.outputs)))),phG e (phX (.bool K)),phX (.bool G1),phX (.bool G1)] mixed (by kernel_rfl) (dw ⟨zh,zh,zh,zh,(qi lc),(qi zh),(qi zh),(qi zh),(qi lc),(qi zh),(qi lc),(qi z1d),(qi zh),(qi zh),(qi zh),(qi zh),(qi lc),(qi zh),(qi zh),(qi zh),(qi zh),(qi lc),(qi zh),(qi lc),(qi zh),(qi zh),(qi zh),zh,zh,trivial⟩) ⟨?_,?_,?_,?_,?_,?_,?_,?_,?_,?_,?_,?_,?_,?_,?_,?_,?_,?_,?_,?_,?_,?_,?_,?_,?_,?_,?_,?_,?_,trivial⟩ fun ai u=>?_
 intro l aj a g hd;exact zg rfl rfl rfl (j3 (mo zog (g 3 rfl) (t.mono a)) (fun _ _ h=>z3s.1 h));intro l ak a g hd;exact zg rfl rfl rfl (yc (vs:=[]) zw4 rfl (z6t  z) (fun _ _ h=>h));rintro l al a g ⟨c,f,_⟩;exact zg rfl rfl rfl (zn (zl2 zxd (c rfl) (f rfl)));rintro l am a g ⟨c,f,_⟩
 exact zg rfl rfl rfl (zn (z8 (c rfl)));rintro l an a g ⟨c,_⟩;exact zq (Gj:=true) (Bj:=decide (x.to=b.to∧x.out=b.out)) rfl rfl rfl (jd (c rfl)) rfl (fun i d=>lm z3a z1h (g 3 rfl) (t.mono a));rintro l ao a g ⟨c,f,_⟩
 exact zq (Gj:=true) (Bj:=decide (x.to=b.to∧x.out=b.out)) rfl rfl rfl (jd (f rfl)) rfl (fun i d=>j3 (mo ty3 rfl ((c rfl).1 (zo rfl d))) (fun _ _ h=>qc.1 h));rintro l ap a g ⟨c,f,_⟩
 exact zq (Gj:=true) (Bj:=decide (x.to=b.to∧x.out=b.out)) rfl rfl rfl (jd (f rfl)) rfl (fun i d=>zn (lh (show l 10=(vi x.to) from(c rfl).1 (zo rfl d)) rfl));rintro l aq a g ⟨c,f,j,_⟩
 exact zq (Gj:=true) (Bj:=decide (x.to=b.to∧x.out=b.out)) rfl rfl rfl (jd (f rfl)) rfl (fun i d=>zn (z8 (show l 11=(.bool (decide (0≤x.to))) from(c rfl).1 (zo rfl d))));rintro l ar a g ⟨c,_⟩;exact zq (Gj:=e) (Bj:=decide (0≤x.to)) rfl rfl rfl (c rfl) rfl (fun i d=>lm z3a z1h (g 3 rfl) (t.mono a))
 rintro l au a g ⟨c,f,_⟩;exact zq (Gj:=e) (Bj:=decide (0≤x.to)) rfl rfl rfl (f rfl) rfl (fun i d=>j3 (mo ty3 rfl ((c rfl).1 (zo i d))) (fun _ _ h=>qc.1 h));rintro l L a g ⟨c,_⟩;exact zq (Gj:=e) (Bj:=decide (0≤x.to)) rfl rfl rfl (c rfl) rfl (fun i d=>lm mi yz (g 2 rfl) ((I.mono q).mono a))
 rintro l M a g ⟨c,f,_⟩;exact zq (Gj:=e) (Bj:=decide (0≤x.to)) rfl rfl rfl (f rfl) rfl (fun i d=>mo z3b rfl ((c rfl).1 (zo i d)));rintro l O a g ⟨c,f,_⟩;exact zq (Gj:=e) (Bj:=decide (0≤x.to)) rfl rfl rfl (f rfl) rfl (fun i d=>zn (jb rfl underlying26 rfl (jv ((c rfl).1 (zo i d)))))
 rintro l P a g ⟨c,f,j,_⟩;exact zq (Gj:=e) (Bj:=decide (0≤x.to)) rfl rfl rfl (j rfl) rfl (fun i d=>zn (ji (show l 14=(vi x.to) from(c rfl).1 (zo i d)) (show l 17=(vi (↑m.rows.length:Int)) from(f rfl).1 (zo i d))));rintro l Q a g ⟨c,f,j,_⟩
 exact zq (Gj:=true) (Bj:=decide (x.to=b.to∧x.out=b.out)) rfl rfl rfl (jd (j rfl)) rfl (fun i d=>zn (xn (show l 12=(.bool (decide (0≤x.to))) from(c rfl).1 (zo rfl d)) (fun s=>(show l 18=(.bool (decide (x.to<(↑m.rows.length:Int)))) from(f rfl).1 (zo (zo rfl d) s))) rfl));rintro l S a g ⟨c,f,j,_⟩
 exact zq (Gj:=true) (Bj:=decide (x.to=b.to∧x.out=b.out)) rfl rfl rfl (jd (j rfl)) rfl (fun i d=>zn (z8 (show l 19=(.bool k) from(c rfl).1 (zo rfl d))));rintro l U a g ⟨c,_⟩
 exact zq (Gj:=e) (Bj:=(decide (0≤x.to))&&(decide (x.to<(↑m.rows.length:Int)))) rfl rfl rfl (c rfl) rfl (fun i d=>lm zgi zcw (g 3 rfl) (t.mono a));rintro l V a g ⟨c,f,_⟩
 exact zq (Gj:=e) (Bj:=(decide (0≤x.to))&&(decide (x.to<(↑m.rows.length:Int)))) rfl rfl rfl (f rfl) rfl (fun i d=>j3 (mo ty3 rfl ((c rfl).1 (zo i d))) (fun _ _ h=>qc.1 h));rintro l W a g ⟨c,f,_⟩
 exact zq (Gj:=e) (Bj:=(decide (0≤x.to))&&(decide (x.to<(↑m.rows.length:Int)))) rfl rfl rfl (f rfl) rfl (fun i d=>zn (lh (show l 22=(vi x.out) from(c rfl).1 (zo i d)) rfl));rintro l X a g ⟨c,f,j,_⟩
 exact zq (Gj:=true) (Bj:=decide (x.to=b.to∧x.out=b.out)) rfl rfl rfl (jd (j rfl)) rfl (fun i d=>zn (xn (show l 20=(.bool k) from(c rfl).1 (zo rfl d)) (fun s=>(show l 23=(.bool (decide (0≤x.out))) from(f rfl).1 (zo (zo rfl d) s))) rfl));rintro l Y a g ⟨c,f,j,_⟩
 exact zq (Gj:=true) (Bj:=decide (x.to=b.to∧x.out=b.out)) rfl rfl rfl (jd (j rfl)) rfl (fun i d=>zn (z8 (show l 24=(.bool o) from(c rfl).1 (zo rfl d))));rintro l Z a g ⟨c,_⟩;exact zq (Gj:=e) (Bj:=k&&(decide (0≤x.out))) rfl rfl rfl (c rfl) rfl (fun i d=>lm zgi zcw (g 3 rfl) (t.mono a))
 rintro l aa a g ⟨c,f,_⟩;exact zq (Gj:=e) (Bj:=k&&(decide (0≤x.out))) rfl rfl rfl (f rfl) rfl (fun i d=>j3 (mo ty3 rfl ((c rfl).1 (zo i d))) (fun _ _ h=>qc.1 h));rintro l ab a g ⟨c,_⟩
 exact zq (Gj:=e) (Bj:=k&&(decide (0≤x.out))) rfl rfl rfl (c rfl) rfl (fun i d=>lm zf7 zd9 (g 2 rfl) ((I.mono q).mono a));rintro l ac a g ⟨c,f,_⟩;exact zq (Gj:=e) (Bj:=k&&(decide (0≤x.out))) rfl rfl rfl (f rfl) rfl (fun i d=>j3 (mo ty3 rfl ((c rfl).1 (zo i d))) (fun _ _ h=>qc.1 h))
 rintro l ad a g ⟨c,f,j,_⟩;exact zq (Gj:=e) (Bj:=k&&(decide (0≤x.out))) rfl rfl rfl (j rfl) rfl (fun i d=>zn (ji (show l 27=(vi x.out) from(c rfl).1 (zo i d)) (show l 29=(vi m.outputs) from(f rfl).1 (zo i d))));rintro l ae a g ⟨c,f,j,_⟩
 exact zq (Gj:=true) (Bj:=decide (x.to=b.to∧x.out=b.out)) rfl rfl rfl (jd (j rfl)) rfl (fun i d=>zn (xn (show l 25=(.bool o) from(c rfl).1 (zo rfl d)) (fun s=>(show l 30=(.bool (decide (x.out<m.outputs))) from(f rfl).1 (zo (zo rfl d) s))) rfl));rintro l af a g ⟨c,f,_⟩
 exact zg rfl rfl rfl (zn (l9 (c rfl) rfl (fun s=>(show l 31=(.bool K) from(f rfl).1 (zo rfl s)))));rintro l ag a g ⟨c,f,j,d3,d4,d5,d6,d7,d8,d9,av,aw,ax,ay,az,aA,aB,aC,aD,aE,aF,aG,aH,aI,aJ,aK,aL,aM,aN,aO,_⟩;exact zg rfl rfl rfl (zn (ry (c rfl)))
 intro aP B aQ C aR E aS F aT aU aV aW aX aY aZ a0 a1 a2 a3 a4 a5 a6 a7 a8 a9 ba bb bc be bf bg bh bi bj bk bl bm bn bo bp bq br bs bt bu bv bw bx bz bA bB bC bD bE bF G bG H;obtain rfl:=Eq.symm B;obtain rfl:=Eq.symm C;obtain rfl:=Eq.symm E;obtain rfl:=Eq.symm F;obtain rfl:=Eq.symm G;obtain rfl:=Eq.symm H
 refine za (qm ?_);obtain rfl:=Option.some.inj n;refine qg (D:=[]) (J:=[]) (rs:=[.tmp 4]) (vs:=[(.bool G1)]) ((y.trans q).trans u) rfl rfl ⟨rfl,trivial⟩ ?_;exact⟨rfl,rfl⟩
theorem q0d:Enters prog 71:=enters_of func71 rfl (by kernel_rfl)
theorem zc9{N:Nat}{R:RH}{x:Edge}{p0_:Mach}{a:Value}(c:PRep (wz false false) R a p0_){r:Bool}(b:z5s N x p0_=some r):CallP prog 70 #[(z4c x),a] R (fun v R'=>v=(.bool r)):=by
 refine ql (args:=[(z4c x),a]) func70 rfl rfl fun A=>?_;rw [z5s] at b;refine zu (z8c (T:=kEdge) rfl rfl (z3s.2 rfl) fun n o d i=>?_);refine zi (.bool false) (qw (jf rfl z5i rfl (c.mono d) fun p j=>?_));refine jf rfl zog rfl i fun q k=>?_;obtain rfl:=z3s.1 k
 obtain⟨h,f,b⟩:=zx b;refine jh rfl q0d rfl (zeo j f) fun l m e g=>?_;obtain rfl:=g;refine zy (lg rfl) (zi (.bool (!h)) (za (qm ?_)));obtain rfl:=Option.some.inj b;refine qg (D:=[]) (J:=[]) (rs:=[.tmp 3]) (vs:=[(.bool (!h))]) (d.trans e) rfl rfl ⟨rfl,trivial⟩ ?_;exact⟨rfl,rfl⟩
theorem zzs:Enters prog 70:=enters_of func70 rfl (by kernel_rfl)
theorem z90{N:Nat}{R:RH}{m:Mach}{q:Value}(F:VRep (wz false false) R q m){r:Int}(b:z2f N m=some r):CallP prog 60 #[q] R (fun v R'=>v=(vi r)):=by
 refine ql (args:=[q]) func60 rfl rfl fun A=>?_;rw [z2f] at b;refine zu (ah (T:=(wz false false)) rfl rfl rfl F fun E R3 k h5 l=>?_);refine zi (vi 0) (za (qb (zu (zrr rfl (mh z1k z1z rfl l) fun v6 h7=>?_))))
 refine jg rfl (fu (ky ty3 rfl h7)) (jg rfl (z0l rfl rfl) (jg (v:=(.bool (decide (16<m.inputs)))) rfl (z8 rfl) (ja rfl rfl rfl rfl (fun c=>mh zf7 zd9 rfl l) fun al G=>?_)));refine ja rfl rfl rfl rfl (fun c=>qp (fu (ky ty3 rfl (G.1 (zo rfl c))))) fun am H=>?_
 refine ja rfl rfl rfl rfl (fun c=>qp (z0l (H.1 (zo rfl c)) rfl)) fun an I=>?_;refine jg rfl (l9 rfl rfl (fun n=>(I.1 (zo rfl n)))) (jg (v:=(.bool ((decide (16<m.inputs))||(decide (16<m.outputs))))) rfl (z8 rfl) (ja rfl rfl rfl rfl (fun c=>mh mi yz rfl l) fun ao K=>?_))
 refine ja rfl rfl rfl rfl (fun c=>ky z3b rfl (K.1 (zo rfl c))) fun ap L=>?_;refine ja rfl rfl rfl rfl (fun c=>qp (jb rfl underlying26 rfl (jv (L.1 (zo rfl c))))) fun aq M=>?_;refine ja rfl rfl rfl rfl (fun c=>qp (z0l (M.1 (zo rfl c)) rfl)) fun ar O=>?_
 refine jg rfl (l9 rfl rfl (fun n=>(O.1 (zo rfl n)))) (za (qa rfl b (fun b=>?_) (fun b=>?_)));refine zu (zi (vi 3) (za (qm ?_)));obtain rfl:=Option.some.inj b;refine qg (D:=[]) (J:=[]) (rs:=[.tmp 2]) (vs:=[(vi 3)]) k rfl rfl ⟨rfl,trivial⟩ ?_;exact⟨rfl,rfl⟩
 refine qf (qb (zu (zrr rfl (mh z1k z1z rfl l) fun au P=>?_)));refine jg rfl (fu (ky ty3 rfl P)) (jg rfl (ji rfl rfl) (jg (v:=(.bool (decide (m.inputs<1)))) rfl (z8 rfl) (ja rfl rfl rfl rfl (fun c=>mh zf7 zd9 rfl l) fun av Q=>?_)))
 refine ja rfl rfl rfl rfl (fun c=>qp (fu (ky ty3 rfl (Q.1 (zo rfl c))))) fun aw S=>?_;refine ja rfl rfl rfl rfl (fun c=>qp (ji (S.1 (zo rfl c)) rfl)) fun ax U=>?_
 refine jg rfl (l9 rfl rfl (fun n=>(U.1 (zo rfl n)))) (jg (v:=(.bool ((decide (m.inputs<1))||(decide (m.outputs<1))))) rfl (z8 rfl) (ja rfl rfl rfl rfl (fun c=>mh mi yz rfl l) fun ay V=>?_));refine ja rfl rfl rfl rfl (fun c=>ky z3b rfl (V.1 (zo rfl c))) fun az W=>?_
 refine ja rfl rfl rfl rfl (fun c=>qp (jb rfl underlying26 rfl (jv (W.1 (zo rfl c))))) fun aA X=>?_;refine ja rfl rfl rfl rfl (fun c=>qp (ji (X.1 (zo rfl c)) rfl)) fun aB Y=>?_;refine jg rfl (l9 rfl rfl (fun n=>(Y.1 (zo rfl n)))) (za (qa rfl b (fun b=>?_) (fun b=>?_)))
 refine zu (zi (vi 1) (za (qm ?_)));obtain rfl:=Option.some.inj b;refine qg (D:=[]) (J:=[]) (rs:=[.tmp 2]) (vs:=[(vi 1)]) k rfl rfl ⟨rfl,trivial⟩ ?_;exact⟨rfl,rfl⟩;refine qf ?_;obtain⟨s,a,b⟩:=zx b;refine qo (γ:=Unit) (rs [2,3,4,5,33,51]) (fun g=>[]) (fun g=>[]++A) (fun g R=>s=Ex.go g∧True) ?_ ?_
 refine zu (uy rfl mi yz rfl l fun aC Z=>?_);refine jf rfl z3b rfl Z fun aD t=>?_
 refine zy (jb rfl underlying26 rfl (jv t)) (zf (vi 0) (za (qd (j4 (γ:=Nat×Int) (rs [2,3,4,5,36,51]) (fun g=>[(36,(vi g.2))]) (fun g=>[]++A) (fun g R=>r9 N m g.1 g.2=some s∧True) (fun g=>g.1) (N,0) prm ⟨a,trivial⟩ ?_))));clear a;rintro⟨o,e⟩ ai aE d ⟨a,_⟩;rcases o with _|o
 exact qy a;replace a:r9 N m (o+1) e=some s:=a;rw [r9] at a;refine zu (zy (ji rfl rfl) (za (qb (qa rfl a (fun a=>?_) (fun a=>?_)))));refine qf (qb (qd (zu ?_)));obtain⟨u,a⟩:=zb a
 refine eu (i:=e.toNat) rfl za4 rfl (jv (t.mono d)) (zl rfl u.1) (zw u) fun aF aa=>?_;refine jf rfl z8y rfl aa fun p w=>?_;refine zi p (qw (jg (v:=p) rfl (z8 rfl) (jg rfl (jb rfl underlying46 rfl (jv w)) (zrr rfl (mh z1k z1z rfl (l.mono d)) fun aG ab=>?_))))
 refine jg rfl (fu (ky ty3 rfl ab)) (jg rfl (yl rfl rfl) (jg (v:=(.bool (decide ((↑(ix m.rows e).length:Int)≠m.inputs)))) rfl (z8 rfl) (ja rfl rfl rfl rfl (fun c=>qp (v:=p) (z8 rfl)) fun aH ac=>?_)))
 refine ja rfl rfl rfl rfl (fun c=>qp (v:=(.func (.func 70) #[] #[E])) (z1v (fs:=[]) (cs:=[E]) rfl rfl)) fun aI ad=>?_;obtain⟨ae,af,a⟩:=zx a
 refine z0z rfl rfl rfl rfl (fun c=>yc (vs:=[p,(.func (.func 70) #[] #[E])]) zz2 (z5r (ac.1 (zo rfl c)) (z5r (ad.1 (zo rfl c)) rfl)) ((by have ag:=(fw af (zo rfl c));exact z5y w (z7a (cs:=[E]) zzs fun R1 hq z0 u0 y k0 hy=>by obtain rfl:=z3s.1 k0;exact CallP.mono (zc9 ((l.mono d).mono hq) hy) fun v R2 _ hv=>z04.2 hv) ag)) (fun _ _ h=>h)) fun x z f j=>?_
 replace j:phG (true&&((decide ((↑(ix m.rows e).length:Int)≠m.inputs))==false)) (phX (.bool (ae.getD default))) x z:=j;refine jg rfl (l9 rfl rfl (fun n=>(j.1 (zo rfl n)))) (za (qa rfl a (fun a=>?_) (fun a=>?_)));refine zu (zi (vi 1) (za (qm ?_)));replace b:=z1e a b;obtain rfl:=Option.some.inj b
 refine qg (D:=[]) (J:=[]) (rs:=[.tmp 2]) (vs:=[(vi 1)]) ((k.trans d).trans f) rfl rfl ⟨rfl,trivial⟩ ?_;exact⟨rfl,rfl⟩;refine qf (zz ?_);obtain⟨B,a⟩:=zb a;refine zy (qz rfl rfl B) (zf (vi (e+1)) (za ?_));exact⟨dkt,f,je,(o,e+1),Nat.lt_succ_self _,⟨rfl,trivial⟩,prm,a,trivial⟩
 refine jl ?_;exact⟨dkt,d,je,(),trivial,prm,(Option.some.inj a).symm,trivial⟩;rintro aN aj aO C ⟨rfl,_⟩;replace b:=z1x b;refine zu (zi (vi 0) (za (qm ?_)));obtain rfl:=Option.some.inj b;refine qg (D:=[]) (J:=[]) (rs:=[.tmp 2]) (vs:=[(vi 0)]) (k.trans C) rfl rfl ⟨rfl,trivial⟩ ?_;exact⟨rfl,rfl⟩
theorem zxj:Enters prog 60:=enters_of func60 rfl (by kernel_rfl)
theorem zx1: ∀ w,∃ z,(zeroValue 111).run prog w= .ok z w∧z.cells=([.slice none 0 0]:List Value).toArray:=fun w=>⟨vs0,by kernel_rfl,rfl⟩
theorem ze5{N:Nat}{R:RH}{m:Mach}{a:Value}(d:VRep (wz false false) R a m){r:Mach}(b:z5a N m=some r):CallP prog 72 #[a] R (fun v R'=> ∃ f,v= .func (.func 97) #[] #[f]∧PRep (wz false false) R' f r):=by
 refine ql (args:=[a]) func72 rfl rfl fun A=>?_;rw [z5a] at b;refine zu (ah (T:=(wz false false)) rfl rfl rfl d fun c h e i g=>?_);refine zi .nilFunc (qw (zy (z1v (fs:=[]) (cs:=[c]) rfl rfl) (zi (.func (.func 97) #[] #[c]) (za (qm ?_)))));obtain rfl:=Option.some.inj b
 refine qg (D:=[]) (J:=[]) (rs:=[.tmp 2]) (vs:=[(.func (.func 97) #[] #[c])]) e rfl rfl ⟨rfl,trivial⟩ ?_;exact⟨rfl,⟨c,rfl,g⟩⟩
theorem zz8:Enters prog 72:=enters_of func72 rfl (by kernel_rfl)
theorem zcd{N:Nat}{R:RH}{p0_:Mach}{e:Value}(r:PRep (wz false false) R e p0_):zuy prog 97 [e] R (fun(x:((Int×Int)×Edge)) vs R=>vs=[(fo x.1),(z4c x.2)]) (fun σ B s=>z2c N p0_ σ B s):=by
 intro yv σ B I R1 O s0 Y C ab h0 c hy;refine tu (args:=[yv,e]) func97 rfl rfl fun A=>?_;dsimp only at c;rw [z2c] at c;refine zu (uy rfl mi yz rfl (r.mono C) fun v1 h2=>?_);refine jf rfl z3b rfl h2 fun v3 Z=>?_
 refine zy (jb rfl underlying26 rfl (jv Z)) (zf (vi 0) (za (qd (j4 (γ:=Nat×σ×Int×(List Frag)) (rs [3,7,10,31]) (fun g=>[(10,(vi g.2.2.1))]) (fun g=>[]++(g.2.2.2++A)) (fun g R=>iw N σ B p0_ g.1 g.2.1 g.2.2.1=some Y∧I g.2.1 R g.2.2.2∧True) (fun g=>g.1) (N,s0,0,O) prm ⟨c,h0,trivial⟩ ?_))));clear c
 rintro⟨P,x6,d,k⟩ af R8 h ⟨c,l,_⟩;rcases P with _|P;exact qy c;replace c:iw N σ B p0_ (P+1) x6 d=some Y:=c;rw [iw] at c;refine zu (zy (ji rfl rfl) (za (qb (qa rfl c (fun c=>?_) (fun c=>?_)))));refine qf ?_;obtain⟨t,b,c⟩:=zx c
 refine qo (γ:=σ×(List Frag)) (rs [3,7,12,30]) (fun g=>[]) (fun g=>[]++(g.2++A)) (fun g R=>t=Ex.go g.1∧I g.1 R g.2∧True) ?_ ?_;refine qd (zu (zf (vi d) ?_));obtain⟨E,b⟩:=zb b;refine eu (i:=d.toNat) rfl za4 rfl (jv (Z.mono h)) (zl rfl E.1) (zw E) fun ag Q=>?_
 refine jf rfl z8y rfl Q fun F G=>?_
 refine zi (vi d) (zi F (qw (zf F (zy (jb rfl underlying46 rfl (jv G)) (zf (vi 0) (za (qd (j4 (γ:=Nat×σ×Int×(List Frag)) (rs [5,7,17,30]) (fun g=>[(17,(vi g.2.2.1))]) (fun g=>[]++(g.2.2.2++A)) (fun g R=>ow N σ B p0_ d g.1 g.2.1 g.2.2.1=some t∧I g.2.1 R g.2.2.2∧True) (fun g=>g.1) (N,x6,0,k) prm ⟨b,l,trivial⟩ ?_))))))))
 clear b;rintro⟨j,u,a,m⟩ ah ai f ⟨b,n,_⟩;rcases j with _|j;exact qy b;replace b:ow N σ B p0_ d (j+1) u a=some t:=b;rw [ow] at b;refine zu (zy (ji rfl rfl) (za (qb (qa rfl b (fun b=>?_) (fun b=>?_)))))
 refine qf (qb (qd (zu (zf (vi a) ?_))));obtain⟨H,b⟩:=zb b;refine eu (i:=a.toNat) rfl z8s rfl (jv (G.mono f)) (zl rfl H.1) (zw H) fun ak S=>?_;refine jf rfl zog rfl S fun al T=>?_;obtain rfl:=z3s.1 T;refine aj rfl zta fun y=>?_
 refine zi (vi a) (oh (i:=0) (vs:=[(vi ((ix (ix p0_.rows d) a).to)),(vi ((ix (ix p0_.rows d) a).out))]) zjy rfl rfl rfl rfl rfl rfl (jk rfl (jk rfl ay)) ?_)
 refine qw (zf yv (zf (vi d) (zf (vi a) (zy (bi (ps:=[(0,(vi d)),(1,(vi a))]) (v:=(.agg #[(vi d),(vi a)])) rfl (fun w=>by kernel_rfl)) (zy (vz (i:=0) zvz zjy rfl rfl rfl rfl) ?_)))));obtain⟨z,U,b⟩:=zx b
 refine zoj (vs:=[(.agg #[(vi d),(vi a)]),(.agg #[(vi ((ix (ix p0_.rows d) a).to)),(vi ((ix (ix p0_.rows d) a).out))])]) (J:=[box y [(vi ((ix (ix p0_.rows d) a).to)),(vi ((ix (ix p0_.rows d) a).out))] 45]) (Oc:=m) (A:=A) rfl rfl rfl rfl (hy (((d,a):(Int×Int)),(⟨(ix (ix p0_.rows d) a).to,(ix (ix p0_.rows d) a).out⟩:Edge)) u z.1 z.2 _ _ [(.agg #[(vi d),(vi a)]),(.agg #[(vi ((ix (ix p0_.rows d) a).to)),(vi ((ix (ix p0_.rows d) a).out))])] (h.trans f) rfl n U) fun am o p q=>?_
 refine zy (lg rfl) (za (qa rfl b (fun b=>?_) (fun b=>?_)));refine qm ?_;replace c:=z1e b c;obtain rfl:=Option.some.inj c;refine yu (D:=[]) (J:=[box y [(vi ((ix (ix p0_.rows d) a).to)),(vi ((ix (ix p0_.rows d) a).out))] 45]) (O':=o) (rs:=[]) (vs:=[]) ((h.trans f).trans p) (List.Perm.refl _) rfl trivial ?_
 exact q;refine qf (zz ?_);obtain⟨V,b⟩:=zb b;refine zy (qz rfl rfl V) (zf (vi (a+1)) (za ?_));exact⟨dkt,p,je,(j,z.2,a+1,o),Nat.lt_succ_self _,⟨rfl,trivial⟩,⟨[box y [(vi ((ix (ix p0_.rows d) a).to)),(vi ((ix (ix p0_.rows d) a).out))] 45],(List.Perm.refl _)⟩,b,q,trivial⟩
 refine jl ?_;exact⟨dkt,f,je,(u,m),trivial,prm,(Option.some.inj b).symm,n,trivial⟩;rintro⟨W,K⟩ an ao L ⟨rfl,M,_⟩;replace c:=z1x c;refine zz ?_;obtain⟨X,c⟩:=zb c;refine zy (qz rfl rfl X) (zf (vi (d+1)) (za ?_))
 exact⟨dkt,L,je,(P,W,d+1,K),Nat.lt_succ_self _,⟨rfl,trivial⟩,prm,c,M,trivial⟩;refine jl ?_;show z8x _ _ _ _ _ .ret _ [] _ _;obtain rfl:=Option.some.inj c;refine yu (D:=[]) (J:=[]) (O':=k) (rs:=[]) (vs:=[]) h (List.Perm.refl _) rfl trivial ?_;exact l
theorem zyx:Enters prog 97:=enters_of func97 rfl (by kernel_rfl)
theorem zw8: ∀ w,∃ z,(zeroValue 50).run prog w= .ok z w∧z.cells=([.int .i64 0,.int .i64 0]:List Value).toArray:=fun w=>⟨(.agg #[(vi 0),(vi 0)]),by kernel_rfl,rfl⟩
theorem zj6: ∀ w,(sizeOf 50).run prog w= .ok 2 w:=fun w=>by kernel_rfl
theorem zvc: ∀ w,(isAgg 111).run prog w= .ok false w:=fun w=>by kernel_rfl
theorem zoz: ∀ w,(isAgg 50).run prog w= .ok true w:=fun w=>by kernel_rfl
theorem zyl:ZeroOk prog 50 kA2tInti64 (((0:Int),(0:Int)):(Int×Int)) 16:=by
 obtain⟨i,zv,hi,a,c,d,f⟩:=z14 (P:=prog) (e:=50) (zv:=(.agg #[(vi 0),(vi 0)])) (k:=2) (b:=16) (by kernel_rfl);exact⟨i,zv,hi,a,c,d,fun R=>by subst f;exact⟨_,_,rfl,rfl,rfl⟩⟩
theorem zy0: ∀ w,(sizeOf 111).run prog w= .ok 1 w:=fun w=>by kernel_rfl
theorem zvi:TyOk prog 50 kA2tInti64:=by
 obtain⟨i,hi,a⟩: ∃ i,prog.info? 50=some i∧i.size=2:=yf (by kernel_rfl);exact z1n underlying50 hi rfl a
theorem zx4:SlOk prog 111 50 kA2tInti64:=⟨underlying111,zvi⟩
theorem zbk{N:Nat}{R:RH}{s:(List (Int×Int))}{a:Value}(b:VRep (tSl false kA2tInti64) R a s){r:(List (Int×Int))}(c:z2o N s=some r):CallP prog 74 #[a] R (fun v R'=>VRep (tSl true kA2tInti64) R' v r):=by
 refine ql (args:=[a]) func74 rfl rfl fun A=>?_;rw [z2o] at c;refine zu (zi vs0 (qw (zf a (zf a (zy (jb rfl underlying111 rfl (jv b)) (zf a (zy (jb rfl underlying111 rfl (jv b)) ?_)))))));obtain⟨d,c⟩:=zb c
 refine zh3 (v:=a) (lo:=(0:Int).toNat) (hi:=(↑s.length:Int).toNat) (mx:=(↑s.length:Int).toNat) rfl zx4 rfl (jv b) (.inl ⟨rfl,rfl⟩) (.inr ⟨_,congrArg some (zl rfl (zhx d))⟩) (.inr ⟨_,congrArg some (zl rfl (zhx d))⟩) (zc4 d) (z8f d) (Nat.le_refl _) (Nat.le_trans (z8f d) (zy6 (jv b))) (X':=(cut s 0 (↑s.length:Int))) rfl fun f g e=>?_
 have h:VRep (tSl true kA2tInti64) R f (cut s 0 (↑s.length:Int)):=z1y g (e.trans (zo0 d).symm);refine zi f (za (qm ?_));obtain rfl:=Option.some.inj c;refine qg (D:=[]) (J:=[]) (rs:=[.tmp 2]) (vs:=[f]) (RH.le.refl _) rfl rfl ⟨rfl,trivial⟩ ?_;exact⟨rfl,h⟩
theorem zyv:Enters prog 74:=enters_of func74 rfl (by kernel_rfl)
theorem zb5{N:Nat}{R:RH}{m:Mach}{t:Value}(u:VRep (wz false false) R t m){r:(List (Int×Int))}(d:z18 N m=some r):CallP prog 61 #[t] R (fun v R'=>VRep (tSl true kA2tInti64) R' v r):=by
 refine ql (args:=[t]) func61 rfl rfl fun A=>?_;rw [z18] at d;refine zu (ah (T:=(wz false false)) rfl rfl rfl u fun v1 R3 w h5 h2=>?_);refine zi vs0 (qw (aj rfl zx1 fun E=>?_));refine za (qb (zu (zy (xz z5i rfl rfl h5 (u.mono w)) ?_)));obtain⟨y8,c9,d⟩:=zx d
 refine jh rfl zz8 rfl (ze5 (u.mono w) c9) fun aF aG F U=>?_;obtain⟨aH,rfl,V⟩:=U;refine za (qd (z5f ?_));obtain⟨W,Z,d⟩:=zx d
 refine zry (Oc:=[emp,box E [vs0] 111]) (Or:=A) _ (fun(s:List (Int×Int)) R O=> ∃ (e:Value) (f:Frag),(∃ J,O.Perm (J++[box E [e] 111,f]))∧ORep kA2tInti64 R f e s∧True) (fun(s:List (Int×Int)) (c:Code) R O=>False) _ _ rfl zyx (zcd (N:=N) V) (List.Perm.refl _) (by decide) (by rintro _ _ _ rfl;rfl) (by rintro s R2 R3 O2 n ⟨e,f,G,o,_⟩;exact⟨e,f,G,o.mono n,trivial⟩) (fun _ _ _ _ _ _ h=>h) (fun _ _ _ _ _ h=>h.elim) ⟨vs0,emp,⟨[],(pk 1 rfl (pk 0 rfl (List.Perm.refl _)))⟩,(z2d (T:=kA2tInti64)),trivial⟩ Z ?_ ?_ ?_
 rintro a aa aI aJ aw aK ax az aA H ⟨e,f,⟨_,G⟩,o,_⟩ p aL;have b:=p;clear p;(try dsimp only at b);refine zj0 (zre G) ?_;obtain rfl:=H;refine zu (aj rfl zw8 fun j=>?_);refine oh (i:=0) (vs:=[(vi a.1.1),(vi a.1.2)]) zj6 rfl rfl rfl rfl rfl rfl (jk rfl (jk rfl ay)) ?_
 refine za (zz (aj rfl zta fun k=>?_));refine oh (i:=0) (vs:=[(vi a.2.to),(vi a.2.out)]) zjy rfl rfl rfl rfl rfl rfl (jk rfl (jk rfl ay)) ?_;refine za ?_
 refine⟨rfl,rfl,(RH.le.refl _),[box k [(vi a.2.to),(vi a.2.out)] 45,box j [(vi a.1.1),(vi a.1.2)] 50,box E [e] 111,f],List.Perm.refl _,fun aM=>?_⟩;refine qd (qb ?_);obtain⟨x,ab,b⟩:=zx b
 refine oz 3 [] [phX (.agg #[(vi a.2.to),(vi a.2.out)]),phX (z4c x),phX (.bool (decide (a.2.to=x.to∧a.2.out=x.out)))] mixed (by kernel_rfl) (dw ⟨zh,zh,zh,trivial⟩) ⟨?_,?_,?_,trivial⟩ fun aN g=>?_;intro l aO n ha hd;exact zg rfl rfl rfl (zn (vz (i:=0) zvz zjy (ha 5 rfl) rfl rfl rfl))
 intro l aP n ha hd;exact zg rfl rfl rfl (yc (vs:=[]) zw4 rfl (z6t  ab) (fun _ _ h=>h));rintro l aQ n ha ⟨d0,d1,_⟩;exact zg rfl rfl rfl (zn (zl2 zxd (d0 rfl) (d1 rfl)));intro aT ad aU ae aV af;obtain rfl:=Eq.symm ad;obtain rfl:=Eq.symm ae;obtain rfl:=Eq.symm af;refine za (qa rfl b (fun b=>?_) (fun b=>?_))
 refine zz (zy (ku (i:=2) zvc rfl rfl rfl) (zy (vz (i:=1) zoz zj6 rfl rfl rfl rfl) (ai (T:=kA2tInti64) (X:=([((a.1.1,a.1.2):(Int×Int))]:List (Int×Int))) (ps:=[(0,(.agg #[(vi a.1.1),(vi a.1.2)]))]) (css:=[[(vi a.1.1),(vi a.1.2)]]) rfl underlying111 zyl rfl rfl (ko ⟨⟨_,_,rfl,rfl,rfl⟩,trivial⟩) rfl rfl (by decide) fun ag aW y ak=>?_)))
 refine xy (i:=0) rfl ak fun al q am=>?_;have an:VRep (tSl true kA2tInti64) al ag ([((a.1.1,a.1.2):(Int×Int))]:List (Int×Int)):=(z1y am y);obtain⟨I,b⟩:=zb b
 refine z0j (i:=3) (X:=aa) (Y:=([((a.1.1,a.1.2):(Int×Int))]:List (Int×Int))) rfl underlying111 zyl rfl rfl rfl (o.mono (g.trans q)) (jv (Sub.v (B:=(tSl false kA2tInti64)) (wm Sub.refl (fun _=>rfl)) an)) I.1 I.2 fun z K C=>?_
 refine oh (i:=2) (vs:=[z]) zy0 rfl rfl (z2q C) rfl rfl rfl (jk (z5l C) ay) ?_;refine za ?_;obtain⟨rfl,rfl⟩:=Prod.mk.inj (Option.some.inj b)
 exact⟨rfl,(g.trans q),[box k [(vi a.2.to),(vi a.2.out)] 45,box j [(vi a.1.1),(vi a.1.2)] 50,box E [z] 111,K],List.Perm.refl _,rfl,⟨z,K,⟨[box k [(vi a.2.to),(vi a.2.out)] 45,box j [(vi a.1.1),(vi a.1.2)] 50],(List.Perm.refl _)⟩,C,trivial⟩⟩;refine qf ?_
 obtain⟨rfl,rfl⟩:=Prod.mk.inj (Option.some.inj b)
 exact⟨rfl,g,[box k [(vi a.2.to),(vi a.2.out)] 45,box j [(vi a.1.1),(vi a.1.2)] 50,box E [e] 111,f],List.Perm.refl _,rfl,⟨e,f,⟨[box k [(vi a.2.to),(vi a.2.out)] 45,box j [(vi a.1.1),(vi a.1.2)] 50],(List.Perm.refl _)⟩,(o.mono g),trivial⟩⟩
 rintro aX aY aB L ⟨M,aZ,⟨_,G⟩,ao,_⟩;refine⟨_,_,G,?_⟩;refine zu (zy (ku (i:=0) zvc rfl rfl rfl) (xy (i:=1) rfl ao fun ap P aq=>?_));have ar:VRep (tSl false kA2tInti64) ap M W:=(z7k aq);obtain⟨a0,au,d⟩:=zx d;refine jh rfl zyv rfl (zbk ar au) fun Q a1 S av=>?_
 refine zi Q (za (qm ?_));obtain rfl:=Option.some.inj d;refine qg (D:=[]) (J:=[box E [M] 111]) (rs:=[.tmp 2]) (vs:=[Q]) ((((w.trans F).trans L).trans P).trans S) rfl rfl ⟨rfl,trivial⟩ ?_;exact⟨rfl,av⟩;exact fun _ _ _ _ _ h=>h.elim
theorem zyz:Enters prog 61:=enters_of func61 rfl (by kernel_rfl)
theorem zby{N:Nat}{R:RH}{m:Mach}{e:Value}(d:VRep (wz false false) R e m){r:Bool×Int}(a:z1m N m=some r):CallP prog 44 #[e] R (fun v R'=>v= .tuple #[(.bool r.1),(vi r.2)]):=by
 refine ql (args:=[e]) func44 rfl rfl fun A=>?_;rw [z1m] at a;refine zu (ah (T:=(wz false false)) rfl rfl rfl d fun s t c k u=>?_);refine zi (.bool false) (zi (vi 0) (za (qb (zu (zy (xz z5i rfl rfl k (d.mono c)) ?_)))));obtain⟨f,l,a⟩:=zx a
 refine jh rfl zxj rfl (z90 (d.mono c) l) fun w n b o=>?_;obtain rfl:=o;refine zi (vi f) (qw (zf (vi f) (zy (yl rfl rfl) (za (qa rfl a (fun a=>?_) (fun a=>?_))))));refine zu (zf (vi f) (zi (.bool false) (zi (vi f) (za (qm ?_)))));obtain rfl:=Option.some.inj a
 refine qg (D:=[]) (J:=[]) (rs:=[.tmp 2,.tmp 3]) (vs:=[(.bool false),(vi f)]) (c.trans b) rfl rfl ⟨rfl,rfl,trivial⟩ ?_;exact⟨rfl,rfl⟩;refine qf (zu (zy (xz z5i rfl rfl (k.mono b) (d.mono (c.trans b))) ?_));obtain⟨g,i,a⟩:=zx a
 refine jh rfl zyz rfl (zb5 (d.mono (c.trans b)) i) fun p q h j=>?_;refine zy (jb rfl underlying111 rfl (jv j)) (zy (o7 rfl rfl) (zi (.bool (decide ((↑g.length:Int)=0))) (zi (vi 0) (za (qm ?_)))));obtain rfl:=Option.some.inj a
 refine qg (D:=[]) (J:=[]) (rs:=[.tmp 2,.tmp 3]) (vs:=[(.bool (decide ((↑g.length:Int)=0))),(vi 0)]) ((c.trans b).trans h) rfl rfl ⟨rfl,rfl,trivial⟩ ?_;exact⟨rfl,rfl⟩
theorem q00:Enters prog 44:=enters_of func44 rfl (by kernel_rfl)
theorem z2y{N:Nat}{R:RH}{m:Mach}{e:Value}(f:VRep (wz false false) R e m){r:Int}(a:z11 N m=some r):CallP prog 17 #[e] R (fun v R'=>v=(vi r)):=by
 refine ql (args:=[e]) func17 rfl rfl fun A=>?_;rw [z11] at a;refine zu (ah (T:=(wz false false)) rfl rfl rfl f fun s t c j u=>?_);refine zi (vi 0) (qw (zy (xz z5i rfl rfl j (f.mono c)) ?_));obtain⟨b,k,a⟩:=zx a;refine jh rfl q00 rfl (zby (f.mono c) k) fun w l d n=>?_
 obtain rfl:=n
 refine zf (.tuple #[(.bool b.1),(vi b.2)]) (zy (qx rfl rfl) (zy (qx rfl rfl) (zi (.bool b.1) (zi (vi b.2) (za (qb (zu (jg (v:=(vi b.2)) rfl (z8 rfl) (jg rfl (o7 rfl rfl) (jg (v:=(.bool (decide (b.2=0)))) rfl (z8 rfl) (ja rfl rfl rfl rfl (fun i=>qp (v:=(.bool b.1)) (z8 rfl)) fun o g=>?_)))))))))))
 refine ja rfl rfl rfl rfl (fun i=>qp (lg (g.1 (zo rfl i)))) fun p h=>?_;refine jg rfl (xn rfl (fun q=>(h.1 (zo rfl q))) rfl) (za (qa rfl a (fun a=>?_) (fun a=>?_)));refine zu (zi (vi 9) (za (qm ?_)));obtain rfl:=Option.some.inj a
 refine qg (D:=[]) (J:=[]) (rs:=[.tmp 2]) (vs:=[(vi 9)]) (c.trans d) rfl rfl ⟨rfl,trivial⟩ ?_;exact⟨rfl,rfl⟩;refine qf (zu (zf (vi b.2) (zi (vi b.2) (za (qm ?_)))));obtain rfl:=Option.some.inj a;refine qg (D:=[]) (J:=[]) (rs:=[.tmp 2]) (vs:=[(vi b.2)]) (c.trans d) rfl rfl ⟨rfl,trivial⟩ ?_
 exact⟨rfl,rfl⟩
end GV
end Go.Proofs.Ytjmlpkkbmnjhcaa
