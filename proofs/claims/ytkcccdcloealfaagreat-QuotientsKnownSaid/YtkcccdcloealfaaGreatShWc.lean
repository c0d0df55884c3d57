import Derived.Test.YtkcccdcloealfaaGreatShWb
import Derived.Test.YtkcccdcloealfaaGreatRows
set_option linter.unusedVariables false
set_option linter.unusedSimpArgs false
namespace Go.Proofs.YtkcccdcloealfaaGreat
namespace GV
open _root_.Go.Proofs.Tryz
open Go.IntWalk
set_option maxRecDepth 100000
set_option maxHeartbeats 20000000
theorem zd7{N:Nat}{R:RH}{b:(List Int)}{a:Value}(c:PRep (tSl false (qc .i64)) R a b){r:(List Int)}(d:z4n N b=some r):CallG prog 95 #[(.func (.func 97) #[] #[a])] R [] (fun v R' O'=> ∃ u0_0 g0_0,v=u0_0∧O'=[g0_0]∧ORep (qc .i64) R' g0_0 u0_0 r):=by
 refine z3l (args:=[(.func (.func 97) #[] #[a])]) func95 rfl rfl fun A=>?_;rw [z4n] at d;refine zn (zf vs0 (qw (zh (.func (.func 97) #[] #[a]) (q12 ?_))));obtain⟨l,i,d⟩:=zm d
 refine z9f (Oc:=[emp]) (Or:=[]++A) (cs:=[]) (vs:=[vs0,(.func (.func 97) #[] #[a])]) rfl q7h rfl rfl ((pk 0 rfl (List.Perm.refl _))) (zc0 (l9 (T:=(qc .i64))) c i) fun f m j g k=>?_;obtain⟨_,e,rfl,rfl,h⟩:=k;refine zf f (z8 (qp ?_));obtain rfl:=Option.some.inj d
 refine z1u (D:=[]) (J:=[]) (O':=[e]) (rs:=[.tmp 2]) (vs:=[f]) g ((pk 0 rfl (List.Perm.refl _))) rfl ⟨rfl,trivial⟩ ?_;exact⟨f,e,rfl,rfl,h⟩
theorem q92:Enters prog 96:=enters_of func96 rfl (by kernel_rfl)
theorem zfl{N:Nat}{R:RH}{b:(List Int)}{a:Value}(c:PRep (tSl false (qc .i64)) R a b){r:(List Int)}(d:z4t N b=some r):CallP prog 76 #[(.func (.func 97) #[] #[a])] R (fun v R'=>VRep (tSl false (qc .i64)) R' v r):=by
 refine qf (args:=[(.func (.func 97) #[] #[a])]) func76 rfl rfl fun A=>?_;rw [z4t] at d;refine zn (zf vs0 (qw (zh (.func (.func 97) #[] #[a]) ?_)));obtain⟨C,t,d⟩:=zm d
 refine z9f (Oc:=[]) (Or:=[]++A) (cs:=[]) (vs:=[(.func (.func 97) #[] #[a])]) rfl qa0 rfl rfl ((List.Perm.refl _)) (zd7 c t) fun e E u h w=>?_;obtain⟨_,x,rfl,rfl,j⟩:=w;refine zf e (qw (zh e ?_));obtain⟨k,l,d⟩:=zm d
 refine z9f (Oc:=[x]) (Or:=[]++A) (cs:=[]) (vs:=[e]) rfl q92 rfl rfl ((pk 0 rfl (List.Perm.refl _))) (zhq j l) fun y z s f m=>?_;obtain⟨B,rfl,rfl,n⟩:=m;refine qw (zh e (zf e (z8 (rz (i:=0) rfl n fun o g p=>?_))));have q:VRep (tSl false (qc .i64)) o e k:=(z4u p);refine qp ?_
 obtain rfl:=Option.some.inj d;refine q9 (D:=[]) (J:=[]) (rs:=[.tmp 2]) (vs:=[e]) ((h.trans f).trans g) rfl rfl ⟨rfl,trivial⟩ ?_;exact⟨rfl,q⟩
theorem qan:Enters prog 76:=enters_of func76 rfl (by kernel_rfl)
theorem zmk{N:Nat}{R:RH}{m:Mach}{e:Value}(d:VRep (qz false false) R e m){r:(List Int)×Int}(a:z7p N m=some r):CallP prog 52 #[e] R (fun v R'=> ∃ x,v= .tuple #[x,(vi r.2)]∧VRep (tSl true (qc .i64)) R' x r.1):=by
 refine qf (args:=[e]) func52 rfl rfl fun A=>?_;rw [z7p] at a;refine zn (ky (T:=(qz false false)) rfl rfl rfl d fun U V c y W=>?_);refine zf vs0 (zf (vi 0) (z8 (q8 (zn (zq (jl z19 rfl rfl y (d.mono c)) ?_)))));obtain⟨g,z,a⟩:=zm a
 refine j3 rfl zie rfl (mi (d.mono c) z) fun X B b C=>?_;obtain rfl:=C;refine zf (vi g) (qw (zh (vi g) (zq (vk rfl rfl) (z8 (zw rfl a (fun a=>?_) (fun a=>?_))))));refine zn (zh (vi g) (zf vs0 (zf (vi g) (z8 (qp ?_)))));obtain rfl:=Option.some.inj a
 refine q9 (D:=[]) (J:=[]) (rs:=[.tmp 2,.tmp 3]) (vs:=[vs0,(vi g)]) (c.trans b) rfl rfl ⟨rfl,rfl,trivial⟩ ?_;exact⟨rfl,⟨vs0,rfl,z7x⟩⟩;refine qa (zn (zq (jl z19 rfl rfl (y.mono b) (d.mono (c.trans b))) ?_));obtain⟨E,l,a⟩:=zm a
 refine j3 rfl q3h rfl (z7c (d.mono (c.trans b)) l) fun F G h n=>?_;obtain⟨H,o,a⟩:=zm a;refine j3 rfl qa3 rfl (zfk n o) fun I K i p=>?_;obtain⟨L,rfl,q⟩:=p;obtain⟨M,s,a⟩:=zm a;refine j3 rfl qan rfl (zfl q s) fun O P j t=>?_
 obtain⟨Q,u,a⟩:=zm a;refine j3 rfl q6s rfl (z8i t u) fun f S k w=>?_;refine zf f (zf (vi 0) (z8 (qp ?_)));obtain rfl:=Option.some.inj a
 refine q9 (D:=[]) (J:=[]) (rs:=[.tmp 2,.tmp 3]) (vs:=[f,(vi 0)]) (((((c.trans b).trans h).trans i).trans j).trans k) rfl rfl ⟨rfl,rfl,trivial⟩ ?_;exact⟨rfl,⟨f,rfl,w⟩⟩
theorem q93:Enters prog 52:=enters_of func52 rfl (by kernel_rfl)
theorem zck{N:Nat}{R:RH}{m:Mach}{aj:Value}(G:VRep (qz false false) R aj m){r:Mach×(List Int)×Int}(b:z3u N m=some r):CallP prog 32 #[aj] R (fun v R'=> ∃ u0 u1,v= .tuple #[u0,u1,(vi r.2.2)]∧VRep (qz true true) R' u0 r.1∧VRep (tSl true (qc .i64)) R' u1 r.2.1):=by
 refine qf (args:=[aj]) func32 rfl rfl fun A=>?_;rw [z3u] at b;refine zn (ky (T:=(qz false false)) rfl rfl rfl G fun v1 R3 y h5 h2=>?_);refine kv rfl z5j fun W=>?_;refine zf vs0 (zf (vi 0) (qw (zq (jl z19 rfl rfl h5 (G.mono y)) ?_)));obtain⟨y8,c9,b⟩:=zm b
 refine j3 rfl q6w rfl (zbq (G.mono y) c9) fun bQ bR f aT=>?_;obtain⟨ak,rfl,aU⟩:=aT
 refine zh (.tuple #[ak,(vi y8.2.1),(vi y8.2.2)]) (zq (qm rfl rfl) (zq (qm rfl rfl) (zq (qm rfl rfl) (zf ak (zf (vi y8.2.1) (zf (vi y8.2.2) (z8 (q8 (zn (zh (vi y8.2.2) (zq (vk rfl rfl) (z8 (zw rfl b (fun b=>?_) (fun b=>?_))))))))))))))
 refine zn (zq (yt (ps:=[]) (v:=(.agg #[(vi 0),(vi 0),vs0])) rfl (fun w=>by kernel_rfl)) (zh (vi y8.2.2) (jd (i:=0) (vs:=[(vi 0),(vi 0),vs0]) yh rfl rfl rfl rfl rfl rfl (zu rfl (zu rfl (zu rfl jh))) ?_)))
 refine zf vs0 (zf (vi y8.2.2) (z8 (qp ?_)));obtain rfl:=Option.some.inj b
 refine q9 (D:=[]) (J:=[box W [(vi 0),(vi 0),vs0] 30]) (rs:=[.cell 2 30,.tmp 3,.tmp 4]) (vs:=[(.agg #[(vi 0),(vi 0),vs0]),vs0,(vi y8.2.2)]) (y.trans f) rfl rfl ⟨⟨_,rfl,fun w hh=>z05 (i:=0) hh rfl rfl ry yh rfl rfl⟩,rfl,rfl,trivial⟩ ?_
 exact⟨rfl,⟨(.agg #[(vi 0),(vi 0),vs0]),vs0,rfl,(⟨_,⟨_,_,rfl,rfl,⟨_,_,rfl,rfl,(je rfl z7x)⟩⟩,rfl⟩:VRep (qz true true) _ _ (⟨0,0,[]⟩:Mach)),z7x⟩⟩;refine qa (zn (zq (jl z19 rfl rfl (h5.mono f) (G.mono (y.trans f))) (zh ak ?_)));obtain⟨d,aV,b⟩:=zm b
 refine j3 rfl qaf rfl (zg2 (G.mono (y.trans f)) aU aV) fun bS bT u aW=>?_;obtain⟨aX,am,rfl,aY,aZ⟩:=aW;refine zh (.tuple #[aX,am]) (zq (qm rfl rfl) (zq (qm rfl rfl) (kv rfl z5j fun Y=>?_)));obtain⟨K,rfl,an⟩:=oz aY
 refine jd (i:=0) (vs:=[(vi d.1.inputs),(vi d.1.outputs),K]) yh rfl rfl rfl rfl rfl rfl (zu rfl (zu rfl (zu (z2g an) jh))) ?_;refine zf am (qw (zq (ql (i:=0) ry yh rfl rfl rfl rfl) ?_));obtain⟨a,a0,b⟩:=zm b
 refine j3 rfl q9l rfl (zgz (⟨_,⟨_,_,rfl,rfl,⟨_,_,rfl,rfl,(je rfl (Sub.v (B:=(tSl false (tSl false kEdge))) (ku (ku Sub.refl (fun _=>rfl)) (fun e=>e)) an))⟩⟩,rfl⟩:VRep (qz false false) _ _ (⟨d.1.inputs,d.1.outputs,d.1.rows⟩:Mach)) a0) fun bU bV o a1=>?_;obtain⟨a2,rfl,a3⟩:=a1
 refine zh (.tuple #[a2,(vi a.2)]) (zq (qm rfl rfl) (zq (qm rfl rfl) (kv rfl z5j fun C=>?_)));obtain⟨n,rfl,Z⟩:=oz a3;refine jd (i:=0) (vs:=[(vi a.1.inputs),(vi a.1.outputs),n]) yh rfl rfl rfl rfl rfl rfl (zu rfl (zu rfl (zu (z2g Z) jh))) ?_
 refine zf (vi a.2) (z8 (q8 (zn (zh (vi a.2) (zq (vk rfl rfl) (z8 (zw rfl b (fun b=>?_) (fun b=>?_))))))))
 refine zn (zq (yt (ps:=[]) (v:=(.agg #[(vi 0),(vi 0),vs0])) rfl (fun w=>by kernel_rfl)) (zh (vi a.2) (jd (i:=2) (vs:=[(vi 0),(vi 0),vs0]) yh rfl rfl rfl rfl rfl rfl (zu rfl (zu rfl (zu rfl jh))) ?_)))
 refine zf vs0 (zf (vi a.2) (z8 (qp ?_)));obtain rfl:=Option.some.inj b
 refine q9 (D:=[]) (J:=[box C [(vi a.1.inputs),(vi a.1.outputs),n] 30,box Y [(vi d.1.inputs),(vi d.1.outputs),K] 30,box W [(vi 0),(vi 0),vs0] 30]) (rs:=[.cell 2 30,.tmp 3,.tmp 4]) (vs:=[(.agg #[(vi 0),(vi 0),vs0]),vs0,(vi a.2)]) (((y.trans f).trans u).trans o) rfl rfl ⟨⟨_,rfl,fun w hh=>z05 (i:=2) hh rfl rfl ry yh rfl rfl⟩,rfl,rfl,trivial⟩ ?_
 exact⟨rfl,⟨(.agg #[(vi 0),(vi 0),vs0]),vs0,rfl,(⟨_,⟨_,_,rfl,rfl,⟨_,_,rfl,rfl,(je rfl z7x)⟩⟩,rfl⟩:VRep (qz true true) _ _ (⟨0,0,[]⟩:Mach)),z7x⟩⟩;refine qa (zn (zq (ql (i:=1) ry yh rfl rfl rfl rfl) (zq (ql (i:=0) ry yh rfl rfl rfl rfl) ?_)));obtain⟨x,a4,b⟩:=zm b
 refine j3 rfl qap rfl (zgc (⟨_,⟨_,_,rfl,rfl,⟨_,_,rfl,rfl,(je rfl (Sub.v (B:=(tSl false (tSl false kEdge))) (ku (ku Sub.refl (fun _=>rfl)) (fun e=>e)) (an.mono o)))⟩⟩,rfl⟩:VRep (qz false false) _ _ (⟨d.1.inputs,d.1.outputs,d.1.rows⟩:Mach)) (⟨_,⟨_,_,rfl,rfl,⟨_,_,rfl,rfl,(je rfl (Sub.v (B:=(tSl false (tSl false kEdge))) (ku (ku Sub.refl (fun _=>rfl)) (fun _=>rfl)) Z))⟩⟩,rfl⟩:VRep (qz false false) _ _ (⟨a.1.inputs,a.1.outputs,a.1.rows⟩:Mach)) a4) fun bW bX p a5=>?_
 obtain⟨ao,rfl,a6⟩:=a5;refine zh (.tuple #[ao,(.bool x.2.1),(vi x.2.2)]) (zq (qm rfl rfl) (zq (qm rfl rfl) (zq (qm rfl rfl) (zf ao (zf (.bool x.2.1) (zf (vi x.2.2) (z8 (q8 (zn (zh (vi x.2.2) (zq (vk rfl rfl) (z8 (zw rfl b (fun b=>?_) (fun b=>?_))))))))))))))
 refine zn (zq (yt (ps:=[]) (v:=(.agg #[(vi 0),(vi 0),vs0])) rfl (fun w=>by kernel_rfl)) (zh (vi x.2.2) (jd (i:=2) (vs:=[(vi 0),(vi 0),vs0]) yh rfl rfl rfl rfl rfl rfl (zu rfl (zu rfl (zu rfl jh))) ?_)))
 refine zf vs0 (zf (vi x.2.2) (z8 (qp ?_)));obtain rfl:=Option.some.inj b
 refine q9 (D:=[]) (J:=[box C [(vi a.1.inputs),(vi a.1.outputs),n] 30,box Y [(vi d.1.inputs),(vi d.1.outputs),K] 30,box W [(vi 0),(vi 0),vs0] 30]) (rs:=[.cell 2 30,.tmp 3,.tmp 4]) (vs:=[(.agg #[(vi 0),(vi 0),vs0]),vs0,(vi x.2.2)]) ((((y.trans f).trans u).trans o).trans p) rfl rfl ⟨⟨_,rfl,fun w hh=>z05 (i:=2) hh rfl rfl ry yh rfl rfl⟩,rfl,rfl,trivial⟩ ?_
 exact⟨rfl,⟨(.agg #[(vi 0),(vi 0),vs0]),vs0,rfl,(⟨_,⟨_,_,rfl,rfl,⟨_,_,rfl,rfl,(je rfl z7x)⟩⟩,rfl⟩:VRep (qz true true) _ _ (⟨0,0,[]⟩:Mach)),z7x⟩⟩
 refine qa (zn (rf (T:=(qc .i64)) (X:=([(-1)]:List Int)) (ps:=[(0,(vi (-1)))]) (css:=[[(vi (-1))]]) rfl underlying32 zo3 rfl rfl (uh ⟨rfl,trivial⟩) rfl rfl (by decide) fun aw bY ap a7=>?_));refine jo rfl uf u6 rfl (h2.mono (((f.trans u).trans o).trans p)) fun bZ a8=>?_
 refine qh rfl z1g rfl a8 fun b0 a9=>?_;refine zq (qj rfl underlying28 rfl (ja a9)) (wu (i:=0) rfl a7 fun ba s bb=>?_);have bc:VRep (tSl true (qc .i64)) ba aw ([(-1)]:List Int):=(z1b bb ap);obtain⟨be,bf,b⟩:=zm b
 refine z9f (Oc:=[]) (Or:=[box C [(vi a.1.inputs),(vi a.1.outputs),n] 30,box Y [(vi d.1.inputs),(vi d.1.outputs),K] 30,box W [(vi 0),(vi 0),vs0] 30]++A) (cs:=[]) (vs:=[aw,(vi (↑m.rows.length:Int))]) rfl q86 rfl rfl ((pk 0 rfl (pk 0 rfl (pk 0 rfl (List.Perm.refl _))))) (z8p (Sub.v (B:=(tSl false (qc .i64))) (ku Sub.refl (fun _=>rfl)) bc) bf) fun E b1 br t bg=>?_
 obtain⟨_,bh,rfl,rfl,bi⟩:=bg;refine zf E (qw (zq (jl z19 rfl rfl (h5.mono (((((f.trans u).trans o).trans p).trans s).trans t)) (G.mono ((((((y.trans f).trans u).trans o).trans p).trans s).trans t))) ?_));obtain⟨k,bj,b⟩:=zm b
 refine j3 rfl q93 rfl (zmk (G.mono ((((((y.trans f).trans u).trans o).trans p).trans s).trans t)) bj) fun b2 b3 z bk=>?_;obtain⟨aq,rfl,ax⟩:=bk;refine zh (.tuple #[aq,(vi k.2)]) (zq (qm rfl rfl) (zq (qm rfl rfl) (zf aq (zf (vi k.2) (z8 ?_)))));obtain⟨L,c,b⟩:=zm b
 refine j6 (γ:=(List Int)×Frag) (rs [16,17,63,80]) (fun g=>[]) (fun g=>[box W [(vi 0),(vi 0),vs0] 30,box C [(vi a.1.inputs),(vi a.1.outputs),n] 30,g.2]++A) (fun g R=>L=g.1∧ORep (qc .i64) R g.2 E g.1∧True) ?_ ?_
 refine zn (zh aq (zq (qj rfl underlying32 rfl (ja ax)) (zh (vi 0) (z8 (zy (jg (γ:=Nat×Int×(List Int)×Frag) (rs [16,17,65,80]) (fun g=>[(65,(vi g.2.1))]) (fun g=>[box W [(vi 0),(vi 0),vs0] 30,box C [(vi a.1.inputs),(vi a.1.outputs),n] 30,g.2.2.2]++A) (fun g R=>z03 N d x k g.1 g.2.1 g.2.2.1=some L∧ORep (qc .i64) R g.2.2.2 E g.2.2.1∧True) (fun g=>g.1) (N,0,be,bh) ⟨[box Y [(vi d.1.inputs),(vi d.1.outputs),K] 30],(pk 2 rfl (pk 2 rfl (pk 1 rfl (pk 0 rfl (List.Perm.refl _)))))⟩ ⟨c,(bi.mono z),trivial⟩ ?_))))))
 clear c;rintro⟨aa,q,ar,bl⟩ bs b4 I ⟨c,au,_⟩;rcases aa with _|aa;exact j4 c;replace c:z03 N d x k (aa+1) q ar=some L:=c;rw [z03] at c;refine zn (zq (jc rfl rfl) (z8 (q8 (zw rfl c (fun c=>?_) (fun c=>?_)))));refine qa (q8 (zy (zn ?_)))
 obtain⟨ay,c⟩:=ze c;refine kw (i:=q.toNat) rfl z02 rfl (ja (ax.mono I)) (zl rfl ay.1) (qb ay) fun b5 az=>?_;refine qh rfl ty3 rfl az fun bt aA=>?_;obtain rfl:=jb.1 aA
 refine zf (vi (ix k.1 q)) (z8 (zz (zh E (zh (vi (ix k.1 q)) (zh ao (zh am (zh (vi (ix k.1 q)) ?_)))))));obtain⟨ac,c⟩:=ze c
 refine kw (i:=(ix k.1 q).toNat) rfl z02 rfl (ja (aZ.mono (((((o.trans p).trans s).trans t).trans z).trans I))) (zl rfl ac.1) (qb ac) fun bu aB=>?_;refine qh rfl ty3 rfl aB fun bv aC=>?_;obtain rfl:=jb.1 aC;obtain⟨ad,c⟩:=ze c
 refine kw (i:=(ix d.2 (ix k.1 q)).toNat) rfl z02 rfl (ja (a6.mono (((s.trans t).trans z).trans I))) (zl rfl ad.1) (qb ad) fun bw aD=>?_;refine qh rfl ty3 rfl aD fun bx aE=>?_;obtain rfl:=jb.1 aE;obtain⟨M,c⟩:=ze c
 refine lm (i:=(ix k.1 q).toNat) rfl z02 rfl au (zl rfl M.1) (qb M) fun bA aF=>?_;refine z3n (i:=(ix k.1 q).toNat) (j:=2) ty3 au rfl rfl aF (qb M) rfl (jb.2 rfl) fun aG aH=>?_;refine z8 (zz ?_);obtain⟨aI,c⟩:=ze c;refine zq (jf rfl rfl aI) (zh (vi (q+1)) (z8 ?_))
 exact⟨dkt,(RH.le.refl _),jq,(aa,q+1,(up ar (ix k.1 q) (ix x.1 (ix d.2 (ix k.1 q)))),aG),Nat.lt_succ_self _,⟨rfl,trivial⟩,prm,c,aH,trivial⟩;refine jm ?_;exact⟨dkt,I,jq,(ar,bl),trivial,prm,(Option.some.inj c).symm,au,trivial⟩;rintro⟨L,b7⟩ bB b8 P ⟨rfl,bm,_⟩
 refine q8 (rz (i:=2) rfl bm fun aJ H aK=>?_);have aL:VRep (tSl false (qc .i64)) aJ E L:=(z4u aK);obtain⟨ae,aM,b⟩:=zm b
 refine zd8 [4] [(fun es=>phX (.agg #[(vi a.1.inputs),(vi a.1.outputs),n])),(fun es=>phX E),(fun es=>phR (tSl true (qc .i64)) ae),(fun es=>phX (vi k.2)),(fun es=>(fun _ _=>True)),(fun es=>phR (tSl true (qc .i64)) ae),(fun es=>phX (vi k.2))] (fun fl es R O=>(fl=[false]∧O.Perm ([box W [(vi 0),(vi 0),vs0] 30,box C [(vi a.1.inputs),(vi a.1.outputs),n] 30]++A)∧True)∨(fl=[true]∧O.Perm ([box W [(vi a.1.inputs),(vi a.1.outputs),n] 30,box C [(vi a.1.inputs),(vi a.1.outputs),n] 30]++A)∧True)) mixed (by kernel_rfl) ⟨(kz zi),(kz zi),(kz bz),(kz zi),(fun _ _ _ _ _ h=>h),(kz bz),(kz zi),trivial⟩ (by rintro fl es R R' O F (⟨rfl,Q,_⟩|⟨rfl,Q,_⟩);exact(.inl ⟨rfl,Q,trivial⟩);exact(.inr ⟨rfl,Q,trivial⟩)) ⟨(fun _ _ _ _ _ h=>h),(fun _ _ _ _ _ h=>h),(fun _ _ _ _ _ h=>h),(fun _ _ _ _ _ h=>h),(fun _ _ _ _ _ h=>h),(fun _ _ _ _ _ h=>h),(fun _ _ _ _ _ h=>h),trivial⟩ (fun es=> .inl ⟨rfl,(List.Perm.refl _),trivial⟩) ⟨?_,?_,?_,?_,?_,?_,?_,trivial⟩ fun bC S=>?_
 intro l b9 fl O F V U hk hW;rcases hW with⟨rfl,Q,_⟩|⟨rfl,Q,_⟩;exact zak Q (zt (ql (i:=1) ry yh (V 10 rfl) rfl rfl rfl));exact z5r hk (by kernel_rfl);intro l ca fl O F V U hk hW;exact zt (zb (V 13 rfl));intro l cb fl O F V U hk hW;obtain⟨d0,_⟩:=U;have bn:l 81=E:=d0 rfl
 exact jy (vs:=[E]) q6s (by simp only [List.map,ev,bn]<;>rfl) (z8i (aL.mono F) aM) (fun _ _ h=>h);intro l cc fl O F V U hk hW;obtain⟨d0,_⟩:=U;exact zt (zb (V 7 rfl));intro l cd fl O F V U hk hf hW;obtain⟨d0,d1,d2,d3,d4,d5,_⟩:=U;rcases hW with⟨rfl,Q,_⟩|⟨rfl,Q,_⟩;refine af Q ?_
 refine Eff.mono (z3o (i:=0) (vs:=[(vi a.1.inputs),(vi a.1.outputs),n]) yh (V 2 rfl) (d0 rfl) rfl rfl rfl (Nat.le_of_ble_eq_true rfl) (zu rfl (zu rfl (zu (z2g (Z.mono (((((p.trans s).trans t).trans z).trans P).trans H))) jh)))) ?_;rintro v R' O' hle' ⟨_,rfl,rfl⟩
 exact⟨trivial,.inr ⟨rfl,(List.Perm.refl _),trivial⟩⟩;cases hf;intro l cf fl O F V U hk hW;obtain⟨d0,d1,d2,d3,d4,d5,d6,_⟩:=U;exact zu7 (ni rfl) (d0 rfl);intro l ch fl O F V U hk hW;obtain⟨d0,d1,d2,d3,d4,d5,d6,d7,_⟩:=U;exact zt (ni (d0 rfl));intro bI bJ bK bL ai bM aN aO bN aP aQ aR;rintro bo (⟨e,_⟩|⟨_,Q,_⟩)
 cases e;refine⟨[],_,Q,?_⟩;obtain rfl:=Eq.symm aN;obtain rfl:=Eq.symm aO;obtain rfl:=Eq.symm aP;obtain rfl:=Eq.symm aR;refine z8 (qp ?_);obtain rfl:=Option.some.inj b
 refine q9 (D:=[]) (J:=[box W [(vi a.1.inputs),(vi a.1.outputs),n] 30,box C [(vi a.1.inputs),(vi a.1.outputs),n] 30]) (rs:=[.cell 2 30,.tmp 3,.tmp 4]) (vs:=[(.agg #[(vi a.1.inputs),(vi a.1.outputs),n]),ai,(vi k.2)]) ((((((((((y.trans f).trans u).trans o).trans p).trans s).trans t).trans z).trans P).trans H).trans S) rfl rfl ⟨⟨_,rfl,fun w hh=>z05 (i:=0) hh rfl rfl ry yh rfl rfl⟩,rfl,rfl,trivial⟩ ?_
 exact⟨rfl,⟨(.agg #[(vi a.1.inputs),(vi a.1.outputs),n]),ai,rfl,(⟨_,⟨_,_,rfl,rfl,⟨_,_,rfl,rfl,(je rfl (Z.mono ((((((p.trans s).trans t).trans z).trans P).trans H).trans S)))⟩⟩,rfl⟩:VRep (qz true true) _ _ (⟨a.1.inputs,a.1.outputs,a.1.rows⟩:Mach)),aQ⟩⟩
theorem q7g:Enters prog 32:=enters_of func32 rfl (by kernel_rfl)
theorem z0j{N:Nat}{R:RH}{m:Mach}{d:Value}(e:VRep (qz false false) R d m){r:Mach×Int}(c:wz N m=some r):CallP prog 11 #[d] R (fun v R'=> ∃ p,v= .tuple #[p,(vi r.2)]∧VRep (qz true true) R' p r.1):=by
 refine qf (args:=[d]) func11 rfl rfl fun A=>?_;rw [wz] at c;refine zn (ky (T:=(qz false false)) rfl rfl rfl e fun B C f q E=>?_);refine kv rfl z5j fun s=>?_;refine zf (vi 0) (qw (zq (jl z19 rfl rfl q (e.mono f)) ?_));obtain⟨a,t,c⟩:=zm c
 refine j3 rfl q7g rfl (zck (e.mono f) t) fun u x h k=>?_;obtain⟨l,j,rfl,n,y⟩:=k;refine zh (.tuple #[l,j,(vi a.2.2)]) (zq (qm rfl rfl) (zq (qm rfl rfl) (zq (qm rfl rfl) (kv rfl z5j fun o=>?_))));obtain⟨b,rfl,g⟩:=oz n
 refine jd (i:=0) (vs:=[(vi a.1.inputs),(vi a.1.outputs),b]) yh rfl rfl rfl rfl rfl rfl (zu rfl (zu rfl (zu (z2g g) jh))) ?_
 refine zf j (zf (vi a.2.2) (qw (zq (ql (i:=0) ry yh rfl rfl rfl rfl) (zh (vi a.2.2) (jd (i:=1) (vs:=[(vi a.1.inputs),(vi a.1.outputs),b]) yh rfl rfl rfl rfl rfl rfl (zu rfl (zu rfl (zu (z2g g) jh))) ?_)))));refine zf (vi a.2.2) (z8 (qp ?_));obtain rfl:=Option.some.inj c
 refine q9 (D:=[]) (J:=[box o [(vi a.1.inputs),(vi a.1.outputs),b] 30,box s [(vi a.1.inputs),(vi a.1.outputs),b] 30]) (rs:=[.cell 2 30,.tmp 3]) (vs:=[(.agg #[(vi a.1.inputs),(vi a.1.outputs),b]),(vi a.2.2)]) (f.trans h) rfl rfl ⟨⟨_,rfl,fun w z=>z05 (i:=1) z rfl rfl ry yh rfl rfl⟩,rfl,trivial⟩ ?_
 exact⟨rfl,⟨(.agg #[(vi a.1.inputs),(vi a.1.outputs),b]),rfl,(⟨_,⟨_,_,rfl,rfl,⟨_,_,rfl,rfl,(je rfl g)⟩⟩,rfl⟩:VRep (qz true true) _ _ (⟨a.1.inputs,a.1.outputs,a.1.rows⟩:Mach))⟩⟩
theorem ztk:Enters prog 11:=enters_of func11 rfl (by kernel_rfl)
theorem z9t{N:Nat}{R:RH}{a:Mach}{B:Value}(ag:VRep (qz false false) R B a){b:Mach}{C:Value}(ah:VRep (qz false false) R C b){r:Bool}(j:z0w N a b=some r):CallP prog 33 #[B,C] R (fun v R'=>v=(.bool r)):=by
 refine qf (args:=[B,C]) func33 rfl rfl fun A=>?_;rw [z0w] at j;refine zn (ky (T:=(qz false false)) rfl rfl rfl ag fun v1 R3 q h5 E=>?_);refine ky (T:=(qz false false)) rfl rfl rfl (ah.mono q) fun v6 R8 m a4 H=>?_
 refine zf (.bool false) (z8 (q8 (zn (zm0 rfl (ww av lw rfl (E.mono m)) fun a5 ai=>?_))));refine ji rfl (fw (jv ty3 rfl ai)) (zm0 rfl (ww av lw rfl H) fun a6 aj=>?_)
 refine ji rfl (fw (jv ty3 rfl aj)) (ji rfl (vk rfl rfl) (ji (v:=(.bool (decide (a.inputs≠b.inputs)))) rfl (zb rfl) (j5 rfl rfl rfl rfl (fun o=>ww z6o z5d rfl (E.mono m)) fun a7 ak=>?_)));refine j5 rfl rfl rfl rfl (fun o=>qx (fw (jv ty3 rfl (ak.1 (zo rfl o))))) fun a8 al=>?_
 refine j5 rfl rfl rfl rfl (fun o=>ww z6o z5d rfl H) fun a9 am=>?_;refine j5 rfl rfl rfl rfl (fun o=>qx (fw (jv ty3 rfl (am.1 (zo rfl o))))) fun ba an=>?_;refine j5 rfl rfl rfl rfl (fun o=>qx (vk (al.1 (zo rfl o)) (an.1 (zo rfl o)))) fun bb ao=>?_
 refine ji rfl (sw rfl rfl (fun hb=>(ao.1 (zo rfl hb)))) (ji (v:=(.bool ((decide (a.inputs≠b.inputs))||(decide (a.outputs≠b.outputs))))) rfl (zb rfl) (j5 rfl rfl rfl rfl (fun o=>ww uf u6 rfl (E.mono m)) fun bc aq=>?_));refine j5 rfl rfl rfl rfl (fun o=>jv z1g rfl (aq.1 (zo rfl o))) fun be ar=>?_
 refine j5 rfl rfl rfl rfl (fun o=>qx (qj rfl underlying28 rfl (ja (ar.1 (zo rfl o))))) fun bf au=>?_;refine j5 rfl rfl rfl rfl (fun o=>ww uf u6 rfl H) fun bg aw=>?_;refine j5 rfl rfl rfl rfl (fun o=>jv z1g rfl (aw.1 (zo rfl o))) fun bh ax=>?_
 refine j5 rfl rfl rfl rfl (fun o=>qx (qj rfl underlying28 rfl (ja (ax.1 (zo rfl o))))) fun bi ay=>?_;refine j5 rfl rfl rfl rfl (fun o=>qx (vk (au.1 (zo rfl o)) (ay.1 (zo rfl o)))) fun bj az=>?_;refine ji rfl (sw rfl rfl (fun hb=>(az.1 (zo rfl hb)))) (z8 (zw rfl j (fun j=>?_) (fun j=>?_)))
 refine zn (zf (.bool false) (z8 (qp ?_)));obtain rfl:=Option.some.inj j;refine q9 (D:=[]) (J:=[]) (rs:=[.tmp 4]) (vs:=[(.bool false)]) (q.trans m) rfl rfl ⟨rfl,trivial⟩ ?_;exact⟨rfl,rfl⟩;refine qa ?_;obtain⟨F,d,j⟩:=zm j
 refine j6 (γ:=Unit) (rs [4,7,28,75]) (fun g=>[]) (fun g=>[]++A) (fun g R=>F=Ex.go g∧True) ?_ ?_;refine zn (zf (vi 0) (z8 (zy (jg (γ:=Nat×Int) (rs [4,7,28,75]) (fun g=>[(5,(vi g.2))]) (fun g=>[]++A) (fun g R=>xm N a b g.1 g.2=some F∧True) (fun g=>g.1) (N,0) prm ⟨d,trivial⟩ ?_))));clear d
 rintro⟨t,e⟩ aK bk k ⟨d,_⟩;rcases t with _|t;exact j4 d;replace d:xm N a b (t+1) e=some F:=d;rw [xm] at d;refine q8 (zn (zh (vi e) (jo rfl uf u6 rfl (E.mono (m.trans k)) fun bl aA=>?_)));refine qh rfl z1g rfl aA fun bm aB=>?_
 refine zq (qj rfl underlying28 rfl (ja aB)) (zq (jc rfl rfl) (z8 (zw rfl d (fun d=>?_) (fun d=>?_))));refine qa ?_;obtain⟨G,c,d⟩:=zm d;refine j6 (γ:=Unit) (rs [4,5,6,7,35,75]) (fun g=>[]) (fun g=>[]++A) (fun g R=>G=Ex.go g∧True) ?_ ?_
 refine zy (q8 (q8 (z5k 13 mixed (by kernel_rfl) (by kernel_rfl) ?_)));refine z1r (ww uf u6 rfl (E.mono (m.trans k))) fun bn aC=>?_;refine z1r (jv z1g rfl aC) fun bo aD=>?_;refine xn (v:=(vi e)) (zb rfl) ?_;obtain⟨I,c⟩:=ze c
 refine z1r (bv (i:=e.toNat) z5u rfl (ja aD) (zl rfl I.1) (qb I)) fun bp aE=>?_;refine z1r (jv z5t rfl aE) fun bq aF=>?_;refine xn (qj rfl underlying56 rfl (ja aF)) ?_;refine z1r (ww uf u6 rfl (H.mono k)) fun br aG=>?_;refine z1r (jv z1g rfl aG) fun bs aH=>?_
 refine xn (v:=(vi e)) (zb rfl) ?_;obtain⟨K,c⟩:=ze c;refine z1r (bv (i:=e.toNat) z5u rfl (ja aH) (zl rfl K.1) (qb K)) fun bt aI=>?_;refine z1r (jv z5t rfl aI) fun bu aJ=>?_;refine xn (qj rfl underlying56 rfl (ja aJ)) ?_;refine xn (vk rfl rfl) ?_;intro bw l
 refine z8 (zw rfl c (fun c=>?_) (fun c=>?_));refine zn (zf (.bool false) (z8 (qp ?_)));replace d:=z1z c d;replace j:=z1z d j;obtain rfl:=Option.some.inj j;refine q9 (D:=[]) (J:=[]) (rs:=[.tmp 4]) (vs:=[(.bool false)]) (((q.trans m).trans k).trans l) rfl rfl ⟨rfl,trivial⟩ ?_;exact⟨rfl,rfl⟩
 refine qa (zn (zf (vi 0) (z8 (zy (jg (γ:=Nat×Int) (rs [4,5,6,7,48,75]) (fun g=>[(6,(vi g.2))]) (fun g=>[]++A) (fun g R=>ng N a b e g.1 g.2=some G∧True) (fun g=>g.1) (N,0) prm ⟨c,trivial⟩ ?_)))));clear c;rintro⟨p,f⟩ aL aM n ⟨c,_⟩;rcases p with _|p;exact j4 c
 replace c:ng N a b e (p+1) f=some G:=c;rw [ng] at c;refine q8 (zn (zh (vi f) (jo rfl uf u6 rfl (E.mono (((m.trans k).trans l).trans n)) fun aN L=>?_)));refine qh rfl z1g rfl L fun aO M=>?_;refine zh (vi e) ?_;obtain⟨u,c⟩:=ze c
 refine kw (i:=e.toNat) rfl z5u rfl (ja M) (zl rfl u.1) (qb u) fun aP O=>?_;refine qh rfl z5t rfl O fun aQ P=>?_;refine zq (qj rfl underlying56 rfl (ja P)) (zq (jc rfl rfl) (z8 (zw rfl c (fun c=>?_) (fun c=>?_))))
 refine qa (q8 (zy (q8 (z5k 17 mixed (by kernel_rfl) (by kernel_rfl) ?_))));refine z1r (ww uf u6 rfl (E.mono (((m.trans k).trans l).trans n))) fun aR Q=>?_;refine z1r (jv z1g rfl Q) fun aS S=>?_;refine xn (v:=(vi e)) (zb rfl) ?_;obtain⟨w,c⟩:=ze c
 refine z1r (bv (i:=e.toNat) z5u rfl (ja S) (zl rfl w.1) (qb w)) fun aT U=>?_;refine z1r (jv z5t rfl U) fun aU V=>?_;refine xn (v:=(vi f)) (zb rfl) ?_;obtain⟨x,c⟩:=ze c;refine z1r (bv (i:=f.toNat) z7u rfl (ja V) (zl rfl x.1) (qb x)) fun aV W=>?_
 refine xn (v:=(ut (ix (ix a.rows e) f))) (zcg (jv za1 rfl W) (fun _ _ h=>df.1 h)) ?_;refine z1r (ww uf u6 rfl (H.mono ((k.trans l).trans n))) fun aW X=>?_;refine z1r (jv z1g rfl X) fun aX Y=>?_;refine xn (v:=(vi e)) (zb rfl) ?_;obtain⟨y,c⟩:=ze c
 refine z1r (bv (i:=e.toNat) z5u rfl (ja Y) (zl rfl y.1) (qb y)) fun aY Z=>?_;refine z1r (jv z5t rfl Z) fun aZ aa=>?_;refine xn (v:=(vi f)) (zb rfl) ?_;obtain⟨z,c⟩:=ze c;refine z1r (bv (i:=f.toNat) z7u rfl (ja aa) (zl rfl z.1) (qb z)) fun a0 ab=>?_
 refine xn (v:=(ut (ix (ix b.rows e) f))) (zcg (jv za1 rfl ab) (fun _ _ h=>df.1 h)) ?_;refine xn (zqc zyx rfl rfl) ?_;intro a1 s;refine z8 (zw rfl c (fun c=>?_) (fun c=>?_));refine zn (zf (.bool false) (z8 (qp ?_)));replace d:=z1z c d;replace j:=z1z d j;obtain rfl:=Option.some.inj j
 refine q9 (D:=[]) (J:=[]) (rs:=[.tmp 4]) (vs:=[(.bool false)]) (((((q.trans m).trans k).trans l).trans n).trans s) rfl rfl ⟨rfl,trivial⟩ ?_;exact⟨rfl,rfl⟩;refine qa (zz (zh (vi f) ?_));obtain⟨ac,c⟩:=ze c;refine zq (jf rfl rfl ac) (zf (vi (f+1)) (z8 ?_))
 exact⟨dkt,s,jq,(p,f+1),Nat.lt_succ_self _,⟨rfl,trivial⟩,prm,c,trivial⟩;refine jm ?_;exact⟨dkt,(l.trans n),jq,(),trivial,prm,(Option.some.inj c).symm,trivial⟩;rintro bx a2 bz ad ⟨rfl,_⟩;replace d:=z4v d;refine zz (zh (vi e) ?_);obtain⟨ae,d⟩:=ze d
 refine zq (jf rfl rfl ae) (zf (vi (e+1)) (z8 ?_));exact⟨dkt,ad,jq,(t,e+1),Nat.lt_succ_self _,⟨rfl,trivial⟩,prm,d,trivial⟩;refine jm ?_;exact⟨dkt,k,jq,(),trivial,prm,(Option.some.inj d).symm,trivial⟩;rintro bA a3 bB af ⟨rfl,_⟩;replace j:=z4v j;refine zn (zf (.bool true) (z8 (qp ?_)))
 obtain rfl:=Option.some.inj j;refine q9 (D:=[]) (J:=[]) (rs:=[.tmp 4]) (vs:=[(.bool true)]) ((q.trans m).trans af) rfl rfl ⟨rfl,trivial⟩ ?_;exact⟨rfl,rfl⟩
theorem q8c:Enters prog 33:=enters_of func33 rfl (by kernel_rfl)
theorem z2t{N:Nat}{R:RH}{m:Mach}{p:Value}(t:VRep (qz true true) R p m){e:Int}{want:Mach}{c:Value}(k:VRep (qz false false) R c want){r:Bool}(b:xq N m e want=some r):CallP prog 12 #[p,(vi e),c] R (fun v R'=>v=(.bool r)):=by
 refine qf (args:=[p,(vi e),c]) func12 rfl rfl fun A=>?_;rw [xq] at b;refine zn (ky (T:=(qz true true)) rfl rfl rfl t fun v1 R3 n h5 x=>?_);refine ky (T:=(qz false false)) rfl rfl rfl (k.mono n) fun v6 R8 d F h7=>?_
 refine zf (.bool false) (z8 (q8 (zn (ji (v:=(vi e)) rfl (zb rfl) (ji rfl (vk rfl rfl) (ji (v:=(.bool (decide (e≠0)))) rfl (zb rfl) (j5 rfl rfl rfl rfl (fun j=>qx (v:=p) (jl z19 rfl rfl (h5.mono d) (t.mono (n.trans d)))) fun al G=>?_)))))))
 refine j5 rfl rfl rfl rfl (fun j=>qx (v:=c) (jl z19 rfl rfl F (k.mono (n.trans d)))) fun am H=>?_;obtain⟨y,I,b⟩:=zm b
 refine z5a rfl rfl rfl rfl (fun j=>jy (vs:=[p,c]) q8c (zba (G.1 (zo rfl j)) (zba (H.1 (zo rfl j)) rfl)) ((by have K:=(mq I (zo rfl j));exact z9t (Sub.v (B:=(qz false false)) (zth (zcf Sub.refl (zcf Sub.refl (ku (ku Sub.refl (fun _=>rfl)) (fun _=>rfl))))) (t.mono (n.trans d))) (k.mono (n.trans d)) K)) (fun _ _ h=>h)) fun L M f u=>?_
 replace u:phG (true&&((decide (e≠0))==false)) (phX (.bool (y.getD default))) L M:=u;refine j5 rfl rfl rfl rfl (fun j=>qx (ow (u.1 (zo rfl j)))) fun an O=>?_
 refine ji rfl (sw rfl rfl (fun P=>(O.1 (zo rfl P)))) (ji (v:=(.bool ((decide (e≠0))||(!(y.getD default))))) rfl (zb rfl) (j5 rfl rfl rfl rfl (fun j=>ww uf u6 rfl (x.mono (d.trans f))) fun ao Q=>?_));refine j5 rfl rfl rfl rfl (fun j=>jv z1g rfl (Q.1 (zo rfl j))) fun ap S=>?_
 refine j5 rfl rfl rfl rfl (fun j=>qx (zls rfl underlying28 rfl (S.1 (zo rfl j)))) fun aq U=>?_;refine j5 rfl rfl rfl rfl (fun j=>ww uf u6 rfl (x.mono (d.trans f))) fun ar V=>?_;refine j5 rfl rfl rfl rfl (fun j=>jv z1g rfl (V.1 (zo rfl j))) fun au W=>?_
 refine j5 rfl rfl rfl rfl (fun j=>qx (qj rfl underlying28 rfl (ja (W.1 (zo rfl j))))) fun av X=>?_;refine j5 rfl rfl rfl rfl (fun j=>qx (vk (U.1 (zo rfl j)) (X.1 (zo rfl j)))) fun aw Y=>?_;refine ji rfl (sw rfl rfl (fun P=>(Y.1 (zo rfl P)))) (z8 (zw rfl b (fun b=>?_) (fun b=>?_)))
 refine zn (zf (.bool false) (z8 (qp ?_)));obtain rfl:=Option.some.inj b;refine q9 (D:=[]) (J:=[]) (rs:=[.tmp 6]) (vs:=[(.bool false)]) ((n.trans d).trans f) rfl rfl ⟨rfl,trivial⟩ ?_;exact⟨rfl,rfl⟩;refine qa ?_;obtain⟨w,a,b⟩:=zm b
 refine j6 (γ:=Unit) (rs [6,8,25,45]) (fun g=>[]) (fun g=>[]++A) (fun g R=>w=Ex.go g∧True) ?_ ?_;refine zn (zf (vi 0) (z8 (zy (jg (γ:=Nat×Int) (rs [6,8,25,45]) (fun g=>[(7,(vi g.2))]) (fun g=>[]++A) (fun g R=>gm N m g.1 g.2=some w∧True) (fun g=>g.1) (N,0) prm ⟨a,trivial⟩ ?_))));clear a
 rintro⟨q,l⟩ ax ay o ⟨a,_⟩;rcases q with _|q;exact j4 a;replace a:gm N m (q+1) l=some w:=a;rw [gm] at a;refine q8 (zn (zh (vi l) (jo rfl uf u6 rfl (x.mono ((d.trans f).trans o)) fun az Z=>?_)));refine qh rfl z1g rfl Z fun aA aa=>?_
 refine zq (qj rfl underlying28 rfl (ja aa)) (zq (jc rfl rfl) (z8 (zw rfl a (fun a=>?_) (fun a=>?_))));refine qa (q8 (zy (q8 (z5k 13 mixed (by kernel_rfl) (by kernel_rfl) ?_))));refine z1r (ww uf u6 rfl (x.mono ((d.trans f).trans o))) fun aB ab=>?_;refine z1r (jv z1g rfl ab) fun aC ac=>?_
 refine xn (v:=(vi l)) (zb rfl) ?_;obtain⟨z,a⟩:=ze a;refine z1r (bv (i:=l.toNat) z5u rfl (ja ac) (zl rfl z.1) (qb z)) fun aD ad=>?_;refine z1r (jv z5t rfl ad) fun aE ae=>?_;refine xn (zls rfl underlying56 rfl ae) ?_
 refine z1r (ww uf u6 rfl (x.mono ((d.trans f).trans o))) fun aF af=>?_;refine z1r (jv z1g rfl af) fun aG ag=>?_;refine xn (v:=(vi l)) (zb rfl) ?_;obtain⟨C,a⟩:=ze a;refine z1r (bv (i:=l.toNat) z5u rfl (ja ag) (zl rfl C.1) (qb C)) fun aH ah=>?_
 refine z1r (jv z5t rfl ah) fun aI ai=>?_;refine xn (qj rfl underlying56 rfl (ja ai)) ?_;refine xn (vk rfl rfl) ?_;intro aJ s;refine z8 (zw rfl a (fun a=>?_) (fun a=>?_));refine zn (zf (.bool false) (z8 (qp ?_)));replace b:=z1z a b;obtain rfl:=Option.some.inj b
 refine q9 (D:=[]) (J:=[]) (rs:=[.tmp 6]) (vs:=[(.bool false)]) ((((n.trans d).trans f).trans o).trans s) rfl rfl ⟨rfl,trivial⟩ ?_;exact⟨rfl,rfl⟩;refine qa (zz (zh (vi l) ?_));obtain⟨aj,a⟩:=ze a;refine zq (jf rfl rfl aj) (zf (vi (l+1)) (z8 ?_))
 exact⟨dkt,s,jq,(q,l+1),Nat.lt_succ_self _,⟨rfl,trivial⟩,prm,a,trivial⟩;refine jm ?_;exact⟨dkt,o,jq,(),trivial,prm,(Option.some.inj a).symm,trivial⟩;rintro aK aL aM E ⟨rfl,_⟩;replace b:=z4v b;refine zn (zf (.bool true) (z8 (qp ?_)));obtain rfl:=Option.some.inj b
 refine q9 (D:=[]) (J:=[]) (rs:=[.tmp 6]) (vs:=[(.bool true)]) (((n.trans d).trans f).trans E) rfl rfl ⟨rfl,trivial⟩ ?_;exact⟨rfl,rfl⟩
theorem zcp{N:Nat}{R:RH}{a:(List Int)}{f:Value}(l:VRep (tSl false (qc .i64)) R f a){b:(List Int)}{j:Value}(m:VRep (tSl false (qc .i64)) R j b){r:Int}(d:z1o N a b=some r):CallP prog 35 #[f,j] R (fun v R'=>v=(vi r)):=by
 refine qf (args:=[f,j]) func35 rfl rfl fun A=>?_;rw [z1o] at d;refine zn (zf (vi 0) (z8 (q8 (zn (zh f (zq (qj rfl underlying32 rfl (ja l)) (zh j (zq (qj rfl underlying32 rfl (ja m)) (zq (jc rfl rfl) (z8 (zw rfl d (fun d=>?_) (fun d=>?_))))))))))))
 refine zn (zf (vi (-1)) (z8 (qp ?_)));obtain rfl:=Option.some.inj d;refine q9 (D:=[]) (J:=[]) (rs:=[.tmp 4]) (vs:=[(vi (-1))]) (RH.le.refl _) rfl rfl ⟨rfl,trivial⟩ ?_;exact⟨rfl,rfl⟩
 refine qa (q8 (zn (zh f (zq (qj rfl underlying32 rfl (ja l)) (zh j (zq (qj rfl underlying32 rfl (ja m)) (zq (z6l rfl rfl) (z8 (zw rfl d (fun d=>?_) (fun d=>?_))))))))));refine zn (zf (vi 1) (z8 (qp ?_)));obtain rfl:=Option.some.inj d
 refine q9 (D:=[]) (J:=[]) (rs:=[.tmp 4]) (vs:=[(vi 1)]) (RH.le.refl _) rfl rfl ⟨rfl,trivial⟩ ?_;exact⟨rfl,rfl⟩;refine qa ?_;obtain⟨u,c,d⟩:=zm d;refine j6 (γ:=Unit) (rs [4,6,16,40]) (fun g=>[]) (fun g=>[]++A) (fun g R=>u=Ex.go g∧True) ?_ ?_
 refine zn (zf (vi 0) (z8 (zy (jg (γ:=Nat×Int) (rs [4,6,16,40]) (fun g=>[(5,(vi g.2))]) (fun g=>[]++A) (fun g R=>bn N a b g.1 g.2=some u∧True) (fun g=>g.1) (N,0) prm ⟨c,trivial⟩ ?_))));clear c;rintro⟨t,k⟩ E O e ⟨c,_⟩;rcases t with _|t;exact j4 c
 replace c:bn N a b (t+1) k=some u:=c;rw [bn] at c;refine q8 (zn (zh (vi k) (zh f (zq (qj rfl underlying32 rfl (ja (l.mono e))) (zq (jc rfl rfl) (z8 (zw rfl c (fun c=>?_) (fun c=>?_))))))))
 refine qa (q8 (zy (q8 (q8 (z5k 9 mixed (by kernel_rfl) (by kernel_rfl) ?_)))));refine xn (v:=f) (zb rfl) ?_;refine xn (v:=(vi k)) (zb rfl) ?_;obtain⟨o,c⟩:=ze c;refine z1r (bv (i:=k.toNat) z02 rfl (ja (l.mono e)) (zl rfl o.1) (qb o)) fun F w=>?_
 refine xn (fw (jv ty3 rfl w)) ?_;refine xn (v:=j) (zb rfl) ?_;refine xn (v:=(vi k)) (zb rfl) ?_;obtain⟨p,c⟩:=ze c;refine z1r (bv (i:=k.toNat) z02 rfl (ja (m.mono e)) (zl rfl p.1) (qb p)) fun G x=>?_;refine xn (fw (jv ty3 rfl x)) ?_;refine xn (jc rfl rfl) ?_;intro H h
 refine z8 (zw rfl c (fun c=>?_) (fun c=>?_));refine zn (zf (vi (-1)) (z8 (qp ?_)));replace d:=z1z c d;obtain rfl:=Option.some.inj d;refine q9 (D:=[]) (J:=[]) (rs:=[.tmp 4]) (vs:=[(vi (-1))]) (e.trans h) rfl rfl ⟨rfl,trivial⟩ ?_;exact⟨rfl,rfl⟩
 refine qa (q8 (z5k 9 mixed (by kernel_rfl) (by kernel_rfl) ?_));refine xn (v:=f) (zb rfl) ?_;refine xn (v:=(vi k)) (zb rfl) ?_;obtain⟨q,c⟩:=ze c;refine z1r (bv (i:=k.toNat) z02 rfl (ja (l.mono (e.trans h))) (zl rfl q.1) (qb q)) fun I y=>?_;refine xn (fw (jv ty3 rfl y)) ?_
 refine xn (v:=j) (zb rfl) ?_;refine xn (v:=(vi k)) (zb rfl) ?_;obtain⟨s,c⟩:=ze c;refine z1r (bv (i:=k.toNat) z02 rfl (ja (m.mono (e.trans h))) (zl rfl s.1) (qb s)) fun K z=>?_;refine xn (fw (jv ty3 rfl z)) ?_;refine xn (z6l rfl rfl) ?_;intro L n
 refine z8 (zw rfl c (fun c=>?_) (fun c=>?_));refine zn (zf (vi 1) (z8 (qp ?_)));replace d:=z1z c d;obtain rfl:=Option.some.inj d;refine q9 (D:=[]) (J:=[]) (rs:=[.tmp 4]) (vs:=[(vi 1)]) ((e.trans h).trans n) rfl rfl ⟨rfl,trivial⟩ ?_;exact⟨rfl,rfl⟩;refine qa (zz (zh (vi k) ?_))
 obtain⟨B,c⟩:=ze c;refine zq (jf rfl rfl B) (zf (vi (k+1)) (z8 ?_));exact⟨dkt,(h.trans n),jq,(t,k+1),Nat.lt_succ_self _,⟨rfl,trivial⟩,prm,c,trivial⟩;refine jm ?_;exact⟨dkt,e,jq,(),trivial,prm,(Option.some.inj c).symm,trivial⟩;rintro P M Q C ⟨rfl,_⟩;replace d:=z4v d
 refine zn (zf (vi 0) (z8 (qp ?_)));obtain rfl:=Option.some.inj d;refine q9 (D:=[]) (J:=[]) (rs:=[.tmp 4]) (vs:=[(vi 0)]) C rfl rfl ⟨rfl,trivial⟩ ?_;exact⟨rfl,rfl⟩
theorem q9k:Enters prog 35:=enters_of func35 rfl (by kernel_rfl)
theorem z4k{N:Nat}{R:RH}{a:(List Int)}{c:Value}(f:VRep (tSl false (qc .i64)) R c a){b:(List Int)}{d:Value}(g:VRep (tSl false (qc .i64)) R d b){r:Bool}(e:ay N a b=some r):CallP prog 14 #[c,d] R (fun v R'=>v=(.bool r)):=by
 refine qf (args:=[c,d]) func14 rfl rfl fun A=>?_;rw [ay] at e;refine zn (zf (.bool false) (qw (zh c (zh d ?_))));obtain⟨i,j,e⟩:=zm e;refine j3 rfl q9k rfl (zcp f g j) fun l m h k=>?_;obtain rfl:=k;refine zq (x9 rfl rfl) (zf (.bool (decide (i=0))) (z8 (qp ?_)))
 obtain rfl:=Option.some.inj e;refine q9 (D:=[]) (J:=[]) (rs:=[.tmp 4]) (vs:=[(.bool (decide (i=0)))]) h rfl rfl ⟨rfl,trivial⟩ ?_;exact⟨rfl,rfl⟩
theorem q3f:Enters prog 12:=enters_of func12 rfl (by kernel_rfl)
theorem q42:Enters prog 14:=enters_of func14 rfl (by kernel_rfl)
theorem q75: ∀ w,∃ z,(zeroValue 75).run prog w= .ok z w∧z.cells=([.int .i64 0,.nilFunc,.int .i64 0,.nilFunc,.int .i64 0,.nilFunc]:List Value).toArray:=fun w=>⟨(.agg #[(vi 0),.nilFunc,(vi 0),.nilFunc,(vi 0),.nilFunc]),by kernel_rfl,rfl⟩
theorem q5t: ∀ w,(sizeOf 75).run prog w= .ok 6 w:=fun w=>by kernel_rfl
theorem q9y: ∀ w,(isAgg 75).run prog w= .ok true w:=fun w=>by kernel_rfl
theorem zbp{N:Nat}{R:RH}{m:Mach}{b:Value}(d:VRep (qz false false) R b m){r:Mach×Mach×Mach}(c:z7b N m=some r):CallP prog 38 #[b] R (fun v R'=> ∃ g h j,v= .agg #[(vi 9),.func (.func 58) #[] #[g],(vi 11),.func (.func 60) #[] #[h],(vi 12),.func (.func 62) #[] #[j]]∧PRep (qz false false) R' g r.1∧PRep (qz false false) R' h r.2.1∧PRep (qz false false) R' j r.2.2):=by
 refine qf (args:=[b]) func38 rfl rfl fun A=>?_;rw [z7b] at c;refine zn (ky (T:=(qz false false)) rfl rfl rfl d fun a n e o f=>?_);refine kv rfl q75 fun k=>?_
 refine qw (zq (z0p (fs:=[]) (cs:=[a]) rfl rfl) (zq (yt (ps:=[(0,(vi 9)),(1,(.func (.func 58) #[] #[a]))]) (v:=(.agg #[(vi 9),(.func (.func 58) #[] #[a])])) rfl (fun w=>by kernel_rfl)) (zq (z0p (fs:=[]) (cs:=[a]) rfl rfl) (zq (yt (ps:=[(0,(vi 11)),(1,(.func (.func 60) #[] #[a]))]) (v:=(.agg #[(vi 11),(.func (.func 60) #[] #[a])])) rfl (fun w=>by kernel_rfl)) (zq (z0p (fs:=[]) (cs:=[a]) rfl rfl) (zq (yt (ps:=[(0,(vi 12)),(1,(.func (.func 62) #[] #[a]))]) (v:=(.agg #[(vi 12),(.func (.func 62) #[] #[a])])) rfl (fun w=>by kernel_rfl)) (zq (yt (ps:=[(0,(.agg #[(vi 9),(.func (.func 58) #[] #[a])])),(1,(.agg #[(vi 11),(.func (.func 60) #[] #[a])])),(2,(.agg #[(vi 12),(.func (.func 62) #[] #[a])]))]) (v:=(.agg #[(vi 9),(.func (.func 58) #[] #[a]),(vi 11),(.func (.func 60) #[] #[a]),(vi 12),(.func (.func 62) #[] #[a])])) rfl (fun w=>by kernel_rfl)) (jd (i:=0) (vs:=[(vi 9),(.func (.func 58) #[] #[a]),(vi 11),(.func (.func 60) #[] #[a]),(vi 12),(.func (.func 62) #[] #[a])]) q5t rfl rfl rfl rfl rfl rfl (zu rfl (zu rfl (zu rfl (zu rfl (zu rfl (zu rfl jh)))))) ?_))))))))
 refine z8 (qp ?_);obtain rfl:=Option.some.inj c
 refine q9 (D:=[]) (J:=[box k [(vi 9),(.func (.func 58) #[] #[a]),(vi 11),(.func (.func 60) #[] #[a]),(vi 12),(.func (.func 62) #[] #[a])] 75]) (rs:=[.cell 2 75]) (vs:=[(.agg #[(vi 9),(.func (.func 58) #[] #[a]),(vi 11),(.func (.func 60) #[] #[a]),(vi 12),(.func (.func 62) #[] #[a])])]) e rfl rfl ⟨⟨_,rfl,fun w l=>z05 (i:=0) l rfl rfl q9y q5t rfl rfl⟩,trivial⟩ ?_
 exact⟨rfl,⟨a,a,a,rfl,f,f,f⟩⟩
theorem q7o:Enters prog 38:=enters_of func38 rfl (by kernel_rfl)
theorem q8p:ArrOk prog 75 3 2:=zh5 (e:=74) underlying75 (fun w=>by kernel_rfl)
theorem zlk:FieldOk prog 74 1 1:=by
 obtain⟨i,hi,a⟩: ∃ i,prog.info? 43=some i∧i.size=1:=wy (by kernel_rfl);exact ru underlying74 rfl rfl hi (by rw [a];rfl)
theorem zym: ∀ w,(isAgg 43).run prog w= .ok false w:=fun w=>by kernel_rfl
theorem qa9: ∀ w,∃ z,(zeroValue 77).run prog w= .ok z w∧z.cells=([.slice none 0 0]:List Value).toArray:=fun w=>⟨vs0,by kernel_rfl,rfl⟩
theorem q9i: ∀ w,(sizeOf 77).run prog w= .ok 1 w:=fun w=>by kernel_rfl
theorem q71: ∀ w,∃ z,(zeroValue 123).run prog w= .ok z w∧z.cells=([.nilFunc]:List Value).toArray:=fun w=>⟨.nilFunc,by kernel_rfl,rfl⟩
theorem q7c: ∀ w,(sizeOf 123).run prog w= .ok 1 w:=fun w=>by kernel_rfl
theorem q4e: ∀ w,(isAgg 123).run prog w= .ok false w:=fun w=>by kernel_rfl
theorem q58: ∀ w,(isAgg 77).run prog w= .ok false w:=fun w=>by kernel_rfl
theorem q76:Enters prog 83:=enters_of func83 rfl (by kernel_rfl)
theorem zaz{N:Nat}(F:Nat): ∀ {R:RH} {s:Int} {a:Nat} {p0_:List Bool} {e:Value} {fM:Frag} (f:ORep yz R fM e p0_) {p1_:Mach} {d:Value} (k:PRep (qz false false) R d p1_) {b:Nat} {r:List Bool} (c:ma N F s p0_ p1_=some r),CallG prog 83 #[(vi s),(.pointer (some ⟨a,0,none⟩)),d,(.pointer (some ⟨b,0,none⟩))] R [box a [e] 77,fM,box b [.func (.func 83) #[] #[(.pointer (some ⟨a,0,none⟩)),d,(.pointer (some ⟨b,0,none⟩))]] 123] (fun v R' O'=> ∃ l m,v= .tuple #[]∧O'=[box a [l] 77,m,box b [.func (.func 83) #[] #[(.pointer (some ⟨a,0,none⟩)),d,(.pointer (some ⟨b,0,none⟩))]] 123]∧ORep yz R' m l r):=by
  induction F with
  |zero=>intros;rename_i c;exact j4 c
  |succ F ih=>
    intro R s a p0_ e fM f p1_ d k b r c
    refine z3l (args:=[(vi s),(.pointer (some ⟨a,0,none⟩)),d,(.pointer (some ⟨b,0,none⟩))]) func83 rfl rfl fun A=>?_
    rw [ma] at c
    refine q8 ?_
    refine q8 ?_
    refine zz ?_
    refine ji (v:=(vi s)) rfl (zb rfl) ?_
    refine ji rfl (x9 rfl rfl) ?_
    refine ji (v:=(.bool (decide (s=(-1))))) rfl (zb rfl) ?_
    refine j5 rfl rfl rfl rfl (fun o=>qx (v:=e) (qi (i:=0) q58 rfl rfl rfl)) fun v7 h8=>?_
    refine j5 rfl rfl rfl rfl (fun o=>qx (v:=(vi s)) (zb rfl)) fun v9 G=>?_
    obtain⟨q,c⟩:=ze c
    refine j5 rfl rfl rfl rfl (fun o=>zaf (i:=s.toNat) zdw (h8.1 (zo rfl o)) f (zl (G.1 (zo rfl o)) (q (zo rfl o)).1) (qb (q (zo rfl o)))) fun ae H=>?_
    refine j5 rfl rfl rfl rfl (fun o=>qx (zh6 (zh3 (i:=s.toNat) (j:=1) ty4 f rfl rfl (H.1 (zo rfl o)) (qb (q (zo rfl o)))))) fun af I=>?_
    refine ji rfl (sw rfl rfl (fun hb=>(I.1 (zo rfl hb)))) ?_
    refine z8 ?_
    refine zw rfl c (fun c=>?_) (fun c=>?_)
    · refine qp ?_
      obtain rfl:=Option.some.inj c
      refine z1u (D:=[]) (J:=[]) (O':=[box a [e] 77,fM,box b [(.func (.func 83) #[] #[(.pointer (some ⟨a,0,none⟩)),d,(.pointer (some ⟨b,0,none⟩))])] 123]) (rs:=[]) (vs:=[]) (RH.le.refl _) ((pk 0 rfl (pk 0 rfl (pk 0 rfl (List.Perm.refl _))))) rfl trivial ?_
      exact⟨e,fM,rfl,rfl,f⟩
    · refine qa ?_
      refine q8 ?_
      refine zz ?_
      refine zq (qi (i:=0) q58 rfl rfl rfl) ?_
      refine zh (vi s) ?_
      obtain⟨t,c⟩:=ze c
      refine lm (i:=s.toNat) rfl zdw rfl f (zl rfl t.1) (qb t) fun ah K=>?_
      refine z3n (i:=s.toNat) (j:=1) ty4 f rfl rfl K (qb t) rfl (ll.2 rfl) fun L M=>?_
      refine z8 ?_
      refine q8 ?_
      refine zz ?_
      refine jo rfl uf u6 rfl k fun ai O=>?_
      refine qh rfl z1g rfl O fun aj P=>?_
      refine zh (vi s) ?_
      obtain⟨x,c⟩:=ze c
      refine kw (i:=s.toNat) rfl z5u rfl (ja P) (zl rfl x.1) (qb x) fun ak Q=>?_
      refine qh rfl z5t rfl Q fun al y=>?_
      refine zq (qj rfl underlying56 rfl (ja y)) ?_
      refine zh (vi 0) ?_
      refine z8 ?_
      refine zy ?_
      refine jg (γ:=Nat×Int×(List Bool)×Value×Frag) (rs [6,7,24,33]) (fun g=>[(24,(vi g.2.1))]) (fun g=>[box b [(.func (.func 83) #[] #[(.pointer (some ⟨a,0,none⟩)),d,(.pointer (some ⟨b,0,none⟩))])] 123,box a [g.2.2.2.1] 77,g.2.2.2.2]++A) (fun g R=>om N (ma N F) s p1_ g.1 g.2.1 g.2.2.1=some r∧ORep yz R g.2.2.2.2 g.2.2.2.1 g.2.2.1∧True) (fun g=>g.1) (N,0,(up p0_ s true),e,L) ⟨[],(pk 2 rfl (pk 0 rfl (pk 0 rfl (List.Perm.refl _))))⟩ ⟨c,M,trivial⟩ ?_
      clear c
      rintro⟨p,h,S,u,w⟩ am an n ⟨c,z,_⟩
      rcases p with _|p
      · exact j4 c
      replace c:om N (ma N F) s p1_ (p+1) h S=some r:=c;rw [om] at c
      refine q8 ?_
      refine zz ?_
      refine zq (jc rfl rfl) ?_
      refine z8 ?_
      refine q8 ?_
      refine zw rfl c (fun c=>?_) (fun c=>?_)
      · refine qa ?_
        refine q8 ?_
        refine zy ?_
        refine q8 ?_
        refine zz ?_
        obtain⟨B,c⟩:=ze c
        refine kw (i:=h.toNat) rfl z7u rfl (ja (y.mono n)) (zl rfl B.1) (qb B) fun ao T=>?_
        refine qh rfl za1 rfl T fun ap U=>?_
        obtain rfl:=df.1 U
        refine kv rfl za8 fun C=>?_
        refine jd (i:=0) (vs:=[(vi ((ix (ix p1_.rows s) h).to)),(vi ((ix (ix p1_.rows s) h).out))]) z6s rfl rfl rfl rfl rfl rfl (zu rfl (zu rfl jh)) ?_
        refine z8 ?_
        refine zz ?_
        refine zq (qi (i:=1) q4e rfl rfl rfl) ?_
        refine zq (qd l5 rfl) ?_
        refine zq (qi (i:=0) ag3 rfl rfl rfl) ?_
        obtain⟨V,W,c⟩:=zm c
        refine z9f (Oc:=[box a [u] 77,w,box b [(.func (.func 83) #[] #[(.pointer (some ⟨a,0,none⟩)),d,(.pointer (some ⟨b,0,none⟩))])] 123]) (Or:=[box C [(vi ((ix (ix p1_.rows s) h).to)),(vi ((ix (ix p1_.rows s) h).out))] 62]++A) (cs:=[(.pointer (some ⟨a,0,none⟩)),d,(.pointer (some ⟨b,0,none⟩))]) (vs:=[(vi ((ix (ix p1_.rows s) h).to))]) rfl q76 rfl rfl ((pk 2 rfl (pk 2 rfl (pk 1 rfl (pk 0 rfl (List.Perm.refl _)))))) (ih z (k.mono n) W) fun aq ar ac E X=>?_
        obtain⟨Y,Z,rfl,rfl,aa⟩:=X
        refine z8 ?_
        refine zz ?_
        obtain⟨ab,c⟩:=ze c
        refine zq (jf rfl rfl ab) ?_
        refine zh (vi (h+1)) ?_
        refine z8 ?_
        exact⟨dkt,E,jq,(p,h+1,V,Y,Z),Nat.lt_succ_self _,⟨rfl,trivial⟩,⟨[box C [(vi ((ix (ix p1_.rows s) h).to)),(vi ((ix (ix p1_.rows s) h).out))] 62],(pk 3 rfl (pk 2 rfl (pk 0 rfl (pk 0 rfl (List.Perm.refl _)))))⟩,c,aa,trivial⟩
      · refine jm ?_
        show zft _ _ _ _ _ .ret _ [] _ _
        obtain rfl:=Option.some.inj c
        refine z1u (D:=[]) (J:=[]) (O':=[box a [u] 77,w,box b [(.func (.func 83) #[] #[(.pointer (some ⟨a,0,none⟩)),d,(.pointer (some ⟨b,0,none⟩))])] 123]) (rs:=[]) (vs:=[]) n ((pk 1 rfl (pk 1 rfl (pk 0 rfl (List.Perm.refl _))))) rfl trivial ?_
        exact⟨u,w,rfl,rfl,z⟩
theorem zd6{N:Nat}{R:RH}{s:Int}{a:Nat}{p0_:List Bool}{d:Value}{fM:Frag}(g:ORep yz R fM d p0_){p1_:Mach}{c:Value}(h:PRep (qz false false) R c p1_){b:Nat}{r:List Bool}(i:ma N N s p0_ p1_=some r):CallG prog 83 #[(vi s),(.pointer (some ⟨a,0,none⟩)),c,(.pointer (some ⟨b,0,none⟩))] R [box a [d] 77,fM,box b [.func (.func 83) #[] #[(.pointer (some ⟨a,0,none⟩)),c,(.pointer (some ⟨b,0,none⟩))]] 123] (fun v R' O'=> ∃ e f,v= .tuple #[]∧O'=[box a [e] 77,f,box b [.func (.func 83) #[] #[(.pointer (some ⟨a,0,none⟩)),c,(.pointer (some ⟨b,0,none⟩))]] 123]∧ORep yz R' f e r):=zaz N g h i
theorem zfm{N:Nat}{R:RH}{s:(List Bool)}{c:Value}(h:VRep (tSl false yz) R c s){f:Bool}{r:Int}(b:z4i N s f=some r):CallP prog 101 #[c,(.bool f)] R (fun v R'=>v=(vi r)):=by
 refine qf (args:=[c,(.bool f)]) func101 rfl rfl fun A=>?_;rw [z4i] at b;refine zn (zf (vi 0) (z8 ?_));obtain⟨l,a,b⟩:=zm b;refine j6 (γ:=Unit) (rs [4,19]) (fun g=>[]) (fun g=>[]++A) (fun g R=>l=Ex.go g∧True) ?_ ?_
 refine zn (zh c (zq (qj rfl underlying77 rfl (ja h)) (zh (vi 0) (z8 (zy (jg (γ:=Nat×Int) (rs [4,6,8,19]) (fun g=>[(8,(vi g.2))]) (fun g=>[]++A) (fun g R=>au N s f g.1 g.2=some l∧True) (fun g=>g.1) (N,0) prm ⟨a,trivial⟩ ?_))))));clear a;rintro⟨k,d⟩ q x e ⟨a,_⟩;rcases k with _|k
 exact j4 a;replace a:au N s f (k+1) d=some l:=a;rw [au] at a;refine zn (zq (jc rfl rfl) (z8 (q8 (zw rfl a (fun a=>?_) (fun a=>?_)))));refine qa (q8 (zy (zn (zh (vi d) (zf (vi d) (qw (zh (.bool f) (zh c (zh (vi d) ?_)))))))))
 obtain⟨j,a⟩:=ze a;refine kw (i:=d.toNat) rfl zdw rfl (ja (h.mono e)) (zl rfl j.1) (qb j) fun t m=>?_;refine qh rfl ty4 rfl m fun u n=>?_;obtain rfl:=ll.1 n;refine zq (zrh underlying4 rfl rfl) (z8 (zw rfl a (fun a=>?_) (fun a=>?_)))
 refine zn (zh (vi d) (zf (vi d) (z8 (qp ?_))));replace b:=z1z a b;obtain rfl:=Option.some.inj b;refine q9 (D:=[]) (J:=[]) (rs:=[.tmp 4]) (vs:=[(vi d)]) e rfl rfl ⟨rfl,trivial⟩ ?_;exact⟨rfl,rfl⟩;refine qa (zz ?_);obtain⟨o,a⟩:=ze a
 refine zq (jf rfl rfl o) (zh (vi (d+1)) (z8 ?_));exact⟨dkt,(RH.le.refl _),jq,(k,d+1),Nat.lt_succ_self _,⟨rfl,trivial⟩,prm,a,trivial⟩;refine jm ?_;exact⟨dkt,e,jq,(),trivial,prm,(Option.some.inj a).symm,trivial⟩;rintro y w z p ⟨rfl,_⟩;replace b:=z4v b;refine zn (zf (vi (-1)) (z8 (qp ?_)))
 obtain rfl:=Option.some.inj b;refine q9 (D:=[]) (J:=[]) (rs:=[.tmp 4]) (vs:=[(vi (-1))]) p rfl rfl ⟨rfl,trivial⟩ ?_;exact⟨rfl,rfl⟩
theorem q8f:Enters prog 101:=enters_of func101 rfl (by kernel_rfl)
theorem zda{N:Nat}{R:RH}{s:(List Bool)}{a:Value}(d:VRep (tSl false yz) R a s){c:Bool}{r:Bool}(b:z2k N s c=some r):CallP prog 84 #[a,(.bool c)] R (fun v R'=>v=(.bool r)):=by
 refine qf (args:=[a,(.bool c)]) func84 rfl rfl fun A=>?_;rw [z2k] at b;refine zn (zf (.bool false) (qw (zh a (zh (.bool c) ?_))));obtain⟨f,g,b⟩:=zm b;refine j3 rfl q8f rfl (zfm d g) fun i j e h=>?_;obtain rfl:=h
 refine zq (z3i rfl rfl) (zf (.bool (decide (0≤f))) (z8 (qp ?_)));obtain rfl:=Option.some.inj b;refine q9 (D:=[]) (J:=[]) (rs:=[.tmp 4]) (vs:=[(.bool (decide (0≤f)))]) e rfl rfl ⟨rfl,trivial⟩ ?_;exact⟨rfl,rfl⟩
theorem qa4:Enters prog 84:=enters_of func84 rfl (by kernel_rfl)
theorem zes{N:Nat}{R:RH}{m:Mach}{h:Value}(j:VRep (qz false false) R h m){r:Bool×Int}(a:z3z N m=some r):CallP prog 61 #[h] R (fun v R'=>v= .tuple #[(.bool r.1),(vi r.2)]):=by
 refine qf (args:=[h]) func61 rfl rfl fun A=>?_;rw [z3z] at a;refine zn (ky (T:=(qz false false)) rfl rfl rfl j fun o Z f O L=>?_);refine zf (.bool false) (zf (vi 0) (z8 (q8 (zn (zq (jl z19 rfl rfl O (j.mono f)) ?_)))));obtain⟨p,P,a⟩:=zm a
 refine j3 rfl zie rfl (mi (j.mono f) P) fun v8 Q e S=>?_;obtain rfl:=S;refine zf (vi p) (qw (zh (vi p) (zq (vk rfl rfl) (z8 (zw rfl a (fun a=>?_) (fun a=>?_))))));refine zn (zh (vi p) (zf (.bool false) (zf (vi p) (z8 (qp ?_)))));obtain rfl:=Option.some.inj a
 refine q9 (D:=[]) (J:=[]) (rs:=[.tmp 2,.tmp 3]) (vs:=[(.bool false),(vi p)]) (f.trans e) rfl rfl ⟨rfl,rfl,trivial⟩ ?_;exact⟨rfl,rfl⟩;refine qa (zn (jo rfl uf u6 rfl (L.mono e) fun U w=>?_));refine qh rfl z1g rfl w fun V x=>?_;refine zq (qj rfl underlying28 rfl (ja x)) ?_
 obtain⟨g,a⟩:=ze a;refine z8k (T:=yz) (m:=(↑m.rows.length:Int).toNat) (c:=(↑m.rows.length:Int).toNat) rfl underlying77 zo4 (zl rfl g.1) (zl rfl g.1) (Nat.le_refl _) (zbo g) (zbn g) fun q y z k=>?_;refine kv rfl qa9 fun b=>?_
 refine jd (i:=0) (vs:=[q]) q9i rfl rfl (r9 k) rfl rfl rfl (zu (z01 k) jh) ?_;refine qw (kv rfl q71 fun d=>?_)
 refine qw (zq (z0p (fs:=[]) (cs:=[(.pointer (some ⟨b,0,none⟩)),o,(.pointer (some ⟨d,0,none⟩))]) rfl rfl) (jd (i:=0) (vs:=[(.func (.func 83) #[] #[(.pointer (some ⟨b,0,none⟩)),o,(.pointer (some ⟨d,0,none⟩))])]) q7c rfl rfl rfl rfl rfl rfl (zu rfl jh) ?_));refine qw (zq (qi (i:=0) q4e rfl rfl rfl) ?_)
 obtain⟨B,C,a⟩:=zm a
 refine z9f (Oc:=[box b [q] 77,y,box d [(.func (.func 83) #[] #[(.pointer (some ⟨b,0,none⟩)),o,(.pointer (some ⟨d,0,none⟩))])] 123]) (Or:=[]++A) (cs:=[(.pointer (some ⟨b,0,none⟩)),o,(.pointer (some ⟨d,0,none⟩))]) (vs:=[(vi 0)]) rfl q76 rfl rfl ((pk 1 rfl (pk 1 rfl (pk 0 rfl (List.Perm.refl _))))) (zd6 k (L.mono e) C) fun W X M s E=>?_
 obtain⟨l,F,rfl,rfl,G⟩:=E;refine qw (zq (qi (i:=0) q58 rfl rfl rfl) ?_);obtain⟨n,H,a⟩:=zm a;refine zf5 (cs:=[]) (vs:=[l,(.bool false)]) (φ:=fun v=>v=(.bool n)) rfl qa4 rfl rfl (fun I t u=>zda (z4u ((z2l 1 rfl G t u):VRep (vg yz) I l B)) H) fun Y K=>?_;obtain rfl:=K
 refine zq (ow rfl) (zf (.bool (!n)) (zf (vi 0) (z8 (qp ?_))));obtain rfl:=Option.some.inj a
 refine q9 (D:=[]) (J:=[box b [l] 77,F,box d [(.func (.func 83) #[] #[(.pointer (some ⟨b,0,none⟩)),o,(.pointer (some ⟨d,0,none⟩))])] 123]) (rs:=[.tmp 2,.tmp 3]) (vs:=[(.bool (!n)),(vi 0)]) ((f.trans e).trans s) rfl rfl ⟨rfl,rfl,trivial⟩ ?_;exact⟨rfl,rfl⟩
theorem q9n:Enters prog 61:=enters_of func61 rfl (by kernel_rfl)
theorem za5{N:Nat}{R:RH}{p0_:Mach}{a:Value}(c:PRep (qz false false) R a p0_){r:Bool}(b:z2m N p0_=some r):CallP prog 60 #[a] R (fun v R'=>v=(.bool r)):=by
 refine qf (args:=[a]) func60 rfl rfl fun A=>?_;rw [z2m] at b;refine zn (zf (.bool false) (qw (qh rfl z19 rfl c fun i f=>?_)));obtain⟨d,g,b⟩:=zm b;refine j3 rfl q9n rfl (zes f g) fun j k e h=>?_;obtain rfl:=h
 refine zh (.tuple #[(.bool d.1),(vi d.2)]) (zq (qm rfl rfl) (zq (qm rfl rfl) (zf (.bool d.1) (zf (vi d.2) (qw (zh (.bool d.1) (zf (.bool d.1) (z8 (qp ?_)))))))));obtain rfl:=Option.some.inj b;refine q9 (D:=[]) (J:=[]) (rs:=[.tmp 1]) (vs:=[(.bool d.1)]) e rfl rfl ⟨rfl,trivial⟩ ?_;exact⟨rfl,rfl⟩
theorem q7j:Enters prog 60:=enters_of func60 rfl (by kernel_rfl)
theorem zi4{N:Nat}{R:RH}{x:(List Int)}{d:Value}(h:VRep (tSl false (qc .i64)) R d x){r:Int}(b:slices_Max_int N x=some r):CallP prog 63 #[d] R (fun v R'=>v=(vi r)):=by
 refine qf (args:=[d]) func63 rfl rfl fun A=>?_;rw [slices_Max_int] at b;refine zn (zf (vi 0) (z8 (q8 (zn (zh d (zq (qj rfl underlying32 rfl (ja h)) (zq (jc rfl rfl) (z8 (zw rfl b (fun b=>?_) (fun b=>?_))))))))));exact j4 b;refine qa (zn (zh d ?_));obtain⟨q,b⟩:=ze b
 refine kw (i:=(0:Int).toNat) rfl z02 rfl (ja h) (zl rfl q.1) (qb q) fun C s=>?_;refine qh rfl ty3 rfl s fun E t=>?_;obtain rfl:=jb.1 t;refine zf (vi (ix x 0)) (z8 ?_);obtain⟨k,a,b⟩:=zm b
 refine j6 (γ:=Int) (rs [3,5,12,24]) (fun g=>[(3,(vi g))]) (fun g=>[]++A) (fun g R=>k=g∧True) ?_ ?_
 refine zn (zf (vi 1) (z8 (zy (jg (γ:=Nat×Int×Int) (rs [3,5,12,24]) (fun g=>[(3,(vi g.2.1)),(4,(vi g.2.2))]) (fun g=>[]++A) (fun g R=>z04 N x g.1 g.2.1 g.2.2=some k∧True) (fun g=>g.1) (N,(ix x 0),1) prm ⟨a,trivial⟩ ?_))));clear a;rintro⟨j,e,c⟩ u w f ⟨a,_⟩;rcases j with _|j
 exact j4 a;replace a:z04 N x (j+1) e c=some k:=a;rw [z04] at a;refine q8 (zn (zh (vi c) (zh d (zq (qj rfl underlying32 rfl (ja (h.mono f))) (zq (jc rfl rfl) (z8 (zw rfl a (fun a=>?_) (fun a=>?_))))))))
 refine qa (q8 (zy (zz (zh (vi e) (zh d (zh (vi c) ?_))))));obtain⟨l,a⟩:=ze a;refine kw (i:=c.toNat) rfl z02 rfl (ja (h.mono f)) (zl rfl l.1) (qb l) fun y m=>?_;refine qh rfl ty3 rfl m fun z n=>?_;obtain rfl:=jb.1 n
 refine zq (zs1 rfl underlying3 rfl rfl) (zf (vi (max e (ix x c))) (z8 (zz (zh (vi c) ?_))));obtain⟨o,a⟩:=ze a;refine zq (jf rfl rfl o) (zf (vi (c+1)) (z8 ?_));exact⟨dkt,(RH.le.refl _),jq,(j,max e (ix x c),c+1),Nat.lt_succ_self _,⟨rfl,rfl,trivial⟩,prm,a,trivial⟩;refine jm ?_
 exact⟨dkt,f,jq,e,⟨rfl,trivial⟩,prm,(Option.some.inj a).symm,trivial⟩;rintro k B F p ⟨rfl,_⟩;refine zn (zh (vi k) (zf (vi k) (z8 (qp ?_))));obtain rfl:=Option.some.inj b;refine q9 (D:=[]) (J:=[]) (rs:=[.tmp 2]) (vs:=[(vi k)]) p rfl rfl ⟨rfl,trivial⟩ ?_;exact⟨rfl,rfl⟩
theorem q9a:Enters prog 63:=enters_of func63 rfl (by kernel_rfl)
theorem za4{N:Nat}{R:RH}{p0_:Mach}{b:Value}(d:PRep (qz false false) R b p0_){r:Bool}(a:z2s N p0_=some r):CallP prog 62 #[b] R (fun v R'=>v=(.bool r)):=by
 refine qf (args:=[b]) func62 rfl rfl fun A=>?_;rw [z2s] at a;refine zn (zf (.bool false) (qw (qh rfl z19 rfl d fun s m=>?_)));obtain⟨e,n,a⟩:=zm a;refine j3 rfl q6w rfl (zbq m n) fun t u i o=>?_;obtain⟨h,rfl,f⟩:=o
 refine zh (.tuple #[h,(vi e.2.1),(vi e.2.2)]) (zq (qm rfl rfl) (zq (qm rfl rfl) (zq (qm rfl rfl) (zf h (zf (vi e.2.1) (zf (vi e.2.2) (qw (zh h ?_))))))));obtain⟨g,j,a⟩:=zm a;refine j3 rfl q9a rfl (zi4 f j) fun p q c k=>?_;obtain rfl:=k
 refine zh h (zq (qj rfl underlying32 rfl (ja (f.mono c))) ?_);obtain⟨l,a⟩:=ze a;refine zq (zgx rfl rfl l) (zq (x9 rfl rfl) (zf (.bool (decide (g=((↑e.1.length:Int)-1)))) (z8 (qp ?_))));obtain rfl:=Option.some.inj a
 refine q9 (D:=[]) (J:=[]) (rs:=[.tmp 1]) (vs:=[(.bool (decide (g=((↑e.1.length:Int)-1))))]) (i.trans c) rfl rfl ⟨rfl,trivial⟩ ?_;exact⟨rfl,rfl⟩
theorem q72:Enters prog 62:=enters_of func62 rfl (by kernel_rfl)
theorem z1n{N:Nat}{R:RH}{m:Mach}{l:Value}(d:VRep (qz false false) R l m){r:Bool×Int}(a:xy N m=some r):CallP prog 16 #[l] R (fun v R'=>v= .tuple #[(.bool r.1),(vi r.2)]):=by
 refine qf (args:=[l]) func16 rfl rfl fun A=>?_;rw [xy] at a;refine zn (ky (T:=(qz false false)) rfl rfl rfl d fun v1 R3 c M h2=>?_);refine zf (.bool false) (zf (vi 0) (z8 (q8 (zn (zq (jl z19 rfl rfl M (d.mono c)) ?_)))));obtain⟨q,O,a⟩:=zm a
 refine j3 rfl zie rfl (mi (d.mono c) O) fun v8 P b Q=>?_;obtain rfl:=Q;refine zf (vi q) (qw (zh (vi q) (zq (vk rfl rfl) (z8 (zw rfl a (fun a=>?_) (fun a=>?_))))));refine zn (zh (vi q) (zf (.bool false) (zf (vi q) (z8 (qp ?_)))));obtain rfl:=Option.some.inj a
 refine q9 (D:=[]) (J:=[]) (rs:=[.tmp 2,.tmp 3]) (vs:=[(.bool false),(vi q)]) (c.trans b) rfl rfl ⟨rfl,rfl,trivial⟩ ?_;exact⟨rfl,rfl⟩;refine qa (zn (zq (jl z19 rfl rfl (M.mono b) (d.mono (c.trans b))) ?_));obtain⟨S,w,a⟩:=zm a
 refine j3 rfl q7o rfl (zbp (d.mono (c.trans b)) w) fun U V s x=>?_;obtain⟨t,g,j,rfl,W,y,z⟩:=x;refine kv rfl q75 fun e=>?_
 refine jd (i:=0) (vs:=[(vi 9),(.func (.func 58) #[] #[t]),(vi 11),(.func (.func 60) #[] #[g]),(vi 12),(.func (.func 62) #[] #[j])]) q5t rfl rfl rfl rfl rfl rfl (zu rfl (zu rfl (zu rfl (zu rfl (zu rfl (zu rfl jh)))))) ?_
 refine qw (ji (v:=(.pointer (some ⟨e,2,none⟩))) rfl (z7j (i:=1) q8p rfl rfl (by decide)) (ji (v:=(.pointer (some ⟨e,3,none⟩))) rfl (qd zlk rfl) (ji (v:=(.func (.func 60) #[] #[g])) rfl (qi (i:=0) zym rfl rfl rfl) ?_)));obtain⟨f,B,a⟩:=zm a
 refine z6c (φ:=phX (.bool f)) rfl (zqr (cs:=[g]) (vs:=[]) q7j rfl rfl (za5 y B) (fun _ _ h=>h)) fun X Y k C=>?_;obtain rfl:=Eq.symm C;refine ji (v:=(.bool f)) rfl (zb rfl) (j5 rfl rfl rfl rfl (fun n=>qx (v:=(.pointer (some ⟨e,4,none⟩))) (z7j (i:=2) q8p rfl rfl (by decide))) fun Z E=>?_)
 refine j5 rfl rfl rfl rfl (fun n=>qx (v:=(.pointer (some ⟨e,5,none⟩))) (qd zlk (E.1 (zo rfl n)))) fun aa F=>?_;refine j5 rfl rfl rfl rfl (fun n=>qx (v:=(.func (.func 62) #[] #[j])) (qi (i:=0) zym (F.1 (zo rfl n)) rfl rfl)) fun ab G=>?_;obtain⟨o,H,a⟩:=zm a
 refine z5a rfl rfl rfl rfl (fun n=>zqr (cs:=[j]) (vs:=[]) q72 (G.1 (zo rfl n)) rfl ((by have I:=(mq H (zo rfl n));exact za4 (z.mono k) I)) (fun _ _ h=>h)) fun K L u p=>?_;replace p:phG (true&&(f==true)) (phX (.bool (o.getD default))) K L:=p
 refine ji rfl (uk rfl (fun hb=>(p.1 (zo rfl hb))) rfl) (ji (v:=(.bool (f&&(o.getD default)))) rfl (ni rfl) (ji (v:=(vi 0)) rfl (ni rfl) (z8 (qp ?_))));obtain rfl:=Option.some.inj a
 refine q9 (D:=[]) (J:=[box e [(vi 9),(.func (.func 58) #[] #[t]),(vi 11),(.func (.func 60) #[] #[g]),(vi 12),(.func (.func 62) #[] #[j])] 75]) (rs:=[.tmp 2,.tmp 3]) (vs:=[(.bool (f&&(o.getD default))),(vi 0)]) ((((c.trans b).trans s).trans k).trans u) rfl rfl ⟨rfl,rfl,trivial⟩ ?_;exact⟨rfl,rfl⟩
theorem q0y:Enters prog 16:=enters_of func16 rfl (by kernel_rfl)
theorem wm{N:Nat}{R:RH}{a:Int}{out:Int}{r:Edge}(b:w9 N a out=some r):CallP prog 29 #[(vi a),(vi out)] R (fun v R'=>v=(ut r)):=by
 refine qf (args:=[(vi a),(vi out)]) func29 rfl rfl fun A=>?_;rw [w9] at b;refine zn (kv rfl za8 fun c=>?_)
 refine qw (zh (vi a) (zh (vi out) (zq (yt (ps:=[(0,(vi a)),(1,(vi out))]) (v:=(.agg #[(vi a),(vi out)])) rfl (fun w=>by kernel_rfl)) (jd (i:=0) (vs:=[(vi a),(vi out)]) z6s rfl rfl rfl rfl rfl rfl (zu rfl (zu rfl jh)) ?_))));refine z8 (qp ?_)
 obtain rfl:=Option.some.inj b;refine q9 (D:=[]) (J:=[box c [(vi a),(vi out)] 62]) (rs:=[.cell 4 62]) (vs:=[(.agg #[(vi a),(vi out)])]) (RH.le.refl _) rfl rfl ⟨⟨_,rfl,fun w d=>z05 (i:=0) d rfl rfl zkt z6s rfl rfl⟩,trivial⟩ ?_;exact⟨rfl,rfl⟩
theorem zfx:Enters prog 29:=enters_of func29 rfl (by kernel_rfl)
theorem z9v{N:Nat}{R:RH}{m:Mach}{d:Value}(e:VRep (qz false false) R d m){r:(List Int)×Int}(b:z1a N m=some r):CallP prog 18 #[d] R (fun v R'=> ∃ p,v= .tuple #[p,(vi r.2)]∧VRep (tSl true (qc .i64)) R' p r.1):=by
 refine qf (args:=[d]) func18 rfl rfl fun A=>?_;rw [z1a] at b;refine zn (ky (T:=(qz false false)) rfl rfl rfl e fun w x f q y=>?_);refine zf vs0 (zf (vi 0) (qw (zq (jl z19 rfl rfl q (e.mono f)) ?_)));obtain⟨c,s,b⟩:=zm b
 refine j3 rfl q7g rfl (zck (e.mono f) s) fun z t g u=>?_;obtain⟨j,a,rfl,k,l⟩:=u;refine zh (.tuple #[j,a,(vi c.2.2)]) (zq (qm rfl rfl) (zq (qm rfl rfl) (zq (qm rfl rfl) (kv rfl z5j fun n=>?_))));obtain⟨h,rfl,o⟩:=oz k
 refine jd (i:=0) (vs:=[(vi c.1.inputs),(vi c.1.outputs),h]) yh rfl rfl rfl rfl rfl rfl (zu rfl (zu rfl (zu (z2g o) jh))) ?_;refine zf a (zf (vi c.2.2) (qw (zh a (zh (vi c.2.2) (zf a (zf (vi c.2.2) (z8 (qp ?_))))))));obtain rfl:=Option.some.inj b
 refine q9 (D:=[]) (J:=[box n [(vi c.1.inputs),(vi c.1.outputs),h] 30]) (rs:=[.tmp 2,.tmp 3]) (vs:=[a,(vi c.2.2)]) (f.trans g) rfl rfl ⟨rfl,rfl,trivial⟩ ?_;exact⟨rfl,⟨a,rfl,l⟩⟩
theorem q5g:Enters prog 18:=enters_of func18 rfl (by kernel_rfl)
theorem zdj{N:Nat}{R:RH}{s:(List Int)}{c:Value}(k:VRep (tSl false (qc .i64)) R c s){f:Int→Option Bool}{e:Value}(n:FOk1 prog R e (qc .i64) yz f){r:Int}(b:z2h N s f=some r):CallP prog 64 #[c,e] R (fun v R'=>v=(vi r)):=by
 refine qf (args:=[c,e]) func64 rfl rfl fun A=>?_;rw [z2h] at b;refine zn (zf (vi 0) (z8 ?_));obtain⟨o,a,b⟩:=zm b;refine j6 (γ:=Unit) (rs [4,19]) (fun g=>[]) (fun g=>[]++A) (fun g R=>o=Ex.go g∧True) ?_ ?_
 refine zn (zh c (zq (qj rfl underlying32 rfl (ja k)) (zh (vi 0) (z8 (zy (jg (γ:=Nat×Int) (rs [4,6,8,19]) (fun g=>[(8,(vi g.2))]) (fun g=>[]++A) (fun g R=>dh N s f g.1 g.2=some o∧True) (fun g=>g.1) (N,0) prm ⟨a,trivial⟩ ?_))))));clear a;rintro⟨m,d⟩ y H h ⟨a,_⟩;rcases m with _|m
 exact j4 a;replace a:dh N s f (m+1) d=some o:=a;rw [dh] at a;refine zn (zq (jc rfl rfl) (z8 (q8 (zw rfl a (fun a=>?_) (fun a=>?_)))));refine qa (q8 (zy (zn (zh (vi d) (zf (vi d) (qw (zh e (zh c (zh (vi d) ?_)))))))))
 obtain⟨l,a⟩:=ze a;refine kw (i:=d.toNat) rfl z02 rfl (ja (k.mono h)) (zl rfl l.1) (qb l) fun z p=>?_;refine qh rfl ty3 rfl p fun B q=>?_;obtain rfl:=jb.1 q;obtain⟨C,t,a⟩:=zm a;refine zkn rfl rfl rfl ((n.mono h) _ (RH.le.refl _) (ix s d) _ _ (jb.2 rfl) t) fun E F j u=>?_
 obtain rfl:=ll.1 u;refine z8 (zw rfl a (fun a=>?_) (fun a=>?_));refine zn (zh (vi d) (zf (vi d) (z8 (qp ?_))));replace b:=z1z a b;obtain rfl:=Option.some.inj b;refine q9 (D:=[]) (J:=[]) (rs:=[.tmp 4]) (vs:=[(vi d)]) (h.trans j) rfl rfl ⟨rfl,trivial⟩ ?_;exact⟨rfl,rfl⟩
 refine qa (zz ?_);obtain⟨w,a⟩:=ze a;refine zq (jf rfl rfl w) (zh (vi (d+1)) (z8 ?_));exact⟨dkt,j,jq,(m,d+1),Nat.lt_succ_self _,⟨rfl,trivial⟩,prm,a,trivial⟩;refine jm ?_;exact⟨dkt,h,jq,(),trivial,prm,(Option.some.inj a).symm,trivial⟩;rintro I G K x ⟨rfl,_⟩;replace b:=z4v b
 refine zn (zf (vi (-1)) (z8 (qp ?_)));obtain rfl:=Option.some.inj b;refine q9 (D:=[]) (J:=[]) (rs:=[.tmp 4]) (vs:=[(vi (-1))]) x rfl rfl ⟨rfl,trivial⟩ ?_;exact⟨rfl,rfl⟩
theorem q8z:Enters prog 64:=enters_of func64 rfl (by kernel_rfl)
theorem zbb{N:Nat}{R:RH}{s:(List Int)}{a:Value}(d:VRep (tSl false (qc .i64)) R a s){f:Int→Option Bool}{b:Value}(e:FOk1 prog R b (qc .i64) yz f){r:Bool}(c:z14 N s f=some r):CallP prog 41 #[a,b] R (fun v R'=>v=(.bool r)):=by
 refine qf (args:=[a,b]) func41 rfl rfl fun A=>?_;rw [z14] at c;refine zn (zf (.bool false) (qw (zh a (zh b ?_))));obtain⟨h,i,c⟩:=zm c;refine j3 rfl q8z rfl (zdj d e i) fun k l g j=>?_;obtain rfl:=j
 refine zq (z3i rfl rfl) (zf (.bool (decide (0≤h))) (z8 (qp ?_)));obtain rfl:=Option.some.inj c;refine q9 (D:=[]) (J:=[]) (rs:=[.tmp 4]) (vs:=[(.bool (decide (0≤h)))]) g rfl rfl ⟨rfl,trivial⟩ ?_;exact⟨rfl,rfl⟩
theorem q9o:Enters prog 41:=enters_of func41 rfl (by kernel_rfl)
theorem zbe{N:Nat}{R:RH}{t:Int}{p0_:Mach}{a:Value}(c:PRep (qz false false) R a p0_){r:Bool}(d:z5e N t p0_=some r):CallP prog 42 #[(vi t),a] R (fun v R'=>v=(.bool r)):=by
 refine qf (args:=[(vi t),a]) func42 rfl rfl fun A=>?_;rw [z5e] at d;refine zn (zf (.bool false) (qw (ji (v:=(vi t)) rfl (zb rfl) (ji rfl (jc rfl rfl) (ji (v:=(.bool (decide (t<0)))) rfl (zb rfl) (j5 rfl rfl rfl rfl (fun b=>qx (v:=(vi t)) (zb rfl)) fun n i=>?_))))))
 refine j5 rfl rfl rfl rfl (fun b=>ww uf u6 rfl c) fun o e=>?_;refine j5 rfl rfl rfl rfl (fun b=>jv z1g rfl (e.1 (zo rfl b))) fun j f=>?_;refine j5 rfl rfl rfl rfl (fun b=>qx (qj rfl underlying28 rfl (ja (f.1 (zo rfl b))))) fun k g=>?_
 refine j5 rfl rfl rfl rfl (fun b=>qx (z3i (i.1 (zo rfl b)) (g.1 (zo rfl b)))) fun l h=>?_;refine ji rfl (sw rfl rfl (fun m=>(h.1 (zo rfl m)))) (ji (v:=(.bool ((decide (t<0))||(decide ((↑p0_.rows.length:Int)≤t))))) rfl (ni rfl) (z8 (qp ?_)));obtain rfl:=Option.some.inj d
 refine q9 (D:=[]) (J:=[]) (rs:=[.tmp 3]) (vs:=[(.bool ((decide (t<0))||(decide ((↑p0_.rows.length:Int)≤t))))]) (RH.le.refl _) rfl rfl ⟨rfl,trivial⟩ ?_;exact⟨rfl,rfl⟩
theorem q98:Enters prog 42:=enters_of func42 rfl (by kernel_rfl)
theorem z07{N:Nat}{R:RH}{a:Mach}{K:Value}(ac:VRep (qz false false) R K a){b:Mach}{L:Value}(ad:VRep (qz false false) R L b){f:(List Int)}{C:Value}(Q:VRep (tSl false (qc .i64)) R C f){r:Bool×Int}(j:uj N a b f=some r):CallP prog 21 #[K,L,C] R (fun v R'=>v= .tuple #[(.bool r.1),(vi r.2)]):=by
 refine qf (args:=[K,L,C]) func21 rfl rfl fun A=>?_;rw [uj] at j;refine zn (ky (T:=(qz false false)) rfl rfl rfl ac fun v1 R3 s h5 h2=>?_);refine ky (T:=(qz false false)) rfl rfl rfl (ad.mono s) fun v6 R8 p aB h7=>?_;refine zf (.bool false) (zf (vi 0) (z8 (q8 (q8 ?_))))
 obtain⟨M,aD,j⟩:=zm j;obtain⟨O,aE,j⟩:=zm j;obtain⟨P,aF,j⟩:=zm j
 refine dn 7 [] [phX K,phX (vi M),phX L,phX (vi O),phR (tSl true (qc .i64)) ([M,O]:List Int),phX (vi P),phX (vi P)] mixed (by kernel_rfl) (yl ⟨zi,zi,zi,zi,bz,zi,zi,trivial⟩) ⟨?_,?_,?_,?_,?_,?_,?_,trivial⟩ fun bZ m=>?_;intro l aG k t hd
 exact za rfl rfl rfl (zt (jl z19 rfl (t 3 rfl) ((h5.mono p).mono k) ((ac.mono (s.trans p)).mono k)));rintro l aH k t ⟨o,_⟩;have aI:l 14=K:=o rfl;exact za rfl rfl rfl (jy (vs:=[K]) zie (by simp only [List.map,ev,aI]<;>rfl) (mi ((ac.mono (s.trans p)).mono k) aD) (fun _ _ h=>h));intro l aJ k t hd
 exact za rfl rfl rfl (zt (jl z19 rfl (t 4 rfl) (aB.mono k) ((ad.mono (s.trans p)).mono k)));rintro l aK k t ⟨o,x,_⟩;have aL:l 16=L:=o rfl;exact za rfl rfl rfl (jy (vs:=[L]) zie (by simp only [List.map,ev,aL]<;>rfl) (mi ((ad.mono (s.trans p)).mono k) aE) (fun _ _ h=>h));rintro l aM k t ⟨o,x,_⟩
 have aN:l 15=(vi M):=o rfl;have aO:l 17=(vi O):=x rfl
 exact za rfl rfl rfl (z6y (T:=(qc .i64)) (X:=([M,O]:List Int)) (ps:=[(0,(vi M)),(1,(vi O))]) (css:=[[(vi M)],[(vi O)]]) underlying97 q8i (by simp only [List.map,ev,aN,aO]<;>rfl) rfl (uh ⟨rfl,rfl,trivial⟩) rfl rfl (by decide));rintro l aP k t ⟨o,x,_⟩
 exact za rfl rfl rfl (jy (vs:=[(l 18)]) q7s rfl (zb1 (Sub.v (B:=(tSl false (qc .i64))) (ku Sub.refl (fun _=>rfl)) (o rfl)) aF) (fun _ _ h=>h));rintro l aQ k t ⟨o,x,Y,d3,d4,d5,d6,d7,_⟩;exact za rfl rfl rfl (zt (ni (o rfl)));intro b0 aR b1 aS b2 aT b3 aU b4 b5 b6 aV b7 aW;obtain rfl:=Eq.symm aR
 obtain rfl:=Eq.symm aS;obtain rfl:=Eq.symm aT;obtain rfl:=Eq.symm aU;obtain rfl:=Eq.symm aV;obtain rfl:=Eq.symm aW;refine qw (zh (vi P) (zq (vk rfl rfl) (z8 (zw rfl j (fun j=>?_) (fun j=>?_)))));refine zn (zh (vi P) (zf (.bool false) (zf (vi P) (z8 (qp ?_)))));obtain rfl:=Option.some.inj j
 refine q9 (D:=[]) (J:=[]) (rs:=[.tmp 6,.tmp 7]) (vs:=[(.bool false),(vi P)]) ((s.trans p).trans m) rfl rfl ⟨rfl,rfl,trivial⟩ ?_;exact⟨rfl,rfl⟩;refine qa (q8 (zy (zn (jo rfl av lw rfl (h2.mono (p.trans m)) fun b8 aX=>?_))));refine qh rfl ty3 rfl aX fun b9 aY=>?_;obtain rfl:=jb.1 aY
 refine jo rfl av lw rfl (h7.mono m) fun ca aZ=>?_;refine qh rfl ty3 rfl aZ fun cb a0=>?_;obtain rfl:=jb.1 a0;refine zq (vk rfl rfl) (zf (.bool (decide (a.inputs≠b.inputs))) (z8 (zw rfl j (fun j=>?_) (fun j=>?_))));refine zn (zf (.bool false) (zf (vi 5) (z8 (qp ?_))));obtain rfl:=Option.some.inj j
 refine q9 (D:=[]) (J:=[]) (rs:=[.tmp 6,.tmp 7]) (vs:=[(.bool false),(vi 5)]) ((s.trans p).trans m) rfl rfl ⟨rfl,rfl,trivial⟩ ?_;exact⟨rfl,rfl⟩;refine zn (zh C (zq (qj rfl underlying32 rfl (ja (Q.mono ((s.trans p).trans m)))) (jo rfl uf u6 rfl (h2.mono (p.trans m)) fun cc a1=>?_)))
 refine qh rfl z1g rfl a1 fun cd a2=>?_;refine zq (qj rfl underlying28 rfl (ja a2)) (zq (vk rfl rfl) (zf (.bool (decide ((↑f.length:Int)≠(↑a.rows.length:Int)))) (z8 (zw rfl j (fun j=>?_) (fun j=>?_)))));refine zn (zf (.bool false) (zf (vi 16) (z8 (qp ?_))));obtain rfl:=Option.some.inj j
 refine q9 (D:=[]) (J:=[]) (rs:=[.tmp 6,.tmp 7]) (vs:=[(.bool false),(vi 16)]) ((s.trans p).trans m) rfl rfl ⟨rfl,rfl,trivial⟩ ?_;exact⟨rfl,rfl⟩;refine zn (zh C (zq (z0p (fs:=[]) (cs:=[v6]) rfl rfl) ?_));obtain⟨a3,a4,j⟩:=zm j
 refine j3 rfl q9o rfl (zbb (Q.mono ((s.trans p).trans m)) (zun (cs:=[v6]) q98 fun R1 hq z0 u0 y k0 hy=>by obtain rfl:=jb.1 k0;exact CallP.mono (zbe ((h7.mono m).mono hq) hy) fun v R2 _ hv=>ll.2 hv) a4) fun ci cj w a5=>?_;obtain rfl:=a5
 refine zf (.bool a3) (z8 (zw rfl j (fun j=>?_) (fun j=>?_)));refine zn (zf (.bool false) (zf (vi 1) (z8 (qp ?_))));obtain rfl:=Option.some.inj j;refine q9 (D:=[]) (J:=[]) (rs:=[.tmp 6,.tmp 7]) (vs:=[(.bool false),(vi 1)]) (((s.trans p).trans m).trans w) rfl rfl ⟨rfl,rfl,trivial⟩ ?_;exact⟨rfl,rfl⟩
 refine qa (zn (zh C ?_));obtain⟨ag,j⟩:=ze j;refine kw (i:=(0:Int).toNat) rfl z02 rfl (ja (Q.mono (((s.trans p).trans m).trans w))) (zl rfl ag.1) (qb ag) fun ck a6=>?_;refine qh rfl ty3 rfl a6 fun cl a7=>?_;obtain rfl:=jb.1 a7;refine zq (x9 rfl rfl) (zf (.bool (decide ((ix f 0)=0))) (z8 ?_))
 obtain⟨H,q,j⟩:=zm j;refine j6 (γ:=Bool) (rs [9,14,44,86]) (fun g=>[(9,(.bool g))]) (fun g=>[]++A) (fun g R=>H=g∧True) ?_ ?_;refine zn (jo rfl uf u6 rfl (h2.mono ((p.trans m).trans w)) fun cm a8=>?_);refine qh rfl z1g rfl a8 fun cn ah=>?_
 refine zq (qj rfl underlying28 rfl (ja ah)) (zh (vi 0) (z8 (zy (jg (γ:=Nat×Bool×Int) (rs [9,14,47,86]) (fun g=>[(9,(.bool g.2.1)),(47,(vi g.2.2))]) (fun g=>[]++A) (fun g R=>gy N a b f g.1 g.2.1 g.2.2=some H∧True) (fun g=>g.1) (N,decide ((ix f 0)=0),0) prm ⟨q,trivial⟩ ?_))));clear q
 rintro⟨V,ae,c⟩ bf co F ⟨q,_⟩;rcases V with _|V;exact j4 q;replace q:gy N a b f (V+1) ae c=some H:=q;rw [gy] at q;refine zn (zq (jc rfl rfl) (z8 (q8 (zw rfl q (fun q=>?_) (fun q=>?_)))));refine qa ?_;obtain⟨S,n,q⟩:=zm q
 refine j6 (γ:=Bool) (rs [9,14,49,85]) (fun g=>[(9,(.bool g))]) (fun g=>[]++A) (fun g R=>S=g∧True) ?_ ?_;refine zy (zn (zh (vi c) ?_));obtain⟨ai,n⟩:=ze n;refine kw (i:=c.toNat) rfl z5u rfl (ja (ah.mono F)) (zl rfl ai.1) (qb ai) fun cp a9=>?_;refine qh rfl z5t rfl a9 fun aj ak=>?_
 refine zf (vi c) (zf aj (qw (zh aj (zq (qj rfl underlying56 rfl (ja ak)) (zh (vi 0) (z8 (zy (jg (γ:=Nat×Bool×Int) (rs [9,10,12,14,54,85]) (fun g=>[(9,(.bool g.2.1)),(54,(vi g.2.2))]) (fun g=>[]++A) (fun g R=>bi N a b f c g.1 g.2.1 g.2.2=some S∧True) (fun g=>g.1) (N,ae,0) prm ⟨n,trivial⟩ ?_))))))))
 clear n;rintro⟨W,e,d⟩ bg cq G ⟨n,_⟩;rcases W with _|W;exact j4 n;replace n:bi N a b f c (W+1) e d=some S:=n;rw [bi] at n;refine zn (zq (jc rfl rfl) (z8 (q8 (zw rfl n (fun n=>?_) (fun n=>?_)))));refine qa (q8 (zy (zn (zh (vi d) ?_))))
 obtain⟨al,n⟩:=ze n;refine kw (i:=d.toNat) rfl z7u rfl (ja (ak.mono G)) (zl rfl al.1) (qb al) fun cr ba=>?_;refine qh rfl za1 rfl ba fun ct bb=>?_;obtain rfl:=df.1 bb;refine kv rfl za8 fun am=>?_
 refine zf (vi d) (jd (i:=0) (vs:=[(vi ((ix (ix a.rows c) d).to)),(vi ((ix (ix a.rows c) d).out))]) z6s rfl rfl rfl rfl rfl rfl (zu rfl (zu rfl jh)) ?_);refine z8 ?_;obtain⟨z,I,n⟩:=zm n
 refine j6 (γ:=Int) (rs [59,68]) (fun g=>[]) (fun g=>[box am [(vi g),(vi ((ix (ix a.rows c) d).out))] 62]++A) (fun g R=>z=g∧True) ?_ ?_;refine zn (zq (qd l5 rfl) (zq (qi (i:=0) ag3 rfl rfl rfl) (zq (vk rfl rfl) (z8 (zw rfl I (fun I=>?_) (fun I=>?_))))))
 refine zz (zh C (zq (qd l5 rfl) (zq (qi (i:=0) ag3 rfl rfl rfl) ?_)));obtain⟨an,I⟩:=ze I;refine kw (i:=((ix (ix a.rows c) d).to).toNat) rfl z02 rfl (ja (Q.mono (((((s.trans p).trans m).trans w).trans F).trans G))) (zl rfl an.1) (qb an) fun cu ao=>?_
 refine qh rfl ty3 rfl ao fun bh ap=>?_;obtain rfl:=jb.1 ap;refine zq (qd l5 rfl) (jd (i:=0) (vs:=[(vi (ix f ((ix (ix a.rows c) d).to)))]) sz3 rfl rfl rfl rfl rfl rfl (zu rfl jh) ?_);refine z8 ?_;exact⟨dkt,(RH.le.refl _),jq,(ix f ((ix (ix a.rows c) d).to)),trivial,prm,(Option.some.inj I).symm,trivial⟩
 refine qa ?_;exact⟨dkt,(RH.le.refl _),jq,(ix (ix a.rows c) d).to,trivial,prm,(Option.some.inj I).symm,trivial⟩;rintro z bj cv U ⟨rfl,_⟩;obtain⟨Z,aa,ab,n⟩:=zz7 n
 refine dn 16 [] [phX (.bool e),phX (.bool e),phG (true&&(e==true)) (phX (.agg #[(vi z),(vi ((ix (ix a.rows c) d).out))])),phG (true&&(e==true)) (phP (tSl false (tSl false kEdge)) b.rows),phG (true&&(e==true)) (phR (tSl false (tSl false kEdge)) b.rows),phG (true&&(e==true)) (phX C),phG (true&&(e==true)) (phX (vi c)),phG (true&&(e==true)) (phP (qc .i64) (ix f c)),phG (true&&(e==true)) (phX (vi (ix f c))),phG (true&&(e==true)) (phP (tSl false kEdge) (ix b.rows (ix f c))),phG (true&&(e==true)) (phR (tSl false kEdge) (ix b.rows (ix f c))),phG (true&&(e==true)) (phX (vi d)),phG (true&&(e==true)) (phP kEdge (ix (ix b.rows (ix f c)) d)),phG (true&&(e==true)) (phX (ut (ix (ix b.rows (ix f c)) d))),phG (true&&(e==true)) (phX (.bool (decide (z=((ix (ix b.rows (ix f c)) d).to)∧((ix (ix a.rows c) d).out)=((ix (ix b.rows (ix f c)) d).out))))),phX (.bool (e&&(decide (z=((ix (ix b.rows (ix f c)) d).to)∧((ix (ix a.rows c) d).out)=((ix (ix b.rows (ix f c)) d).out)))))] mixed (by kernel_rfl) (yl ⟨zi,zi,(qg zi),(qg xu),(qg bz),(qg zi),(qg zi),(qg xu),(qg zi),(qg xu),(qg bz),(qg zi),(qg xu),(qg zi),(qg zi),zi,trivial⟩) ⟨?_,?_,?_,?_,?_,?_,?_,?_,?_,?_,?_,?_,?_,?_,?_,?_,trivial⟩ fun bk af=>?_
 intro l aG k t hd;exact za rfl rfl rfl (zt (zb (t 9 rfl)));rintro l aH k t ⟨o,_⟩;exact za rfl rfl rfl (zt (zb (o rfl)));rintro l aJ k t ⟨o,_⟩;exact zg (Gj:=true) (Bj:=e) rfl rfl rfl (jk (o rfl)) rfl (fun E u=>zt (ql (i:=0) zkt z6s (t 13 rfl) rfl rfl rfl));rintro l aK k t ⟨o,_⟩
 exact zg (Gj:=true) (Bj:=e) rfl rfl rfl (jk (o rfl)) rfl (fun E u=>z0o uf u6 (t 4 rfl) ((h7.mono ((((m.trans w).trans F).trans G).trans U)).mono k));rintro l aM k t ⟨o,x,_⟩;exact zg (Gj:=true) (Bj:=e) rfl rfl rfl (jk (x rfl)) rfl (fun E u=>ug z1g rfl ((o rfl).1 (zo rfl u)))
 rintro l aP k t ⟨o,_⟩;exact zg (Gj:=true) (Bj:=e) rfl rfl rfl (jk (o rfl)) rfl (fun E u=>zt (zb (t 2 rfl)));rintro l aQ k t ⟨o,_⟩;exact zg (Gj:=true) (Bj:=e) rfl rfl rfl (jk (o rfl)) rfl (fun E u=>zt (zb (t 10 rfl)));rintro l cw k t ⟨o,x,Y,_⟩
 exact zg (Gj:=true) (Bj:=e) rfl rfl rfl (jk (Y rfl)) rfl (fun E u=>yj (i:=c.toNat) z02 (show l 73=C from(o rfl).1 (zo rfl u)) (ja ((Q.mono ((((((s.trans p).trans m).trans w).trans F).trans G).trans U)).mono k)) (zl (show l 74=(vi c) from(x rfl).1 (zo rfl u)) (Z (zo E u)).1) (qb (Z (zo E u))))
 rintro l cx k t ⟨o,x,_⟩;exact zg (Gj:=true) (Bj:=e) rfl rfl rfl (jk (x rfl)) rfl (fun E u=>xc (ug ty3 rfl ((o rfl).1 (zo rfl u))) (fun _ _ h=>jb.1 h));rintro l cy k t ⟨o,x,Y,_⟩
 exact zg (Gj:=true) (Bj:=e) rfl rfl rfl (jk (Y rfl)) rfl (fun E u=>yj (i:=(ix f c).toNat) z5u rfl (ja ((o rfl).1 (zo rfl u))) (zl (show l 76=(vi (ix f c)) from(x rfl).1 (zo rfl u)) (aa (zo E u)).1) (qb (aa (zo E u))));rintro l bl k t ⟨o,x,_⟩
 exact zg (Gj:=true) (Bj:=e) rfl rfl rfl (jk (x rfl)) rfl (fun E u=>ug z5t rfl ((o rfl).1 (zo rfl u)));rintro l bm k t ⟨o,_⟩;exact zg (Gj:=true) (Bj:=e) rfl rfl rfl (jk (o rfl)) rfl (fun E u=>zt (zb (t 12 rfl)));rintro l bn k t ⟨o,x,Y,_⟩
 exact zg (Gj:=true) (Bj:=e) rfl rfl rfl (jk (Y rfl)) rfl (fun E u=>yj (i:=d.toNat) z7u rfl (ja ((o rfl).1 (zo rfl u))) (zl (show l 79=(vi d) from(x rfl).1 (zo rfl u)) (ab (zo E u)).1) (qb (ab (zo E u))));rintro l bo k t ⟨o,x,_⟩
 exact zg (Gj:=true) (Bj:=e) rfl rfl rfl (jk (x rfl)) rfl (fun E u=>xc (ug za1 rfl ((o rfl).1 (zo rfl u))) (fun _ _ h=>df.1 h));rintro l bp k t ⟨o,x,Y,_⟩
 exact zg (Gj:=true) (Bj:=e) rfl rfl rfl (jk (Y rfl)) rfl (fun E u=>zt (zkv zyx (show l 70=(.agg #[(vi z),(vi ((ix (ix a.rows c) d).out))]) from(o rfl).1 (zo rfl u)) (show l 81=(ut (ix (ix b.rows (ix f c)) d)) from(x rfl).1 (zo rfl u))));rintro l bq k t ⟨o,x,_⟩
 exact za rfl rfl rfl (zt (uk (o rfl) (fun hb=>(show l 82=(.bool (decide (z=((ix (ix b.rows (ix f c)) d).to)∧((ix (ix a.rows c) d).out)=((ix (ix b.rows (ix f c)) d).out)))) from(x rfl).1 (zo rfl hb))) rfl))
 intro br aq bs ar bt bu bv bw bx bA bB bC bD bE bF bG bH bI bJ bK bL bM bN bO bP bQ bR bS bT bU bV au;obtain rfl:=Eq.symm aq;obtain rfl:=Eq.symm ar;obtain rfl:=Eq.symm au
 refine zf (.bool (e&&(decide (z=((ix (ix b.rows (ix f c)) d).to)∧((ix (ix a.rows c) d).out)=((ix (ix b.rows (ix f c)) d).out))))) (z8 (zz ?_));obtain⟨aw,n⟩:=ze n;refine zq (jf rfl rfl aw) (zh (vi (d+1)) (z8 ?_))
 exact⟨dkt,(U.trans af),jq,(W,e&&(decide (z=((ix (ix b.rows (ix f c)) d).to)∧((ix (ix a.rows c) d).out)=((ix (ix b.rows (ix f c)) d).out))),d+1),Nat.lt_succ_self _,⟨rfl,rfl,trivial⟩,⟨[box am [(vi z),(vi ((ix (ix a.rows c) d).out))] 62],(List.Perm.refl _)⟩,n,trivial⟩;refine jm ?_
 exact⟨dkt,G,jq,e,⟨rfl,trivial⟩,prm,(Option.some.inj n).symm,trivial⟩;rintro S bW cA ax ⟨rfl,_⟩;refine zz ?_;obtain⟨ay,q⟩:=ze q;refine zq (jf rfl rfl ay) (zh (vi (c+1)) (z8 ?_));exact⟨dkt,ax,jq,(V,S,c+1),Nat.lt_succ_self _,⟨rfl,rfl,trivial⟩,prm,q,trivial⟩;refine jm ?_
 exact⟨dkt,F,jq,ae,⟨rfl,trivial⟩,prm,(Option.some.inj q).symm,trivial⟩;rintro H bX cB az ⟨rfl,_⟩;refine zn (zh (.bool H) (zf (.bool H) (zf (vi 0) (z8 (qp ?_)))));obtain rfl:=Option.some.inj j
 refine q9 (D:=[]) (J:=[]) (rs:=[.tmp 6,.tmp 7]) (vs:=[(.bool H),(vi 0)]) ((((s.trans p).trans m).trans w).trans az) rfl rfl ⟨rfl,rfl,trivial⟩ ?_;exact⟨rfl,rfl⟩
end GV
end Go.Proofs.YtkcccdcloealfaaGreat
