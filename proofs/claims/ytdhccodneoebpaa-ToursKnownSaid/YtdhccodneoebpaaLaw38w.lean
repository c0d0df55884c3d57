
import Derived.Test.YtdhccodneoebpaaLaw38l
import Derived.Test.YtdhccodneoebpaaShPlain
set_option linter.unusedVariables false
set_option linter.unusedSimpArgs false
set_option linter.unusedSectionVars false
namespace Go.Proofs.Ytdhccodneoebpaa
namespace GV
set_option maxRecDepth 100000
section
variable {N : Nat} {m : Mach} {X L : List (List Int)} {d : Nat → Int} {round : Bool}
theorem zlu(a:Small m)(h:au 2000 m=some 0):CM38 m:=zqp (Option.some.inj ((zgg a (by decide)).symm.trans h))
theorem zg8(b:MOk m)(c:Shp m L)(d: ∀ s i,VE m s i→0≤lf L s i∧lf L s i≤1000000000){n:Nat}(g:m.rows.length=n)(h:mi 2000 ⟨m,L,0⟩=some (List.replicate n 0)): ∀ v,v<m.rows.length→y8 m L v=0:=fun v e=>by
 have a:=zck (N:=2000) (k:=0) b (by decide) c d
 rw [h] at a
 have f:((List.range m.rows.length).map (y8 m L)).getD v default=y8 m L v:=yf (y8 m L) e
 rw [←f,←Option.some.inj a,List.getD_eq_getElem?_getD,List.getElem?_replicate,if_pos (by omega)];rfl
theorem zmk(d:MOk m)(e:Shp m L){a:Nat}(f:a<m.rows.length)(g: ∀ s i,VE m s i→0≤lf L s i∧lf L s i≤1000000000){k:Int}(j:w9 m L=k){b:Bool}(h:gu 2000 ⟨m,L,k⟩ (a:Int) round=some b):ze8 m L a round↔b=true:=by
 have c:=zj0 (N:=2000) (round:=round) d (by decide) e f g
 rw [j,h] at c
 have l:=Option.some.inj c
 rw [l]
 exact⟨zhz,fun h=>Classical.byContradiction fun n=>by rw [zfb n] at h;cases h⟩
theorem zvu(a:CM38 m){w:List Int}(d:WkV m 0 w 0)(e: ∀ s i,VE m s i→0<ctN m 0 w s i): ∃ v,z2l m true=some v:=by
 obtain⟨x,b,c⟩:=zd3 (round:=true) a.ok d e (fun _=>rfl)
 have h:=(z4v a).2 (zk9 a (ze0 a.ok d) b c)
 exact Option.isSome_iff_exists.1 h
theorem z9g(b:CM38 m)(j: ∀ v,v<m.rows.length→y8 m (ay m) v=0):ze8 m (ay m) 0 true∧ ∃ w,z2l m true=some w∧w.length=(qp m).length:=by
 have c:=b.ok
 have l:=c.r1
 have d:ze8 m (ay m) 0 true:=by
  refine(zj1 c (by omega) z1b (fun s i a=>(one_pos s i a).1)).2 ?_
  split
  ·exact fun _=>rfl
  ·refine⟨⟨0,by omega,fun v a=>?_,fun _=>rfl⟩,fun s i a _=>zql c (b.conn s a.hs)⟩
   rw [j v a];exact(Int.sub_self _).symm
 refine⟨d,?_⟩
 obtain⟨u,e,f,g,k⟩:=d
 obtain rfl:=k rfl
 obtain⟨w,h⟩:=zvu b f (fun s i a=>by rw [g s i a,z5b a];decide)
 exact⟨w,h,(zsk b h).2.2 ((zgl c).2 ⟨u,0,f,g,fun _=>rfl⟩)⟩
theorem zq5(c:CM38 m)(h: ∀ s i,VE m s i→0≤lf X s i)(k:Pot m X d)(j: ∀ v,v<m.rows.length→y8 m (z0b m X) v=0): ∃ w,z2l m true=some w∧(w.length:Int)=w9 m (z0b m X):=by
 have e:=c.ok
 have o:=e.r1
 have hpos: ∀ s i,VE m s i→0<lf (z0b m X) s i:=fun s i b=>by rw [zc6 b];have:=h s i b;omega
 obtain⟨u,p,l,n⟩:=zfk (L0:=z0b m X) (e0:=0) (a:=0) e (by omega) z90 (fun s i b=>by have:=hpos s i b;omega) (fun v b=>by rw [j v b];omega) (fun s i b _=>ziq e hpos (c.conn s b.hs)) (f:=(2*w9 m (z0b m X)).toNat+2) (by omega)
 obtain⟨w,g⟩:=zvu c l (fun s i b=>by rw [n s i b];exact hpos s i b)
 exact⟨w,g,(zo6 c ((z4v c).1 (by rw [g];rfl)) h k j g).symm⟩
theorem zp1(d:CM38 m)(g:1500≤N)(f:ze8 m (ay m) 0 round)(h:256<(qp m).length):cu N m round=some ([],3):=by
 have c:=d.ok
 have i:=c.r1
 unfold cu
 rw [qg (d.check0 (by omega)),ni (by decide),qg (zax c (by omega)),z6b]
 have e:=zj0 (N:=N) (a:=0) (round:=round) c (by omega) z1b (by omega) one_pos
 rw [z05,show ((0:Nat):Int)=0 from rfl] at e
 dsimp only
 rw [qg e,zhz f,cf (b:= !true) rfl,il (by omega)]
theorem zqb(a:CM38 m)(c:80000≤N){w:List Int}(e:z2l m true=some w)(h:256<w.length):mq N m=some ([],3):=by
 have f:Ex1 m true:=(z4v a).1 (by rw [e];rfl)
 obtain⟨X,d,g,_⟩:=zaq a c e
 unfold mq
 rw [qg (a.check0 (by omega)),ni (by decide),qg (z8n a.ok (by omega)),zho f,cf (b:= !true) rfl,qg g]
 dsimp only
 rw [il (by omega)]
theorem zws(d:CM38 m){w:List Int}(h:exW m true=some w)(f:w.length≤256):IsT m w true:=by
 have a:=d.ok
 have n:=a.r1
 obtain⟨e,b,g,j⟩:=(zeh (round:=true) a _ _ _ z1b one_pos (by omega) (by rw [z05];omega)).1 w h
 obtain rfl:=j rfl
 obtain⟨x,k,l⟩:=zd3 (round:=true) a b (fun s i c=>by rw [g s i c,z5b c];decide) (fun _=>rfl)
 exact(zkm a).2 ⟨f,ze0 a b,x,k,l⟩
end
end GV
end Go.Proofs.Ytdhccodneoebpaa

namespace Go.Proofs.Ytdhccodneoebpaa
namespace GV
set_option maxRecDepth 1000000
def zy2(n s:Nat):List Edge:=[⟨(((s+1)%n:Nat):Int),0⟩]
def z4z(n:Nat):Mach:=⟨1,1,(List.range n).map (zy2 n)⟩
def zyn(n s:Nat):List Edge:=[⟨(((s+1)%n:Nat):Int),0⟩,⟨(s:Int),0⟩]
def mg(n:Nat):Mach:=⟨2,1,(List.range n).map (zyn n)⟩
def zyk(s:Nat):List Edge:=(List.range 16).map fun i=>if s=0∧i<15 then⟨((1+i%8:Nat):Int),0⟩ else if 0<s∧i=0 then⟨0,0⟩ else⟨-1,-1⟩
def starM:Mach:=⟨16,1,(List.range 9).map zyk⟩
def zz8(s:Nat):List Edge:=(List.range 16).map fun i=>⟨(((s+i)%64:Nat):Int),0⟩
def fullM:Mach:=⟨16,1,(List.range 64).map zz8⟩
theorem zoy:ko 2000000 64 true=some (mg 64):=by decide+kernel
theorem zvn:ko 2000000 16 false=some (z4z 16):=by decide+kernel
theorem zv0:ko 2000000 17 false=some (z4z 17):=by decide+kernel
theorem zvr:oq 2000000 64 false=some (z4z 64):=by decide+kernel
theorem zq6:(bd (ko 2000000 1 false) fun a=>sj 2000000 a a)=some true:=by decide+kernel
theorem zvk:vw 2000000 2000000 0 []=some starM.rows:=by decide+kernel
theorem zua:vo 2000000 2000000 0 (z4z 64).rows=some fullM.rows:=by decide+kernel
theorem zvj:z06 2000000=some true:=by decide+kernel
end GV
end Go.Proofs.Ytdhccodneoebpaa

namespace Go.Proofs.Ytdhccodneoebpaa
namespace GV
set_option maxRecDepth 1000000
def zri(m:Mach):Bool:=decide (m.rows.length≤100)&&m.rows.all fun r=>decide (r.length≤100)
theorem zar{m:Mach}(h:zri m=true):Small m:=by
 unfold zri at h
 rw [Bool.and_eq_true] at h
 refine⟨of_decide_eq_true h.1,fun k a=>?_⟩
 have:=List.all_eq_true.1 h.2 _ (z1w a)
 exact of_decide_eq_true this
theorem loop_cm:CM38 (mg 64):=zlu (zar (by decide+kernel)) (by decide+kernel)
theorem z5f:(qp (mg 64)).length=128:=by decide+kernel
theorem zt0: ∀ v,v<(mg 64).rows.length→y8 (mg 64) (ay (mg 64)) v=0:=zg8 loop_cm.ok z1b one_pos (n:=64) (by decide+kernel) (by decide+kernel)
theorem r16_cm:CM38 (z4z 16):=zlu (zar (by decide+kernel)) (by decide+kernel)
theorem zef:(qp (z4z 16)).length=16:=by decide+kernel
theorem zuk: ∀ v,v<(z4z 16).rows.length→y8 (z4z 16) (ay (z4z 16)) v=0:=zg8 r16_cm.ok z1b one_pos (n:=16) (by decide+kernel) (by decide+kernel)
theorem r17_cm:CM38 (z4z 17):=zlu (zar (by decide+kernel)) (by decide+kernel)
theorem zq2:(qp (z4z 17)).length=17:=by decide+kernel
theorem zv8: ∀ v,v<(z4z 17).rows.length→y8 (z4z 17) (ay (z4z 17)) v=0:=zg8 r17_cm.ok z1b one_pos (n:=17) (by decide+kernel) (by decide+kernel)
def zcw:List (List Int):=(List.range 9).map fun s=>(List.range 16).map fun i=>if(0<s∧s<8)∧i=0 then 1 else 0
def zd9(v:Nat):Int:=if v=0 then 0 else-1
theorem star_cm:CM38 starM:=zlu (zar (by decide+kernel)) (by decide+kernel)
theorem ztm: ∀ s,s<9→ ∀ i,i<16→ed starM s i≠ -1→(0≤lf zcw s i∧lf zcw s i≤1)∧zd9 (ed starM s i).toNat≤zd9 s+1∧(0<lf zcw s i→zd9 (ed starM s i).toNat=zd9 s+1):=by decide+kernel
theorem zf1{s i:Nat}(a:VE starM s i):(0≤lf zcw s i∧lf zcw s i≤1)∧zd9 (ed starM s i).toNat≤zd9 s+1∧(0<lf zcw s i→zd9 (ed starM s i).toNat=zd9 s+1):=ztm s (by have:=a.hs;rwa [show starM.rows.length=9 from by decide+kernel] at this) i a.hi a.he
theorem zta: ∀ v,v<starM.rows.length→y8 starM (z0b starM zcw) v=0:=zg8 star_cm.ok z90 (fun s i a=>by rw [zc6 a];have:=(zf1 a).1;omega) (n:=9) (by decide+kernel) (by decide+kernel)
theorem zqi:w9 starM (z0b starM zcw)=30:=by decide+kernel
theorem full_cm:CM38 fullM:=zlu (zar (by decide+kernel)) (by decide+kernel)
theorem zgu:(qp fullM).length=1024:=by decide+kernel
theorem ztw: ∀ v,v<fullM.rows.length→y8 fullM (ay fullM) v=0:=zg8 full_cm.ok z1b one_pos (n:=64) (by decide+kernel) (by decide+kernel)
end GV
end Go.Proofs.Ytdhccodneoebpaa

namespace Go.Proofs.Ytdhccodneoebpaa
namespace GV
set_option maxRecDepth 1000000
theorem zq8:gu 2000 ⟨mg 64,z0w (ay (mg 64)) 0 0,127⟩ ((1:Nat):Int) true=some true:=by decide+kernel
theorem zp6:gu 2000 ⟨mg 64,z0w (z0w (ay (mg 64)) 0 0) 1 0,126⟩ ((2:Nat):Int) true=some false:=by decide+kernel
theorem zpn:gu 2000 ⟨mg 64,z0w (z0w (ay (mg 64)) 0 0) 1 1,126⟩ ((1:Nat):Int) true=some true:=by decide+kernel
theorem zkd:ed (mg 64) 0 0=1:=by decide+kernel
theorem zlv:ed (mg 64) 1 0=2:=by decide+kernel
theorem zlj:ed (mg 64) 1 1=1:=by decide+kernel
theorem zst:(mg 64).rows.length=64:=by decide+kernel
theorem zsj:(mg 64).inputs.toNat=2:=rfl
theorem zn5: ∃ v,exW (mg 64) true=some ((0:Int)::(1:Int)::v):=by
 have s:=loop_cm
 have k:=s.ok
 have B:=zst
 have hi:=zsj
 have a:VE (mg 64) 0 0:=⟨by omega,by omega,by rw [zkd];decide⟩
 have b:VE (mg 64) 1 0:=⟨by omega,by omega,by rw [zlv];decide⟩
 have c:VE (mg 64) 1 1:=⟨by omega,by omega,by rw [zlj];decide⟩
 have o:w9 (mg 64) (ay (mg 64))=128:=by rw [z05,z5f];rfl
 have l:0<lf (ay (mg 64)) 0 0:=by rw [z5b a];decide
 have d:=z2j z1b a
 have m:=z3i z1b one_pos a l
 have n:w9 (mg 64) (z0w (ay (mg 64)) 0 0)=127:=by rw [z4t z1b a,o];rfl
 have g:0<lf (z0w (ay (mg 64)) 0 0) 1 0:=by rw [zay z1b a,if_neg (by omega),z5b b];decide
 have h:0<lf (z0w (ay (mg 64)) 0 0) 1 1:=by rw [zay z1b a,if_neg (by omega),z5b c];decide
 have p:w9 (mg 64) (z0w (z0w (ay (mg 64)) 0 0) 1 0)=126:=by rw [z4t d b,n];rfl
 have q:w9 (mg 64) (z0w (z0w (ay (mg 64)) 0 0) 1 1)=126:=by rw [z4t d c,n];rfl
 have C:=zmk (round:=true) k d (by omega) m n zq8
 have t:=zmk (round:=true) k (z2j d b) (by omega) (z3i d m b g) p zp6
 have u:=zmk (round:=true) k (z2j d c) (by omega) (z3i d m c h) q zpn
 have x:exL (mg 64) true 127 (z0w (z0w (ay (mg 64)) 0 0) 1 0) 2=none:=by
  cases e:exL (mg 64) true 127 (z0w (z0w (ay (mg 64)) 0 0) 1 0) 2 with
  |none=>rfl
  |some w=>have:=t.1 ((zdn (f:=127) k (z2j d b) (z3i d m b g) (by omega) (by rw [p];decide)).1 (by rw [e];rfl));cases this
 obtain⟨r,y⟩:=Option.isSome_iff_exists.1 ((zdn (f:=127) k (z2j d c) (z3i d m c h) (by omega) (by rw [q];decide)).2 (u.2 rfl))
 have z:exL (mg 64) true 128 (z0w (ay (mg 64)) 0 0) 1=some ((1:Int)::r):=by
  rw [show (128:Nat)=127+1 from rfl]
  unfold exL
  rw [if_neg (by rw [n];decide),hi]
  refine ze9 (i:=1) (by decide) ?_ fun j A=>?_
  ·rw [if_pos ⟨c.he,h⟩,zlj,show (1:Int).toNat=1 from rfl,y];rfl
  ·obtain rfl:j=0:=by omega
   rw [if_pos ⟨b.he,g⟩,zlv,show (2:Int).toNat=2 from rfl,x];rfl
 refine⟨r,?_⟩
 unfold exW
 rw [z5f]
 unfold exL
 rw [if_neg (by rw [o];decide),hi]
 refine ze9 (i:=0) (by decide) ?_ fun j A=>by omega
 rw [if_pos ⟨a.he,l⟩,zkd,show (1:Int).toNat=1 from rfl,z];rfl
theorem zqq{N:Nat}{lm am bm sm fm rm g:Mach}(r:2000000≤N)(d:ko N 64 true=some lm)(e:ko N 16 false=some am)(f:ko N 17 false=some bm)(i:oq N 64 false=some rm)(c:ko N 1 false=some g)(e5':sj N g g=some true){sr fr:List (List Edge)}(j:vw N N 0 []=some sr)(k:vo N N 0 rm.rows=some fr)(l:z06 N=some true)
 (m:(⟨16,1,sr⟩:Mach)=sm) (n:(⟨16,rm.outputs,fr⟩:Mach)=fm) (o:MOk lm) (b:MOk sm) {le aw sv:List Int} (ll:le.length=126) (lT:IsT lm (0::1::le) true) (lE:cu N lm true=some (0::1::le,0)) (lF:gp N lm false=some ([],3)) (lL:gm N lm=some (128,0))
 (aT:gp N am true=some (aw,0)) (p:aw.length=16) (bT:gp N bm true=some ([],3)) (sL:gm N sm=some (30,0)) (sR:mq N sm=some (sv,0)) (q:sv.length=30) (sT:IsT sm sv true)
 (fL:gm N fm=some (1024,0)) (fR:mq N fm=some ([],3)) (fE:cu N fm true=some ([],3)):nz N=some true:=by
 have a:((0:Int)::(1:Int)::le).length=128:=by simp [ll]
 unfold nz
 rw [qg d]
 simp only [z6b]
 rw [qg lE,qg lF,qg lL]
 dsimp only
 rw [zbw (x:=true) (fun _=>by rw [zh1 o (by omega) (by omega) (by omega),zm7 lT])]
 rw [zu (fun _=>⟨by decide,by rw [a];decide⟩),zu (fun _=>⟨by decide,by rw [a];decide⟩),cf (by rfl)]
 rw [qg e,qg aT,qg f,qg bT,cf (by rw [p];rfl),qg j,m,qg sL,qg sR]
 dsimp only
 rw [zbw (x:=true) (fun _=>by rw [zh1 b (by omega) (by omega) (by omega),zm7 sT]),cf (by rw [q];rfl),qg i]
 rw [qg k,n,qg fL,qg fR,qg fE]
 dsimp only
 rw [zbw (x:=g) (fun _=>c),zbw (x:=g) (fun _=>c)]
 rw [zbw (x:=true) (fun h=>by rw [h];exact e5'),zbw (fun _=>l)];rfl
section
variable {N : Nat}
theorem zrm{m:Mach}{round:Bool}{w:List Int}(h:exW m round=some w):exE m round=(w,0):=by unfold exE;rw [h]
theorem zal{m:Mach}(a:CM38 m)(b:80000≤N){w:List Int}(h:z2l m true=some w){k:Int}(c:(w.length:Int)=k):gm N m=some (k,0):=by
 rw [zp3 a b,h,←c]
theorem zmf{m:Mach}(a:CM38 m)(c:z8o m+2000≤N)(b:(qp m).length≤16){w:List Int}(h:z2l m true=some w)(d:w.length≤256):gp N m true=some (w,0):=by
 rw [zrv a.ok c b (a.check0 (by omega)) (by rw [z8n a.ok (by omega),zho ((z4v a).1 (by rw [h];rfl))]),h]
 dsimp only
 rw [if_neg (by omega)]
theorem zin{m:Mach}(b:CM38 m)(c:2000≤N){round:Bool}{w:List Int}(h:z2l m round=some w)(a:16<(qp m).length):gp N m round=some ([],3):=zt9 b c ((z4v b).1 (by rw [h];rfl)) a
theorem zv7(b:2000000≤N): ∃ le:List Int,le.length=126∧IsT (mg 64) (0::1::le) true∧cu N (mg 64) true=some (0::1::le,0):=by
 obtain⟨le,a⟩:=zn5
 have ll:=znp loop_cm.ok a
 rw [z5f,List.length_cons,List.length_cons] at ll
 have lT:=zws loop_cm a (by rw [List.length_cons,List.length_cons];omega)
 have lE:=zsf (N:=N) (round:=true) loop_cm (by omega) (by rw [z5f];decide)
 rw [zrm a] at lE
 exact⟨le,by omega,lT,lE⟩
theorem zsq(d:2000000≤N):gp N (mg 64) false=some ([],3)∧gm N (mg 64)=some (128,0):=by
 obtain⟨_,lw,b,c⟩:=z9g loop_cm zt0
 obtain⟨lu,a,_⟩:=zqm loop_cm b
 exact⟨zin loop_cm (by omega) a (by rw [z5f];decide),zal loop_cm (by omega) b (by rw [c,z5f];rfl)⟩
theorem zuf:(z4z 16).rows.length=16:=by decide+kernel
theorem zy4(c:2000000≤N): ∃ aw:List Int,gp N (z4z 16) true=some (aw,0)∧aw.length=16:=by
 obtain⟨_,aw,b,a⟩:=z9g r16_cm zuk
 have hcap:z8o (z4z 16)≤1100000:=by
  unfold z8o;rw [zef,zuf];decide
 rw [zef] at a
 exact⟨aw,zmf r16_cm (by omega) (by rw [zef];decide) b (by omega),a⟩
theorem zyd(b:2000000≤N):gp N (z4z 17) true=some ([],3):=by
 obtain⟨_,bw,a,c⟩:=z9g r17_cm zv8
 exact zin r17_cm (by omega) a (by rw [zq2];decide)
theorem zv2(h:2000000≤N): ∃ sv:List Int,gm N starM=some (30,0)∧mq N starM=some (sv,0)∧sv.length=30∧IsT starM sv true:=by
 obtain⟨sw,e,f⟩:=zq5 star_cm (X:=zcw) (d:=zd9) (fun s i a=>(zf1 a).1.1) ⟨fun s i a=>(zf1 a).2.1,fun s i a=>(zf1 a).2.2⟩ zta
 rw [zqi] at f
 have sL:=zal (N:=N) star_cm (by omega) e f
 obtain⟨sv,b,g,c⟩:=zsn (N:=N) star_cm (by omega) e (by omega)
 exact⟨sv,sL,b,by omega,c⟩
theorem zu7(b:2000000≤N):gm N fullM=some (1024,0)∧mq N fullM=some ([],3)∧cu N fullM true=some ([],3):=by
 obtain⟨fx,fw,f1,a⟩:=z9g full_cm ztw
 rw [zgu] at a
 exact⟨zal full_cm (by omega) f1 (by rw [a];rfl),zqb (N:=N) full_cm (by omega) f1 (by omega),zp1 (N:=N) (round:=true) full_cm (by omega) fx (by rw [zgu];decide)⟩
end
theorem zpa:nz 2000000=some true:=by
 obtain⟨g,a,b⟩: ∃ g,ko 2000000 1 false=some g∧sj 2000000 g g=some true:=by
  have h:=zq6
  generalize ko 2000000 1 false=y at h⊢
  cases y with
  |none=>cases h
  |some g=>exact⟨g,rfl,h⟩
 obtain⟨le,c,d,e⟩:=zv7 (Nat.le_refl _)
 obtain⟨f,i⟩:=zsq (Nat.le_refl _)
 obtain⟨aw,j,k⟩:=zy4 (Nat.le_refl _)
 obtain⟨sv,l,m,n,o⟩:=zv2 (Nat.le_refl _)
 obtain⟨f1,p,q⟩:=zu7 (Nat.le_refl _)
 exact zqq (Nat.le_refl _) zoy zvn zv0 zvr a b zvk zua zvj rfl rfl loop_cm.ok star_cm.ok c d e f i j k (zyd (Nat.le_refl _)) l m n o f1 p q
end GV
end Go.Proofs.Ytdhccodneoebpaa
