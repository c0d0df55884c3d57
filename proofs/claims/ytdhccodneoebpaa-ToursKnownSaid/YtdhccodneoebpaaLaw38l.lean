
import Derived.Test.YtdhccodneoebpaaLaw38e
import Derived.Test.YtdhccodneoebpaaTak38
set_option linter.unusedVariables false
set_option linter.unusedSimpArgs false
set_option linter.unusedSectionVars false
namespace Go.Proofs.Ytdhccodneoebpaa
namespace GV
set_option maxRecDepth 100000
theorem zhx: ∀ {n:Nat} {l:List Nat},l.Nodup→(∀ x∈l,x<n)→l.length≤n
 |0,l,_,h=>by
  cases l with
  |nil=>exact Nat.le_refl _
  |cons x l=>have:=h x (List.mem_cons_self ..);omega
 |n+1,l,a,h=>by
  have b:=zhx (n:=n) (l:=l.erase n) (a.erase n) fun x c=>by
   obtain⟨e,d⟩:=(a.mem_erase_iff).1 c
   have:=h x d;omega
  rw [List.length_erase] at b
  split at b<;>omega
theorem zs1{n k:Nat}{f:Nat→Nat}(h: ∀ j,j<k→f j<n)(hi: ∀ i j,i<j→j<k→f i≠f j):k≤n:=by
 have:((List.range k).map f).length≤n:=zhx (by
  unfold List.Nodup
  rw [List.pairwise_map]
  have d:=List.pairwise_lt_range (n:=k)
  refine List.Pairwise.imp_of_mem ?_ d
  intro a b m e c
  exact hi a b c (List.mem_range.1 e)) fun x g=>by
  obtain⟨j,l,rfl⟩:=List.mem_map.1 g
  exact h j (List.mem_range.1 l)
 simpa using this
def xc(H:List Sa)(v:Nat):Int:=(H.getD v default).fC
def INF:Int:=1073741824
def wt(b:Bool):Int:=if b=true then-1 else 1
theorem zx2(b:Bool): -1≤wt b∧wt b≤1:=by cases b<;>decide
def Arc(m:Mach)(X:List (List Int))(u v i:Nat)(b:Bool):Prop:=
 if b=true then VE m v i∧ed m v i=(u:Int)∧0<lf X v i else VE m u i∧ed m u i=(v:Int)
structure Pot (m:Mach) (X:List (List Int)) (d:Nat→Int):Prop where
 f: ∀ s i,VE m s i→d (ed m s i).toNat≤d s+1
 t: ∀ s i,VE m s i→0<lf X s i→d (ed m s i).toNat=d s+1
inductive Rt (H:List Sa):Nat→Prop
 |root {v:Nat}:(H.getD v default).fG= -1→Rt H v
 |step {v u:Nat}:(H.getD v default).fG=(u:Int)→Rt H u→Rt H v
section
variable {N : Nat} {m : Mach} {X : List (List Int)} {nd d : Nat → Int} {D : Int} {H : List Sa}
theorem Arc.pot(a:Pot m X d){u v i:Nat}{b:Bool}(h:Arc m X u v i b):d v≤d u+wt b:=by
 unfold Arc at h
 cases b
 ·rw [if_neg (by decide)] at h
  have:=a.f u i h.1
  rw [h.2,Int.toNat_natCast] at this
  exact this
 ·rw [if_pos rfl] at h
  have:=a.t v i h.1 h.2.2
  rw [h.2.1,Int.toNat_natCast] at this
  show d v≤d u+ -1
  omega
theorem Arc.lt(a:MOk m){u v i:Nat}{b:Bool}(h:Arc m X u v i b):u<m.rows.length∧v<m.rows.length:=by
 unfold Arc at h
 cases b
 ·rw [if_neg (by decide)] at h
  have:=(h.1.to a).1
  rw [h.2,Int.toNat_natCast] at this
  exact⟨h.1.hs,this⟩
 ·rw [if_pos rfl] at h
  have:=(h.1.to a).1
  rw [h.2.1,Int.toNat_natCast] at this
  exact⟨this,h.1.hs⟩
def zsv(m:Mach)(X:List (List Int))(nd:Nat→Int)(H:List Sa)(v:Nat):Prop:=
 ((H.getD v default).fG= -1∧xc H v=0∧0<nd v)∨ ∃ u i:Nat,(H.getD v default).fG=(u:Int)∧(H.getD v default).fA=(i:Int)∧Arc m X u v i (H.getD v default).fZ∧xc H u≠INF∧xc H u+wt (H.getD v default).fZ≤xc H v
def zn3(m:Mach)(H:List Sa):Nat:=(List.range m.rows.length).countP fun v=>decide (xc H v≠INF)
def muv(x:Int):Int:=if x=INF then 400 else x+200
def muH(m:Mach)(H:List Sa):Int:=((List.range m.rows.length).map fun v=>muv (xc H v)).sum
structure SInv (m:Mach) (X:List (List Int)) (nd d:Nat→Int) (D:Int) (H:List Sa):Prop where
 len:H.length=m.rows.length
 hop: ∀ v,v<m.rows.length→xc H v≠INF→zsv m X nd H v
 lo: ∀ v,v<m.rows.length→xc H v≠INF→d v-D≤xc H v
 hi: ∀ v,v<m.rows.length→xc H v≠INF→xc H v+1≤(zn3 m H:Int)
 rt: ∀ v,v<m.rows.length→Rt H v
 src: ∀ v,v<m.rows.length→0<nd v→xc H v≠INF
def Bnd(m:Mach)(d:Nat→Int):Prop:= ∀ v,v<m.rows.length→ -63≤d v∧d v≤63
theorem SInv.bnd(c:MOk m)(e:Bnd m d)(f:D≤63)(h:SInv m X nd d D H){v:Nat}(a:v<m.rows.length)(b:xc H v≠INF): -126≤xc H v∧xc H v≤63:=by
 have g:=h.lo v a b
 have i:=h.hi v a b
 have j:=e v a
 have k:zn3 m H≤m.rows.length:=Nat.le_trans List.countP_le_length (by simp)
 have l:=c.r2
 omega
theorem SInv.mu0(b:MOk m)(c:Bnd m d)(e:D≤63)(h:SInv m X nd d D H):0≤muH m H∧muH m H≤25600:=by
 have g:=zb8 (f:=fun v=>muv (xc H v)) (B:=400) (by decide) (l:=List.range m.rows.length) (fun v a=>by
  have a:=List.mem_range.1 a
  unfold muv
  split
  ·omega
  ·rename_i hf
   have:=h.bnd b c e a hf;omega)
 have i:0≤muH m H:=z5a fun v a=>by
  have a:=List.mem_range.1 a
  unfold muv
  split
  ·omega
  ·rename_i hf
   have:=h.bnd b c e a hf;omega
 have:=b.r2
 rw [List.length_range] at g
 unfold muH at*
 omega
theorem zvo{v x:Nat}{h:Sa}(a:v<H.length):xc (H.set v h) x=if x=v then h.fC else xc H x:=by
 unfold xc;rw [u6 a];split<;>rfl
theorem z97{v x:Nat}{h:Sa}(a:v<H.length):(H.set v h).getD x default=if x=v then h else H.getD x default:=u6 a
theorem zx6(p:MOk m)(q:Pot m X d)(h:SInv m X nd d D H){v:Nat}{g:Sa}(n:v<m.rows.length): ∀ {y:Nat},Rt H y→y<m.rows.length→xc H y≠INF→(xc H v≠INF→xc H y-d y<xc H v-d v)→Rt (H.set v g) y:=by
 intro y r
 induction r with
 | @root y b=>
  intro c f j
  have a:y≠v:=fun e=>by subst e;have:=j f;omega
  exact .root (by rw [z97 (by rw [h.len];exact n),if_neg a];exact b)
 | @step y u b t ih=>
  intro c f j
  have a:y≠v:=fun e=>by subst e;have:=j f;omega
  rcases h.hop y c f with⟨k,_⟩|⟨u',i,k,_,o,s,w⟩
  ·rw [b] at k;omega
  ·obtain rfl:u'=u:=by rw [b] at k;omega
   have x:=o.pot q
   exact .step (by rw [z97 (by rw [h.len];exact n),if_neg a];exact b) (ih (o.lt p).1 s fun l=>by have:=j l;omega)
theorem zza{v:Nat}{g:Sa}(b:v<H.length)(h:Rt (H.set v g) v): ∀ {y:Nat},Rt H y→Rt (H.set v g) y:=by
 intro y c
 induction c with
 | @root y a=>
  by_cases e:y=v
  ·subst e;exact h
  ·exact .root (by rw [z97 b,if_neg e];exact a)
 | @step y u a d ih=>
  by_cases e:y=v
  ·subst e;exact h
  ·exact .step (by rw [z97 b,if_neg e];exact a) ih
theorem zw8(E:MOk m)(C:Pot m X d)(G:Bnd m d)(I:D≤63)(h:SInv m X nd d D H){u v i:Nat}{b:Bool}(A:Arc m X u v i b)(B:xc H u≠INF):
 ∃ c H',wz N (v:Int) ⟨(u:Int),(i:Int),b,xc H u+wt b⟩ H=some (c,H')∧SInv m X nd d D H'∧(c=true→muH m H'<muH m H)∧(c=false→H'=H∧xc H v≤xc H u+wt b):=by
 obtain⟨r,t⟩:=A.lt E
 have n:v<H.length:=by rw [h.len];exact t
 have J:(ix H (v:Int)).fC=xc H v:=rfl
 have K:=h.bnd E G I r B
 have T:=zx2 b
 unfold wz
 rw [zu (qi n),J]
 by_cases hle:xc H v≤xc H u+wt b
 ·rw [il hle]
  exact⟨false,H,rfl,h,fun h=>(by cases h),fun _=>⟨rfl,hle⟩⟩
 ·rw [ni hle,zu (qi n),mo]
  have U:INF=1073741824:=rfl
  have o:xc H u+wt b≠INF:=by omega
  have w:u≠v:=fun e=>by
   subst e
   have:=A.pot C
   omega
  have k: ∀ x,xc (H.set v ⟨(u:Int),(i:Int),b,xc H u+wt b⟩) x=if x=v then xc H u+wt b else xc H x:=fun x=>zvo n
  have hcle:zn3 m H≤zn3 m (H.set v ⟨(u:Int),(i:Int),b,xc H u+wt b⟩):=z5s fun x q z=>by
   rw [k]
   split
   ·exact decide_eq_true o
   ·exact z
  have hclt:xc H v=INF→zn3 m H<zn3 m (H.set v ⟨(u:Int),(i:Int),b,xc H u+wt b⟩):=fun y=>z7o (fun x q z=>by
   rw [k]
   split
   ·exact decide_eq_true o
   ·exact z) ⟨v,List.mem_range.2 t,decide_eq_false (fun h=>h y),by rw [k,if_pos rfl];exact decide_eq_true o⟩
  have F:Rt (H.set v ⟨(u:Int),(i:Int),b,xc H u+wt b⟩) v:= .step (by rw [z97 n,if_pos rfl]) (zx6 E C h t (h.rt u r) r B fun _=>by
   have:=A.pot C;omega)
  refine⟨true,_,rfl,⟨by rw [List.length_set,h.len],fun x q s=>?_,fun x q s=>?_,fun x q s=>?_,fun x q=>zza n F (h.rt x q),fun x q L=>?_⟩,fun _=>?_,fun h=>(by cases h)⟩
  ·unfold zsv
   rw [k] at s
   rw [z97 n,k]
   by_cases e:x=v
   ·subst e
    rw [if_pos rfl,if_pos rfl]
    exact .inr ⟨u,i,rfl,rfl,A,by rw [k,if_neg w];exact B,by rw [k,if_neg w];exact Int.le_refl _⟩
   ·rw [if_neg e] at s⊢
    rw [if_neg e]
    rcases h.hop x q s with M|⟨p,j,O,P,Q,R,S⟩
    ·exact .inl M
    ·refine .inr ⟨p,j,O,P,Q,?_,?_⟩
     ·rw [k];split
      ·exact o
      ·exact R
     ·rw [k];split
      ·rename_i e2;subst e2;omega
      ·exact S
  ·rw [k] at s⊢
   by_cases e:x=v
   ·subst e
    rw [if_pos rfl]
    have:=A.pot C
    have:=h.lo u r B
    omega
   ·rw [if_neg e] at s⊢;exact h.lo x q s
  ·rw [k] at s⊢
   by_cases e:x=v
   ·subst e
    rw [if_pos rfl]
    by_cases y:xc H x=INF
    ·have:=hclt y
     have:=h.hi u r B
     omega
    ·have:=h.hi x q y
     omega
   ·rw [if_neg e] at s⊢
    have:=h.hi x q s
    omega
  ·rw [k];split
   ·exact o
   ·exact h.src x q L
  ·have hdel:muv (xc H u+wt b)<muv (xc H v):=by
    unfold muv
    rw [if_neg o]
    split
    ·omega
    ·omega
   have:=z6i (f:=fun x=>muv (xc H x)) (g:=fun x=>muv (xc (H.set v ⟨(u:Int),(i:Int),b,xc H u+wt b⟩) x)) (a:=v) (d:=muv (xc H u+wt b)-muv (xc H v)) (l:=List.range m.rows.length) List.nodup_range (List.mem_range.2 t) (by rw [k,if_pos rfl];omega) (fun x _ w=>by rw [k,if_neg w])
   unfold muH
   omega
end
end GV
end Go.Proofs.Ytdhccodneoebpaa

namespace Go.Proofs.Ytdhccodneoebpaa
namespace GV
set_option maxRecDepth 100000
section
variable {N : Nat} {m : Mach} {X : List (List Int)} {nd d : Nat → Int} {D : Int} {H : List Sa}
def Cl(m:Mach)(X:List (List Int))(H:List Sa)(s i:Nat):Prop:=
 (xc H s≠INF→xc H (ed m s i).toNat≤xc H s+1)∧(0<lf X s i→xc H (ed m s i).toNat≠INF→xc H s≤xc H (ed m s i).toNat-1)
theorem zp0(p:MOk m)(P:Shp m X)(Q:Pot m X d)(r:Bnd m d)(t:D≤63){H:List Sa}{c:Bool}(h:SInv m X nd d D H){s i:Nat}(l:VE m s i): ∃ c' H',
 (bd (
 gd (okI H (s:Int))<|
 gd ((true&&((decide (((ix H (s:Int)).fC)<1073741824))==true))=true→okI H (s:Int))<|
 gd ((true&&((decide (((ix H (s:Int)).fC)<1073741824))==true))=true→in64 (((ix H (s:Int)).fC)+1))<|
 bif decide (((ix H (s:Int)).fC)<1073741824) then(
 bd (wz N (ed m s i) (⟨(s:Int),(i:Int),false,((ix H (s:Int)).fC)+1⟩:Sa) H) fun e=>
 bif e.1 then(
 some (e.2,true)) else(
 some (e.2,c))) else(
 some (H,c))) fun a=>
 gd (okI X (s:Int))<|
 gd (okI (ix X (s:Int)) (i:Int))<|
 gd ((true&&((decide (0<(ix (ix X (s:Int)) (i:Int))))==true))=true→okI a.1 (ed m s i))<|
 gd ((true&&(((decide (0<(ix (ix X (s:Int)) (i:Int))))&&(decide (((ix a.1 (ed m s i)).fC)<1073741824)))==true))=true→okI a.1 (ed m s i))<|
 gd ((true&&(((decide (0<(ix (ix X (s:Int)) (i:Int))))&&(decide (((ix a.1 (ed m s i)).fC)<1073741824)))==true))=true→in64 (((ix a.1 (ed m s i)).fC)-1))<|
 bif (decide (0<(ix (ix X (s:Int)) (i:Int))))&&(decide (((ix a.1 (ed m s i)).fC)<1073741824)) then(
 bd (wz N (s:Int) (⟨ed m s i,(i:Int),true,((ix a.1 (ed m s i)).fC)-1⟩:Sa) a.1) fun k=>
 bif k.1 then(
 some (true,(k.2,true))) else(
 some (true,(k.2,a.2)))) else(
 some (true,(a.1,a.2))))=some (true,(H',c'))∧SInv m X nd d D H'∧muH m H'≤muH m H∧(c'=true→c=true∨muH m H'<muH m H)∧(c'=false→c=false∧H'=H∧Cl m X H s i):=by
 obtain⟨F,g⟩:=l.to p
 have hI:INF=1073741824:=rfl
 have hfar: ∀ (Z:List Sa) (x:Nat),(ix Z (x:Int)).fC=xc Z x:=fun _ _=>rfl
 have G:ix (ix X (s:Int)) (i:Int)=lf X s i:=rfl
 have hfin: ∀ {Z:List Sa},SInv m X nd d D Z→ ∀ x,x<m.rows.length→(xc Z x<1073741824↔xc Z x≠INF):=fun W x Y=>by
  constructor
  ·intro n;omega
  ·intro n;have:=W.bnd p r t Y n;omega
 have n: ∃ o f,(gd (okI H (s:Int))<|
  gd ((true&&((decide (((ix H (s:Int)).fC)<1073741824))==true))=true→okI H (s:Int))<|
  gd ((true&&((decide (((ix H (s:Int)).fC)<1073741824))==true))=true→in64 (((ix H (s:Int)).fC)+1))<|
  bif decide (((ix H (s:Int)).fC)<1073741824) then(
  bd (wz N (ed m s i) (⟨(s:Int),(i:Int),false,((ix H (s:Int)).fC)+1⟩:Sa) H) fun e=>
  bif e.1 then(
  some (e.2,true)) else(
  some (e.2,c))) else(
  some (H,c)))=some (f,o)∧SInv m X nd d D f∧muH m f≤muH m H∧(o=true→c=true∨muH m f<muH m H)∧(o=false→c=false∧f=H∧(xc H s≠INF→xc H (ed m s i).toNat≤xc H s+1)):=by
  have w:okI H (s:Int):=qi (by rw [h.len];exact l.hs)
  rw [zu w,zu (fun _=>w),hfar]
  by_cases hf:xc H s≠INF
  ·have hb:=h.bnd p r t l.hs hf
   rw [zu (fun _=>jh (by omega)),il ((hfin h s l.hs).2 hf),g]
   obtain⟨o,f,y,z,I,A⟩:=zw8 (N:=N) (b:=false) (i:=i) p Q r t h (u:=s) (v:=(ed m s i).toNat) (by unfold Arc;rw [if_neg (by decide)];exact⟨l,g⟩) hf
   rw [show wt false=1 from rfl] at y A
   rw [qg y]
   cases o
   ·obtain⟨J,R⟩:=A rfl
    subst J
    rw [cf rfl]
    exact⟨c,f,rfl,z,Int.le_refl _,fun h=> .inl h,fun h=>⟨h,rfl,fun _=>R⟩⟩
   ·rw [ct rfl]
    have:=I rfl
    exact⟨true,f,rfl,z,by omega,fun h=> .inr this,fun h=>(by cases h)⟩
  ·have B: ¬xc H s<1073741824:=fun j=>hf ((hfin h s l.hs).1 j)
   rw [zu (fun j=>absurd (by simpa using j) B),ni B]
   exact⟨c,H,rfl,h,Int.le_refl _,fun h=> .inl h,fun h=>⟨h,rfl,fun j=>absurd j hf⟩⟩
 obtain⟨o,f,b1,q,S,T,U⟩:=n
 rw [qg b1]
 dsimp only
 have C:okI f (ed m s i):=by rw [g];exact qi (by rw [q.len];exact F)
 have K:(ix f (ed m s i)).fC=xc f (ed m s i).toNat:=by rw [g];rfl
 rw [zu (qi (by rw [P.len];exact l.hs)),zu (qi (by rw [uy,P.row s l.hs];exact l.hi)),zu (fun _=>C),zu (fun _=>C),G,K]
 by_cases hc:0<lf X s i∧xc f (ed m s i).toNat≠INF
 ·have hb:=q.bnd p r t F hc.2
  rw [zu (fun _=>jh (by omega)),ct (by rw [decide_eq_true hc.1,decide_eq_true ((hfin q _ F).2 hc.2)];rfl)]
  obtain⟨c2,V,y,z,I,A⟩:=zw8 (N:=N) (b:=true) (i:=i) p Q r t q (u:=(ed m s i).toNat) (v:=s) (by unfold Arc;rw [if_pos rfl];exact⟨l,g,hc.1⟩) hc.2
  rw [show wt true= -1 from rfl,←g] at y
  rw [show wt true= -1 from rfl] at A
  rw [show xc f (ed m s i).toNat-1=xc f (ed m s i).toNat+ -1 by omega,qg y]
  cases c2
  ·obtain⟨J,R⟩:=A rfl
   subst J
   rw [cf rfl]
   refine⟨o,V,rfl,z,S,T,fun h=>?_⟩
   obtain⟨L,M,O⟩:=U h
   subst M
   exact⟨L,rfl,O,fun _ _=>by omega⟩
  ·rw [ct rfl]
   have:=I rfl
   exact⟨true,V,rfl,z,by omega,fun h=> .inr (by omega),fun h=>(by cases h)⟩
 ·have E:((decide (0<lf X s i))&&(decide (xc f (ed m s i).toNat<1073741824)))=false:=by
   rw [Bool.and_eq_false_iff]
   by_cases n:0<lf X s i
   ·exact .inr (decide_eq_false fun j=>hc ⟨n,(hfin q _ F).1 j⟩)
   ·exact .inl (decide_eq_false n)
  rw [zu (fun j=>by rw [E] at j;cases j),E,cf rfl]
  refine⟨o,f,rfl,q,S,T,fun h=>?_⟩
  obtain⟨L,M,O⟩:=U h
  subst M
  exact⟨L,rfl,O,fun n j=>absurd ⟨n,j⟩ hc⟩
theorem zm6(C:MOk m)(J:200≤N)(E:Shp m X)(K:Pot m X d)(L:Bnd m d)(M:D≤63){g:List Sa}(h:SInv m X nd d D g): ∃ c H',y5 N m.inputs m.outputs m.rows X N 0 g false=some (H',c)∧SInv m X nd d D H'∧muH m H'≤muH m g∧(c=true→muH m H'<muH m g)∧(c=false→H'=g∧ ∀ s i,VE m s i→Cl m X g s i):=by
 have hr:=C.r2
 obtain⟨r,O,x⟩: ∃ r:List Sa×Bool,y5 N m.inputs m.outputs m.rows X N 0 g false=some r∧(SInv m X nd d D r.1∧muH m r.1≤muH m g∧(r.2=true→muH m r.1<muH m g)∧(r.2=false→r.1=g∧ ∀ s i,s<m.rows.length→VE m s i→Cl m X g s i)):=by
  refine z2p (σ:=List Sa×Bool) (fun F s z=>y5 N m.inputs m.outputs m.rows X F (s:Int) z.1 z.2) m.rows.length (fun s z=>SInv m X nd d D z.1∧muH m z.1≤muH m g∧(z.2=true→muH m z.1<muH m g)∧(z.2=false→z.1=g∧ ∀ t i,t<s→VE m t i→Cl m X g t i)) _ (fun F s z H n=> .inr ?_) (fun F z n=>?_) N 0 (g,false) (Nat.zero_le _) (by omega) ⟨h,Int.le_refl _,fun h=>(by cases h),fun _=>⟨rfl,fun t i P=>by omega⟩⟩
  ·simp only [y5]
   rw [il (by rw [E.len];omega),z6b,show ym N m (s:Int)=some (m,(s:Int)) from rfl,z7j]
   obtain⟨w,Q,G⟩:=z5c (s:=s) C J H (σ:=List Sa×Bool) (fun a b=>
    bd (
    gd (okI b.1 (s:Int))<|
    gd ((true&&((decide (((ix b.1 (s:Int)).fC)<1073741824))==true))=true→okI b.1 (s:Int))<|
    gd ((true&&((decide (((ix b.1 (s:Int)).fC)<1073741824))==true))=true→in64 (((ix b.1 (s:Int)).fC)+1))<|
    bif decide (((ix b.1 (s:Int)).fC)<1073741824) then(
    bd (wz N a.fB (⟨(s:Int),a.fA,false,((ix b.1 (s:Int)).fC)+1⟩:Sa) b.1) fun k=>
    bif k.1 then(
    some (k.2,true)) else(
    some (k.2,b.2))) else(
    some (b.1,b.2))) fun f=>
    gd (okI X (s:Int))<|
    gd (okI (ix X (s:Int)) a.fA)<|
    gd ((true&&((decide (0<(ix (ix X (s:Int)) a.fA)))==true))=true→okI f.1 a.fB)<|
    gd ((true&&(((decide (0<(ix (ix X (s:Int)) a.fA)))&&(decide (((ix f.1 a.fB).fC)<1073741824)))==true))=true→okI f.1 a.fB)<|
    gd ((true&&(((decide (0<(ix (ix X (s:Int)) a.fA)))&&(decide (((ix f.1 a.fB).fC)<1073741824)))==true))=true→in64 (((ix f.1 a.fB).fC)-1))<|
    bif (decide (0<(ix (ix X (s:Int)) a.fA)))&&(decide (((ix f.1 a.fB).fC)<1073741824)) then(
    bd (wz N (s:Int) (⟨a.fB,a.fA,true,((ix f.1 a.fB).fC)-1⟩:Sa) f.1) fun l=>
    bif l.1 then(
    some (true,(l.2,true))) else(
    some (true,(l.2,f.2)))) else(
    some (true,(f.1,f.2)))) (fun i z=>SInv m X nd d D z.1∧muH m z.1≤muH m g∧(z.2=true→muH m z.1<muH m g)∧(z.2=false→z.1=g∧(∀ t i,t<s→VE m t i→Cl m X g t i)∧ ∀ j,j<i→VE m s j→Cl m X g s j)) (s0:=(z.1,z.2)) ⟨n.1,n.2.1,n.2.2.1,fun h=>⟨(n.2.2.2 h).1,(n.2.2.2 h).2,fun j I=>by omega⟩⟩ (by
     rintro i ⟨Z,c⟩ hi h0 ⟨q,y,u,v⟩
     dsimp only at q y u v
     have p:VE m s i:=⟨H,hi,by omega⟩
     obtain⟨c',H',R,S,a3,T,U⟩:=zp0 (N:=N) (c:=c) C E K L M q p
     refine⟨(H',c'),R,S,by dsimp only;omega,fun h=>?_,fun h=>?_⟩
     ·rcases T h with h|h
      ·have:=u h;dsimp only;omega
      ·dsimp only;omega
     ·obtain⟨V,W,Y⟩:=U h
      obtain⟨f1,A,B⟩:=v V
      subst W
      subst f1
      refine⟨rfl,A,fun j I o=>?_⟩
      by_cases e:j=i
      ·subst e;exact Y
      ·exact B j (by omega) o) (by
     rintro i ⟨Z,c⟩ hi he ⟨q,y,u,v⟩
     refine⟨q,y,u,fun h=>?_⟩
     obtain⟨f1,A,B⟩:=v h
     refine⟨f1,A,fun j I o=>?_⟩
     by_cases e:j=i
     ·subst e;exact absurd he o.he
     ·exact B j (by omega) o)
   obtain⟨q,y,u,v⟩:=G
   refine⟨w,⟨q,y,u,fun h=>?_⟩,by rw [qg Q,zu (jh (by omega))];rfl⟩
   obtain⟨f1,A,B⟩:=v h
   refine⟨f1,fun t i P p=>?_⟩
   by_cases e:t=s
   ·subst e;exact B i p.hi p
   ·exact A t i (by omega) p
  ·simp only [y5]
   rw [ni (by rw [E.len];omega)]
   exact⟨_,rfl,n.1,n.2.1,n.2.2.1,n.2.2.2⟩
 exact⟨r.2,r.1,O,x.1,x.2.1,x.2.2.1,fun h=>⟨(x.2.2.2 h).1,fun s i p=>(x.2.2.2 h).2 s i p.hs p⟩⟩
theorem zif(a:MOk m)(g:200≤N)(j:Shp m X)(k:Pot m X d)(b:Bnd m d)(e:D≤63): ∀ (μ:Nat) (F:Nat) (H:List Sa),SInv m X nd d D H→(muH m H).toNat<μ→μ<F→ ∃ H',pq N m.inputs m.outputs m.rows X F true H=some H'∧SInv m X nd d D H'∧ ∀ s i,VE m s i→Cl m X H' s i
 |0,_,_,_,h,_=>by omega
 |μ+1,F,H,h,l,t=>by
  obtain⟨F,rfl⟩: ∃ F',F=F'+1:=⟨F-1,by omega⟩
  obtain⟨c,H',n,f,u,o,p⟩:=zm6 (N:=N) a g j k b e h
  simp only [pq]
  rw [ct rfl,qg n]
  have v:=h.mu0 a b e
  have w:=f.mu0 a b e
  cases c
  ·obtain⟨q,r⟩:=p rfl
   subst q
   obtain⟨F,rfl⟩: ∃ F',F=F'+1:=⟨F-1,by omega⟩
   exact⟨H',rfl,f,r⟩
  ·have:=o rfl
   exact zif a g j k b e μ F H' f (by omega) (by omega)
def zft(nd:Nat→Int)(v:Nat):Sa:=⟨-1,0,false,if 0<nd v then 0 else 1073741824⟩
def z9m(m:Mach)(nd:Nat→Int):List Sa:=(List.range m.rows.length).map (zft nd)
theorem zyx{v:Nat}(a:v<m.rows.length):xc (z9m m nd) v=if 0<nd v then 0 else 1073741824:=by
 unfold xc z9m;rw [yf (zft nd) a];rfl
def ndL(m:Mach)(nd:Nat→Int):List Int:=(List.range m.rows.length).map nd
theorem z3c:(ndL m nd).length=m.rows.length:=by simp [ndL]
theorem zf6{v:Nat}(a:v<m.rows.length):(ndL m nd).getD v default=nd v:=yf nd a
theorem zxr(f:MOk m)(g:Bnd m d)(e: ∀ v,v<m.rows.length→d v≤D):SInv m X nd d D (z9m m nd):=by
 have c: ∀ v,v<m.rows.length→xc (z9m m nd) v≠INF→0<nd v∧xc (z9m m nd) v=0:=fun v a h=>by
  rw [zyx a] at h⊢
  split
  ·rename_i h2;exact⟨h2,rfl⟩
  ·rename_i h2;rw [if_neg h2] at h;exact absurd rfl h
 have b: ∀ v,v<m.rows.length→((z9m m nd).getD v default).fG= -1:=fun v a=>by
  unfold z9m;rw [yf (zft nd) a];rfl
 refine⟨by simp [z9m],fun v a h=> .inl ⟨b v a,(c v a h).2,(c v a h).1⟩,fun v a h=>?_,fun v a h=>?_,fun v a=> .root (b v a),fun v a h=>?_⟩
 ·rw [(c v a h).2]
  have:=e v a;omega
 ·rw [(c v a h).2]
  have:0<zn3 m (z9m m nd):=List.countP_pos_iff.2 ⟨v,List.mem_range.2 a,decide_eq_true h⟩
  omega
 ·rw [zyx a,if_pos h];decide
theorem zpg(c:MOk m)(d:200≤N):x9 N (ndL m nd) N 0 (List.replicate m.rows.length ⟨0,0,false,0⟩)=some (z9m m nd):=by
 have e:=c.r2
 have f:=z3c (m:=m) (nd:=nd)
 refine lh (σ:=List Sa) (fun F v z=>x9 N (ndL m nd) F (v:Int) z) m.rows.length (fun v z=>z=(List.range v).map (zft nd)++List.replicate (m.rows.length-v) ⟨0,0,false,0⟩) _ (fun F v z b a=> .inr ?_) (fun F z a=>?_) N 0 (List.replicate m.rows.length ⟨0,0,false,0⟩) (Nat.zero_le _) (by omega) (by simp)
 ·subst a
  have hlen:((List.range v).map (zft nd)++List.replicate (m.rows.length-v) (⟨0,0,false,0⟩:Sa)).length=m.rows.length:=by simp;omega
  refine⟨_,rfl,?_⟩
  simp only [x9]
  rw [il (by omega)]
  refine Eq.trans (qg (x:=((List.range v).map (zft nd)++List.replicate (m.rows.length-v) (⟨0,0,false,0⟩:Sa)).set v (zft nd v)) ?_) ?_
  ·rw [zu (qi (by omega)),zu (qi (by omega)),uy,zf6 b,mo]
   by_cases h:0<nd v
   ·rw [il h,zu (qi (by rw [List.length_set];omega)),mo,List.set_set,uy,z97 (by omega),if_pos rfl]
    rw [show zft nd v=⟨-1,0,false,0⟩ from by unfold zft;rw [if_pos h]]
   ·rw [ni h]
    rw [show zft nd v=⟨-1,0,false,1073741824⟩ from by unfold zft;rw [if_neg h]]
  ·rw [zu (jh (by omega)),z7t (by simp) b,List.range_succ,List.map_append];rfl
 ·subst a
  simp only [x9]
  rw [ni (by omega),Nat.sub_self,List.replicate_zero,List.append_nil];rfl
theorem zq0(a:MOk m)(l:30000≤N)(c:Shp m X)(f:Pot m X d)(b:Bnd m d): ∃ H,z0y N m.inputs m.outputs m.rows X (ndL m nd)=some H∧SInv m X nd d 63 H∧ ∀ s i,VE m s i→Cl m X H s i:=by
 have n:=a.r2
 have e:SInv m X nd d 63 (z9m m nd):=zxr a b fun v g=>(b v g).2
 obtain⟨H,h,j,k⟩:=zif (N:=N) a (by omega) c f b (by decide) 25601 N (z9m m nd) e (by have:=e.mu0 a b (by decide);omega) (by omega)
 refine⟨H,?_,j,k⟩
 unfold z0y
 rw [zu (by rw [c.len];exact⟨by omega,by omega,by omega⟩),c.len,z07,qg (zpg a (by omega)),qg h]
end
end GV
end Go.Proofs.Ytdhccodneoebpaa

namespace Go.Proofs.Ytdhccodneoebpaa
namespace GV
set_option maxRecDepth 100000
inductive RtD (H:List Sa):Nat→Nat→Prop
 |root {v:Nat}:(H.getD v default).fG= -1→RtD H v 0
 |step {v u k:Nat}:(H.getD v default).fG=(u:Int)→RtD H u k→RtD H v (k+1)
theorem zrp{H:List Sa}{v:Nat}(h:Rt H v): ∃ k,RtD H v k:=by
 induction h with
 |root h=>exact⟨0,.root h⟩
 |step h _ ih=>obtain⟨k,a⟩:=ih;exact⟨k+1,.step h a⟩
theorem zo5{H:List Sa}{v k:Nat}(h:RtD H v k): ∀ {j:Nat},RtD H v j→k=j:=by
 induction h with
 |root h=>
  intro j b
  cases b with
  |root _=>rfl
  |step a _=>rw [h] at a;omega
 | @step v u k h d ih=>
  intro j b
  cases b with
  |root a=>rw [h] at a;omega
  | @step _ u' j a c=>
   obtain rfl:u'=u:=by rw [h] at a;omega
   rw [ih c]
section
variable {N : Nat} {m : Mach} {X : List (List Int)} {nd d : Nat → Int} {D : Int} {H : List Sa}
theorem levels(b:MOk m){f:Nat→Int}(j: ∀ s i,VE m s i→f (ed m s i).toNat≤f s+1){v y:Nat}(k:v<m.rows.length)(h:Reach m v y): ∀ c,f v≤c→c≤f y→ ∃ x,x<m.rows.length∧f x=c:=by
 induction h with
 |refl=>exact fun c d e=>⟨v,k,by omega⟩
 | @step t i n g l o ih=>
  intro c d e
  have hi:i<m.inputs.toNat:=by rwa [b.rowlen g] at l
  have a:VE m t i:=⟨g,hi,by unfold ed;omega⟩
  have p:=j t i a
  rw [show ((m.rows.getD t default).getD i default).to.toNat=(ed m t i).toNat from rfl] at e
  by_cases h4:c≤f t
  ·exact ih c d h4
  ·exact⟨_,(a.to b).1,by omega⟩
theorem spread(o:MOk m){f:Nat→Int}(p: ∀ s i,VE m s i→f (ed m s i).toNat≤f s+1){v y:Nat}(q:v<m.rows.length)(h:Reach m v y):f y-f v≤63:=by
 have w:=o.r2
 refine Classical.byContradiction fun z=>?_
 have r: ∀ j:Nat,∃ x,j<65→x<m.rows.length∧f x=f v+(j:Int):=fun j=>by
  by_cases c:j<65
  ·obtain⟨x,t,d⟩:=levels o p q h (f v+(j:Int)) (by omega) (by omega)
   exact⟨x,fun _=>⟨t,d⟩⟩
  ·exact⟨0,fun h=>absurd h c⟩
 obtain⟨g,l⟩:=Classical.axiomOfChoice r
 have:=zs1 (n:=m.rows.length) (k:=65) (f:=g) (fun j c=>(l j c).1) fun i j u c e=>by
  have a:=(l i (by omega)).2
  have b:=(l j c).2
  rw [e] at a;omega
 omega
structure Fin (m:Mach) (X:List (List Int)) (nd:Nat→Int) (H:List Sa):Prop where
 len:H.length=m.rows.length
 hop: ∀ v,v<m.rows.length→zsv m X nd H v
 rt: ∀ v,v<m.rows.length→Rt H v
 pot:Pot m X (xc H)
 bnd:Bnd m (xc H)
theorem zx0(c:MOk m)(y:Bnd m d)(k: ∀ s t,s<m.rows.length→t<m.rows.length→Reach m s t)(h:SInv m X nd d 63 H)(b: ∀ s i,VE m s i→Cl m X H s i){q:Nat}(l:q<m.rows.length)(n:0<nd q):Fin m X nd H:=by
 have D:INF=1073741824:=rfl
 have hall: ∀ v,v<m.rows.length→xc H v≠INF:=fun v a=>by
  have o:=k q v l a
  clear a
  induction o with
  |refl=>exact h.src q l n
  | @step t i E p z F ih=>
   have hi:i<m.inputs.toNat:=by rwa [c.rowlen p] at z
   have w:VE m t i:=⟨p,hi,by unfold ed;omega⟩
   have:=(b t i w).1 ih
   have:=h.bnd c y (by decide) p ih
   rw [show ((m.rows.getD t default).getD i default).to.toNat=(ed m t i).toNat from rfl]
   omega
 have hpot:Pot m X (xc H):=⟨fun s i a=>(b s i a).1 (hall s a.hs),fun s i a A=>by
  have e:=(b s i a).1 (hall s a.hs)
  have g:=(b s i a).2 A (hall _ (a.to c).1)
  omega⟩
 have hroot: ∀ {v:Nat},Rt H v→v<m.rows.length→ ∃ r,r<m.rows.length∧xc H r=0:=by
  intro v a
  induction a with
  | @root v e=>
   intro j
   rcases h.hop v j (hall v j) with⟨_,g,_⟩|⟨u,i,g,_⟩
   ·exact⟨v,j,g⟩
   ·rw [e] at g;omega
  | @step v u e g ih=>
   intro j
   rcases h.hop v j (hall v j) with⟨x,_⟩|⟨u',i,x,_,B,_⟩
   ·rw [e] at x;omega
   ·obtain rfl:u'=u:=by rw [e] at x;omega
    exact ih (B.lt c).1
 obtain⟨r,o,C⟩:=hroot (h.rt q l) l
 refine⟨h.len,fun v a=>h.hop v a (hall v a),h.rt,hpot,fun v a=>?_⟩
 have e:=h.bnd c y (by decide) a (hall v a)
 have g:=spread c hpot.f a (k v r a o)
 omega
theorem zrw(q:MOk m)(h:Fin m X nd H){v k:Nat}(r:v<m.rows.length)(l:RtD H v k):k<m.rows.length:=by
 have key: ∀ {v k:Nat},RtD H v k→v<m.rows.length→ ∀ j,j≤k→ ∃ x,x<m.rows.length∧RtD H x j:=by
  intro v k l
  induction l with
  | @root v b=>exact fun d j c=>⟨v,d,by rw [show j=0 by omega];exact .root b⟩
  | @step v u k b s ih=>
   intro d j c
   by_cases e:j=k+1
   ·exact⟨v,d,by rw [e];exact .step b s⟩
   ·rcases h.hop v d with⟨o,_⟩|⟨u',i,o,_,t,_⟩
    ·rw [b] at o;omega
    ·obtain rfl:u'=u:=by rw [b] at o;omega
     exact ih (t.lt q).1 j (by omega)
 have b: ∀ j:Nat,∃ x,j<k+1→x<m.rows.length∧RtD H x j:=fun j=>by
  by_cases c:j<k+1
  ·obtain⟨x,w⟩:=key l r j (by omega)
   exact⟨x,fun _=>w⟩
  ·exact⟨0,fun h=>absurd h c⟩
 obtain⟨g,p⟩:=Classical.axiomOfChoice b
 exact zs1 (n:=m.rows.length) (k:=k+1) (f:=g) (fun j c=>(p j c).1) fun i j y c e=>by
  have a:=(p i (by omega)).2
  rw [e] at a
  have:=zo5 a (p j c).2
  omega
theorem zk6(I:MOk m)(h:Fin m X nd H): ∀ (k v:Nat) (Z:List (List Int)) (B:Int) (F:Nat),RtD H v k→v<m.rows.length→Shp m Z→(∀ s i,VE m s i→0≤lf Z s i∧lf Z s i≤B)→0≤B→B+(k:Int)≤1000000000→(∀ y j,RtD H y j→j≤k→ ∀ i,VE m y i→lf X y i≤lf Z y i)→(∀ s i,VE m s i→0<lf Z s i→xc H (ed m s i).toNat=xc H s+1)→k<F→
 ∃ (r:Nat) (Z':List (List Int)),mh N H F (v:Int) Z=some ((r:Int),Z')∧r<m.rows.length∧0<nd r∧Shp m Z'∧(∀ s i,VE m s i→0≤lf Z' s i∧lf Z' s i≤B+(k:Int))∧(∀ s i,VE m s i→0<lf Z' s i→xc H (ed m s i).toNat=xc H s+1)∧ ∀ w,y8 m Z' w=y8 m Z w+(dl r w-dl v w)
 |k,v,Z,B,F,hk,p,c,A,ab,hB,hrow,G,hF=>by
  obtain⟨F,rfl⟩: ∃ F',F=F'+1:=⟨F-1,by omega⟩
  have C:okI H (v:Int):=qi (by rw [h.len];exact p)
  simp only [mh]
  rw [zu C,uy]
  cases hk with
  |root n=>
   rw [n,ni (fun h=>h rfl)]
   rcases h.hop v p with⟨_,_,o⟩|⟨u,i,o,_⟩
   ·exact⟨v,Z,rfl,p,o,c,fun s i f=>by have:=A s i f;omega,G,fun w=>by omega⟩
   ·rw [n] at o;omega
  | @step _ u k n o=>
   rcases h.hop v p with⟨J,_⟩|⟨u',i,J,K,q,_,Y⟩
   ·rw [n] at J;omega
   ·obtain rfl:u=u':=by rw [n] at J;omega
    obtain⟨D,_⟩:=q.lt I
    have hdet: ∀ y j,RtD H y j→j≤k→y≠v:=fun y j z L e=>by
     subst e
     have:=zo5 z (.step n o);omega
    rw [n,il (by omega),zu C,K]
    have E:=q.pot h.pot
    generalize hbk:(H.getD v default).fZ=b at*
    unfold Arc at q
    cases b
    ·rw [if_neg (by decide)] at q
     obtain⟨a,g⟩:=q
     have M:=A u i a
     have hset: ∀ {x:Int},Shp m (Z.set u ((Z.getD u default).set i x)):=c.set a.hs (by rw [List.length_set,c.row u a.hs])
     have d: ∀ s j,lf (Z.set u ((Z.getD u default).set i (lf Z u i+1))) s j=if s=u∧j=i then lf Z u i+1 else lf Z s j:=fun s j=>za9 c a.hs a.hi
     have hbal:=fun w=>zk1 c a (x:=lf Z u i+1) w
     have O:xc H v=xc H u+1:=by
      have Y:xc H u+1≤xc H v:=Y
      have E:xc H v≤xc H u+1:=E
      omega
     obtain⟨r,Z',P,Q,R,S,T,U,V⟩:=zk6 I h k u (Z.set u ((Z.getD u default).set i (lf Z u i+1))) (B+1) F o D hset (fun s j f=>by
      rw [d];have:=A s j f;split<;>omega) (by omega) (by omega) (fun y j z L l W=>by
      rw [d]
      have:=hrow y j z (by omega) l W
      split
      ·rename_i e;obtain⟨rfl,rfl⟩:=e;omega
      ·exact this) (fun s j f t=>by
      rw [d] at t
      by_cases e:s=u∧j=i
      ·obtain⟨rfl,rfl⟩:=e
       rw [g,Int.toNat_natCast];exact O
      ·rw [if_neg e] at t;exact G s j f t) (by omega)
     refine⟨r,Z',?_,Q,R,S,fun s j f=>by have:=T s j f;omega,U,fun w=>?_⟩
     ·refine Eq.trans (qg (x:=Z.set u ((Z.getD u default).set i (lf Z u i+1))) ?_) P
      rw [cf rfl,zu (qi (by rw [c.len];exact D)),uy,zu (qi (by rw [c.row u D];exact a.hi)),uy,show (Z.getD u default).getD i default=lf Z u i from rfl,zu (jh (by omega)),zu (qi (by rw [c.row u D];exact a.hi)),mo,mo]
     ·rw [V w,hbal w,g,Int.toNat_natCast,show lf Z u i+1-lf Z u i=1 by omega];omega
    ·rw [if_pos rfl] at q
     obtain⟨a,g,ac⟩:=q
     have M:=A v i a
     have ad:=hrow v (k+1) (.step n o) (Nat.le_refl _) i a
     have hset: ∀ {x:Int},Shp m (Z.set v ((Z.getD v default).set i x)):=c.set a.hs (by rw [List.length_set,c.row v a.hs])
     have d: ∀ s j,lf (Z.set v ((Z.getD v default).set i (lf Z v i-1))) s j=if s=v∧j=i then lf Z v i-1 else lf Z s j:=fun s j=>za9 c a.hs a.hi
     have hbal:=fun w=>zk1 c a (x:=lf Z v i-1) w
     obtain⟨r,Z',P,Q,R,S,T,U,V⟩:=zk6 I h k u (Z.set v ((Z.getD v default).set i (lf Z v i-1))) (B+1) F o D hset (fun s j f=>by
      rw [d];have:=A s j f;split<;>omega) (by omega) (by omega) (fun y j z L l W=>by
      rw [d,if_neg (fun e=>hdet y j z L e.1)]
      exact hrow y j z (by omega) l W) (fun s j f t=>by
      rw [d] at t
      by_cases e:s=v∧j=i
      ·obtain⟨rfl,rfl⟩:=e
       exact G s j f (by omega)
      ·rw [if_neg e] at t;exact G s j f t) (by omega)
     refine⟨r,Z',?_,Q,R,S,fun s j f=>by have:=T s j f;omega,U,fun w=>?_⟩
     ·refine Eq.trans (qg (x:=Z.set v ((Z.getD v default).set i (lf Z v i-1))) ?_) P
      rw [ct rfl,zu (qi (by rw [c.len];exact p)),uy,zu (qi (by rw [c.row v p];exact a.hi)),uy,show (Z.getD v default).getD i default=lf Z v i from rfl,zu (jh (by omega)),zu (qi (by rw [c.row v p];exact a.hi)),mo,mo]
     ·rw [V w,hbal w,g,Int.toNat_natCast,show lf Z v i-1-lf Z v i= -1 by omega];omega
theorem zus(i:MOk m)(l:200≤N)(g:H.length=m.rows.length): ∃ z,xy N (ndL m nd) H N (-1) 0=some z∧((z= -1∧ ∀ v,v<m.rows.length→0≤nd v)∨ ∃ x,x<m.rows.length∧z=(x:Int)∧nd x<0):=by
 have n:=i.r2
 have o:=z3c (m:=m) (nd:=nd)
 refine z2p (σ:=Int) (fun F v z=>xy N (ndL m nd) H F z (v:Int)) m.rows.length (fun v z=>(z= -1∧ ∀ u,u<v→0≤nd u)∨ ∃ x,x<m.rows.length∧z=(x:Int)∧nd x<0) _ (fun F v z b a=> .inr ?_) (fun F z a=>?_) N 0 (-1) (Nat.zero_le _) (by omega) (.inl ⟨rfl,fun u j=>by omega⟩)
 ·simp only [xy]
  rw [il (by omega)]
  have c:z≠ -1→okI H z:=fun d=>by
   rcases a with⟨h,_⟩|⟨x,k,rfl,_⟩
   ·exact absurd h d
   ·exact qi (by rw [g];exact k)
  obtain⟨z',h1,f⟩: ∃ z',(gd (okI (ndL m nd) (v:Int))<|
   gd (((true&&((decide ((ix (ndL m nd) (v:Int))<0))==true))&&((decide (z=(-1)))==false))=true→okI H (v:Int))<|
   gd (((true&&((decide ((ix (ndL m nd) (v:Int))<0))==true))&&((decide (z=(-1)))==false))=true→okI H z)<|
   bif (decide ((ix (ndL m nd) (v:Int))<0))&&((decide (z=(-1)))||(decide (((ix H (v:Int)).fC)<((ix H z).fC)))) then(
   some (v:Int)) else(
   some z))=some z'∧((z'= -1∧ ∀ u,u<v+1→0≤nd u)∨ ∃ x,x<m.rows.length∧z'=(x:Int)∧nd x<0):=by
   rw [zu (qi (by omega)),zu (fun _=>qi (by rw [g];exact b)),zu (fun h=>c (by
    have:=(Bool.and_eq_true _ _▸h).2
    simpa using this)),uy,zf6 b]
   by_cases hn:nd v<0
   ·cases hc:(decide (nd v<0))&&((decide (z=(-1)))||(decide (((ix H (v:Int)).fC)<((ix H z).fC))))
    ·refine⟨z,rfl,?_⟩
     rcases a with⟨h,_⟩|h
     ·rw [decide_eq_true hn,decide_eq_true h] at hc;cases hc
     ·exact .inr h
    ·exact⟨(v:Int),rfl,.inr ⟨v,b,rfl,hn⟩⟩
   ·rw [cf (by rw [decide_eq_false hn];rfl)]
    refine⟨z,rfl,?_⟩
    rcases a with⟨h,f⟩|h
    ·refine .inl ⟨h,fun u j=>?_⟩
     by_cases e:u=v
     ·subst e;omega
     ·exact f u (by omega)
    ·exact .inr h
  exact⟨z',f,by rw [qg h1,zu (jh (by omega))];rfl⟩
 ·simp only [xy]
  rw [ni (by omega)]
  exact⟨z,rfl,a⟩
end
end GV
end Go.Proofs.Ytdhccodneoebpaa

namespace Go.Proofs.Ytdhccodneoebpaa
namespace GV
set_option maxRecDepth 100000
theorem zqx{n a:Nat}(b:a<n):((List.range n).map fun v=>dl a v).sum=1:=by
 have:=z6i (f:=fun _=>(0:Int)) (g:=fun v=>dl a v) (a:=a) (d:=1) (l:=List.range n) List.nodup_range (List.mem_range.2 b) (by rw [z1a];rfl) (fun x _ c=>z1n fun h=>c h.symm)
 rw [this,z0u];rfl
theorem zk0{α:Type}(c:Int)(f:α→Int): ∀ l:List α,(l.map fun x=>c*f x).sum=c*(l.map f).sum
 | []=>by simp
 |x::l=>by rw [List.map_cons,List.map_cons,List.sum_cons,List.sum_cons,zk0 c f l,Int.mul_add]
section
variable {N : Nat} {m : Mach} {X L : List (List Int)} {nd d : Nat → Int} {B : Int} {H : List Sa}
theorem zht(k:MOk m):((List.range m.rows.length).map (y8 m L)).sum=0:=by
 unfold y8
 have key: ∀ E:List (Int×Int),(∀ e∈E,e.1.toNat<m.rows.length∧tgE m e<m.rows.length)→((List.range m.rows.length).map fun v=>(E.map (z9e m L v)).sum).sum=0:=by
  intro E
  induction E with
  |nil=>intro _;exact z0u _
  |cons e E ih=>
   intro h
   have d:=h e (List.mem_cons_self ..)
   have l:=ih fun x n=>h x (List.mem_cons_of_mem _ n)
   have o:((List.range m.rows.length).map fun v=>z9e m L v e).sum=0:=by
    unfold z9e
    rw [zk0]
    have p:((List.range m.rows.length).map fun v=>dl e.1.toNat v-dl (tgE m e) v).sum=0:=by
     have q:=z3b (fun v=>dl e.1.toNat v-dl (tgE m e) v) (fun v=>dl (tgE m e) v) (List.range m.rows.length)
     rw [gz (f:=fun v=>dl e.1.toNat v-dl (tgE m e) v+dl (tgE m e) v) (g:=fun v=>dl e.1.toNat v) (fun x _=>by omega),zqx d.1,zqx d.2] at q
     omega
    rw [p,Int.mul_zero]
   have j:=z3b (fun v=>z9e m L v e) (fun v=>(E.map (z9e m L v)).sum) (List.range m.rows.length)
   rw [l,o] at j
   simp only [List.map_cons,List.sum_cons]
   exact j
 exact key (qp m) fun e r=>by
  obtain⟨s,i,a,b,c,rfl⟩:=ut.1 r
  exact⟨a,((⟨a,b,c⟩:VE m s i).to k).1⟩
structure FInv (m:Mach) (X:List (List Int)) (nd d:Nat→Int) (B:Int):Prop where
 shp:Shp m X
 rng: ∀ s i,VE m s i→0≤lf X s i∧lf X s i≤B
 pot:Pot m X d
 bnd:Bnd m d
 bal: ∀ v,v<m.rows.length→nd v= -y8 m (ay m) v-y8 m X v
def zm4(x:Int):Int:=if x<0 then-x else 0
def zme(m:Mach)(nd:Nat→Int):Int:=((List.range m.rows.length).map fun v=>zm4 (nd v)).sum
theorem zl1:0≤zme m nd:=z5a fun v _=>by unfold zm4;split<;>omega
theorem zlg(a:MOk m)(h:FInv m X nd d B):((List.range m.rows.length).map nd).sum=0:=by
 have c:=z3b nd (fun v=>y8 m (ay m) v+y8 m X v) (List.range m.rows.length)
 have b:=z3b (y8 m (ay m)) (y8 m X) (List.range m.rows.length)
 rw [zht a,zht a] at b
 rw [b,gz (f:=fun v=>nd v+(y8 m (ay m) v+y8 m X v)) (g:=fun _=>0) (fun v e=>by have:=h.bal v (List.mem_range.1 e);omega),z0u] at c
 omega
theorem zwi(c:MOk m)(h:FInv m X nd d B){q:Nat}(e:q<m.rows.length)(j:nd q<0): ∃ p,p<m.rows.length∧0<nd p:=by
 refine Classical.byContradiction fun a=>?_
 have k:=zlg c h
 have n:=zbl (f:=fun v=> -nd v) (l:=List.range m.rows.length) (fun v i=>Int.not_lt.1 fun b=>a ⟨v,List.mem_range.1 i,by omega⟩) ⟨q,List.mem_range.2 e,by omega⟩
 have b:=z3b nd (fun v=> -nd v) (List.range m.rows.length)
 rw [gz (f:=fun v=>nd v+ -nd v) (g:=fun _=>0) (fun v _=>by omega),z0u] at b
 omega
theorem zuv(c:MOk m)(h:FInv m X nd d B)(b: ∀ v,v<m.rows.length→0≤nd v){v:Nat}(a:v<m.rows.length):nd v=0:=by
 refine Classical.byContradiction fun e=>?_
 have g:=zlg c h
 have i:=zbl (f:=nd) (l:=List.range m.rows.length) (fun v a=>b v (List.mem_range.1 a)) ⟨v,List.mem_range.2 a,by have:=b v a;omega⟩
 omega
theorem zvt(n:MOk m)(O:30000≤N)(E: ∀ s t,s<m.rows.length→t<m.rows.length→Reach m s t)(h:FInv m X nd d B)(F:0≤B)(hB:B+64≤1000000000)(o: ∀ v,v<m.rows.length→ -1000000≤nd v∧nd v≤1000000):
 (z0p N m.inputs m.outputs m.rows X (ndL m nd)=some (false,X,ndL m nd)∧ ∀ v,v<m.rows.length→0≤nd v)∨ ∃ X' nd' d',z0p N m.inputs m.outputs m.rows X (ndL m nd)=some (true,X',ndL m nd')∧FInv m X' nd' d' (B+64)∧zme m nd'=zme m nd-1∧ ∀ v,v<m.rows.length→ -1000000≤nd' v∧nd' v≤1000000:=by
 have hr:=n.r2
 obtain⟨H,P,L,Q⟩:=zq0 (N:=N) (nd:=nd) n O h.shp h.pot h.bnd
 obtain⟨z,R,G⟩:=zus (N:=N) (nd:=nd) n (by omega) L.len
 unfold z0p
 rw [qg P,qg R]
 rcases G with⟨rfl,G⟩|⟨q,c,rfl,u⟩
 ·left
  exact⟨by rw [il rfl],G⟩
 ·right
  obtain⟨p,S,I⟩:=zwi n h c u
  have hfin:=zx0 n h.bnd E L Q S I
  obtain⟨k,M⟩:=zrp (hfin.rt q c)
  have T:=zrw n hfin c M
  obtain⟨r,X',U,D,c3,V,W,Y,Z⟩:=zk6 n hfin k q X B N M c h.shp h.rng F (by omega) (fun y j _ _ i _=>Int.le_refl _) hfin.pot.t (by omega)
  have w:okI (ndL m nd) (q:Int):=qi (by rw [z3c];exact c)
  have b:q≠r:=fun e=>by subst e;omega
  have aa:=o q c
  have ab:=o r D
  have J:(ndL m nd).set q (nd q+1)=ndL m (fun v=>nd v+dl q v):=by
   apply List.ext_getElem?
   intro j
   by_cases hj:j<m.rows.length
   ·rw [List.getElem?_eq_getElem (by rw [List.length_set,z3c];exact hj),List.getElem?_eq_getElem (by rw [z3c];exact hj)]
    congr 1
    rw [List.getElem_set]
    unfold ndL
    rw [List.getElem_map,List.getElem_range,List.getElem_map,List.getElem_range]
    split
    ·rename_i e;subst e;rw [z1a]
    ·rename_i e;rw [z1n e];omega
   ·rw [List.getElem?_eq_none (by rw [List.length_set,z3c];omega),List.getElem?_eq_none (by rw [z3c];omega)]
  have A:(ndL m (fun v=>nd v+dl q v)).set r (nd r-1)=ndL m (fun v=>nd v+dl q v-dl r v):=by
   apply List.ext_getElem?
   intro j
   by_cases hj:j<m.rows.length
   ·rw [List.getElem?_eq_getElem (by rw [List.length_set,z3c];exact hj),List.getElem?_eq_getElem (by rw [z3c];exact hj)]
    congr 1
    rw [List.getElem_set]
    unfold ndL
    rw [List.getElem_map,List.getElem_range,List.getElem_map,List.getElem_range]
    split
    ·rename_i e;subst e;rw [z1a,z1n b];omega
    ·rename_i e;rw [z1n e];omega
   ·rw [List.getElem?_eq_none (by rw [List.length_set,z3c];omega),List.getElem?_eq_none (by rw [z3c];omega)]
  have K:(ndL m (fun v=>nd v+dl q v)).getD r default=nd r:=by
   rw [zf6 D,z1n b];omega
  refine⟨X',fun v=>nd v+dl q v-dl r v,xc H,?_,⟨V,fun s i C=>by have:=W s i C;omega,⟨hfin.pot.f,Y⟩,hfin.bnd,fun v C=>?_⟩,?_,fun v C=>?_⟩
  ·rw [ni (by omega),zu w,uy,zf6 c,zu (jh (by omega)),zu w,qg U,mo,J]
   dsimp only
   rw [zu (qi (by rw [z3c];exact D)),uy,K,zu (jh (by omega)),zu (qi (by rw [z3c];exact D)),mo,A]
  ·have:=h.bal v C
   have:=Z v
   omega
  ·have h1:=z6i (f:=fun v=>zm4 (nd v)) (g:=fun v=>zm4 (nd v+dl q v-dl r v)) (a:=q) (d:= -1) (l:=List.range m.rows.length) List.nodup_range (List.mem_range.2 c) (by
    rw [z1a,z1n (fun h=>b h.symm)]
    unfold zm4
    rw [if_pos u]
    split<;>omega) (fun x _ hx=>by
    rw [z1n (fun h=>hx h.symm)]
    by_cases e:r=x
    ·subst e
     rw [z1a]
     unfold zm4
     rw [if_neg (by omega),if_neg (by omega)]
    ·rw [z1n e,Int.add_zero,Int.sub_zero])
   unfold zme
   dsimp only
   omega
  ·have h1:=za2 q v
   have h2:=za2 r v
   have h3:=o v C
   dsimp only
   by_cases e1:q=v
   ·subst e1;rw [z1a,z1n (fun h=>b h.symm)];omega
   ·rw [z1n e1]
    by_cases e2:r=v
    ·subst e2;rw [z1a];omega
    ·rw [z1n e2];omega
theorem zhs(b:MOk m)(k:30000≤N)(a: ∀ s t,s<m.rows.length→t<m.rows.length→Reach m s t): ∀ (μ:Nat) (F:Nat) (X:List (List Int)) (nd d:Nat→Int) (B:Int),FInv m X nd d B→0≤B→B+64*(μ:Int)≤900000000→(∀ v,v<m.rows.length→ -1000000≤nd v∧nd v≤1000000)→(zme m nd).toNat<μ→μ<F→
 ∃ X' nd' d',dx N m F X (ndL m nd)=some (X',ndL m nd')∧FInv m X' nd' d' 900000000∧ ∀ v,v<m.rows.length→nd' v=0
 |0,_,_,_,_,_,_,_,_,_,h,_=>by omega
 |μ+1,F,X,nd,d,B,h,c,o,e,l,p=>by
  obtain⟨F,rfl⟩: ∃ F',F=F'+1:=⟨F-1,by omega⟩
  simp only [dx]
  rcases zvt (N:=N) b k a h c (by omega) e with⟨f,g⟩|⟨X',nd',d',f,g,q,n⟩
  ·rw [qg f,cf rfl]
   exact⟨X,nd,d,rfl,⟨h.shp,fun s i j=>by have:=h.rng s i j;omega,h.pot,h.bnd,h.bal⟩,fun v j=>zuv b h g j⟩
  ·rw [qg f,ct rfl]
   have r:=zl1 (m:=m) (nd:=nd')
   exact zhs b k a μ F X' nd' d' (B+64) g (by omega) (by omega) n (by omega) (by omega)
/-! ### The whole-/
def z0b(m:Mach)(X:List (List Int)):List (List Int):=z1i m fun s i=>1+lf X s i
theorem zc6{s i:Nat}(a:VE m s i):lf (z0b m X) s i=1+lf X s i:=by
 unfold z0b;rw [zdm a.hs a.hi,if_neg a.he]
theorem zvc(v:Nat):y8 m (z0b m X) v=y8 m (ay m) v+y8 m X v:=by
 unfold y8
 rw [←z3b]
 refine gz fun e d=>?_
 obtain⟨s,i,a,b,c,rfl⟩:=ut.1 d
 unfold z9e
 show lf (z0b m X) s i*_=lf (ay m) s i*_+lf X s i*_
 rw [zc6 ⟨a,b,c⟩,z5b ⟨a,b,c⟩,Int.add_mul]
theorem zab(d:MOk m){v:Nat}: -1024≤y8 m (ay m) v∧y8 m (ay m) v≤1024:=by
 have g:=zb8 (f:=z9e m (ay m) v) (B:=1) (by decide) (l:=qp m) (fun e h=>by
  obtain⟨x,j,a,b,c,rfl⟩:=ut.1 h
  have i:z9e m (ay m) v ((x:Int),(j:Int))=dl x v-dl (ed m x j).toNat v:=by
   unfold z9e
   show lf (ay m) x j*(dl x v-dl (ed m x j).toNat v)=_
   rw [z5b ⟨a,b,c⟩,Int.one_mul]
  rw [i]
  have g:=za2 x v
  have k:=za2 (ed m x j).toNat v
  omega)
 have k:=zfz d
 unfold y8;omega
theorem zl4(n:MOk m)(J:80000≤N)(r: ∀ s t,s<m.rows.length→t<m.rows.length→Reach m s t): ∃ X d,si N m=some ⟨m,z0b m X,w9 m (z0b m X)⟩∧(∀ s i,VE m s i→0≤lf X s i∧lf X s i≤900000000)∧Pot m X d∧ ∀ v,v<m.rows.length→y8 m (z0b m X) v=0:=by
 have K:=n.r2
 have hinp:=n.inp
 have o: ∀ s i,VE m s i→lf (z6g m) s i=0:=fun s i j=>zj6
 have u:xm N m N 0 (List.replicate m.rows.length [])=some (z6g m):=by
  refine lh (σ:=List (List Int)) (fun F v z=>xm N m F (v:Int) z) m.rows.length (fun v z=>z=List.replicate v (List.replicate m.inputs.toNat 0)++List.replicate (m.rows.length-v) []) _ (fun F v z j p=> .inr ?_) (fun F z p=>?_) N 0 (List.replicate m.rows.length []) (Nat.zero_le _) (by omega) (by simp)
  ·subst p
   refine⟨_,rfl,?_⟩
   simp only [xm]
   rw [il (by rw [z07,List.length_replicate];omega),zu ⟨by omega,by omega,by omega⟩,zu (qi (by simp;omega)),zu (jh (by omega)),mo,z7t (by simp) j,show mk m.inputs (0:Int)=List.replicate m.inputs.toNat 0 from rfl,List.replicate_succ'];rfl
  ·subst p
   simp only [xm]
   rw [ni (by rw [z07,List.length_replicate];omega),Nat.sub_self,List.replicate_zero,List.append_nil];rfl
 have hbal:=zck (N:=N) (k:=((qp m).length:Int)) n (by omega) (z90 (t:=fun _ _=>1)) (fun s i j=>by have:=one_pos s i j;exact this)
 have w:xk N ((List.range m.rows.length).map (y8 m (ay m))) N 0 []=some (ndL m fun v=> -y8 m (ay m) v):=by
  have L:((List.range m.rows.length).map (y8 m (ay m))).length=m.rows.length:=by simp
  refine lh (σ:=List Int) (fun F v z=>xk N ((List.range m.rows.length).map (y8 m (ay m))) F (v:Int) z) m.rows.length (fun v z=>z=(List.range v).map fun v=> -y8 m (ay m) v) _ (fun F v z j p=> .inr ?_) (fun F z p=>?_) N 0 [] (Nat.zero_le _) (by omega) rfl
  ·subst p
   have A:=zab n (v:=v)
   refine⟨_,rfl,?_⟩
   simp only [xk]
   rw [il (by omega),zu (qi (by omega)),uy,yf (y8 m (ay m)) j,zu (show okN (y8 m (ay m) v) from⟨by omega,by omega⟩),zu (zes (by simp;omega)),zu (jh (by omega)),List.range_succ,List.map_append];rfl
  ·subst p
   simp only [xk]
   rw [ni (by omega)];rfl
 have y: ∀ v,y8 m (z6g m) v=0:=fun v=>by
  unfold y8
  rw [gz (g:=fun _=>(0:Int)) (fun e C=>by
   obtain⟨s,i,a,b,c,rfl⟩:=ut.1 C
   unfold z9e
   show lf (z6g m) s i*_=0
   rw [o s i ⟨a,b,c⟩,Int.zero_mul]),z0u]
 have hinv:FInv m (z6g m) (fun v=> -y8 m (ay m) v) (fun _=>0) 0:=⟨zba,fun s i j=>by rw [o s i j];omega,⟨fun s i j=>by decide,fun s i j h=>by rw [o s i j] at h;omega⟩,fun v _=>⟨by decide,by decide⟩,fun v j=>by rw [y v];omega⟩
 have hphi:zme m (fun v=> -y8 m (ay m) v)≤1024*64:=by
  have:=(zb8 (f:=fun v=>zm4 (-y8 m (ay m) v)) (B:=1024) (by decide) (l:=List.range m.rows.length) (fun v _=>by
   have A:=zab n (v:=v)
   unfold zm4;split<;>omega)).2
  rw [List.length_range] at this
  unfold zme;dsimp only;omega
 obtain⟨X,nd,d,D,q,E⟩:=zhs (N:=N) n (by omega) r 70000 N (z6g m) _ _ 0 hinv (by decide) (by decide) (fun v _=>by have A:=zab n (v:=v);omega) (by omega) (by omega)
 refine⟨X,d,?_,q.rng,q.pot,fun v j=>?_⟩
 ·unfold si
  rw [zu ⟨by omega,by omega,by omega⟩,z07,qg u]
  refine Eq.trans (qg (x:=ndL m fun v=> -y8 m (ay m) v) ?_) ?_
  ·rw [z6b,qg (zax n (by omega)),z6b]
   exact Eq.trans (qg hbal) w
  ·rw [qg D]
   have G:=zfe (N:=N) (t:=fun s i=>1+lf X s i) n (by omega) (times:=fun H I=>z1g N H I (⟨(⟨m.inputs,m.outputs,m.rows⟩:Mach),X,ndL m nd⟩:Sg)) (fun s i j=>by
    have:=q.rng s i j
    refine⟨?_,by omega,by omega⟩
    unfold z1g
    dsimp only
    rw [zu (qi (by rw [q.shp.len];exact j.hs)),zu (qi (by rw [uy,q.shp.row s j.hs];exact j.hi)),show ix (ix X (s:Int)) (i:Int)=lf X s i from rfl,zu (jh (by omega))])
   dsimp only
   rw [z6b,show z1i m (fun s i=>1+lf X s i)=z0b m X from rfl] at*
   rw [qg G]
 ·rw [zvc]
  have:=q.bal v j
  have:=E v j
  omega
end
end GV
end Go.Proofs.Ytdhccodneoebpaa

namespace Go.Proofs.Ytdhccodneoebpaa
namespace GV
set_option maxRecDepth 100000
section
variable {N : Nat} {m : Mach} {X L : List (List Int)} {nd d : Nat → Int}
theorem strong(c:CM38 m)(d:Ex1 m true): ∀ s t,s<m.rows.length→t<m.rows.length→Reach m s t:=fun s t a b=>by
 have h:=(ztj c).1 d
 exact(z6r a b ((h s a).trans (h t b).symm)).1
theorem ziq(c:MOk m)(d: ∀ s i,VE m s i→0<lf L s i){x y:Nat}(h:Reach m x y):Reach (z2n m L) x y:=by
 induction h with
 |refl=>exact .refl
 | @step t i j a e f ih=>
  have hi:i<m.inputs.toNat:=by rwa [c.rowlen a] at e
  have g:VE m t i:=⟨a,hi,by unfold ed;omega⟩
  have b:((z2n m L).rows.getD t default).getD i default=(m.rows.getD t default).getD i default:=by rw [zfx a hi,if_pos (d t i g)]
  have:=Reach.step ih (by rw [fo];exact a) (i:=i) (by rw [zaz a];simpa using hi) (by rw [b];exact f)
  rwa [b] at this
theorem znq(f:Int×Int→Int)(d:Nat→Int): ∀ E:List (Int×Int),(∀ e∈E,e.1.toNat<m.rows.length∧tgE m e<m.rows.length)→
 ((List.range m.rows.length).map fun v=>d v*(E.map fun e=>f e*(dl e.1.toNat v-dl (tgE m e) v)).sum).sum=(E.map fun e=>f e*(d e.1.toNat-d (tgE m e))).sum
 | [],_=>by
  simp only [List.map_nil,List.sum_nil,Int.mul_zero];exact z0u _
 |e::E,h=>by
  have c:=h e (List.mem_cons_self ..)
  have j:=znq f d E fun x b=>h x (List.mem_cons_of_mem _ b)
  have hone: ∀ {a:Nat},a<m.rows.length→((List.range m.rows.length).map fun v=>d v*dl a v).sum=d a:=fun {a} k=>by
   have:=z6i (f:=fun _=>(0:Int)) (g:=fun v=>d v*dl a v) (a:=a) (d:=d a) (l:=List.range m.rows.length) List.nodup_range (List.mem_range.2 k) (by rw [z1a];omega) (fun x _ b=>by rw [z1n fun h=>b h.symm,Int.mul_zero])
   rw [this,z0u];omega
  have n:((List.range m.rows.length).map fun v=>d v*(f e*(dl e.1.toNat v-dl (tgE m e) v))).sum=f e*(d e.1.toNat-d (tgE m e)):=by
   have o:=z3b (fun v=>d v*(dl e.1.toNat v-dl (tgE m e) v)) (fun v=>d v*dl (tgE m e) v) (List.range m.rows.length)
   rw [gz (f:=fun v=>d v*(dl e.1.toNat v-dl (tgE m e) v)+d v*dl (tgE m e) v) (g:=fun v=>d v*dl e.1.toNat v) (fun x _=>by rw [←Int.mul_add];congr 1;omega),hone c.1,hone c.2] at o
   rw [gz (g:=fun v=>f e*(d v*(dl e.1.toNat v-dl (tgE m e) v))) (fun x _=>by rw [Int.mul_left_comm]),zk0]
   congr 1;omega
  have i:=z3b (fun v=>d v*(f e*(dl e.1.toNat v-dl (tgE m e) v))) (fun v=>d v*(E.map fun e=>f e*(dl e.1.toNat v-dl (tgE m e) v)).sum) (List.range m.rows.length)
  rw [j,n] at i
  simp only [List.map_cons,List.sum_cons]
  rw [←i]
  exact gz fun v _=>by rw [Int.mul_add]
theorem zun(d:MOk m): ∀ e∈qp m,e.1.toNat<m.rows.length∧tgE m e<m.rows.length:=fun e f=>by
 obtain⟨s,i,a,b,c,rfl⟩:=ut.1 f
 exact⟨a,((⟨a,b,c⟩:VE m s i).to d).1⟩
theorem zq7(j:MOk m)(p: ∀ s i,VE m s i→0≤lf X s i)(l:Pot m X d)(q: ∀ v,v<m.rows.length→y8 m (z0b m X) v=0){w:List Int}(n:WkV m 0 w 0)(hall: ∀ s i,VE m s i→0<ctN m 0 w s i):w9 m (z0b m X)≤(w.length:Int):=by
 have r:=zk5 j n
 have u:=z3b (fun e=>lfE (z0b m X) e) (fun e=>ctE m 0 w e-lfE (z0b m X) e) (qp m)
 rw [gz (f:=fun e=>lfE (z0b m X) e+(ctE m 0 w e-lfE (z0b m X) e)) (g:=fun e=>ctE m 0 w e) (fun e _=>by omega),r] at u
 have x: ∀ v,v<m.rows.length→((qp m).map fun e=>(ctE m 0 w e-lfE (z0b m X) e)*(dl e.1.toNat v-dl (tgE m e) v)).sum=0:=fun v h=>by
  have y:=zmj j v n
  have z:=q v h
  have A:=z3b (fun e=>(ctE m 0 w e-lfE (z0b m X) e)*(dl e.1.toNat v-dl (tgE m e) v)) (z9e m (z0b m X) v) (qp m)
  rw [gz (f:=fun e=>(ctE m 0 w e-lfE (z0b m X) e)*(dl e.1.toNat v-dl (tgE m e) v)+z9e m (z0b m X) v e) (g:=fun e=>ctE m 0 w e*(dl e.1.toNat v-dl (tgE m e) v)) (fun e _=>by unfold z9e;rw [←Int.add_mul];congr 1;omega),y] at A
  unfold y8 at z
  omega
 have o:=znq (fun e=>ctE m 0 w e-lfE (z0b m X) e) d (qp m) (zun j)
 rw [gz (g:=fun _=>(0:Int)) (fun v h=>by rw [x v (List.mem_range.1 h),Int.mul_zero]),z0u] at o
 have B:=z3b (fun e=>ctE m 0 w e-lfE (z0b m X) e) (fun e=>(ctE m 0 w e-lfE (z0b m X) e)*(d e.1.toNat-d (tgE m e))) (qp m)
 rw [←o,Int.add_zero] at B
 have E:0≤((qp m).map fun e=>ctE m 0 w e-lfE (z0b m X) e+(ctE m 0 w e-lfE (z0b m X) e)*(d e.1.toNat-d (tgE m e))).sum:=z5a fun e C=>by
  obtain⟨s,i,a,b,c,rfl⟩:=ut.1 C
  have h:VE m s i:=⟨a,b,c⟩
  show 0≤ctN m 0 w s i-lf (z0b m X) s i+(ctN m 0 w s i-lf (z0b m X) s i)*(d s-d (ed m s i).toNat)
  rw [zc6 h]
  have F:=l.f s i h
  have G:=p s i h
  have D:=hall s i h
  by_cases hx:0<lf X s i
  ·have:=l.t s i h hx
   rw [show d s-d (ed m s i).toNat= -1 by omega,Int.mul_neg,Int.mul_one];omega
  ·rw [show lf X s i=0 by omega]
   have k:=Int.mul_nonneg (a:=ctN m 0 w s i-(1+0)) (b:=d s-d (ed m s i).toNat+1) (by omega) (by omega)
   rw [Int.mul_add,Int.mul_one] at k
   omega
 show ((qp m).map fun e=>lfE (z0b m X) e).sum≤_
 omega
theorem zil(d:CM38 m)(o:Ex1 m true)(j: ∀ s i,VE m s i→0≤lf X s i)(k: ∀ v,v<m.rows.length→y8 m (z0b m X) v=0){f:Nat}(l:(2*w9 m (z0b m X)).toNat+1<f):
 ∃ w,zld m f (z0b m X) [] [(-1,0)]=some w∧WkV m 0 w.reverse 0∧(∀ s i,VE m s i→ctN m 0 w.reverse s i=1+lf X s i)∧(w.length:Int)=w9 m (z0b m X):=by
 have c:=d.ok
 have p:=c.r1
 have hpos: ∀ s i,VE m s i→0<lf (z0b m X) s i:=fun s i b=>by rw [zc6 b];have:=j s i b;omega
 obtain⟨w,n,e,g⟩:=zfk (L0:=z0b m X) (e0:=0) (a:=0) c (by omega) z90 (fun s i b=>by have:=hpos s i b;omega) (fun v b=>by rw [k v b];omega) (fun s i b _=>ziq c hpos (d.conn s b.hs)) l
 have h:=zdg c e g
 rw [List.length_reverse] at h
 exact⟨w,n,e,fun s i b=>by rw [g s i b,zc6 b],h⟩
theorem zo6(c:CM38 m)(k:Ex1 m true)(b: ∀ s i,VE m s i→0≤lf X s i)(l:Pot m X d)(e: ∀ v,v<m.rows.length→y8 m (z0b m X) v=0){w:List Int}(n:z2l m true=some w):w9 m (z0b m X)=(w.length:Int):=by
 have a:=c.ok
 obtain⟨o,⟨t,p,q⟩,r⟩:=z7i a n
 obtain⟨g,u,y⟩:=zos a o p q
 rw [y rfl] at g
 have D:=zq7 a b l e g u
 obtain⟨v,_,h,z,E⟩:=zil c k b e (f:=(2*w9 m (z0b m X)).toNat+2) (by omega)
 obtain⟨x,A,B⟩:=zd3 (round:=true) a h (fun s i j=>by rw [z s i j];have:=b s i j;omega) (fun _=>rfl)
 have C:=r _ x (ze0 a h) A B
 rw [List.length_reverse] at C
 omega
/-! ### Round's loop-/
def stp(p:Int×Nat):Sb:=⟨p.1,(p.2:Int)⟩
def zkv(st:List (Int×Nat)):Nat:=st.countP fun p=>decide (p.1≠ -1)
theorem zbz(y:MOk m)(E:200≤N){Y:Sc}(G:Y.fD=m): ∀ (f:Nat) (L:List (List Int)) (out:List Int) (st:List (Int×Nat)) (F:Nat) (w:List Int),zld m f L out st=some w→Shp m L→zj3 m L→(∀ p∈st,p.2<m.rows.length)→(out.length:Int)+(zkv st:Int)+w9 m L≤Y.fI→(st.length:Int)+w9 m L≤1000000→f≤F→
 ou N Y F (w9 m L) L out ((st.map stp).reverse)=some w
 |0,_,_,_,_,_,h,_,_,_,_,_,_=>by cases h
 |f+1,L,out,[],F,w,h,t,g,l,A,B,R=>by
  obtain⟨F,rfl⟩: ∃ F',F=F'+1:=⟨F-1,by omega⟩
  simp only [ou]
  rw [ni (by simp)]
  exact h
 |f+1,L,out,(q,s)::st,F,w,h,t,g,l,A,B,R=>by
  obtain⟨F,rfl⟩: ∃ F',F=F'+1:=⟨F-1,by omega⟩
  have H:=zah (L:=L) fun s i n=>(g s i n).1
  have I:s<m.rows.length:=l (q,s) (List.mem_cons_self ..)
  have hrev:(((q,s)::st).map stp).reverse=(st.map stp).reverse++[stp (q,s)]:=by rw [List.map_cons,List.reverse_cons]
  rw [List.length_cons] at B
  have hlen:((st.map stp).reverse++[stp (q,s)]).length=st.length+1:=by simp
  have htop:ix ((st.map stp).reverse++[stp (q,s)]) ((↑((st.map stp).reverse++[stp (q,s)]).length:Int)-1)=stp (q,s):=by
   rw [hlen,show ((↑(st.length+1):Int)-1)=((st.length:Nat):Int) by omega,uy,List.getD_eq_getElem?_getD,List.getElem?_append_right (by simp)];simp
  rw [hrev]
  simp only [ou]
  rw [il (by rw [hlen];omega),zu (jh (by rw [hlen];omega)),zu ⟨by rw [hlen];omega,by rw [hlen];omega⟩,htop,G,show (stp (q,s)).fB=(s:Int) from rfl,show (stp (q,s)).fA=q from rfl,show iy N (s:Int) m.inputs m.outputs m.rows L (w9 m L)=some (s:Int) from rfl,z7j]
  unfold zld at h
  cases hfs:zc3 m L s with
  |some i=>
   rw [hfs] at h
   obtain⟨n,J,hbefore⟩:=zgy I hfs
   have u:=z4t t n
   obtain⟨S,K⟩:=n.to y
   obtain⟨z,v,d⟩:=zau (s:=s) (k:=w9 m L) y E t I (σ:=Ex Unit (Int×List (List Int)×List Sb×Bool)) (Ex.got (fun(o:Unit)=>(m.inputs,m.outputs,m.rows,L,w9 m L))) (fun a M=>Ex.on M (fun C=>
    bd (yo N (s:Int) a.fA 1 m.inputs m.outputs m.rows L (w9 m L)) fun c=>
    gd (fits 16 ((st.map stp).reverse++[stp (q,s)]) ([(⟨a.fA,a.fB⟩:Sb)]:List Sb))<|
    some (false,Ex.rt (c.2,c.1,(((st.map stp).reverse++[stp (q,s)])++([(⟨a.fA,a.fB⟩:Sb)]:List Sb)),true))) fun _=>none) (fun j z=>z=Ex.go ()∧j≤i) (fun z=>z=Ex.rt (w9 m L-1,z0w L s i,((st.map stp).reverse++[stp (q,s)])++[⟨(i:Int),ed m s i⟩],true)) (s0:=Ex.go ()) ⟨rfl,Nat.zero_le _⟩ (fun j z h=>by rw [h.1];rfl) (by
     rintro j _ r T hlfj ⟨rfl,O⟩
     by_cases e:j=i
     ·subst e
      simp only [z9z]
      rw [qg (zl5 t n g ⟨H,by omega⟩),zu (zes (by rw [hlen];omega))]
      exact⟨false,_,rfl,fun h=>(by cases h),fun _=>rfl⟩
     ·rcases hbefore j (by omega) with h|h<;>omega) (by
     rintro j _ r D ⟨rfl,O⟩
     refine⟨rfl,?_⟩
     by_cases e:j=i
     ·subst e
      rcases D with D|D
      ·exact absurd D n.he
      ·omega
     ·omega)
   rcases d with⟨_,d⟩|rfl
   ·have:=n.hi;omega
   ·refine Eq.trans (qg (x:=(w9 m L-1,z0w L s i,((st.map stp).reverse++[stp (q,s)])++[⟨(i:Int),ed m s i⟩],true)) ?_) ?_
    ·refine Eq.trans (qg v) ?_
     rw [zll]
    ·rw [cf (b:= !true) rfl]
     have ih:=zbz y E G f (z0w L s i) out (((i:Int),(ed m s i).toNat)::(q,s)::st) F w h (z2j t n) (z3i t g n J) (fun p g=>by
      rcases List.mem_cons.1 g with rfl|g
      ·exact S
      ·exact l p g) (by
      have:zkv (((i:Int),(ed m s i).toNat)::(q,s)::st)=zkv ((q,s)::st)+1:=by
       unfold zkv;rw [List.countP_cons,if_pos (decide_eq_true (show (i:Int)≠ -1 by omega))]
      rw [this,u];omega) (by rw [List.length_cons,List.length_cons,u];omega) (by omega)
     rw [u,List.map_cons,List.reverse_cons,hrev,show stp ((i:Int),(ed m s i).toNat)=⟨(i:Int),ed m s i⟩ from by unfold stp;rw [←K]] at ih
     exact ih
  |none=>
   rw [hfs] at h
   have P:=zgs hfs
   obtain⟨z,v,d⟩:=zau (s:=s) (k:=w9 m L) y E t I (σ:=Ex Unit (Int×List (List Int)×List Sb×Bool)) (Ex.got (fun(o:Unit)=>(m.inputs,m.outputs,m.rows,L,w9 m L))) (fun a M=>Ex.on M (fun C=>
    bd (yo N (s:Int) a.fA 1 m.inputs m.outputs m.rows L (w9 m L)) fun c=>
    gd (fits 16 ((st.map stp).reverse++[stp (q,s)]) ([(⟨a.fA,a.fB⟩:Sb)]:List Sb))<|
    some (false,Ex.rt (c.2,c.1,(((st.map stp).reverse++[stp (q,s)])++([(⟨a.fA,a.fB⟩:Sb)]:List Sb)),true))) fun _=>none) (fun j z=>z=Ex.go ()) (fun z=>False) (s0:=Ex.go ()) rfl (fun j z h=>by rw [h];rfl) (by
     rintro j _ r T hlfj rfl
     rcases P j r with h|h<;>omega) (by
     rintro j _ r D rfl;rfl)
   rcases d with rfl|d
   ·refine Eq.trans (qg (x:=(w9 m L,L,(st.map stp).reverse++[stp (q,s)],false)) ?_) ?_
    ·refine Eq.trans (qg v) ?_
     rw [z9z]
    ·rw [ct (b:= !false) rfl]
     have hcut:cut ((st.map stp).reverse++[stp (q,s)]) 0 ((↑((st.map stp).reverse++[stp (q,s)]).length:Int)-1)=(st.map stp).reverse:=zh7 _ _
     have Q:zkv ((q,s)::st)=zkv st+if q= -1 then 0 else 1:=by
      unfold zkv;rw [List.countP_cons]
      by_cases e:q= -1
      ·rw [if_pos e,if_neg (by simpa using e)]
      ·rw [if_neg e,if_pos (by simpa using e)]
     rw [Q] at A
     have ih:=zbz y E G f L (if q= -1 then out else out++[q]) st F w h t g (fun p g=>l p (List.mem_cons_of_mem _ g)) (by
      by_cases e:q= -1
      ·rw [if_pos e] at A⊢;omega
      ·rw [if_neg e] at A⊢;rw [List.length_append,List.length_singleton];omega) (by omega) (by omega)
     refine Eq.trans (qg (x:=if q= -1 then out else out++[q]) ?_) ?_
     ·by_cases e:q= -1
      ·rw [ni (fun h=>h e),if_pos e]
      ·rw [il e,zu (by rw [if_neg e] at A;rw [List.length_singleton];omega),if_neg e]
     ·dsimp only
      rw [zu (jh (by rw [hlen];omega)),zu ⟨by omega,by rw [hlen];omega,by omega⟩,hcut]
      exact ih
   ·exact d.elim
/-! ### The program's-/
theorem zaq(a:CM38 m)(k:80000≤N){w:List Int}(b:z2l m true=some w): ∃ X d,si N m=some ⟨m,z0b m X,(w.length:Int)⟩∧(∀ s i,VE m s i→0≤lf X s i∧lf X s i≤900000000)∧Pot m X d∧(∀ v,v<m.rows.length→y8 m (z0b m X) v=0)∧w9 m (z0b m X)=(w.length:Int):=by
 have c:Ex1 m true:=(z4v a).1 (by rw [b];rfl)
 obtain⟨X,d,e,f,g,h⟩:=zl4 (N:=N) a.ok k (strong a c)
 have j:=zo6 a c (fun s i l=>(f s i l).1) g h b
 rw [j] at e
 exact⟨X,d,e,f,g,h,j⟩
theorem zp3(a:CM38 m)(c:80000≤N):gm N m=some (match z2l m true with|some w=>((w.length:Int),0)|none=>(0,7)):=by
 have f:=a.ok
 unfold gm
 rw [qg (a.check0 (by omega)),ni (by decide),qg (z8n f (by omega))]
 cases e:z2l m true with
 |none=>
  rw [zvz (fun h=>by have:=(z4v a).2 h;rw [e] at this;cases this),ct (b:= !false) rfl]
 |some w=>
  obtain⟨X,d,g,_⟩:=zaq a c e
  rw [zho ((z4v a).1 (by rw [e];rfl)),cf (b:= !true) rfl,qg g]
theorem zsn(g:CM38 m)(q:80000≤N){w:List Int}(e:z2l m true=some w)(C:w.length≤256): ∃ v,mq N m=some (v,0)∧v.length=w.length∧IsT m v true:=by
 have c:=g.ok
 have h:=c.r1
 have l:Ex1 m true:=(z4v g).1 (by rw [e];rfl)
 obtain⟨X,d,r,j,D,t,k⟩:=zaq g q e
 obtain⟨v,u,n,y,E⟩:=zil g l (fun s i a=>(j s i a).1) t (f:=600) (by omega)
 refine⟨v.reverse,?_,by rw [List.length_reverse];omega,?_⟩
 ·have o:=zbz (N:=N) c (by omega) (Y:=⟨m,z0b m X,(w.length:Int)⟩) rfl 600 (z0b m X) [] [(-1,0)] N v u z90 (fun s i a=>by rw [zc6 a];have:=j s i a;omega) (fun p z=>by obtain rfl:=List.mem_singleton.1 z;exact h) (by rw [k];simp [zkv]) (by rw [k];simp;omega) (by omega)
  rw [k] at o
  unfold mq
  rw [qg (g.check0 (by omega)),ni (by decide),qg (z8n c (by omega)),zho l,cf (b:= !true) rfl,qg r]
  dsimp only
  rw [ni (by omega),zu ⟨⟨by omega,by omega,by omega⟩,by omega,by omega⟩,show mk 0 (0:Int)=[] from rfl,show ([(⟨(-1),0⟩:Sb)]:List Sb)=(([((-1:Int),(0:Nat))]:List (Int×Nat)).map stp).reverse from rfl,qg o,qg (zg7 (by omega) (by omega)),zu (by rw [List.length_reverse];omega)]
 ·obtain⟨x,A,B⟩:=zd3 (round:=true) c n (fun s i a=>by rw [y s i a];have:=j s i a;omega) (fun _=>rfl)
  exact(zkm c).2 ⟨by rw [List.length_reverse];omega,ze0 c n,x,A,B⟩
end
end GV
end Go.Proofs.Ytdhccodneoebpaa

namespace Go.Proofs.Ytdhccodneoebpaa
namespace GV
set_option maxRecDepth 100000
section
variable {m : Mach}
theorem zsk(z:CM38 m){w:List Int}(A:z2l m true=some w):(qp m).length≤w.length∧(w.length=(qp m).length↔(exW m true).isSome=true):=by
 have d:=z.ok
 obtain⟨B,⟨t,C,D⟩,E⟩:=z7i d A
 obtain⟨o,p,F⟩:=zos d B C D
 rw [F rfl] at o
 have G:=zk5 d o
 have hone:((qp m).map fun _=>(1:Int)).sum=((qp m).length:Int):=by
  rw [←z05]
  exact gz fun e k=>by
   obtain⟨x,j,a,b,c,rfl⟩:=ut.1 k
   exact(z5b ⟨a,b,c⟩).symm
 have H:((qp m).map fun _=>(1:Int)).sum≤((qp m).map fun e=>ctE m 0 w e).sum:=zje fun e k=>by
  obtain⟨x,j,a,b,c,rfl⟩:=ut.1 k
  have:=p x j ⟨a,b,c⟩
  show 1≤ctN m 0 w x j
  omega
 have q:(qp m).length≤w.length:=by omega
 refine⟨q,?_⟩
 rw [zgl d]
 constructor
 ·intro I
  refine⟨w,0,o,fun s i h=>?_,fun _=>rfl⟩
  rw [z5b h]
  have u:=z3b (fun _=>(1:Int)) (fun e=>ctE m 0 w e-1) (qp m)
  rw [gz (f:=fun e=>1+(ctE m 0 w e-1)) (g:=fun e=>ctE m 0 w e) (fun e _=>by omega),G,hone,I] at u
  refine Classical.byContradiction fun J=>?_
  have n:=zbl (f:=fun e=>ctE m 0 w e-1) (l:=qp m) (fun e k=>by
   obtain⟨x,j,a,b,c,rfl⟩:=ut.1 k
   have:=p x j ⟨a,b,c⟩
   show 0≤ctN m 0 w x j-1
   omega) ⟨_,z4x h,by
   have:=p s i h
   show 0<ctN m 0 w s i-1
   omega⟩
  omega
 ·rintro⟨v,e,r,y,K⟩
  obtain rfl:=K rfl
  obtain⟨x,L,M⟩:=zd3 (round:=true) d r (fun s i h=>by rw [y s i h,z5b h];decide) (fun _=>rfl)
  have u:=E v x (ze0 d r) L M
  have n:=zdg d r y
  rw [z05] at n
  omega
theorem zqm(g:CM38 m){w:List Int}(h:z2l m true=some w): ∃ v,z2l m false=some v∧v.length≤w.length:=by
 have a:=g.ok
 obtain⟨c,⟨t,d,b⟩,_⟩:=z7i a h
 have f:z1k m false t=true:=by
  unfold z1k at b⊢
  rw [Bool.and_eq_true] at b
  rw [b.1];rfl
 cases e:z2l m false with
 |none=>have:=zfm a e w t c d;rw [f] at this;cases this
 |some v=>exact⟨v,rfl,(z7i a e).2.2 w t c d f⟩
theorem zt9(a:CM38 m){round:Bool}{N:Nat}(g:2000≤N)(d:Ex1 m round)(f:16<(qp m).length):gp N m round=some ([],3):=by
 have c:=a.ok
 unfold gp
 rw [qg (a.check0 (by omega)),ni (fun e=>e rfl),qg (z8n c (by omega)),zho d,cf (b:= !true) rfl,qg (zh9 c (by omega)),il (by omega)]
end
end GV
end Go.Proofs.Ytdhccodneoebpaa
