
import Derived.Test.YtdhccodneoebpaaLaw38e
import Derived.Test.YtdhccodneoebpaaSaid38
set_option linter.unusedVariables false
set_option linter.unusedSimpArgs false
set_option linter.unusedSectionVars false
namespace Go.Proofs.Ytdhccodneoebpaa
namespace GV
set_option maxRecDepth 100000
theorem zlm: ∀ {n:Nat} {l:List Nat},l.Nodup→(∀ x∈l,x<n)→l.length≤n
 |0,l,_,h=>by
  cases l with
  |nil=>exact Nat.le_refl _
  |cons x l=>have:=h x (List.mem_cons_self ..);omega
 |n+1,l,a,h=>by
  have b:=zlm (n:=n) (l:=l.erase n) (a.erase n) fun x c=>by
   obtain⟨e,d⟩:=(a.mem_erase_iff).1 c
   have:=h x d;omega
  rw [List.length_erase] at b
  split at b<;>omega
theorem zvp{n k:Nat}{f:Nat→Nat}(h: ∀ j,j<k→f j<n)(hi: ∀ i j,i<j→j<k→f i≠f j):k≤n:=by
 have:((List.range k).map f).length≤n:=zlm (by
  unfold List.Nodup
  rw [List.pairwise_map]
  have d:=List.pairwise_lt_range (n:=k)
  refine List.Pairwise.imp_of_mem ?_ d
  intro a b m e c
  exact hi a b c (List.mem_range.1 e)) fun x g=>by
  obtain⟨j,l,rfl⟩:=List.mem_map.1 g
  exact h j (List.mem_range.1 l)
 simpa using this
def p9(H:List Sa)(v:Nat):Int:=(H.getD v default).fC
def INF:Int:=1073741824
def wt(b:Bool):Int:=if b=true then-1 else 1
theorem q2e(b:Bool): -1≤wt b∧wt b≤1:=by cases b<;>decide
def Arc(m:Mach)(X:List (List Int))(u v i:Nat)(b:Bool):Prop:=
 if b=true then VE m v i∧ed m v i=(u:Int)∧0<lf X v i else VE m u i∧ed m u i=(v:Int)
structure Pot (m:Mach) (X:List (List Int)) (d:Nat→Int):Prop where
 f: ∀ s i,VE m s i→d (ed m s i).toNat≤d s+1
 t: ∀ s i,VE m s i→0<lf X s i→d (ed m s i).toNat=d s+1
inductive Rt (H:List Sa):Nat→Prop
 |root {v:Nat}:(H.getD v default).fD= -1→Rt H v
 |step {v u:Nat}:(H.getD v default).fD=(u:Int)→Rt H u→Rt H v
section
variable {N : Nat} {m : Mach} {X : List (List Int)} {nd d : Nat → Int} {D : Int} {H : List Sa}
theorem Arc.pot(a:Pot m X d){u v i:Nat}{b:Bool}(h:Arc m X u v i b):d v≤d u+wt b:=by
 unfold Arc at h
 cases b
 ·rw [if_neg (by decide)] at h
  have:=a.f u i h.1
  rw [h.2,Int.toNat_natCast] at this
  exact this
 ·rw [if_pos rfl] at h
  have:=a.t v i h.1 h.2.2
  rw [h.2.1,Int.toNat_natCast] at this
  show d v≤d u+ -1
  omega
theorem Arc.lt(a:MOk m){u v i:Nat}{b:Bool}(h:Arc m X u v i b):u<m.rows.length∧v<m.rows.length:=by
 unfold Arc at h
 cases b
 ·rw [if_neg (by decide)] at h
  have:=(h.1.to a).1
  rw [h.2,Int.toNat_natCast] at this
  exact⟨h.1.hs,this⟩
 ·rw [if_pos rfl] at h
  have:=(h.1.to a).1
  rw [h.2.1,Int.toNat_natCast] at this
  exact⟨this,h.1.hs⟩
def zvg(m:Mach)(X:List (List Int))(nd:Nat→Int)(H:List Sa)(v:Nat):Prop:=
 ((H.getD v default).fD= -1∧p9 H v=0∧0<nd v)∨ ∃ u i:Nat,(H.getD v default).fD=(u:Int)∧(H.getD v default).fA=(i:Int)∧Arc m X u v i (H.getD v default).fAb∧p9 H u≠INF∧p9 H u+wt (H.getD v default).fAb≤p9 H v
def zqx(m:Mach)(H:List Sa):Nat:=(List.range m.rows.length).countP fun v=>decide (p9 H v≠INF)
def muv(x:Int):Int:=if x=INF then 400 else x+200
def muH(m:Mach)(H:List Sa):Int:=((List.range m.rows.length).map fun v=>muv (p9 H v)).sum
structure SInv (m:Mach) (X:List (List Int)) (nd d:Nat→Int) (D:Int) (H:List Sa):Prop where
 len:H.length=m.rows.length
 hop: ∀ v,v<m.rows.length→p9 H v≠INF→zvg m X nd H v
 lo: ∀ v,v<m.rows.length→p9 H v≠INF→d v-D≤p9 H v
 hi: ∀ v,v<m.rows.length→p9 H v≠INF→p9 H v+1≤(zqx m H:Int)
 rt: ∀ v,v<m.rows.length→Rt H v
 src: ∀ v,v<m.rows.length→0<nd v→p9 H v≠INF
def Bnd(m:Mach)(d:Nat→Int):Prop:= ∀ v,v<m.rows.length→ -63≤d v∧d v≤63
theorem SInv.bnd(c:MOk m)(e:Bnd m d)(f:D≤63)(h:SInv m X nd d D H){v:Nat}(a:v<m.rows.length)(b:p9 H v≠INF): -126≤p9 H v∧p9 H v≤63:=by
 have g:=h.lo v a b
 have i:=h.hi v a b
 have j:=e v a
 have k:zqx m H≤m.rows.length:=Nat.le_trans List.countP_le_length (by simp)
 have l:=c.r2
 omega
theorem SInv.mu0(b:MOk m)(c:Bnd m d)(e:D≤63)(h:SInv m X nd d D H):0≤muH m H∧muH m H≤25600:=by
 have g:=zd1 (f:=fun v=>muv (p9 H v)) (B:=400) (by decide) (l:=List.range m.rows.length) (fun v a=>by
  have a:=List.mem_range.1 a
  unfold muv
  split
  ·omega
  ·rename_i hf
   have:=h.bnd b c e a hf;omega)
 have i:0≤muH m H:=z6y fun v a=>by
  have a:=List.mem_range.1 a
  unfold muv
  split
  ·omega
  ·rename_i hf
   have:=h.bnd b c e a hf;omega
 have:=b.r2
 rw [List.length_range] at g
 unfold muH at*
 omega
theorem zzx{v x:Nat}{h:Sa}(a:v<H.length):p9 (H.set v h) x=if x=v then h.fC else p9 H x:=by
 unfold p9;rw [wm a];split<;>rfl
theorem zbj{v x:Nat}{h:Sa}(a:v<H.length):(H.set v h).getD x default=if x=v then h else H.getD x default:=wm a
theorem q12(p:MOk m)(q:Pot m X d)(h:SInv m X nd d D H){v:Nat}{g:Sa}(n:v<m.rows.length): ∀ {y:Nat},Rt H y→y<m.rows.length→p9 H y≠INF→(p9 H v≠INF→p9 H y-d y<p9 H v-d v)→Rt (H.set v g) y:=by
 intro y r
 induction r with
 | @root y b=>
  intro c f j
  have a:y≠v:=fun e=>by subst e;have:=j f;omega
  exact .root (by rw [zbj (by rw [h.len];exact n),if_neg a];exact b)
 | @step y u b t ih=>
  intro c f j
  have a:y≠v:=fun e=>by subst e;have:=j f;omega
  rcases h.hop y c f with⟨k,_⟩|⟨u',i,k,_,o,s,w⟩
  ·rw [b] at k;omega
  ·obtain rfl:u'=u:=by rw [b] at k;omega
   have x:=o.pot q
   exact .step (by rw [zbj (by rw [h.len];exact n),if_neg a];exact b) (ih (o.lt p).1 s fun l=>by have:=j l;omega)
theorem q3w{v:Nat}{g:Sa}(b:v<H.length)(h:Rt (H.set v g) v): ∀ {y:Nat},Rt H y→Rt (H.set v g) y:=by
 intro y c
 induction c with
 | @root y a=>
  by_cases e:y=v
  ·subst e;exact h
  ·exact .root (by rw [zbj b,if_neg e];exact a)
 | @step y u a d ih=>
  by_cases e:y=v
  ·subst e;exact h
  ·exact .step (by rw [zbj b,if_neg e];exact a) ih
theorem q09(E:MOk m)(C:Pot m X d)(G:Bnd m d)(I:D≤63)(h:SInv m X nd d D H){u v i:Nat}{b:Bool}(A:Arc m X u v i b)(B:p9 H u≠INF):
 ∃ c H',yf N (v:Int) ⟨(u:Int),(i:Int),b,p9 H u+wt b⟩ H=some (c,H')∧SInv m X nd d D H'∧(c=true→muH m H'<muH m H)∧(c=false→H'=H∧p9 H v≤p9 H u+wt b):=by
 obtain⟨r,t⟩:=A.lt E
 have n:v<H.length:=by rw [h.len];exact t
 have J:(ix H (v:Int)).fC=p9 H v:=rfl
 have K:=h.bnd E G I r B
 have T:=q2e b
 unfold yf
 rw [zh (qg n),J]
 by_cases hle:p9 H v≤p9 H u+wt b
 ·rw [bu hle]
  exact⟨false,H,rfl,h,fun h=>(by cases h),fun _=>⟨rfl,hle⟩⟩
 ·rw [ym hle,zh (qg n),mq]
  have U:INF=1073741824:=rfl
  have o:p9 H u+wt b≠INF:=by omega
  have w:u≠v:=fun e=>by
   subst e
   have:=A.pot C
   omega
  have k: ∀ x,p9 (H.set v ⟨(u:Int),(i:Int),b,p9 H u+wt b⟩) x=if x=v then p9 H u+wt b else p9 H x:=fun x=>zzx n
  have hcle:zqx m H≤zqx m (H.set v ⟨(u:Int),(i:Int),b,p9 H u+wt b⟩):=z7t fun x q z=>by
   rw [k]
   split
   ·exact decide_eq_true o
   ·exact z
  have hclt:p9 H v=INF→zqx m H<zqx m (H.set v ⟨(u:Int),(i:Int),b,p9 H u+wt b⟩):=fun y=>z9r (fun x q z=>by
   rw [k]
   split
   ·exact decide_eq_true o
   ·exact z) ⟨v,List.mem_range.2 t,decide_eq_false (fun h=>h y),by rw [k,if_pos rfl];exact decide_eq_true o⟩
  have F:Rt (H.set v ⟨(u:Int),(i:Int),b,p9 H u+wt b⟩) v:= .step (by rw [zbj n,if_pos rfl]) (q12 E C h t (h.rt u r) r B fun _=>by
   have:=A.pot C;omega)
  refine⟨true,_,rfl,⟨by rw [List.length_set,h.len],fun x q s=>?_,fun x q s=>?_,fun x q s=>?_,fun x q=>q3w n F (h.rt x q),fun x q L=>?_⟩,fun _=>?_,fun h=>(by cases h)⟩
  ·unfold zvg
   rw [k] at s
   rw [zbj n,k]
   by_cases e:x=v
   ·subst e
    rw [if_pos rfl,if_pos rfl]
    exact .inr ⟨u,i,rfl,rfl,A,by rw [k,if_neg w];exact B,by rw [k,if_neg w];exact Int.le_refl _⟩
   ·rw [if_neg e] at s⊢
    rw [if_neg e]
    rcases h.hop x q s with M|⟨p,j,O,P,Q,R,S⟩
    ·exact .inl M
    ·refine .inr ⟨p,j,O,P,Q,?_,?_⟩
     ·rw [k];split
      ·exact o
      ·exact R
     ·rw [k];split
      ·rename_i e2;subst e2;omega
      ·exact S
  ·rw [k] at s⊢
   by_cases e:x=v
   ·subst e
    rw [if_pos rfl]
    have:=A.pot C
    have:=h.lo u r B
    omega
   ·rw [if_neg e] at s⊢;exact h.lo x q s
  ·rw [k] at s⊢
   by_cases e:x=v
   ·subst e
    rw [if_pos rfl]
    by_cases y:p9 H x=INF
    ·have:=hclt y
     have:=h.hi u r B
     omega
    ·have:=h.hi x q y
     omega
   ·rw [if_neg e] at s⊢
    have:=h.hi x q s
    omega
  ·rw [k];split
   ·exact o
   ·exact h.src x q L
  ·have hdel:muv (p9 H u+wt b)<muv (p9 H v):=by
    unfold muv
    rw [if_neg o]
    split
    ·omega
    ·omega
   have:=z8h (f:=fun x=>muv (p9 H x)) (g:=fun x=>muv (p9 (H.set v ⟨(u:Int),(i:Int),b,p9 H u+wt b⟩) x)) (a:=v) (d:=muv (p9 H u+wt b)-muv (p9 H v)) (l:=List.range m.rows.length) List.nodup_range (List.mem_range.2 t) (by rw [k,if_pos rfl];omega) (fun x _ w=>by rw [k,if_neg w])
   unfold muH
   omega
end
end GV
end Go.Proofs.Ytdhccodneoebpaa

namespace Go.Proofs.Ytdhccodneoebpaa
namespace GV
set_option maxRecDepth 100000
section
variable {N : Nat} {m : Mach} {X : List (List Int)} {nd d : Nat → Int} {D : Int} {H : List Sa}
def Cl(m:Mach)(X:List (List Int))(H:List Sa)(s i:Nat):Prop:=
 (p9 H s≠INF→p9 H (ed m s i).toNat≤p9 H s+1)∧(0<lf X s i→p9 H (ed m s i).toNat≠INF→p9 H s≤p9 H (ed m s i).toNat-1)
theorem ztr(p:MOk m)(P:Shp m X)(Q:Pot m X d)(r:Bnd m d)(t:D≤63){H:List Sa}{c:Bool}(h:SInv m X nd d D H){s i:Nat}(l:VE m s i): ∃ c' H',
 (bd (
 gd (okI H (s:Int))<|
 gd ((true&&((decide (((ix H (s:Int)).fC)<1073741824))==true))=true→okI H (s:Int))<|
 gd ((true&&((decide (((ix H (s:Int)).fC)<1073741824))==true))=true→in64 (((ix H (s:Int)).fC)+1))<|
 bif decide (((ix H (s:Int)).fC)<1073741824) then(
 bd (yf N (ed m s i) (⟨(s:Int),(i:Int),false,((ix H (s:Int)).fC)+1⟩:Sa) H) fun e=>
 bif e.1 then(
 some (e.2,true)) else(
 some (e.2,c))) else(
 some (H,c))) fun a=>
 gd (okI X (s:Int))<|
 gd (okI (ix X (s:Int)) (i:Int))<|
 gd ((true&&((decide (0<(ix (ix X (s:Int)) (i:Int))))==true))=true→okI a.1 (ed m s i))<|
 gd ((true&&(((decide (0<(ix (ix X (s:Int)) (i:Int))))&&(decide (((ix a.1 (ed m s i)).fC)<1073741824)))==true))=true→okI a.1 (ed m s i))<|
 gd ((true&&(((decide (0<(ix (ix X (s:Int)) (i:Int))))&&(decide (((ix a.1 (ed m s i)).fC)<1073741824)))==true))=true→in64 (((ix a.1 (ed m s i)).fC)-1))<|
 bif (decide (0<(ix (ix X (s:Int)) (i:Int))))&&(decide (((ix a.1 (ed m s i)).fC)<1073741824)) then(
 bd (yf N (s:Int) (⟨ed m s i,(i:Int),true,((ix a.1 (ed m s i)).fC)-1⟩:Sa) a.1) fun k=>
 bif k.1 then(
 some (true,(k.2,true))) else(
 some (true,(k.2,a.2)))) else(
 some (true,(a.1,a.2))))=some (true,(H',c'))∧SInv m X nd d D H'∧muH m H'≤muH m H∧(c'=true→c=true∨muH m H'<muH m H)∧(c'=false→c=false∧H'=H∧Cl m X H s i):=by
 obtain⟨F,g⟩:=l.to p
 have hI:INF=1073741824:=rfl
 have hfar: ∀ (Z:List Sa) (x:Nat),(ix Z (x:Int)).fC=p9 Z x:=fun _ _=>rfl
 have G:ix (ix X (s:Int)) (i:Int)=lf X s i:=rfl
 have hfin: ∀ {Z:List Sa},SInv m X nd d D Z→ ∀ x,x<m.rows.length→(p9 Z x<1073741824↔p9 Z x≠INF):=fun W x Y=>by
  constructor
  ·intro n;omega
  ·intro n;have:=W.bnd p r t Y n;omega
 have n: ∃ o f,(gd (okI H (s:Int))<|
  gd ((true&&((decide (((ix H (s:Int)).fC)<1073741824))==true))=true→okI H (s:Int))<|
  gd ((true&&((decide (((ix H (s:Int)).fC)<1073741824))==true))=true→in64 (((ix H (s:Int)).fC)+1))<|
  bif decide (((ix H (s:Int)).fC)<1073741824) then(
  bd (yf N (ed m s i) (⟨(s:Int),(i:Int),false,((ix H (s:Int)).fC)+1⟩:Sa) H) fun e=>
  bif e.1 then(
  some (e.2,true)) else(
  some (e.2,c))) else(
  some (H,c)))=some (f,o)∧SInv m X nd d D f∧muH m f≤muH m H∧(o=true→c=true∨muH m f<muH m H)∧(o=false→c=false∧f=H∧(p9 H s≠INF→p9 H (ed m s i).toNat≤p9 H s+1)):=by
  have w:okI H (s:Int):=qg (by rw [h.len];exact l.hs)
  rw [zh w,zh (fun _=>w),hfar]
  by_cases hf:p9 H s≠INF
  ·have hb:=h.bnd p r t l.hs hf
   rw [zh (fun _=>qo (by omega)),bu ((hfin h s l.hs).2 hf),g]
   obtain⟨o,f,y,z,I,A⟩:=q09 (N:=N) (b:=false) (i:=i) p Q r t h (u:=s) (v:=(ed m s i).toNat) (by unfold Arc;rw [if_neg (by decide)];exact⟨l,g⟩) hf
   rw [show wt false=1 from rfl] at y A
   rw [qf y]
   cases o
   ·obtain⟨J,R⟩:=A rfl
    subst J
    rw [cf rfl]
    exact⟨c,f,rfl,z,Int.le_refl _,fun h=> .inl h,fun h=>⟨h,rfl,fun _=>R⟩⟩
   ·rw [ct rfl]
    have:=I rfl
    exact⟨true,f,rfl,z,by omega,fun h=> .inr this,fun h=>(by cases h)⟩
  ·have B: ¬p9 H s<1073741824:=fun j=>hf ((hfin h s l.hs).1 j)
   rw [zh (fun j=>absurd (by simpa using j) B),ym B]
   exact⟨c,H,rfl,h,Int.le_refl _,fun h=> .inl h,fun h=>⟨h,rfl,fun j=>absurd j hf⟩⟩
 obtain⟨o,f,b1,q,S,T,U⟩:=n
 rw [qf b1]
 dsimp only
 have C:okI f (ed m s i):=by rw [g];exact qg (by rw [q.len];exact F)
 have K:(ix f (ed m s i)).fC=p9 f (ed m s i).toNat:=by rw [g];rfl
 rw [zh (qg (by rw [P.len];exact l.hs)),zh (qg (by rw [ug,P.row s l.hs];exact l.hi)),zh (fun _=>C),zh (fun _=>C),G,K]
 by_cases hc:0<lf X s i∧p9 f (ed m s i).toNat≠INF
 ·have hb:=q.bnd p r t F hc.2
  rw [zh (fun _=>qo (by omega)),ct (by rw [decide_eq_true hc.1,decide_eq_true ((hfin q _ F).2 hc.2)];rfl)]
  obtain⟨c2,V,y,z,I,A⟩:=q09 (N:=N) (b:=true) (i:=i) p Q r t q (u:=(ed m s i).toNat) (v:=s) (by unfold Arc;rw [if_pos rfl];exact⟨l,g,hc.1⟩) hc.2
  rw [show wt true= -1 from rfl,←g] at y
  rw [show wt true= -1 from rfl] at A
  rw [show p9 f (ed m s i).toNat-1=p9 f (ed m s i).toNat+ -1 by omega,qf y]
  cases c2
  ·obtain⟨J,R⟩:=A rfl
   subst J
   rw [cf rfl]
   refine⟨o,V,rfl,z,S,T,fun h=>?_⟩
   obtain⟨L,M,O⟩:=U h
   subst M
   exact⟨L,rfl,O,fun _ _=>by omega⟩
  ·rw [ct rfl]
   have:=I rfl
   exact⟨true,V,rfl,z,by omega,fun h=> .inr (by omega),fun h=>(by cases h)⟩
 ·have E:((decide (0<lf X s i))&&(decide (p9 f (ed m s i).toNat<1073741824)))=false:=by
   rw [Bool.and_eq_false_iff]
   by_cases n:0<lf X s i
   ·exact .inr (decide_eq_false fun j=>hc ⟨n,(hfin q _ F).1 j⟩)
   ·exact .inl (decide_eq_false n)
  rw [zh (fun j=>by rw [E] at j;cases j),E,cf rfl]
  refine⟨o,f,rfl,q,S,T,fun h=>?_⟩
  obtain⟨L,M,O⟩:=U h
  subst M
  exact⟨L,rfl,O,fun n j=>absurd ⟨n,j⟩ hc⟩
theorem zoc(C:MOk m)(J:200≤N)(E:Shp m X)(K:Pot m X d)(L:Bnd m d)(M:D≤63){g:List Sa}(h:SInv m X nd d D g): ∃ c H',yz N m.inputs m.outputs m.rows X N 0 g false=some (H',c)∧SInv m X nd d D H'∧muH m H'≤muH m g∧(c=true→muH m H'<muH m g)∧(c=false→H'=g∧ ∀ s i,VE m s i→Cl m X g s i):=by
 have hr:=C.r2
 obtain⟨r,O,x⟩: ∃ r:List Sa×Bool,yz N m.inputs m.outputs m.rows X N 0 g false=some r∧(SInv m X nd d D r.1∧muH m r.1≤muH m g∧(r.2=true→muH m r.1<muH m g)∧(r.2=false→r.1=g∧ ∀ s i,s<m.rows.length→VE m s i→Cl m X g s i)):=by
  refine z0u (σ:=List Sa×Bool) (fun F s z=>yz N m.inputs m.outputs m.rows X F (s:Int) z.1 z.2) m.rows.length (fun s z=>SInv m X nd d D z.1∧muH m z.1≤muH m g∧(z.2=true→muH m z.1<muH m g)∧(z.2=false→z.1=g∧ ∀ t i,t<s→VE m t i→Cl m X g t i)) _ (fun F s z H n=> .inr ?_) (fun F z n=>?_) N 0 (g,false) (Nat.zero_le _) (by omega) ⟨h,Int.le_refl _,fun h=>(by cases h),fun _=>⟨rfl,fun t i P=>by omega⟩⟩
  ·simp only [yz]
   rw [bu (by rw [E.len];omega),z7j,show xz N m (s:Int)=some (m,(s:Int)) from rfl,z7l]
   obtain⟨w,Q,G⟩:=z6r (s:=s) C J H (σ:=List Sa×Bool) (fun a b=>
    bd (
    gd (okI b.1 (s:Int))<|
    gd ((true&&((decide (((ix b.1 (s:Int)).fC)<1073741824))==true))=true→okI b.1 (s:Int))<|
    gd ((true&&((decide (((ix b.1 (s:Int)).fC)<1073741824))==true))=true→in64 (((ix b.1 (s:Int)).fC)+1))<|
    bif decide (((ix b.1 (s:Int)).fC)<1073741824) then(
    bd (yf N a.fB (⟨(s:Int),a.fA,false,((ix b.1 (s:Int)).fC)+1⟩:Sa) b.1) fun k=>
    bif k.1 then(
    some (k.2,true)) else(
    some (k.2,b.2))) else(
    some (b.1,b.2))) fun f=>
    gd (okI X (s:Int))<|
    gd (okI (ix X (s:Int)) a.fA)<|
    gd ((true&&((decide (0<(ix (ix X (s:Int)) a.fA)))==true))=true→okI f.1 a.fB)<|
    gd ((true&&(((decide (0<(ix (ix X (s:Int)) a.fA)))&&(decide (((ix f.1 a.fB).fC)<1073741824)))==true))=true→okI f.1 a.fB)<|
    gd ((true&&(((decide (0<(ix (ix X (s:Int)) a.fA)))&&(decide (((ix f.1 a.fB).fC)<1073741824)))==true))=true→in64 (((ix f.1 a.fB).fC)-1))<|
    bif (decide (0<(ix (ix X (s:Int)) a.fA)))&&(decide (((ix f.1 a.fB).fC)<1073741824)) then(
    bd (yf N (s:Int) (⟨a.fB,a.fA,true,((ix f.1 a.fB).fC)-1⟩:Sa) f.1) fun l=>
    bif l.1 then(
    some (true,(l.2,true))) else(
    some (true,(l.2,f.2)))) else(
    some (true,(f.1,f.2)))) (fun i z=>SInv m X nd d D z.1∧muH m z.1≤muH m g∧(z.2=true→muH m z.1<muH m g)∧(z.2=false→z.1=g∧(∀ t i,t<s→VE m t i→Cl m X g t i)∧ ∀ j,j<i→VE m s j→Cl m X g s j)) (s0:=(z.1,z.2)) ⟨n.1,n.2.1,n.2.2.1,fun h=>⟨(n.2.2.2 h).1,(n.2.2.2 h).2,fun j I=>by omega⟩⟩ (by
     rintro i ⟨Z,c⟩ hi h0 ⟨q,y,u,v⟩
     dsimp only at q y u v
     have p:VE m s i:=⟨H,hi,by omega⟩
     obtain⟨c',H',R,S,a3,T,U⟩:=ztr (N:=N) (c:=c) C E K L M q p
     refine⟨(H',c'),R,S,by dsimp only;omega,fun h=>?_,fun h=>?_⟩
     ·rcases T h with h|h
      ·have:=u h;dsimp only;omega
      ·dsimp only;omega
     ·obtain⟨V,W,Y⟩:=U h
      obtain⟨f1,A,B⟩:=v V
      subst W
      subst f1
      refine⟨rfl,A,fun j I o=>?_⟩
      by_cases e:j=i
      ·subst e;exact Y
      ·exact B j (by omega) o) (by
     rintro i ⟨Z,c⟩ hi he ⟨q,y,u,v⟩
     refine⟨q,y,u,fun h=>?_⟩
     obtain⟨f1,A,B⟩:=v h
     refine⟨f1,A,fun j I o=>?_⟩
     by_cases e:j=i
     ·subst e;exact absurd he o.he
     ·exact B j (by omega) o)
   obtain⟨q,y,u,v⟩:=G
   refine⟨w,⟨q,y,u,fun h=>?_⟩,by rw [qf Q,zh (qo (by omega))];rfl⟩
   obtain⟨f1,A,B⟩:=v h
   refine⟨f1,fun t i P p=>?_⟩
   by_cases e:t=s
   ·subst e;exact B i p.hi p
   ·exact A t i (by omega) p
  ·simp only [yz]
   rw [ym (by rw [E.len];omega)]
   exact⟨_,rfl,n.1,n.2.1,n.2.2.1,n.2.2.2⟩
 exact⟨r.2,r.1,O,x.1,x.2.1,x.2.2.1,fun h=>⟨(x.2.2.2 h).1,fun s i p=>(x.2.2.2 h).2 s i p.hs p⟩⟩
theorem zku(a:MOk m)(g:200≤N)(j:Shp m X)(k:Pot m X d)(b:Bnd m d)(e:D≤63): ∀ (μ:Nat) (F:Nat) (H:List Sa),SInv m X nd d D H→(muH m H).toNat<μ→μ<F→ ∃ H',o5 N m.inputs m.outputs m.rows X F true H=some H'∧SInv m X nd d D H'∧ ∀ s i,VE m s i→Cl m X H' s i
 |0,_,_,_,h,_=>by omega
 |μ+1,F,H,h,l,t=>by
  obtain⟨F,rfl⟩: ∃ F',F=F'+1:=⟨F-1,by omega⟩
  obtain⟨c,H',n,f,u,o,p⟩:=zoc (N:=N) a g j k b e h
  simp only [o5]
  rw [ct rfl,qf n]
  have v:=h.mu0 a b e
  have w:=f.mu0 a b e
  cases c
  ·obtain⟨q,r⟩:=p rfl
   subst q
   obtain⟨F,rfl⟩: ∃ F',F=F'+1:=⟨F-1,by omega⟩
   exact⟨H',rfl,f,r⟩
  ·have:=o rfl
   exact zku a g j k b e μ F H' f (by omega) (by omega)
def zhx(nd:Nat→Int)(v:Nat):Sa:=⟨-1,0,false,if 0<nd v then 0 else 1073741824⟩
def zbo(m:Mach)(nd:Nat→Int):List Sa:=(List.range m.rows.length).map (zhx nd)
theorem q30{v:Nat}(a:v<m.rows.length):p9 (zbo m nd) v=if 0<nd v then 0 else 1073741824:=by
 unfold p9 zbo;rw [yg (zhx nd) a];rfl
def ndL(m:Mach)(nd:Nat→Int):List Int:=(List.range m.rows.length).map nd
theorem z4l:(ndL m nd).length=m.rows.length:=by simp [ndL]
theorem zh4{v:Nat}(a:v<m.rows.length):(ndL m nd).getD v default=nd v:=yg nd a
theorem q3h(f:MOk m)(g:Bnd m d)(e: ∀ v,v<m.rows.length→d v≤D):SInv m X nd d D (zbo m nd):=by
 have c: ∀ v,v<m.rows.length→p9 (zbo m nd) v≠INF→0<nd v∧p9 (zbo m nd) v=0:=fun v a h=>by
  rw [q30 a] at h⊢
  split
  ·rename_i h2;exact⟨h2,rfl⟩
  ·rename_i h2;rw [if_neg h2] at h;exact absurd rfl h
 have b: ∀ v,v<m.rows.length→((zbo m nd).getD v default).fD= -1:=fun v a=>by
  unfold zbo;rw [yg (zhx nd) a];rfl
 refine⟨by simp [zbo],fun v a h=> .inl ⟨b v a,(c v a h).2,(c v a h).1⟩,fun v a h=>?_,fun v a h=>?_,fun v a=> .root (b v a),fun v a h=>?_⟩
 ·rw [(c v a h).2]
  have:=e v a;omega
 ·rw [(c v a h).2]
  have:0<zqx m (zbo m nd):=List.countP_pos_iff.2 ⟨v,List.mem_range.2 a,decide_eq_true h⟩
  omega
 ·rw [q30 a,if_pos h];decide
theorem zuf(c:MOk m)(d:200≤N):bi N (ndL m nd) N 0 (List.replicate m.rows.length ⟨0,0,false,0⟩)=some (zbo m nd):=by
 have e:=c.r2
 have f:=z4l (m:=m) (nd:=nd)
 refine bz (σ:=List Sa) (fun F v z=>bi N (ndL m nd) F (v:Int) z) m.rows.length (fun v z=>z=(List.range v).map (zhx nd)++List.replicate (m.rows.length-v) ⟨0,0,false,0⟩) _ (fun F v z b a=> .inr ?_) (fun F z a=>?_) N 0 (List.replicate m.rows.length ⟨0,0,false,0⟩) (Nat.zero_le _) (by omega) (by simp)
 ·subst a
  have hlen:((List.range v).map (zhx nd)++List.replicate (m.rows.length-v) (⟨0,0,false,0⟩:Sa)).length=m.rows.length:=by simp;omega
  refine⟨_,rfl,?_⟩
  simp only [bi]
  rw [bu (by omega)]
  refine Eq.trans (qf (x:=((List.range v).map (zhx nd)++List.replicate (m.rows.length-v) (⟨0,0,false,0⟩:Sa)).set v (zhx nd v)) ?_) ?_
  ·rw [zh (qg (by omega)),zh (qg (by omega)),ug,zh4 b,mq]
   by_cases h:0<nd v
   ·rw [bu h,zh (qg (by rw [List.length_set];omega)),mq,List.set_set,ug,zbj (by omega),if_pos rfl]
    rw [show zhx nd v=⟨-1,0,false,0⟩ from by unfold zhx;rw [if_pos h]]
   ·rw [ym h]
    rw [show zhx nd v=⟨-1,0,false,1073741824⟩ from by unfold zhx;rw [if_neg h]]
  ·rw [zh (qo (by omega)),z9g (by simp) b,List.range_succ,List.map_append];rfl
 ·subst a
  simp only [bi]
  rw [ym (by omega),Nat.sub_self,List.replicate_zero,List.append_nil];rfl
theorem zun(a:MOk m)(l:30000≤N)(c:Shp m X)(f:Pot m X d)(b:Bnd m d): ∃ H,z2e N m.inputs m.outputs m.rows X (ndL m nd)=some H∧SInv m X nd d 63 H∧ ∀ s i,VE m s i→Cl m X H s i:=by
 have n:=a.r2
 have e:SInv m X nd d 63 (zbo m nd):=q3h a b fun v g=>(b v g).2
 obtain⟨H,h,j,k⟩:=zku (N:=N) a (by omega) c f b (by decide) 25601 N (zbo m nd) e (by have:=e.mu0 a b (by decide);omega) (by omega)
 refine⟨H,?_,j,k⟩
 unfold z2e
 rw [zh (by rw [c.len];exact⟨by omega,by omega,by omega⟩),c.len,l8,qf (zuf a (by omega)),qf h]
end
end GV
end Go.Proofs.Ytdhccodneoebpaa

namespace Go.Proofs.Ytdhccodneoebpaa
namespace GV
set_option maxRecDepth 100000
inductive RtD (H:List Sa):Nat→Nat→Prop
 |root {v:Nat}:(H.getD v default).fD= -1→RtD H v 0
 |step {v u k:Nat}:(H.getD v default).fD=(u:Int)→RtD H u k→RtD H v (k+1)
theorem zws{H:List Sa}{v:Nat}(h:Rt H v): ∃ k,RtD H v k:=by
 induction h with
 |root h=>exact⟨0,.root h⟩
 |step h _ ih=>obtain⟨k,a⟩:=ih;exact⟨k+1,.step h a⟩
theorem zse{H:List Sa}{v k:Nat}(h:RtD H v k): ∀ {j:Nat},RtD H v j→k=j:=by
 induction h with
 |root h=>
  intro j b
  cases b with
  |root _=>rfl
  |step a _=>rw [h] at a;omega
 | @step v u k h d ih=>
  intro j b
  cases b with
  |root a=>rw [h] at a;omega
  | @step _ u' j a c=>
   obtain rfl:u'=u:=by rw [h] at a;omega
   rw [ih c]
section
variable {N : Nat} {m : Mach} {X : List (List Int)} {nd d : Nat → Int} {D : Int} {H : List Sa}
theorem levels(b:MOk m){f:Nat→Int}(j: ∀ s i,VE m s i→f (ed m s i).toNat≤f s+1){v y:Nat}(k:v<m.rows.length)(h:Reach m v y): ∀ c,f v≤c→c≤f y→ ∃ x,x<m.rows.length∧f x=c:=by
 induction h with
 |refl=>exact fun c d e=>⟨v,k,by omega⟩
 | @step t i n g l o ih=>
  intro c d e
  have hi:i<m.inputs.toNat:=by rwa [b.rowlen g] at l
  have a:VE m t i:=⟨g,hi,by unfold ed;omega⟩
  have p:=j t i a
  rw [show ((m.rows.getD t default).getD i default).to.toNat=(ed m t i).toNat from rfl] at e
  by_cases h4:c≤f t
  ·exact ih c d h4
  ·exact⟨_,(a.to b).1,by omega⟩
theorem spread(o:MOk m){f:Nat→Int}(p: ∀ s i,VE m s i→f (ed m s i).toNat≤f s+1){v y:Nat}(q:v<m.rows.length)(h:Reach m v y):f y-f v≤63:=by
 have w:=o.r2
 refine Classical.byContradiction fun z=>?_
 have r: ∀ j:Nat,∃ x,j<65→x<m.rows.length∧f x=f v+(j:Int):=fun j=>by
  by_cases c:j<65
  ·obtain⟨x,t,d⟩:=levels o p q h (f v+(j:Int)) (by omega) (by omega)
   exact⟨x,fun _=>⟨t,d⟩⟩
  ·exact⟨0,fun h=>absurd h c⟩
 obtain⟨g,l⟩:=Classical.axiomOfChoice r
 have:=zvp (n:=m.rows.length) (k:=65) (f:=g) (fun j c=>(l j c).1) fun i j u c e=>by
  have a:=(l i (by omega)).2
  have b:=(l j c).2
  rw [e] at a;omega
 omega
structure Fin (m:Mach) (X:List (List Int)) (nd:Nat→Int) (H:List Sa):Prop where
 len:H.length=m.rows.length
 hop: ∀ v,v<m.rows.length→zvg m X nd H v
 rt: ∀ v,v<m.rows.length→Rt H v
 pot:Pot m X (p9 H)
 bnd:Bnd m (p9 H)
theorem q25(c:MOk m)(y:Bnd m d)(k: ∀ s t,s<m.rows.length→t<m.rows.length→Reach m s t)(h:SInv m X nd d 63 H)(b: ∀ s i,VE m s i→Cl m X H s i){q:Nat}(l:q<m.rows.length)(n:0<nd q):Fin m X nd H:=by
 have D:INF=1073741824:=rfl
 have hall: ∀ v,v<m.rows.length→p9 H v≠INF:=fun v a=>by
  have o:=k q v l a
  clear a
  induction o with
  |refl=>exact h.src q l n
  | @step t i E p z F ih=>
   have hi:i<m.inputs.toNat:=by rwa [c.rowlen p] at z
   have w:VE m t i:=⟨p,hi,by unfold ed;omega⟩
   have:=(b t i w).1 ih
   have:=h.bnd c y (by decide) p ih
   rw [show ((m.rows.getD t default).getD i default).to.toNat=(ed m t i).toNat from rfl]
   omega
 have hpot:Pot m X (p9 H):=⟨fun s i a=>(b s i a).1 (hall s a.hs),fun s i a A=>by
  have e:=(b s i a).1 (hall s a.hs)
  have g:=(b s i a).2 A (hall _ (a.to c).1)
  omega⟩
 have hroot: ∀ {v:Nat},Rt H v→v<m.rows.length→ ∃ r,r<m.rows.length∧p9 H r=0:=by
  intro v a
  induction a with
  | @root v e=>
   intro j
   rcases h.hop v j (hall v j) with⟨_,g,_⟩|⟨u,i,g,_⟩
   ·exact⟨v,j,g⟩
   ·rw [e] at g;omega
  | @step v u e g ih=>
   intro j
   rcases h.hop v j (hall v j) with⟨x,_⟩|⟨u',i,x,_,B,_⟩
   ·rw [e] at x;omega
   ·obtain rfl:u'=u:=by rw [e] at x;omega
    exact ih (B.lt c).1
 obtain⟨r,o,C⟩:=hroot (h.rt q l) l
 refine⟨h.len,fun v a=>h.hop v a (hall v a),h.rt,hpot,fun v a=>?_⟩
 have e:=h.bnd c y (by decide) a (hall v a)
 have g:=spread c hpot.f a (k v r a o)
 omega
theorem zvh(q:MOk m)(h:Fin m X nd H){v k:Nat}(r:v<m.rows.length)(l:RtD H v k):k<m.rows.length:=by
 have key: ∀ {v k:Nat},RtD H v k→v<m.rows.length→ ∀ j,j≤k→ ∃ x,x<m.rows.length∧RtD H x j:=by
  intro v k l
  induction l with
  | @root v b=>exact fun d j c=>⟨v,d,by rw [show j=0 by omega];exact .root b⟩
  | @step v u k b s ih=>
   intro d j c
   by_cases e:j=k+1
   ·exact⟨v,d,by rw [e];exact .step b s⟩
   ·rcases h.hop v d with⟨o,_⟩|⟨u',i,o,_,t,_⟩
    ·rw [b] at o;omega
    ·obtain rfl:u'=u:=by rw [b] at o;omega
     exact ih (t.lt q).1 j (by omega)
 have b: ∀ j:Nat,∃ x,j<k+1→x<m.rows.length∧RtD H x j:=fun j=>by
  by_cases c:j<k+1
  ·obtain⟨x,w⟩:=key l r j (by omega)
   exact⟨x,fun _=>w⟩
  ·exact⟨0,fun h=>absurd h c⟩
 obtain⟨g,p⟩:=Classical.axiomOfChoice b
 exact zvp (n:=m.rows.length) (k:=k+1) (f:=g) (fun j c=>(p j c).1) fun i j y c e=>by
  have a:=(p i (by omega)).2
  rw [e] at a
  have:=zse a (p j c).2
  omega
theorem zlu(I:MOk m)(h:Fin m X nd H): ∀ (k v:Nat) (Z:List (List Int)) (B:Int) (F:Nat),RtD H v k→v<m.rows.length→Shp m Z→(∀ s i,VE m s i→0≤lf Z s i∧lf Z s i≤B)→0≤B→B+(k:Int)≤1000000000→(∀ y j,RtD H y j→j≤k→ ∀ i,VE m y i→lf X y i≤lf Z y i)→(∀ s i,VE m s i→0<lf Z s i→p9 H (ed m s i).toNat=p9 H s+1)→k<F→
 ∃ (r:Nat) (Z':List (List Int)),iw N H F (v:Int) Z=some ((r:Int),Z')∧r<m.rows.length∧0<nd r∧Shp m Z'∧(∀ s i,VE m s i→0≤lf Z' s i∧lf Z' s i≤B+(k:Int))∧(∀ s i,VE m s i→0<lf Z' s i→p9 H (ed m s i).toNat=p9 H s+1)∧ ∀ w,bq m Z' w=bq m Z w+(dl r w-dl v w)
 |k,v,Z,B,F,hk,p,c,A,ab,hB,hrow,G,hF=>by
  obtain⟨F,rfl⟩: ∃ F',F=F'+1:=⟨F-1,by omega⟩
  have C:okI H (v:Int):=qg (by rw [h.len];exact p)
  simp only [iw]
  rw [zh C,ug]
  cases hk with
  |root n=>
   rw [n,ym (fun h=>h rfl)]
   rcases h.hop v p with⟨_,_,o⟩|⟨u,i,o,_⟩
   ·exact⟨v,Z,rfl,p,o,c,fun s i f=>by have:=A s i f;omega,G,fun w=>by omega⟩
   ·rw [n] at o;omega
  | @step _ u k n o=>
   rcases h.hop v p with⟨J,_⟩|⟨u',i,J,K,q,_,Y⟩
   ·rw [n] at J;omega
   ·obtain rfl:u=u':=by rw [n] at J;omega
    obtain⟨D,_⟩:=q.lt I
    have hdet: ∀ y j,RtD H y j→j≤k→y≠v:=fun y j z L e=>by
     subst e
     have:=zse z (.step n o);omega
    rw [n,bu (by omega),zh C,K]
    have E:=q.pot h.pot
    generalize hbk:(H.getD v default).fAb=b at*
    unfold Arc at q
    cases b
    ·rw [if_neg (by decide)] at q
     obtain⟨a,g⟩:=q
     have M:=A u i a
     have hset: ∀ {x:Int},Shp m (Z.set u ((Z.getD u default).set i x)):=c.set a.hs (by rw [List.length_set,c.row u a.hs])
     have d: ∀ s j,lf (Z.set u ((Z.getD u default).set i (lf Z u i+1))) s j=if s=u∧j=i then lf Z u i+1 else lf Z s j:=fun s j=>zc5 c a.hs a.hi
     have hbal:=fun w=>zm2 c a (x:=lf Z u i+1) w
     have O:p9 H v=p9 H u+1:=by
      have Y:p9 H u+1≤p9 H v:=Y
      have E:p9 H v≤p9 H u+1:=E
      omega
     obtain⟨r,Z',P,Q,R,S,T,U,V⟩:=zlu I h k u (Z.set u ((Z.getD u default).set i (lf Z u i+1))) (B+1) F o D hset (fun s j f=>by
      rw [d];have:=A s j f;split<;>omega) (by omega) (by omega) (fun y j z L l W=>by
      rw [d]
      have:=hrow y j z (by omega) l W
      split
      ·rename_i e;obtain⟨rfl,rfl⟩:=e;omega
      ·exact this) (fun s j f t=>by
      rw [d] at t
      by_cases e:s=u∧j=i
      ·obtain⟨rfl,rfl⟩:=e
       rw [g,Int.toNat_natCast];exact O
      ·rw [if_neg e] at t;exact G s j f t) (by omega)
     refine⟨r,Z',?_,Q,R,S,fun s j f=>by have:=T s j f;omega,U,fun w=>?_⟩
     ·refine Eq.trans (qf (x:=Z.set u ((Z.getD u default).set i (lf Z u i+1))) ?_) P
      rw [cf rfl,zh (qg (by rw [c.len];exact D)),ug,zh (qg (by rw [c.row u D];exact a.hi)),ug,show (Z.getD u default).getD i default=lf Z u i from rfl,zh (qo (by omega)),zh (qg (by rw [c.row u D];exact a.hi)),mq,mq]
     ·rw [V w,hbal w,g,Int.toNat_natCast,show lf Z u i+1-lf Z u i=1 by omega];omega
    ·rw [if_pos rfl] at q
     obtain⟨a,g,ac⟩:=q
     have M:=A v i a
     have ad:=hrow v (k+1) (.step n o) (Nat.le_refl _) i a
     have hset: ∀ {x:Int},Shp m (Z.set v ((Z.getD v default).set i x)):=c.set a.hs (by rw [List.length_set,c.row v a.hs])
     have d: ∀ s j,lf (Z.set v ((Z.getD v default).set i (lf Z v i-1))) s j=if s=v∧j=i then lf Z v i-1 else lf Z s j:=fun s j=>zc5 c a.hs a.hi
     have hbal:=fun w=>zm2 c a (x:=lf Z v i-1) w
     obtain⟨r,Z',P,Q,R,S,T,U,V⟩:=zlu I h k u (Z.set v ((Z.getD v default).set i (lf Z v i-1))) (B+1) F o D hset (fun s j f=>by
      rw [d];have:=A s j f;split<;>omega) (by omega) (by omega) (fun y j z L l W=>by
      rw [d,if_neg (fun e=>hdet y j z L e.1)]
      exact hrow y j z (by omega) l W) (fun s j f t=>by
      rw [d] at t
      by_cases e:s=v∧j=i
      ·obtain⟨rfl,rfl⟩:=e
       exact G s j f (by omega)
      ·rw [if_neg e] at t;exact G s j f t) (by omega)
     refine⟨r,Z',?_,Q,R,S,fun s j f=>by have:=T s j f;omega,U,fun w=>?_⟩
     ·refine Eq.trans (qf (x:=Z.set v ((Z.getD v default).set i (lf Z v i-1))) ?_) P
      rw [ct rfl,zh (qg (by rw [c.len];exact p)),ug,zh (qg (by rw [c.row v p];exact a.hi)),ug,show (Z.getD v default).getD i default=lf Z v i from rfl,zh (qo (by omega)),zh (qg (by rw [c.row v p];exact a.hi)),mq,mq]
     ·rw [V w,hbal w,g,Int.toNat_natCast,show lf Z v i-1-lf Z v i= -1 by omega];omega
theorem zys(i:MOk m)(l:200≤N)(g:H.length=m.rows.length): ∃ z,nk N (ndL m nd) H N (-1) 0=some z∧((z= -1∧ ∀ v,v<m.rows.length→0≤nd v)∨ ∃ x,x<m.rows.length∧z=(x:Int)∧nd x<0):=by
 have n:=i.r2
 have o:=z4l (m:=m) (nd:=nd)
 refine z0u (σ:=Int) (fun F v z=>nk N (ndL m nd) H F z (v:Int)) m.rows.length (fun v z=>(z= -1∧ ∀ u,u<v→0≤nd u)∨ ∃ x,x<m.rows.length∧z=(x:Int)∧nd x<0) _ (fun F v z b a=> .inr ?_) (fun F z a=>?_) N 0 (-1) (Nat.zero_le _) (by omega) (.inl ⟨rfl,fun u j=>by omega⟩)
 ·simp only [nk]
  rw [bu (by omega)]
  have c:z≠ -1→okI H z:=fun d=>by
   rcases a with⟨h,_⟩|⟨x,k,rfl,_⟩
   ·exact absurd h d
   ·exact qg (by rw [g];exact k)
  obtain⟨z',h1,f⟩: ∃ z',(gd (okI (ndL m nd) (v:Int))<|
   gd (((true&&((decide ((ix (ndL m nd) (v:Int))<0))==true))&&((decide (z=(-1)))==false))=true→okI H (v:Int))<|
   gd (((true&&((decide ((ix (ndL m nd) (v:Int))<0))==true))&&((decide (z=(-1)))==false))=true→okI H z)<|
   bif (decide ((ix (ndL m nd) (v:Int))<0))&&((decide (z=(-1)))||(decide (((ix H (v:Int)).fC)<((ix H z).fC)))) then(
   some (v:Int)) else(
   some z))=some z'∧((z'= -1∧ ∀ u,u<v+1→0≤nd u)∨ ∃ x,x<m.rows.length∧z'=(x:Int)∧nd x<0):=by
   rw [zh (qg (by omega)),zh (fun _=>qg (by rw [g];exact b)),zh (fun h=>c (by
    have:=(Bool.and_eq_true _ _▸h).2
    simpa using this)),ug,zh4 b]
   by_cases hn:nd v<0
   ·cases hc:(decide (nd v<0))&&((decide (z=(-1)))||(decide (((ix H (v:Int)).fC)<((ix H z).fC))))
    ·refine⟨z,rfl,?_⟩
     rcases a with⟨h,_⟩|h
     ·rw [decide_eq_true hn,decide_eq_true h] at hc;cases hc
     ·exact .inr h
    ·exact⟨(v:Int),rfl,.inr ⟨v,b,rfl,hn⟩⟩
   ·rw [cf (by rw [decide_eq_false hn];rfl)]
    refine⟨z,rfl,?_⟩
    rcases a with⟨h,f⟩|h
    ·refine .inl ⟨h,fun u j=>?_⟩
     by_cases e:u=v
     ·subst e;omega
     ·exact f u (by omega)
    ·exact .inr h
  exact⟨z',f,by rw [qf h1,zh (qo (by omega))];rfl⟩
 ·simp only [nk]
  rw [ym (by omega)]
  exact⟨z,rfl,a⟩
end
end GV
end Go.Proofs.Ytdhccodneoebpaa

namespace Go.Proofs.Ytdhccodneoebpaa
namespace GV
set_option maxRecDepth 100000
theorem zx6{n a:Nat}(b:a<n):((List.range n).map fun v=>dl a v).sum=1:=by
 have:=z8h (f:=fun _=>(0:Int)) (g:=fun v=>dl a v) (a:=a) (d:=1) (l:=List.range n) List.nodup_range (List.mem_range.2 b) (by rw [z2l];rfl) (fun x _ c=>z2u fun h=>c h.symm)
 rw [this,z2a];rfl
theorem zm3{α:Type}(c:Int)(f:α→Int): ∀ l:List α,(l.map fun x=>c*f x).sum=c*(l.map f).sum
 | []=>by simp
 |x::l=>by rw [List.map_cons,List.map_cons,List.sum_cons,List.sum_cons,zm3 c f l,Int.mul_add]
section
variable {N : Nat} {m : Mach} {X L : List (List Int)} {nd d : Nat → Int} {B : Int} {H : List Sa}
theorem zlo(k:MOk m):((List.range m.rows.length).map (bq m L)).sum=0:=by
 unfold bq
 have key: ∀ E:List (Int×Int),(∀ e∈E,e.1.toNat<m.rows.length∧tgE m e<m.rows.length)→((List.range m.rows.length).map fun v=>(E.map (zaz m L v)).sum).sum=0:=by
  intro E
  induction E with
  |nil=>intro _;exact z2a _
  |cons e E ih=>
   intro h
   have d:=h e (List.mem_cons_self ..)
   have l:=ih fun x n=>h x (List.mem_cons_of_mem _ n)
   have o:((List.range m.rows.length).map fun v=>zaz m L v e).sum=0:=by
    unfold zaz
    rw [zm3]
    have p:((List.range m.rows.length).map fun v=>dl e.1.toNat v-dl (tgE m e) v).sum=0:=by
     have q:=z4o (fun v=>dl e.1.toNat v-dl (tgE m e) v) (fun v=>dl (tgE m e) v) (List.range m.rows.length)
     rw [cz (f:=fun v=>dl e.1.toNat v-dl (tgE m e) v+dl (tgE m e) v) (g:=fun v=>dl e.1.toNat v) (fun x _=>by omega),zx6 d.1,zx6 d.2] at q
     omega
    rw [p,Int.mul_zero]
   have j:=z4o (fun v=>zaz m L v e) (fun v=>(E.map (zaz m L v)).sum) (List.range m.rows.length)
   rw [l,o] at j
   simp only [List.map_cons,List.sum_cons]
   exact j
 exact key (qm m) fun e r=>by
  obtain⟨s,i,a,b,c,rfl⟩:=wh.1 r
  exact⟨a,((⟨a,b,c⟩:VE m s i).to k).1⟩
structure FInv (m:Mach) (X:List (List Int)) (nd d:Nat→Int) (B:Int):Prop where
 shp:Shp m X
 rng: ∀ s i,VE m s i→0≤lf X s i∧lf X s i≤B
 pot:Pot m X d
 bnd:Bnd m d
 bal: ∀ v,v<m.rows.length→nd v= -bq m (z2s m) v-bq m X v
def znm(x:Int):Int:=if x<0 then-x else 0
def zr5(m:Mach)(nd:Nat→Int):Int:=((List.range m.rows.length).map fun v=>znm (nd v)).sum
theorem zns:0≤zr5 m nd:=z6y fun v _=>by unfold znm;split<;>omega
theorem zpe(a:MOk m)(h:FInv m X nd d B):((List.range m.rows.length).map nd).sum=0:=by
 have c:=z4o nd (fun v=>bq m (z2s m) v+bq m X v) (List.range m.rows.length)
 have b:=z4o (bq m (z2s m)) (bq m X) (List.range m.rows.length)
 rw [zlo a,zlo a] at b
 rw [b,cz (f:=fun v=>nd v+(bq m (z2s m) v+bq m X v)) (g:=fun _=>0) (fun v e=>by have:=h.bal v (List.mem_range.1 e);omega),z2a] at c
 omega
theorem q1e(c:MOk m)(h:FInv m X nd d B){q:Nat}(e:q<m.rows.length)(j:nd q<0): ∃ p,p<m.rows.length∧0<nd p:=by
 refine Classical.byContradiction fun a=>?_
 have k:=zpe c h
 have n:=zdc (f:=fun v=> -nd v) (l:=List.range m.rows.length) (fun v i=>Int.not_lt.1 fun b=>a ⟨v,List.mem_range.1 i,by omega⟩) ⟨q,List.mem_range.2 e,by omega⟩
 have b:=z4o nd (fun v=> -nd v) (List.range m.rows.length)
 rw [cz (f:=fun v=>nd v+ -nd v) (g:=fun _=>0) (fun v _=>by omega),z2a] at b
 omega
theorem zzo(c:MOk m)(h:FInv m X nd d B)(b: ∀ v,v<m.rows.length→0≤nd v){v:Nat}(a:v<m.rows.length):nd v=0:=by
 refine Classical.byContradiction fun e=>?_
 have g:=zpe c h
 have i:=zdc (f:=nd) (l:=List.range m.rows.length) (fun v a=>b v (List.mem_range.1 a)) ⟨v,List.mem_range.2 a,by have:=b v a;omega⟩
 omega
theorem zyn(n:MOk m)(O:30000≤N)(E: ∀ s t,s<m.rows.length→t<m.rows.length→Reach m s t)(h:FInv m X nd d B)(F:0≤B)(hB:B+64≤1000000000)(o: ∀ v,v<m.rows.length→ -1000000≤nd v∧nd v≤1000000):
 (z1o N m.inputs m.outputs m.rows X (ndL m nd)=some (false,X,ndL m nd)∧ ∀ v,v<m.rows.length→0≤nd v)∨ ∃ X' nd' d',z1o N m.inputs m.outputs m.rows X (ndL m nd)=some (true,X',ndL m nd')∧FInv m X' nd' d' (B+64)∧zr5 m nd'=zr5 m nd-1∧ ∀ v,v<m.rows.length→ -1000000≤nd' v∧nd' v≤1000000:=by
 have hr:=n.r2
 obtain⟨H,P,L,Q⟩:=zun (N:=N) (nd:=nd) n O h.shp h.pot h.bnd
 obtain⟨z,R,G⟩:=zys (N:=N) (nd:=nd) n (by omega) L.len
 unfold z1o
 rw [qf P,qf R]
 rcases G with⟨rfl,G⟩|⟨q,c,rfl,u⟩
 ·left
  exact⟨by rw [bu rfl],G⟩
 ·right
  obtain⟨p,S,I⟩:=q1e n h c u
  have hfin:=q25 n h.bnd E L Q S I
  obtain⟨k,M⟩:=zws (hfin.rt q c)
  have T:=zvh n hfin c M
  obtain⟨r,X',U,D,c3,V,W,Y,Z⟩:=zlu n hfin k q X B N M c h.shp h.rng F (by omega) (fun y j _ _ i _=>Int.le_refl _) hfin.pot.t (by omega)
  have w:okI (ndL m nd) (q:Int):=qg (by rw [z4l];exact c)
  have b:q≠r:=fun e=>by subst e;omega
  have aa:=o q c
  have ab:=o r D
  have J:(ndL m nd).set q (nd q+1)=ndL m (fun v=>nd v+dl q v):=by
   apply List.ext_getElem?
   intro j
   by_cases hj:j<m.rows.length
   ·rw [List.getElem?_eq_getElem (by rw [List.length_set,z4l];exact hj),List.getElem?_eq_getElem (by rw [z4l];exact hj)]
    congr 1
    rw [List.getElem_set]
    unfold ndL
    rw [List.getElem_map,List.getElem_range,List.getElem_map,List.getElem_range]
    split
    ·rename_i e;subst e;rw [z2l]
    ·rename_i e;rw [z2u e];omega
   ·rw [List.getElem?_eq_none (by rw [List.length_set,z4l];omega),List.getElem?_eq_none (by rw [z4l];omega)]
  have A:(ndL m (fun v=>nd v+dl q v)).set r (nd r-1)=ndL m (fun v=>nd v+dl q v-dl r v):=by
   apply List.ext_getElem?
   intro j
   by_cases hj:j<m.rows.length
   ·rw [List.getElem?_eq_getElem (by rw [List.length_set,z4l];exact hj),List.getElem?_eq_getElem (by rw [z4l];exact hj)]
    congr 1
    rw [List.getElem_set]
    unfold ndL
    rw [List.getElem_map,List.getElem_range,List.getElem_map,List.getElem_range]
    split
    ·rename_i e;subst e;rw [z2l,z2u b];omega
    ·rename_i e;rw [z2u e];omega
   ·rw [List.getElem?_eq_none (by rw [List.length_set,z4l];omega),List.getElem?_eq_none (by rw [z4l];omega)]
  have K:(ndL m (fun v=>nd v+dl q v)).getD r default=nd r:=by
   rw [zh4 D,z2u b];omega
  refine⟨X',fun v=>nd v+dl q v-dl r v,p9 H,?_,⟨V,fun s i C=>by have:=W s i C;omega,⟨hfin.pot.f,Y⟩,hfin.bnd,fun v C=>?_⟩,?_,fun v C=>?_⟩
  ·rw [ym (by omega),zh w,ug,zh4 c,zh (qo (by omega)),zh w,qf U,mq,J]
   dsimp only
   rw [zh (qg (by rw [z4l];exact D)),ug,K,zh (qo (by omega)),zh (qg (by rw [z4l];exact D)),mq,A]
  ·have:=h.bal v C
   have:=Z v
   omega
  ·have h1:=z8h (f:=fun v=>znm (nd v)) (g:=fun v=>znm (nd v+dl q v-dl r v)) (a:=q) (d:= -1) (l:=List.range m.rows.length) List.nodup_range (List.mem_range.2 c) (by
    rw [z2l,z2u (fun h=>b h.symm)]
    unfold znm
    rw [if_pos u]
    split<;>omega) (fun x _ hx=>by
    rw [z2u (fun h=>hx h.symm)]
    by_cases e:r=x
    ·subst e
     rw [z2l]
     unfold znm
     rw [if_neg (by omega),if_neg (by omega)]
    ·rw [z2u e,Int.add_zero,Int.sub_zero])
   unfold zr5
   dsimp only
   omega
  ·have h1:=zcc q v
   have h2:=zcc r v
   have h3:=o v C
   dsimp only
   by_cases e1:q=v
   ·subst e1;rw [z2l,z2u (fun h=>b h.symm)];omega
   ·rw [z2u e1]
    by_cases e2:r=v
    ·subst e2;rw [z2l];omega
    ·rw [z2u e2];omega
theorem zll(b:MOk m)(k:30000≤N)(a: ∀ s t,s<m.rows.length→t<m.rows.length→Reach m s t): ∀ (μ:Nat) (F:Nat) (X:List (List Int)) (nd d:Nat→Int) (B:Int),FInv m X nd d B→0≤B→B+64*(μ:Int)≤900000000→(∀ v,v<m.rows.length→ -1000000≤nd v∧nd v≤1000000)→(zr5 m nd).toNat<μ→μ<F→
 ∃ X' nd' d',ae N m F X (ndL m nd)=some (X',ndL m nd')∧FInv m X' nd' d' 900000000∧ ∀ v,v<m.rows.length→nd' v=0
 |0,_,_,_,_,_,_,_,_,_,h,_=>by omega
 |μ+1,F,X,nd,d,B,h,c,o,e,l,p=>by
  obtain⟨F,rfl⟩: ∃ F',F=F'+1:=⟨F-1,by omega⟩
  simp only [ae]
  rcases zyn (N:=N) b k a h c (by omega) e with⟨f,g⟩|⟨X',nd',d',f,g,q,n⟩
  ·rw [qf f,cf rfl]
   exact⟨X,nd,d,rfl,⟨h.shp,fun s i j=>by have:=h.rng s i j;omega,h.pot,h.bnd,h.bal⟩,fun v j=>zzo b h g j⟩
  ·rw [qf f,ct rfl]
   have r:=zns (m:=m) (nd:=nd')
   exact zll b k a μ F X' nd' d' (B+64) g (by omega) (by omega) n (by omega) (by omega)
/-! ### The whole-/
def z2p(m:Mach)(X:List (List Int)):List (List Int):=z2r m fun s i=>1+lf X s i
theorem zjj{s i:Nat}(a:VE m s i):lf (z2p m X) s i=1+lf X s i:=by
 unfold z2p;rw [zeu a.hs a.hi,if_neg a.he]
theorem zyb(v:Nat):bq m (z2p m X) v=bq m (z2s m) v+bq m X v:=by
 unfold bq
 rw [←z4o]
 refine cz fun e d=>?_
 obtain⟨s,i,a,b,c,rfl⟩:=wh.1 d
 unfold zaz
 show lf (z2p m X) s i*_=lf (z2s m) s i*_+lf X s i*_
 rw [zjj ⟨a,b,c⟩,zbl ⟨a,b,c⟩,Int.add_mul]
theorem zc3(d:MOk m){v:Nat}: -1024≤bq m (z2s m) v∧bq m (z2s m) v≤1024:=by
 have g:=zd1 (f:=zaz m (z2s m) v) (B:=1) (by decide) (l:=qm m) (fun e h=>by
  obtain⟨x,j,a,b,c,rfl⟩:=wh.1 h
  have i:zaz m (z2s m) v ((x:Int),(j:Int))=dl x v-dl (ed m x j).toNat v:=by
   unfold zaz
   show lf (z2s m) x j*(dl x v-dl (ed m x j).toNat v)=_
   rw [zbl ⟨a,b,c⟩,Int.one_mul]
  rw [i]
  have g:=zcc x v
  have k:=zcc (ed m x j).toNat v
  omega)
 have k:=zjx d
 unfold bq;omega
theorem zpu(n:MOk m)(J:80000≤N)(r: ∀ s t,s<m.rows.length→t<m.rows.length→Reach m s t): ∃ X d,z03 N m=some ⟨m,z2p m X,gm m (z2p m X)⟩∧(∀ s i,VE m s i→0≤lf X s i∧lf X s i≤900000000)∧Pot m X d∧ ∀ v,v<m.rows.length→bq m (z2p m X) v=0:=by
 have K:=n.r2
 have hinp:=n.inp
 have o: ∀ s i,VE m s i→lf (z7x m) s i=0:=fun s i j=>zn6
 have u:di N m N 0 (List.replicate m.rows.length [])=some (z7x m):=by
  refine bz (σ:=List (List Int)) (fun F v z=>di N m F (v:Int) z) m.rows.length (fun v z=>z=List.replicate v (List.replicate m.inputs.toNat 0)++List.replicate (m.rows.length-v) []) _ (fun F v z j p=> .inr ?_) (fun F z p=>?_) N 0 (List.replicate m.rows.length []) (Nat.zero_le _) (by omega) (by simp)
  ·subst p
   refine⟨_,rfl,?_⟩
   simp only [di]
   rw [bu (by rw [l8,List.length_replicate];omega),zh ⟨by omega,by omega,by omega⟩,zh (qg (by simp;omega)),zh (qo (by omega)),mq,z9g (by simp) j,show mk m.inputs (0:Int)=List.replicate m.inputs.toNat 0 from rfl,List.replicate_succ'];rfl
  ·subst p
   simp only [di]
   rw [ym (by rw [l8,List.length_replicate];omega),Nat.sub_self,List.replicate_zero,List.append_nil];rfl
 have hbal:=zir (N:=N) (k:=((qm m).length:Int)) n (by omega) (zfb (t:=fun _ _=>1)) (fun s i j=>by have:=one_pos s i j;exact this)
 have w:dh N ((List.range m.rows.length).map (bq m (z2s m))) N 0 []=some (ndL m fun v=> -bq m (z2s m) v):=by
  have L:((List.range m.rows.length).map (bq m (z2s m))).length=m.rows.length:=by simp
  refine bz (σ:=List Int) (fun F v z=>dh N ((List.range m.rows.length).map (bq m (z2s m))) F (v:Int) z) m.rows.length (fun v z=>z=(List.range v).map fun v=> -bq m (z2s m) v) _ (fun F v z j p=> .inr ?_) (fun F z p=>?_) N 0 [] (Nat.zero_le _) (by omega) rfl
  ·subst p
   have A:=zc3 n (v:=v)
   refine⟨_,rfl,?_⟩
   simp only [dh]
   rw [bu (by omega),zh (qg (by omega)),ug,yg (bq m (z2s m)) j,zh (show okN (bq m (z2s m) v) from⟨by omega,by omega⟩),zh (zb3 (by simp;omega)),zh (qo (by omega)),List.range_succ,List.map_append];rfl
  ·subst p
   simp only [dh]
   rw [ym (by omega)];rfl
 have y: ∀ v,bq m (z7x m) v=0:=fun v=>by
  unfold bq
  rw [cz (g:=fun _=>(0:Int)) (fun e C=>by
   obtain⟨s,i,a,b,c,rfl⟩:=wh.1 C
   unfold zaz
   show lf (z7x m) s i*_=0
   rw [o s i ⟨a,b,c⟩,Int.zero_mul]),z2a]
 have hinv:FInv m (z7x m) (fun v=> -bq m (z2s m) v) (fun _=>0) 0:=⟨zd0,fun s i j=>by rw [o s i j];omega,⟨fun s i j=>by decide,fun s i j h=>by rw [o s i j] at h;omega⟩,fun v _=>⟨by decide,by decide⟩,fun v j=>by rw [y v];omega⟩
 have hphi:zr5 m (fun v=> -bq m (z2s m) v)≤1024*64:=by
  have:=(zd1 (f:=fun v=>znm (-bq m (z2s m) v)) (B:=1024) (by decide) (l:=List.range m.rows.length) (fun v _=>by
   have A:=zc3 n (v:=v)
   unfold znm;split<;>omega)).2
  rw [List.length_range] at this
  unfold zr5;dsimp only;omega
 obtain⟨X,nd,d,D,q,E⟩:=zll (N:=N) n (by omega) r 70000 N (z7x m) _ _ 0 hinv (by decide) (by decide) (fun v _=>by have A:=zc3 n (v:=v);omega) (by omega) (by omega)
 refine⟨X,d,?_,q.rng,q.pot,fun v j=>?_⟩
 ·unfold z03
  rw [zh ⟨by omega,by omega,by omega⟩,l8,qf u]
  refine Eq.trans (qf (x:=ndL m fun v=> -bq m (z2s m) v) ?_) ?_
  ·rw [z7j,qf (zgt n (by omega)),z7j]
   exact Eq.trans (qf hbal) w
  ·rw [qf D]
   have G:=zi5 (N:=N) (t:=fun s i=>1+lf X s i) n (by omega) (times:=fun H I=>z2q N H I (⟨(⟨m.inputs,m.outputs,m.rows⟩:Mach),X,ndL m nd⟩:Sk)) (fun s i j=>by
    have:=q.rng s i j
    refine⟨?_,by omega,by omega⟩
    unfold z2q
    dsimp only
    rw [zh (qg (by rw [q.shp.len];exact j.hs)),zh (qg (by rw [ug,q.shp.row s j.hs];exact j.hi)),show ix (ix X (s:Int)) (i:Int)=lf X s i from rfl,zh (qo (by omega))])
   dsimp only
   rw [z7j,show z2r m (fun s i=>1+lf X s i)=z2p m X from rfl] at*
   rw [qf G]
 ·rw [zyb]
  have:=q.bal v j
  have:=E v j
  omega
end
end GV
end Go.Proofs.Ytdhccodneoebpaa

namespace Go.Proofs.Ytdhccodneoebpaa
namespace GV
set_option maxRecDepth 100000
section
variable {N : Nat} {m : Mach} {X L : List (List Int)} {nd d : Nat → Int}
theorem strong(c:CM38 m)(d:Ex1 m true): ∀ s t,s<m.rows.length→t<m.rows.length→Reach m s t:=fun s t a b=>by
 have h:=(zjl c).1 d
 exact(z8n a b ((h s a).trans (h t b).symm)).1
theorem zuo(c:MOk m)(d: ∀ s i,VE m s i→0<lf L s i){x y:Nat}(h:Reach m x y):Reach (z3y m L) x y:=by
 induction h with
 |refl=>exact .refl
 | @step t i j a e f ih=>
  have hi:i<m.inputs.toNat:=by rwa [c.rowlen a] at e
  have g:VE m t i:=⟨a,hi,by unfold ed;omega⟩
  have b:((z3y m L).rows.getD t default).getD i default=(m.rows.getD t default).getD i default:=by rw [zi3 a hi,if_pos (d t i g)]
  have:=Reach.step ih (by rw [z0h];exact a) (i:=i) (by rw [zcj a];simpa using hi) (by rw [b];exact f)
  rwa [b] at this
theorem zsn(f:Int×Int→Int)(d:Nat→Int): ∀ E:List (Int×Int),(∀ e∈E,e.1.toNat<m.rows.length∧tgE m e<m.rows.length)→
 ((List.range m.rows.length).map fun v=>d v*(E.map fun e=>f e*(dl e.1.toNat v-dl (tgE m e) v)).sum).sum=(E.map fun e=>f e*(d e.1.toNat-d (tgE m e))).sum
 | [],_=>by
  simp only [List.map_nil,List.sum_nil,Int.mul_zero];exact z2a _
 |e::E,h=>by
  have c:=h e (List.mem_cons_self ..)
  have j:=zsn f d E fun x b=>h x (List.mem_cons_of_mem _ b)
  have hone: ∀ {a:Nat},a<m.rows.length→((List.range m.rows.length).map fun v=>d v*dl a v).sum=d a:=fun {a} k=>by
   have:=z8h (f:=fun _=>(0:Int)) (g:=fun v=>d v*dl a v) (a:=a) (d:=d a) (l:=List.range m.rows.length) List.nodup_range (List.mem_range.2 k) (by rw [z2l];omega) (fun x _ b=>by rw [z2u fun h=>b h.symm,Int.mul_zero])
   rw [this,z2a];omega
  have n:((List.range m.rows.length).map fun v=>d v*(f e*(dl e.1.toNat v-dl (tgE m e) v))).sum=f e*(d e.1.toNat-d (tgE m e)):=by
   have o:=z4o (fun v=>d v*(dl e.1.toNat v-dl (tgE m e) v)) (fun v=>d v*dl (tgE m e) v) (List.range m.rows.length)
   rw [cz (f:=fun v=>d v*(dl e.1.toNat v-dl (tgE m e) v)+d v*dl (tgE m e) v) (g:=fun v=>d v*dl e.1.toNat v) (fun x _=>by rw [←Int.mul_add];congr 1;omega),hone c.1,hone c.2] at o
   rw [cz (g:=fun v=>f e*(d v*(dl e.1.toNat v-dl (tgE m e) v))) (fun x _=>by rw [Int.mul_left_comm]),zm3]
   congr 1;omega
  have i:=z4o (fun v=>d v*(f e*(dl e.1.toNat v-dl (tgE m e) v))) (fun v=>d v*(E.map fun e=>f e*(dl e.1.toNat v-dl (tgE m e) v)).sum) (List.range m.rows.length)
  rw [j,n] at i
  simp only [List.map_cons,List.sum_cons]
  rw [←i]
  exact cz fun v _=>by rw [Int.mul_add]
theorem zyp(d:MOk m): ∀ e∈qm m,e.1.toNat<m.rows.length∧tgE m e<m.rows.length:=fun e f=>by
 obtain⟨s,i,a,b,c,rfl⟩:=wh.1 f
 exact⟨a,((⟨a,b,c⟩:VE m s i).to d).1⟩
theorem zth(j:MOk m)(p: ∀ s i,VE m s i→0≤lf X s i)(l:Pot m X d)(q: ∀ v,v<m.rows.length→bq m (z2p m X) v=0){w:List Int}(n:WkV m 0 w 0)(hall: ∀ s i,VE m s i→0<ctN m 0 w s i):gm m (z2p m X)≤(w.length:Int):=by
 have r:=zn3 j n
 have u:=z4o (fun e=>lfE (z2p m X) e) (fun e=>ctE m 0 w e-lfE (z2p m X) e) (qm m)
 rw [cz (f:=fun e=>lfE (z2p m X) e+(ctE m 0 w e-lfE (z2p m X) e)) (g:=fun e=>ctE m 0 w e) (fun e _=>by omega),r] at u
 have x: ∀ v,v<m.rows.length→((qm m).map fun e=>(ctE m 0 w e-lfE (z2p m X) e)*(dl e.1.toNat v-dl (tgE m e) v)).sum=0:=fun v h=>by
  have y:=zms j v n
  have z:=q v h
  have A:=z4o (fun e=>(ctE m 0 w e-lfE (z2p m X) e)*(dl e.1.toNat v-dl (tgE m e) v)) (zaz m (z2p m X) v) (qm m)
  rw [cz (f:=fun e=>(ctE m 0 w e-lfE (z2p m X) e)*(dl e.1.toNat v-dl (tgE m e) v)+zaz m (z2p m X) v e) (g:=fun e=>ctE m 0 w e*(dl e.1.toNat v-dl (tgE m e) v)) (fun e _=>by unfold zaz;rw [←Int.add_mul];congr 1;omega),y] at A
  unfold bq at z
  omega
 have o:=zsn (fun e=>ctE m 0 w e-lfE (z2p m X) e) d (qm m) (zyp j)
 rw [cz (g:=fun _=>(0:Int)) (fun v h=>by rw [x v (List.mem_range.1 h),Int.mul_zero]),z2a] at o
 have B:=z4o (fun e=>ctE m 0 w e-lfE (z2p m X) e) (fun e=>(ctE m 0 w e-lfE (z2p m X) e)*(d e.1.toNat-d (tgE m e))) (qm m)
 rw [←o,Int.add_zero] at B
 have E:0≤((qm m).map fun e=>ctE m 0 w e-lfE (z2p m X) e+(ctE m 0 w e-lfE (z2p m X) e)*(d e.1.toNat-d (tgE m e))).sum:=z6y fun e C=>by
  obtain⟨s,i,a,b,c,rfl⟩:=wh.1 C
  have h:VE m s i:=⟨a,b,c⟩
  show 0≤ctN m 0 w s i-lf (z2p m X) s i+(ctN m 0 w s i-lf (z2p m X) s i)*(d s-d (ed m s i).toNat)
  rw [zjj h]
  have F:=l.f s i h
  have G:=p s i h
  have D:=hall s i h
  by_cases hx:0<lf X s i
  ·have:=l.t s i h hx
   rw [show d s-d (ed m s i).toNat= -1 by omega,Int.mul_neg,Int.mul_one];omega
  ·rw [show lf X s i=0 by omega]
   have k:=Int.mul_nonneg (a:=ctN m 0 w s i-(1+0)) (b:=d s-d (ed m s i).toNat+1) (by omega) (by omega)
   rw [Int.mul_add,Int.mul_one] at k
   omega
 show ((qm m).map fun e=>lfE (z2p m X) e).sum≤_
 omega
theorem zlk(d:CM38 m)(o:Ex1 m true)(j: ∀ s i,VE m s i→0≤lf X s i)(k: ∀ v,v<m.rows.length→bq m (z2p m X) v=0){f:Nat}(l:(2*gm m (z2p m X)).toNat+1<f):
 ∃ w,znc m f (z2p m X) [] [(-1,0)]=some w∧WkV m 0 w.reverse 0∧(∀ s i,VE m s i→ctN m 0 w.reverse s i=1+lf X s i)∧(w.length:Int)=gm m (z2p m X):=by
 have c:=d.ok
 have p:=c.r1
 have hpos: ∀ s i,VE m s i→0<lf (z2p m X) s i:=fun s i b=>by rw [zjj b];have:=j s i b;omega
 obtain⟨w,n,e,g⟩:=zoy (L0:=z2p m X) (e0:=0) (a:=0) c (by omega) zfb (fun s i b=>by have:=hpos s i b;omega) (fun v b=>by rw [k v b];omega) (fun s i b _=>zuo c hpos (d.conn s b.hs)) l
 have h:=zfl c e g
 rw [List.length_reverse] at h
 exact⟨w,n,e,fun s i b=>by rw [g s i b,zjj b],h⟩
theorem zz7(c:CM38 m)(k:Ex1 m true)(b: ∀ s i,VE m s i→0≤lf X s i)(l:Pot m X d)(e: ∀ v,v<m.rows.length→bq m (z2p m X) v=0){w:List Int}(n:z1j m true=some w):gm m (z2p m X)=(w.length:Int):=by
 have a:=c.ok
 obtain⟨o,⟨t,p,q⟩,r⟩:=z5p a n
 obtain⟨g,u,y⟩:=zra a o p q
 rw [y rfl] at g
 have D:=zth a b l e g u
 obtain⟨v,_,h,z,E⟩:=zlk c k b e (f:=(2*gm m (z2p m X)).toNat+2) (by omega)
 obtain⟨x,A,B⟩:=zh5 (round:=true) a h (fun s i j=>by rw [z s i j];have:=b s i j;omega) (fun _=>rfl)
 have C:=r _ x (zju a h) A B
 rw [List.length_reverse] at C
 omega
/-! ### Round's loop-/
def stp(p:Int×Nat):Sb:=⟨p.1,(p.2:Int)⟩
def zni(st:List (Int×Nat)):Nat:=st.countP fun p=>decide (p.1≠ -1)
theorem ze3(y:MOk m)(E:200≤N){Y:Sd}(G:Y.fE=m): ∀ (f:Nat) (L:List (List Int)) (out:List Int) (st:List (Int×Nat)) (F:Nat) (w:List Int),znc m f L out st=some w→Shp m L→zm8 m L→(∀ p∈st,p.2<m.rows.length)→(out.length:Int)+(zni st:Int)+gm m L≤Y.fJ→(st.length:Int)+gm m L≤1000000→f≤F→
 fo N Y F (gm m L) L out ((st.map stp).reverse)=some w
 |0,_,_,_,_,_,h,_,_,_,_,_,_=>by cases h
 |f+1,L,out,[],F,w,h,t,g,l,A,B,R=>by
  obtain⟨F,rfl⟩: ∃ F',F=F'+1:=⟨F-1,by omega⟩
  simp only [fo]
  rw [ym (by simp)]
  exact h
 |f+1,L,out,(q,s)::st,F,w,h,t,g,l,A,B,R=>by
  obtain⟨F,rfl⟩: ∃ F',F=F'+1:=⟨F-1,by omega⟩
  have H:=zce (L:=L) fun s i n=>(g s i n).1
  have I:s<m.rows.length:=l (q,s) (List.mem_cons_self ..)
  have hrev:(((q,s)::st).map stp).reverse=(st.map stp).reverse++[stp (q,s)]:=by rw [List.map_cons,List.reverse_cons]
  rw [List.length_cons] at B
  have hlen:((st.map stp).reverse++[stp (q,s)]).length=st.length+1:=by simp
  have htop:ix ((st.map stp).reverse++[stp (q,s)]) ((↑((st.map stp).reverse++[stp (q,s)]).length:Int)-1)=stp (q,s):=by
   rw [hlen,show ((↑(st.length+1):Int)-1)=((st.length:Nat):Int) by omega,ug,List.getD_eq_getElem?_getD,List.getElem?_append_right (by simp)];simp
  rw [hrev]
  simp only [fo]
  rw [bu (by rw [hlen];omega),zh (qo (by rw [hlen];omega)),zh ⟨by rw [hlen];omega,by rw [hlen];omega⟩,htop,G,show (stp (q,s)).fB=(s:Int) from rfl,show (stp (q,s)).fA=q from rfl,show z00 N (s:Int) m.inputs m.outputs m.rows L (gm m L)=some (s:Int) from rfl,z7l]
  unfold znc at h
  cases hfs:zee m L s with
  |some i=>
   rw [hfs] at h
   obtain⟨n,J,hbefore⟩:=zi1 I hfs
   have u:=zav t n
   obtain⟨S,K⟩:=n.to y
   obtain⟨z,v,d⟩:=zcr (s:=s) (k:=gm m L) y E t I (σ:=Ex Unit (Int×List (List Int)×List Sb×Bool)) (Ex.got (fun(o:Unit)=>(m.inputs,m.outputs,m.rows,L,gm m L))) (fun a M=>Ex.on M (fun C=>
    bd (gp N (s:Int) a.fA 1 m.inputs m.outputs m.rows L (gm m L)) fun c=>
    gd (fits 16 ((st.map stp).reverse++[stp (q,s)]) ([(⟨a.fA,a.fB⟩:Sb)]:List Sb))<|
    some (false,Ex.rt (c.2,c.1,(((st.map stp).reverse++[stp (q,s)])++([(⟨a.fA,a.fB⟩:Sb)]:List Sb)),true))) fun _=>none) (fun j z=>z=Ex.go ()∧j≤i) (fun z=>z=Ex.rt (gm m L-1,z7a L s i,((st.map stp).reverse++[stp (q,s)])++[⟨(i:Int),ed m s i⟩],true)) (s0:=Ex.go ()) ⟨rfl,Nat.zero_le _⟩ (fun j z h=>by rw [h.1];rfl) (by
     rintro j _ r T hlfj ⟨rfl,O⟩
     by_cases e:j=i
     ·subst e
      simp only [zb5]
      rw [qf (zpa t n g ⟨H,by omega⟩),zh (zb3 (by rw [hlen];omega))]
      exact⟨false,_,rfl,fun h=>(by cases h),fun _=>rfl⟩
     ·rcases hbefore j (by omega) with h|h<;>omega) (by
     rintro j _ r D ⟨rfl,O⟩
     refine⟨rfl,?_⟩
     by_cases e:j=i
     ·subst e
      rcases D with D|D
      ·exact absurd D n.he
      ·omega
     ·omega)
   rcases d with⟨_,d⟩|rfl
   ·have:=n.hi;omega
   ·refine Eq.trans (qf (x:=(gm m L-1,z7a L s i,((st.map stp).reverse++[stp (q,s)])++[⟨(i:Int),ed m s i⟩],true)) ?_) ?_
    ·refine Eq.trans (qf v) ?_
     rw [zne]
    ·rw [cf (b:= !true) rfl]
     have ih:=ze3 y E G f (z7a L s i) out (((i:Int),(ed m s i).toNat)::(q,s)::st) F w h (z8i t n) (zb7 t g n J) (fun p g=>by
      rcases List.mem_cons.1 g with rfl|g
      ·exact S
      ·exact l p g) (by
      have:zni (((i:Int),(ed m s i).toNat)::(q,s)::st)=zni ((q,s)::st)+1:=by
       unfold zni;rw [List.countP_cons,if_pos (decide_eq_true (show (i:Int)≠ -1 by omega))]
      rw [this,u];omega) (by rw [List.length_cons,List.length_cons,u];omega) (by omega)
     rw [u,List.map_cons,List.reverse_cons,hrev,show stp ((i:Int),(ed m s i).toNat)=⟨(i:Int),ed m s i⟩ from by unfold stp;rw [←K]] at ih
     exact ih
  |none=>
   rw [hfs] at h
   have P:=zk1 hfs
   obtain⟨z,v,d⟩:=zcr (s:=s) (k:=gm m L) y E t I (σ:=Ex Unit (Int×List (List Int)×List Sb×Bool)) (Ex.got (fun(o:Unit)=>(m.inputs,m.outputs,m.rows,L,gm m L))) (fun a M=>Ex.on M (fun C=>
    bd (gp N (s:Int) a.fA 1 m.inputs m.outputs m.rows L (gm m L)) fun c=>
    gd (fits 16 ((st.map stp).reverse++[stp (q,s)]) ([(⟨a.fA,a.fB⟩:Sb)]:List Sb))<|
    some (false,Ex.rt (c.2,c.1,(((st.map stp).reverse++[stp (q,s)])++([(⟨a.fA,a.fB⟩:Sb)]:List Sb)),true))) fun _=>none) (fun j z=>z=Ex.go ()) (fun z=>False) (s0:=Ex.go ()) rfl (fun j z h=>by rw [h];rfl) (by
     rintro j _ r T hlfj rfl
     rcases P j r with h|h<;>omega) (by
     rintro j _ r D rfl;rfl)
   rcases d with rfl|d
   ·refine Eq.trans (qf (x:=(gm m L,L,(st.map stp).reverse++[stp (q,s)],false)) ?_) ?_
    ·refine Eq.trans (qf v) ?_
     rw [zb5]
    ·rw [ct (b:= !false) rfl]
     have hcut:cut ((st.map stp).reverse++[stp (q,s)]) 0 ((↑((st.map stp).reverse++[stp (q,s)]).length:Int)-1)=(st.map stp).reverse:=zim _ _
     have Q:zni ((q,s)::st)=zni st+if q= -1 then 0 else 1:=by
      unfold zni;rw [List.countP_cons]
      by_cases e:q= -1
      ·rw [if_pos e,if_neg (by simpa using e)]
      ·rw [if_neg e,if_pos (by simpa using e)]
     rw [Q] at A
     have ih:=ze3 y E G f L (if q= -1 then out else out++[q]) st F w h t g (fun p g=>l p (List.mem_cons_of_mem _ g)) (by
      by_cases e:q= -1
      ·rw [if_pos e] at A⊢;omega
      ·rw [if_neg e] at A⊢;rw [List.length_append,List.length_singleton];omega) (by omega) (by omega)
     refine Eq.trans (qf (x:=if q= -1 then out else out++[q]) ?_) ?_
     ·by_cases e:q= -1
      ·rw [ym (fun h=>h e),if_pos e]
      ·rw [bu e,zh (by rw [if_neg e] at A;rw [List.length_singleton];omega),if_neg e]
     ·dsimp only
      rw [zh (qo (by rw [hlen];omega)),zh ⟨by omega,by rw [hlen];omega,by omega⟩,hcut]
      exact ih
   ·exact d.elim
/-! ### The program's-/
theorem zgn(a:CM38 m)(k:80000≤N){w:List Int}(b:z1j m true=some w): ∃ X d,z03 N m=some ⟨m,z2p m X,(w.length:Int)⟩∧(∀ s i,VE m s i→0≤lf X s i∧lf X s i≤900000000)∧Pot m X d∧(∀ v,v<m.rows.length→bq m (z2p m X) v=0)∧gm m (z2p m X)=(w.length:Int):=by
 have c:Ex1 m true:=(z5d a).1 (by rw [b];rfl)
 obtain⟨X,d,e,f,g,h⟩:=zpu (N:=N) a.ok k (strong a c)
 have j:=zz7 a c (fun s i l=>(f s i l).1) g h b
 rw [j] at e
 exact⟨X,d,e,f,g,h,j⟩
theorem zkv(a:CM38 m)(c:80000≤N):z2z N m=some (match z1j m true with|some w=>((w.length:Int),0)|none=>(0,7)):=by
 have f:=a.ok
 unfold z2z
 rw [qf (a.check0 (by omega)),ym (by decide),qf (zah f (by omega))]
 cases e:z1j m true with
 |none=>
  rw [zsa (fun h=>by have:=(z5d a).2 h;rw [e] at this;cases this),ct (b:= !false) rfl]
 |some w=>
  obtain⟨X,d,g,_⟩:=zgn a c e
  rw [zoh ((z5d a).1 (by rw [e];rfl)),cf (b:= !true) rfl,qf g]
theorem znq(g:CM38 m)(q:80000≤N){w:List Int}(e:z1j m true=some w)(C:w.length≤256): ∃ v,z2d N m=some (v,0)∧v.length=w.length∧IsT m v true:=by
 have c:=g.ok
 have h:=c.r1
 have l:Ex1 m true:=(z5d g).1 (by rw [e];rfl)
 obtain⟨X,d,r,j,D,t,k⟩:=zgn g q e
 obtain⟨v,u,n,y,E⟩:=zlk g l (fun s i a=>(j s i a).1) t (f:=600) (by omega)
 refine⟨v.reverse,?_,by rw [List.length_reverse];omega,?_⟩
 ·have o:=ze3 (N:=N) c (by omega) (Y:=⟨m,z2p m X,(w.length:Int)⟩) rfl 600 (z2p m X) [] [(-1,0)] N v u zfb (fun s i a=>by rw [zjj a];have:=j s i a;omega) (fun p z=>by obtain rfl:=List.mem_singleton.1 z;exact h) (by rw [k];simp [zni]) (by rw [k];simp;omega) (by omega)
  rw [k] at o
  unfold z2d
  rw [qf (g.check0 (by omega)),ym (by decide),qf (zah c (by omega)),zoh l,cf (b:= !true) rfl,qf r]
  dsimp only
  rw [ym (by omega),zh ⟨⟨by omega,by omega,by omega⟩,by omega,by omega⟩,show mk 0 (0:Int)=[] from rfl,show ([(⟨(-1),0⟩:Sb)]:List Sb)=(([((-1:Int),(0:Nat))]:List (Int×Nat)).map stp).reverse from rfl,qf o,qf (zjd (by omega) (by omega)),zh (by rw [List.length_reverse];omega)]
 ·obtain⟨x,A,B⟩:=zh5 (round:=true) c n (fun s i a=>by rw [y s i a];have:=j s i a;omega) (fun _=>rfl)
  exact(zoa c).2 ⟨by rw [List.length_reverse];omega,zju c n,x,A,B⟩
theorem zna(a:CM38 m)(c:2000≤N)(e:z1j m true=none):z2d N m=some ([],7):=by
 unfold z2d
 rw [qf (a.check0 (by omega)),ym (by decide),qf (zah a.ok (by omega)),zsa (fun h=>by have:=(z5d a).2 h;rw [e] at this;cases this),ct (b:= !false) rfl]
end
end GV
end Go.Proofs.Ytdhccodneoebpaa

namespace Go.Proofs.Ytdhccodneoebpaa
namespace GV
set_option maxRecDepth 100000
theorem zqz{x:Sg}(d:DDOk x):oz 1000000 x=some true:=by
 unfold oz
 obtain⟨m,f,a,g,h⟩:=q0s (N:=1000000) d (by decide)
 have c:=a.ok
 obtain⟨l,n,o⟩:=zzi a g h
 rw [qf f,z7j,qf (zkv a (by omega))]
 cases e:z1j m true with
 |none=>
  rw [qf (zna a (by omega) e),qf (znx c (by omega) (by omega)),e]
  dsimp only [Option.getD_none,Option.isSome_none]
  rw [ct (b:= !false) rfl,z7z (fun _=>zer)];rfl
 |some w=>
  have p:=zd6 a e
  obtain⟨v,i,j,k⟩:=znq (N:=1000000) a (by omega) e (by omega)
  rw [qf i,qf (znx c (by omega) (by omega)),e]
  dsimp only [Option.getD_some,Option.isSome_some]
  rw [cf (b:= !true) rfl,z7z (x:=true) (fun _=>by rw [zdw c (by decide) (by omega) (by omega),zlz k]),z7z (fun _=>zer)]
  simp [j]
section
variable {m : Mach}
theorem zy2(z:CM38 m){w:List Int}(A:z1j m true=some w):(qm m).length≤w.length∧(w.length=(qm m).length↔(exW m true).isSome=true):=by
 have d:=z.ok
 obtain⟨B,⟨t,C,D⟩,E⟩:=z5p d A
 obtain⟨o,p,F⟩:=zra d B C D
 rw [F rfl] at o
 have G:=zn3 d o
 have hone:((qm m).map fun _=>(1:Int)).sum=((qm m).length:Int):=by
  rw [←z2n]
  exact cz fun e k=>by
   obtain⟨x,j,a,b,c,rfl⟩:=wh.1 k
   exact(zbl ⟨a,b,c⟩).symm
 have H:((qm m).map fun _=>(1:Int)).sum≤((qm m).map fun e=>ctE m 0 w e).sum:=zmi fun e k=>by
  obtain⟨x,j,a,b,c,rfl⟩:=wh.1 k
  have:=p x j ⟨a,b,c⟩
  show 1≤ctN m 0 w x j
  omega
 have q:(qm m).length≤w.length:=by omega
 refine⟨q,?_⟩
 rw [zjz d]
 constructor
 ·intro I
  refine⟨w,0,o,fun s i h=>?_,fun _=>rfl⟩
  rw [zbl h]
  have u:=z4o (fun _=>(1:Int)) (fun e=>ctE m 0 w e-1) (qm m)
  rw [cz (f:=fun e=>1+(ctE m 0 w e-1)) (g:=fun e=>ctE m 0 w e) (fun e _=>by omega),G,hone,I] at u
  refine Classical.byContradiction fun J=>?_
  have n:=zdc (f:=fun e=>ctE m 0 w e-1) (l:=qm m) (fun e k=>by
   obtain⟨x,j,a,b,c,rfl⟩:=wh.1 k
   have:=p x j ⟨a,b,c⟩
   show 0≤ctN m 0 w x j-1
   omega) ⟨_,z6j h,by
   have:=p s i h
   show 0<ctN m 0 w s i-1
   omega⟩
  omega
 ·rintro⟨v,e,r,y,K⟩
  obtain rfl:=K rfl
  obtain⟨x,L,M⟩:=zh5 (round:=true) d r (fun s i h=>by rw [y s i h,zbl h];decide) (fun _=>rfl)
  have u:=E v x (zju d r) L M
  have n:=zfl d r y
  rw [z2n] at n
  omega
theorem zyj(e:CM38 m)(a:m.rows.length≤6)(f:m.inputs≤3):(qm m).length≤18∧((qm m).length+m.rows.length)*m.rows.length+m.rows.length≤256∧((qm m).length≤16→z6x m≤393216):=by
 have g:=z7c (m:=m) m.rows.length
 have h:m.rows.length*m.inputs.toNat≤6*3:=Nat.mul_le_mul a (by omega)
 have c:(qm m).length≤18:=by unfold qm;omega
 have i:((qm m).length+m.rows.length)*m.rows.length≤24*6:=Nat.mul_le_mul (by omega) a
 refine⟨c,by omega,fun b=>?_⟩
 have d:2^(qm m).length≤2^16:=Nat.pow_le_pow_right (by decide) b
 have j:z6x m≤6*2^16:=Nat.mul_le_mul a d
 omega
theorem zty(g:CM38 m){w:List Int}(h:z1j m true=some w): ∃ v,z1j m false=some v∧v.length≤w.length:=by
 have a:=g.ok
 obtain⟨c,⟨t,d,b⟩,_⟩:=z5p a h
 have f:z1l m false t=true:=by
  unfold z1l at b⊢
  rw [Bool.and_eq_true] at b
  rw [b.1];rfl
 cases e:z1j m false with
 |none=>have:=zj9 a e w t c d;rw [f] at this;cases this
 |some v=>exact⟨v,rfl,(z5p a e).2.2 w t c d f⟩
theorem zxr(a:CM38 m){round:Bool}{N:Nat}(g:2000≤N)(d:Ex1 m round)(f:16<(qm m).length):z14 N m round=some ([],3):=by
 have c:=a.ok
 unfold z14
 rw [qf (a.check0 (by omega)),ym (fun e=>e rfl),qf (zah c (by omega)),zoh d,cf (b:= !true) rfl,qf (zil c (by omega)),bu (by omega)]
end
theorem zu0{x:MDat}(i:MDOk x):ax 1000000 x=some true:=by
 have b:=q1b i
 have c:=q43 i
 obtain⟨a,q,r⟩:=zwo b
 unfold ax
 rw [qf (q29 i (by decide)),qf (zl1 b (by decide) c.1 c.2),z7j]
 generalize zgw (mOf x)=m at*
 have d:=a.ok
 obtain⟨E,o,s⟩:=zyj a (by omega) (by omega)
 have g:=zve a
 rw [qf (zhv d (by decide)),qf (zu6 d (by decide)),qf (zkv a (by decide))]
 cases e:z1j m true with
 |none=>
  rw [e] at g
  have f:=of_decide_eq_false g.symm
  rw [qf (zna a (by omega) e),qf (zpo a (by omega) (by omega))]
  have j:exW m true=none:=by
   cases h:exW m true with
   |none=>rfl
   |some v=>exact absurd ((zue a).1 ((zjz d).1 (by rw [h];rfl))).2 f
  unfold exE
  rw [j,ct (by rw [decide_eq_false (show¬((knotsL m).length:Int)=1 by omega)];rfl),z7z (fun _=>zer)];rfl
 |some w=>
  rw [e] at g
  have f:=of_decide_eq_true g.symm
  have F:=zd6 a e
  obtain⟨v,t,y,z⟩:=znq (N:=1000000) a (by omega) e (by omega)
  obtain⟨G,A⟩:=zy2 a e
  have B:Ex1 m true:=(z5d a).1 (by rw [e];rfl)
  obtain⟨u,k,H⟩:=zty a e
  have l:Ex1 m false:=(z5d a).1 (by rw [k];rfl)
  rw [qf t,qf (zpo a (by omega) (by omega)),cf (by rw [decide_eq_true (show ((knotsL m).length:Int)=1 by omega)];rfl)]
  have C:decide ((exE m true).2=0)=(exW m true).isSome:=by
   unfold exE;cases exW m true<;>rfl
  have n:decide ((w.length:Int)=((qm m).length:Int))=(exW m true).isSome:=by
   rw [Bool.eq_iff_iff,decide_eq_true_iff,←A];omega
  dsimp only
  rw [z7z (x:=true) (fun _=>by rw [zdw d (by decide) (by omega) (by omega),zlz z])]
  rw [cf (by
   rw [C,n,y,decide_eq_false (show¬((w.length:Int)<((qm m).length:Int)) by omega)];simp)]
  by_cases h16:16<(qm m).length
  ·rw [qf (zxr a (by decide) l h16),bu (by omega),z7z (fun _=>zer)];rfl
  ·have:=s (by omega)
   rw [qf (zzr a (by omega) (by omega) o),ym (by omega)]
   have p:=zwy a o k
   have D:=p.len
   unfold zrf
   rw [k]
   dsimp only
   rw [z7z (x:=true) (fun _=>by rw [zdw d (by decide) (by omega) (by omega),zlz p]),z7z (fun _=>zer),decide_eq_true (show (u.length:Int)≤(w.length:Int) by omega)];rfl
end GV
end Go.Proofs.Ytdhccodneoebpaa

namespace Go.Proofs.Ytdhccodneoebpaa
namespace GV
theorem zpt{x:Sg}(a:q1i x):oz 1000000 x=some true:=zqz (zz1 a)
theorem zql{x:MDat}(a:q1u x):ax 1000000 x=some true:=zu0 (zzh a)
end GV
end Go.Proofs.Ytdhccodneoebpaa
