
import Derived.Test.YtjmlpkkbmnjhcaaPlain04
import Derived.Test.YtjmlpkkbmnjhcaaShPl
import Derived.Test.YtjmlpkkbmnjhcaaBfs06
set_option linter.unusedVariables false
set_option linter.unusedSimpArgs false
set_option linter.unusedSectionVars false
namespace Go.Proofs.Ytjmlpkkbmnjhcaa
namespace GV
set_option maxRecDepth 100000
theorem zv4{N:Nat}{s:List Edge}{f:Edge→Option Bool}{p:Edge→Bool}(b: ∀ k,k<s.length→f (s.getD k default)=some (p (s.getD k default)))(c:s.length<N)(d:s.length≤4611686018427387904):
 ic N s f=some (zio p s):=by
 have h:uy N s f N 0=some (if s.any p=true then Ex.rt (zio p s) else Ex.go ()):=by
  refine z6w (σ:=Unit) (fun F k _=>uy N s f F (k:Int)) s.length (fun k _=>(s.take k).any p=false) _ (fun F k _ a hi=>?_) (fun F _ hi=>?_) N 0 () (Nat.zero_le _) (by omega) (by simp)
  ·simp only [uy]
   rw [eu (by omega),zn (ib a),z2j,qg (b k a)]
   cases hp:p (s.getD k default)
   ·right
    refine⟨(),by rw [zid p s k a,hi,hp];rfl,?_⟩
    rw [cf rfl,zn (ui (by omega))];rfl
   ·left
    rw [ct rfl,if_pos (List.any_eq_true.2 ⟨_,z3x a,hp⟩),zl4 p s k a hi hp]
  ·simp only [uy]
   rw [cu (by omega),if_neg (by rw [List.take_length] at hi;rw [hi];decide)]
 unfold ic
 rw [qg h]
 by_cases ha:s.any p=true
 ·rw [if_pos ha];rfl
 ·rw [if_neg ha,zod p s (by simpa using ha)];rfl
theorem zoy{N:Nat}{s:List Edge}{f:Edge→Option Bool}{p:Edge→Bool}(a: ∀ k,k<s.length→f (s.getD k default)=some (p (s.getD k default)))(b:s.length<N)(c:s.length≤4611686018427387904):
 tq N s f=some (s.any p):=by
 unfold tq
 rw [qg (zv4 a b c),zrv]
theorem zqv{N:Nat}{m:Mach}(b:Small m)(f:200≤N):z0z N m=some (z3p m):=by
 unfold z0z
 by_cases h:(16<m.inputs∨16<m.outputs)∨64<m.rows.length
 ·rw [ct (by simp;omega),zp6 h]
 ·rw [cf (by simp;omega)]
  by_cases h1:(m.inputs<1∨m.outputs<1)∨m.rows.length<1
  ·rw [ct (by simp;omega),zqi h h1]
  ·rw [cf (by simp;omega)]
   have g:=b.r
   have d:oo N m N 0=some (if m.rows.any (z4z m)=true then Ex.rt 1 else Ex.go ()):=by
    refine z6w (σ:=Unit) (fun F k _=>oo N m F (k:Int)) m.rows.length (fun k _=>(m.rows.take k).any (z4z m)=false) _ (fun F k _ a hi=>?_) (fun F _ hi=>?_) N 0 () (Nat.zero_le _) (by omega) (by simp)
    ·simp only [oo]
     have i:=b.c k a
     rw [eu (by omega),zn (ib a),z2j,zv8 (fun _=>zoy (p:=fun x=> !zjx m x) (fun j l=>rfl) (by omega) (by omega))]
     have e:(decide (((m.rows.getD k default).length:Int)≠m.inputs)||((bif (true&&(decide (((m.rows.getD k default).length:Int)≠m.inputs)==false)) then some ((m.rows.getD k default).any fun x=> !zjx m x) else none).getD default))=z4z m (m.rows.getD k default):=by
      unfold z4z
      cases decide (((m.rows.getD k default).length:Int)≠m.inputs)<;>rfl
     rw [e]
     cases hr:z4z m (m.rows.getD k default)
     ·right
      refine⟨(),by rw [zid _ _ k a,hi,hr];rfl,?_⟩
      rw [cf rfl,zn (ui (by omega))];rfl
     ·left
      rw [ct rfl,if_pos (List.any_eq_true.2 ⟨_,z3x a,hr⟩)]
    ·simp only [oo]
     rw [cu (by omega),if_neg (by rw [List.take_length] at hi;rw [hi];decide)]
   rw [qg d]
   by_cases ha:m.rows.any (z4z m)=true
   ·rw [if_pos ha];unfold z3p;rw [if_neg h,if_neg h1,if_pos ha];rfl
   ·rw [if_neg ha,zrn h h1 (by simpa using ha)];rfl
/-! ### Words-/
theorem zsj{N:Nat}{m:Mach}(a:MOk m){s i:Int}(b:SOk m s)(hi:0≤i∧i<m.inputs):z09 N m s i=some (z4w m s i):=by
 unfold z09 z4w
 rcases b with h|h
 ·rw [h];rfl
 ·have hrow:=a.row s.toNat (by omega)
  rw [cu (by omega),if_neg (by omega),zn h,zn (show okI (ix m.rows s) i from⟨hi.1,by rw [zlf,hrow];exact hi.2⟩)];rfl
theorem zmx{N:Nat}{m:Mach}(a:MOk m): ∀ (F:Nat) (s:Int) (w:List Int),SOk m s→WOk m.inputs w→w.length<F→p9 N F m s w=some (z1a m s w)
 |0,s,w,_,_,h=>by omega
 |F+1,s,[],b,_,_=>rfl
 |F+1,s,i::w,b,c,h=>by
  have hi:0≤i∧i<m.inputs:=by simpa using c 0 (by simp)
  simp only [p9]
  rw [cu (by simp;omega),zn (show okI (i::w) 0 from ib (k:=0) (by simp))]
  refine Eq.trans (qg (zsj a b (show 0≤i∧i<m.inputs from hi))) ?_
  rw [zn ⟨by omega,by simp;omega,by simp⟩]
  have d:cut (i::w) 1 (((i::w).length:Nat):Int)=w:=by simp [cut]
  rw [d]
  refine Eq.trans (qg (zmx (N:=N) a F _ w (zjb m a s i b hi).1 (fun k e=>by simpa using c (k+1) (by simpa using e)) (by simpa using h))) ?_
  rfl
/-! ### Data-/
end GV
end Go.Proofs.Ytjmlpkkbmnjhcaa

namespace Go.Proofs.Ytjmlpkkbmnjhcaa
namespace GV
set_option maxRecDepth 100000
theorem zhh{m:Mach}{k i:Nat}(hi:i<m.inputs.toNat):z8t m (k*m.inputs.toNat+i)=(m.rows.getD k default).getD i default:=by
 unfold z8t;rw [zgc hi,zgj hi]
theorem zky{N:Nat}{m:Mach}(a:MOk m)(j:200≤N){σ:Type}(B:((Int×Int)×Edge)→σ→Option (Bool×σ))(f:Nat→σ)
 (d: ∀ k i,k<m.rows.length→i<m.inputs.toNat→B (((k:Int),(i:Int)),(m.rows.getD k default).getD i default) (f (k*m.inputs.toNat+i))=some (true,f (k*m.inputs.toNat+i+1))):
 z0w N m σ B (f 0)=some (f (m.rows.length*m.inputs.toNat)):=by
 have l:=a.r2;have e:=a.i1;have g:=a.i2
 unfold z0w
 refine z6w (fun F k s=>o8 N σ B m F s (k:Int)) m.rows.length (fun k s=>s=f (k*m.inputs.toNat)) _ (fun F k s b hi=> .inr ?_) (fun F s hi=>?_) N 0 (f 0) (Nat.zero_le _) (by omega) (by simp)
 ·subst hi
  refine⟨f ((k+1)*m.inputs.toNat),rfl,?_⟩
  have hlen:((ix m.rows (k:Int)).length:Int)=m.inputs:=a.row k b
  have h:nu N σ B m (k:Int) N (f (k*m.inputs.toNat)) 0=some (Ex.go (f ((k+1)*m.inputs.toNat))):=by
   refine z6w (fun F i s=>nu N σ B m (k:Int) F s (i:Int)) m.inputs.toNat (fun i s=>s=f (k*m.inputs.toNat+i)) _ (fun F i s hi c=> .inr ?_) (fun F s c=>?_) N 0 _ (Nat.zero_le _) (by omega) (by simp)
   ·subst c
    refine⟨_,rfl,?_⟩
    simp only [nu]
    rw [eu (by omega),zn (ib (by omega))]
    refine Eq.trans (qg (d k i b hi)) ?_
    refine Eq.trans (cf rfl) ?_
    rw [zn (ui (by omega))];rfl
   ·subst c
    simp only [nu]
    rw [cu (by omega),Nat.succ_mul]
  simp only [o8]
  rw [eu (by omega),zn (ib b),qg h,zau,zn (ui (by omega))];rfl
 ·subst hi
  simp only [o8]
  rw [cu (by omega)]
theorem zpn{N:Nat}{m:Mach}(d:MOk m)(e:200≤N):z0f N m=some (zh8 m):=by
 unfold z0f
 rw [show z3v N m=some m from rfl,z3y]
 have hmul:=d.mul.1
 have h:=zky d e (fun(a:(Int×Int)×Edge) (b:List (Int×Int))=>
  bd (z0n N) fun c=>
  bif decide (a.2.to=c.to∧a.2.out=c.out) then(
  gd (fits 16 b ([((a.1.1,a.1.2):(Int×Int))]:List (Int×Int)))<|
  some (true,(b++([((a.1.1,a.1.2):(Int×Int))]:List (Int×Int))))) else(
  some (true,b))) (z8l m) (fun k i f hi=>by
   have g:=zqh f hi
   have j:=zng m (k*m.inputs.toNat+i)
   rw [show z0n N=some ⟨-1,-1⟩ from rfl,z3y,ziw,zhh hi,zgc hi,zgj hi]
   by_cases he:((m.rows.getD k default).getD i default).to= -1∧((m.rows.getD k default).getD i default).out= -1
   ·rw [eu he,if_pos he,zn ⟨by simp;omega,by simp;omega⟩]
   ·rw [cu he,if_neg he,List.append_nil])
 rw [zjy] at h
 rw [qg h]
 unfold z18
 rw [zn (zm9 _),z3y,zm6];rfl
theorem zi9{N:Nat}{m:Mach}(b:Small m)(a:200≤N):z0l N m=some (zl0 m,z3p m):=by
 unfold z0l zl0
 rw [qg (zqv b a)]
 by_cases h:z3p m≠0
 ·rw [eu h,if_pos h]
 ·rw [cu h,if_neg h]
  have c:MOk m:=(zb2 m).1 (by simpa using h)
  rw [qg (zpn c a),show z3p m=0 by simpa using h]
end GV
end Go.Proofs.Ytjmlpkkbmnjhcaa

namespace Go.Proofs.Ytjmlpkkbmnjhcaa
namespace GV
set_option maxRecDepth 100000
end GV
end Go.Proofs.Ytjmlpkkbmnjhcaa

namespace Go.Proofs.Ytjmlpkkbmnjhcaa
namespace GV
set_option maxRecDepth 100000
def wdOf(P:List BE)(t:Nat):List Int:=((P.find? fun e=>decide (e.st=t)).map (·.wd)).getD []
theorem zor(P:List BE)(e:BE)(t:Nat):wdOf (P++[e]) t=if occ P t=true then wdOf P t else if e.st=t then e.wd else []:=by
 unfold wdOf occ
 rw [List.find?_append]
 by_cases h:(P.any fun e=>decide (e.st=t))=true
 ·rw [if_pos h]
  obtain⟨x,a,b⟩:=List.any_eq_true.1 h
  cases hf:P.find? (fun e=>decide (e.st=t)) with
  |none=>exact absurd b (by simpa using List.find?_eq_none.1 hf x a)
  |some y=>rfl
 ·rw [if_neg h]
  have c:P.find? (fun e=>decide (e.st=t))=none:=List.find?_eq_none.2 fun x a b=>h (List.any_eq_true.2 ⟨x,a,b⟩)
  rw [c]
  by_cases he:e.st=t
  ·simp [he]
  ·simp [he]
theorem zkz(P:List BE)(k:Nat)(h:k<P.length):P.take (k+1)=P.take k++[P.getD k default]:=by
 rw [List.take_add_one];simp [List.getD_eq_getElem?_getD,h]
section rch
variable {m : Mach} {s0 : Nat} {P : List BE}
theorem Rch.find(h:Rch m s0 P){j:Nat}: ∀ k,k≤P.length→j<k→wdOf (P.take k) (P.getD j default).st=(P.getD j default).wd
 |0,_,c=>by omega
 |k+1,f,c=>by
  rw [zkz P k (by omega),zor]
  by_cases e:j=k
  ·subst e
   have a:occ (P.take j) (P.getD j default).st=false:=by
    cases hc:occ (P.take j) (P.getD j default).st with
    |false=>rfl
    |true=>
     obtain⟨i,hi,b⟩:=zbu.1 hc
     rw [List.length_take] at hi
     have d:(P.take j).getD i default=P.getD i default:=by simp only [List.getD_eq_getElem?_getD,List.getElem?_take,if_pos (show i<j by omega)]
     rw [d] at b
     have:=h.dis i j (by omega) (by omega) b
     omega
   rw [a,if_neg (by decide),if_pos rfl]
  ·have ih:=Rch.find h k (by omega) (show j<k by omega)
   have a:occ (P.take k) (P.getD j default).st=true:=zbu.2 ⟨j,by rw [List.length_take];omega,by simp only [List.getD_eq_getElem?_getD,List.getElem?_take,if_pos (show j<k by omega)]⟩
   rw [if_pos a,ih]
theorem Rch.fresh(h:Rch m s0 P){k:Nat}(b:k<P.length):occ (P.take k) (P.getD k default).st=false:=by
 cases hc:occ (P.take k) (P.getD k default).st with
 |false=>rfl
 |true=>
  obtain⟨i,hi,a⟩:=zbu.1 hc
  rw [List.length_take] at hi
  have c:(P.take k).getD i default=P.getD i default:=by simp only [List.getD_eq_getElem?_getD,List.getElem?_take,if_pos (show i<k by omega)]
  rw [c] at a
  have:=h.dis i k (by omega) b a
  omega
theorem Rch.wdOf(h:Rch m s0 P){j:Nat}(a:j<P.length):wdOf P (P.getD j default).st=(P.getD j default).wd:=by
 have:=h.find P.length (Nat.le_refl _) a
 rwa [List.take_length] at this
end rch
theorem zaj{N:Nat}{s:List Int}:tu N s=some s:=by
 unfold tu
 rw [zn (zm9 s),zm6]
end GV
end Go.Proofs.Ytjmlpkkbmnjhcaa

namespace Go.Proofs.Ytjmlpkkbmnjhcaa
namespace GV
set_option maxRecDepth 100000
end GV
end Go.Proofs.Ytjmlpkkbmnjhcaa

namespace Go.Proofs.Ytjmlpkkbmnjhcaa
namespace GV
set_option maxRecDepth 100000
end GV
end Go.Proofs.Ytjmlpkkbmnjhcaa

namespace Go.Proofs.Ytjmlpkkbmnjhcaa
namespace GV
set_option maxRecDepth 100000
structure CDOk (x:Sg):Prop where
 st:0≤x.fM∧x.fM≤255
 ins:0≤x.fO∧x.fO≤255
 outs:0≤x.fK∧x.fK≤255
 tr: ∀ k,k<x.fP.length→0≤x.fP.getD k default∧x.fP.getD k default≤255
 ed: ∀ k,k<x.fJ.length→0≤x.fJ.getD k default∧x.fJ.getD k default≤65535
structure CMach (m:Mach):Prop where
 ok:MOk m
 rows:m.rows.length≤6
 ins:m.inputs≤3
 outs:m.outputs≤3
 full: ∀ s i,s<m.rows.length→i<(m.rows.getD s default).length→0≤((m.rows.getD s default).getD i default).to
 tree: ∀ t,0<t→t<m.rows.length→ ∃ a i,a<t∧i<(m.rows.getD a default).length∧((m.rows.getD a default).getD i default).to=(t:Int)
def cel(X:List (List Edge))(a i:Nat):Edge:=(X.getD a default).getD i default
structure CSh (n I:Nat) (O:Int) (X:List (List Edge)):Prop where
 len:X.length=n
 row: ∀ a,a<n→(X.getD a default).length=I
 out: ∀ a i,a<n→i<I→0≤(cel X a i).out∧(cel X a i).out<O
section cof
variable {N : Nat} {x : Sg} {n I : Nat} {O : Int}
structure CTree (n I:Nat) (O:Int) (s:Nat) (X:List (List Edge)):Prop where
 sh:CSh n I O X
 rng: ∀ a i,a<n→i<I→(cel X a i).to= -1∨(0≤(cel X a i).to∧(cel X a i).to<n)
 late: ∀ a i,s≤a+1→a<n→i<I→(cel X a i).to= -1
 tree: ∀ t,0<t→t<s→ ∃ a i,a<t∧i<I∧(cel X a i).to=(t:Int)
structure CFill (n I:Nat) (O:Int) (s k:Nat) (X:List (List Edge)):Prop where
 sh:CSh n I O X
 rng: ∀ a i,a<n→i<I→(cel X a i).to= -1∨(0≤(cel X a i).to∧(cel X a i).to<n)
 done: ∀ a i,a<n→i<I→(a<s∨(a=s∧i<k))→0≤(cel X a i).to
 tree: ∀ t,0<t→t<n→ ∃ a i,a<t∧i<I∧(cel X a i).to=(t:Int)
end cof
theorem CMach.all{m:Mach}(h:CMach m): ∀ t,t<m.rows.length→ ∃ j,j<(rch m 0).length∧((rch m 0).getD j default).st=t:=by
 have c:=h.ok
 have b:=zpw c (s0:=0) (by have:=c.r1;omega)
 generalize rch m 0=P at b⊢
 intro t
 induction t using Nat.strongRecOn with
 |ind t ih=>
  intro f
  by_cases h0:t=0
  ·subst h0;exact⟨0,b.pos,by rw [b.root]⟩
  ·obtain⟨a,i,g,hi,d⟩:=h.tree t (by omega) f
   obtain⟨q,k,e⟩:=ih a g (by omega)
   have hrow:=c.row a (by omega)
   have l:ed m (P.getD q default).st i=(t:Int):=by rw [e];exact d
   obtain⟨j,n,o,_⟩:=b.cls q i k (by omega) (by rw [l];omega)
   exact⟨j,n,by omega⟩
theorem CMach.len{m:Mach}(h:CMach m):(rch m 0).length=m.rows.length:=by
 have b:=h.ok
 have c:=zpw b (s0:=0) (by have:=b.r1;omega)
 have hall:=h.all
 generalize rch m 0=P at c hall⊢
 have f:=c.le
 have hsub:List.range m.rows.length⊆P.map (·.st):=by
  intro t d
  rw [List.mem_range] at d
  obtain⟨j,e,a⟩:=hall t d
  exact List.mem_map.2 ⟨_,z3x e,a⟩
 have:=List.Nodup.length_le_of_subset List.nodup_range hsub
 rw [List.length_range,List.length_map] at this
 omega
end GV
end Go.Proofs.Ytjmlpkkbmnjhcaa
