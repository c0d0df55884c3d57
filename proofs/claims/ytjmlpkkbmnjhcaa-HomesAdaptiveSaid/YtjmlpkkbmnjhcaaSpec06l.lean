
import Derived.Test.YtjmlpkkbmnjhcaaPlain04
import Derived.Test.YtjmlpkkbmnjhcaaShPl
import Derived.Test.YtjmlpkkbmnjhcaaBfs06
set_option linter.unusedVariables false
set_option linter.unusedSimpArgs false
set_option linter.unusedSectionVars false
namespace Go.Proofs.Ytjmlpkkbmnjhcaa
namespace GV
set_option maxRecDepth 100000
theorem zwj{N:Nat}{s:List Edge}{f:Edge→Option Bool}{p:Edge→Bool}(b: ∀ k,k<s.length→f (s.getD k default)=some (p (s.getD k default)))(c:s.length<N)(d:s.length≤4611686018427387904):
 l6 N s f=some (zjj p s):=by
 have h:ww N s f N 0=some (if s.any p=true then Ex.rt (zjj p s) else Ex.go ()):=by
  refine z5z (σ:=Unit) (fun F k _=>ww N s f F (k:Int)) s.length (fun k _=>(s.take k).any p=false) _ (fun F k _ a hi=>?_) (fun F _ hi=>?_) N 0 () (Nat.zero_le _) (by omega) (by simp)
  ·simp only [ww]
   rw [ny (by omega),zk (wh a),z0o,qh (b k a)]
   cases hp:p (s.getD k default)
   ·right
    refine⟨(),by rw [zjl p s k a,hi,hp];rfl,?_⟩
    rw [cf rfl,zk (jc (by omega))];rfl
   ·left
    rw [ct rfl,if_pos (List.any_eq_true.2 ⟨_,z2u a,hp⟩),zmw p s k a hi hp]
  ·simp only [ww]
   rw [di (by omega),if_neg (by rw [List.take_length] at hi;rw [hi];decide)]
 unfold l6
 rw [qh h]
 by_cases ha:s.any p=true
 ·rw [if_pos ha];rfl
 ·rw [if_neg ha,zpj p s (by simpa using ha)];rfl
theorem zon{N:Nat}{s:List Edge}{f:Edge→Option Bool}{p:Edge→Bool}(a: ∀ k,k<s.length→f (s.getD k default)=some (p (s.getD k default)))(b:s.length<N)(c:s.length≤4611686018427387904):
 ik N s f=some (s.any p):=by
 unfold ik
 rw [qh (zwj a b c),zsx]
theorem zrs{N:Nat}{m:Mach}(b:Small m)(f:200≤N):z2f N m=some (z4x m):=by
 unfold z2f
 by_cases h:(16<m.inputs∨16<m.outputs)∨64<m.rows.length
 ·rw [ct (by simp;omega),zqj h]
 ·rw [cf (by simp;omega)]
  by_cases h1:(m.inputs<1∨m.outputs<1)∨m.rows.length<1
  ·rw [ct (by simp;omega),zrf h h1]
  ·rw [cf (by simp;omega)]
   have g:=b.r
   have d:r9 N m N 0=some (if m.rows.any (z6s m)=true then Ex.rt 1 else Ex.go ()):=by
    refine z5z (σ:=Unit) (fun F k _=>r9 N m F (k:Int)) m.rows.length (fun k _=>(m.rows.take k).any (z6s m)=false) _ (fun F k _ a hi=>?_) (fun F _ hi=>?_) N 0 () (Nat.zero_le _) (by omega) (by simp)
    ·simp only [r9]
     have i:=b.c k a
     rw [ny (by omega),zk (wh a),z0o,zwk (fun _=>zon (p:=fun x=> !zky m x) (fun j l=>rfl) (by omega) (by omega))]
     have e:(decide (((m.rows.getD k default).length:Int)≠m.inputs)||((bif (true&&(decide (((m.rows.getD k default).length:Int)≠m.inputs)==false)) then some ((m.rows.getD k default).any fun x=> !zky m x) else none).getD default))=z6s m (m.rows.getD k default):=by
      unfold z6s
      cases decide (((m.rows.getD k default).length:Int)≠m.inputs)<;>rfl
     rw [e]
     cases hr:z6s m (m.rows.getD k default)
     ·right
      refine⟨(),by rw [zjl _ _ k a,hi,hr];rfl,?_⟩
      rw [cf rfl,zk (jc (by omega))];rfl
     ·left
      rw [ct rfl,if_pos (List.any_eq_true.2 ⟨_,z2u a,hr⟩)]
    ·simp only [r9]
     rw [di (by omega),if_neg (by rw [List.take_length] at hi;rw [hi];decide)]
   rw [qh d]
   by_cases ha:m.rows.any (z6s m)=true
   ·rw [if_pos ha];unfold z4x;rw [if_neg h,if_neg h1,if_pos ha];rfl
   ·rw [if_neg ha,zpw h h1 (by simpa using ha)];rfl
/-! ### Words-/
/-! ### Data-/
end GV
end Go.Proofs.Ytjmlpkkbmnjhcaa

namespace Go.Proofs.Ytjmlpkkbmnjhcaa
namespace GV
set_option maxRecDepth 100000
theorem zi5{m:Mach}{k i:Nat}(hi:i<m.inputs.toNat):zac m (k*m.inputs.toNat+i)=(m.rows.getD k default).getD i default:=by
 unfold zac;rw [zi3 hi,zh6 hi]
theorem zmb{N:Nat}{m:Mach}(a:MOk m)(j:200≤N){σ:Type}(B:((Int×Int)×Edge)→σ→Option (Bool×σ))(f:Nat→σ)
 (d: ∀ k i,k<m.rows.length→i<m.inputs.toNat→B (((k:Int),(i:Int)),(m.rows.getD k default).getD i default) (f (k*m.inputs.toNat+i))=some (true,f (k*m.inputs.toNat+i+1))):
 z2c N m σ B (f 0)=some (f (m.rows.length*m.inputs.toNat)):=by
 have l:=a.r2;have e:=a.i1;have g:=a.i2
 unfold z2c
 refine z5z (fun F k s=>iw N σ B m F s (k:Int)) m.rows.length (fun k s=>s=f (k*m.inputs.toNat)) _ (fun F k s b hi=> .inr ?_) (fun F s hi=>?_) N 0 (f 0) (Nat.zero_le _) (by omega) (by simp)
 ·subst hi
  refine⟨f ((k+1)*m.inputs.toNat),rfl,?_⟩
  have hlen:((ix m.rows (k:Int)).length:Int)=m.inputs:=a.row k b
  have h:ow N σ B m (k:Int) N (f (k*m.inputs.toNat)) 0=some (Ex.go (f ((k+1)*m.inputs.toNat))):=by
   refine z5z (fun F i s=>ow N σ B m (k:Int) F s (i:Int)) m.inputs.toNat (fun i s=>s=f (k*m.inputs.toNat+i)) _ (fun F i s hi c=> .inr ?_) (fun F s c=>?_) N 0 _ (Nat.zero_le _) (by omega) (by simp)
   ·subst c
    refine⟨_,rfl,?_⟩
    simp only [ow]
    rw [ny (by omega),zk (wh (by omega))]
    refine Eq.trans (qh (d k i b hi)) ?_
    refine Eq.trans (cf rfl) ?_
    rw [zk (jc (by omega))];rfl
   ·subst c
    simp only [ow]
    rw [di (by omega),Nat.succ_mul]
  simp only [iw]
  rw [ny (by omega),zk (wh b),qh h,ze3,zk (jc (by omega))];rfl
 ·subst hi
  simp only [iw]
  rw [di (by omega)]
theorem zsj{N:Nat}{m:Mach}(d:MOk m)(e:200≤N):z18 N m=some (zio m):=by
 unfold z18
 rw [show z5a N m=some m from rfl,z2z]
 have hmul:=d.mul.1
 have h:=zmb d e (fun(a:(Int×Int)×Edge) (b:List (Int×Int))=>
  bd (z1t N) fun c=>
  bif decide (a.2.to=c.to∧a.2.out=c.out) then(
  gd (fits 16 b ([((a.1.1,a.1.2):(Int×Int))]:List (Int×Int)))<|
  some (true,(b++([((a.1.1,a.1.2):(Int×Int))]:List (Int×Int))))) else(
  some (true,b))) (z9o m) (fun k i f hi=>by
   have g:=zpu f hi
   have j:=zow m (k*m.inputs.toNat+i)
   rw [show z1t N=some ⟨-1,-1⟩ from rfl,z2z,zkz,zi5 hi,zi3 hi,zh6 hi]
   by_cases he:((m.rows.getD k default).getD i default).to= -1∧((m.rows.getD k default).getD i default).out= -1
   ·rw [ny he,if_pos he,zk ⟨by simp;omega,by simp;omega⟩]
   ·rw [di he,if_neg he,List.append_nil])
 rw [zjo] at h
 rw [qh h]
 unfold z2o
 rw [zk (znw _),z2z,znn];rfl
theorem zkm{N:Nat}{m:Mach}(b:Small m)(a:200≤N):z1m N m=some (zmi m,z4x m):=by
 unfold z1m zmi
 rw [qh (zrs b a)]
 by_cases h:z4x m≠0
 ·rw [ny h,if_pos h]
 ·rw [di h,if_neg h]
  have c:MOk m:=(zch m).1 (by simpa using h)
  rw [qh (zsj c a),show z4x m=0 by simpa using h]
end GV
end Go.Proofs.Ytjmlpkkbmnjhcaa

namespace Go.Proofs.Ytjmlpkkbmnjhcaa
namespace GV
set_option maxRecDepth 100000
end GV
end Go.Proofs.Ytjmlpkkbmnjhcaa

namespace Go.Proofs.Ytjmlpkkbmnjhcaa
namespace GV
set_option maxRecDepth 100000
def wdOf(P:List BE)(t:Nat):List Int:=((P.find? fun e=>decide (e.st=t)).map (·.wd)).getD []
theorem zpf(P:List BE)(e:BE)(t:Nat):wdOf (P++[e]) t=if occ P t=true then wdOf P t else if e.st=t then e.wd else []:=by
 unfold wdOf occ
 rw [List.find?_append]
 by_cases h:(P.any fun e=>decide (e.st=t))=true
 ·rw [if_pos h]
  obtain⟨x,a,b⟩:=List.any_eq_true.1 h
  cases hf:P.find? (fun e=>decide (e.st=t)) with
  |none=>exact absurd b (by simpa using List.find?_eq_none.1 hf x a)
  |some y=>rfl
 ·rw [if_neg h]
  have c:P.find? (fun e=>decide (e.st=t))=none:=List.find?_eq_none.2 fun x a b=>h (List.any_eq_true.2 ⟨x,a,b⟩)
  rw [c]
  by_cases he:e.st=t
  ·simp [he]
  ·simp [he]
theorem zli(P:List BE)(k:Nat)(h:k<P.length):P.take (k+1)=P.take k++[P.getD k default]:=by
 rw [List.take_add_one];simp [List.getD_eq_getElem?_getD,h]
section rch
variable {m : Mach} {s0 : Nat} {P : List BE}
theorem Rch.find(h:Rch m s0 P){j:Nat}: ∀ k,k≤P.length→j<k→wdOf (P.take k) (P.getD j default).st=(P.getD j default).wd
 |0,_,c=>by omega
 |k+1,f,c=>by
  rw [zli P k (by omega),zpf]
  by_cases e:j=k
  ·subst e
   have a:occ (P.take j) (P.getD j default).st=false:=by
    cases hc:occ (P.take j) (P.getD j default).st with
    |false=>rfl
    |true=>
     obtain⟨i,hi,b⟩:=zda.1 hc
     rw [List.length_take] at hi
     have d:(P.take j).getD i default=P.getD i default:=by simp only [List.getD_eq_getElem?_getD,List.getElem?_take,if_pos (show i<j by omega)]
     rw [d] at b
     have:=h.dis i j (by omega) (by omega) b
     omega
   rw [a,if_neg (by decide),if_pos rfl]
  ·have ih:=Rch.find h k (by omega) (show j<k by omega)
   have a:occ (P.take k) (P.getD j default).st=true:=zda.2 ⟨j,by rw [List.length_take];omega,by simp only [List.getD_eq_getElem?_getD,List.getElem?_take,if_pos (show j<k by omega)]⟩
   rw [if_pos a,ih]
theorem Rch.fresh(h:Rch m s0 P){k:Nat}(b:k<P.length):occ (P.take k) (P.getD k default).st=false:=by
 cases hc:occ (P.take k) (P.getD k default).st with
 |false=>rfl
 |true=>
  obtain⟨i,hi,a⟩:=zda.1 hc
  rw [List.length_take] at hi
  have c:(P.take k).getD i default=P.getD i default:=by simp only [List.getD_eq_getElem?_getD,List.getElem?_take,if_pos (show i<k by omega)]
  rw [c] at a
  have:=h.dis i k (by omega) b a
  omega
theorem Rch.wdOf(h:Rch m s0 P){j:Nat}(a:j<P.length):wdOf P (P.getD j default).st=(P.getD j default).wd:=by
 have:=h.find P.length (Nat.le_refl _) a
 rwa [List.take_length] at this
end rch
theorem zey{N:Nat}{s:List Int}:ig N s=some s:=by
 unfold ig
 rw [zk (znw s),znn]
end GV
end Go.Proofs.Ytjmlpkkbmnjhcaa

namespace Go.Proofs.Ytjmlpkkbmnjhcaa
namespace GV
set_option maxRecDepth 100000
end GV
end Go.Proofs.Ytjmlpkkbmnjhcaa

namespace Go.Proofs.Ytjmlpkkbmnjhcaa
namespace GV
set_option maxRecDepth 100000
end GV
end Go.Proofs.Ytjmlpkkbmnjhcaa

namespace Go.Proofs.Ytjmlpkkbmnjhcaa
namespace GV
set_option maxRecDepth 100000
structure CDOk (x:Sd):Prop where
 st:0≤x.fD∧x.fD≤255
 ins:0≤x.fB∧x.fB≤255
 outs:0≤x.fC∧x.fC≤255
 tr: ∀ k,k<x.fF.length→0≤x.fF.getD k default∧x.fF.getD k default≤255
 ed: ∀ k,k<x.fI.length→0≤x.fI.getD k default∧x.fI.getD k default≤65535
structure CMach (m:Mach):Prop where
 ok:MOk m
 rows:m.rows.length≤6
 ins:m.inputs≤3
 outs:m.outputs≤3
 full: ∀ s i,s<m.rows.length→i<(m.rows.getD s default).length→0≤((m.rows.getD s default).getD i default).to
 tree: ∀ t,0<t→t<m.rows.length→ ∃ a i,a<t∧i<(m.rows.getD a default).length∧((m.rows.getD a default).getD i default).to=(t:Int)
def cel(X:List (List Edge))(a i:Nat):Edge:=(X.getD a default).getD i default
structure CSh (n I:Nat) (O:Int) (X:List (List Edge)):Prop where
 len:X.length=n
 row: ∀ a,a<n→(X.getD a default).length=I
 out: ∀ a i,a<n→i<I→0≤(cel X a i).out∧(cel X a i).out<O
theorem zdp{α:Type}[Inhabited α]{X:List α}{a b:Nat}{e:α}(c:a<X.length):(X.set a e).getD b default=if b=a then e else X.getD b default:=by
 simp only [List.getD_eq_getElem?_getD,List.getElem?_set]
 by_cases h:a=b
 ·subst h;simp [c]
 ·rw [if_neg h,if_neg (fun e=>h e.symm)]
def zjt(X:List (List Edge))(a i:Nat)(e:Edge):List (List Edge):=X.set a ((X.getD a default).set i e)
theorem zfn{n I:Nat}{O:Int}{X:List (List Edge)}(h:CSh n I O X){a i:Nat}{e:Edge}(c:a<n)(hi:i<I)(b j:Nat):cel (zjt X a i e) b j=if b=a∧j=i then e else cel X b j:=by
 unfold cel zjt
 rw [zdp (by rw [h.len];exact c)]
 by_cases hb:b=a
 ·subst hb
  rw [if_pos rfl,zdp (by rw [h.row b c];exact hi)]
  by_cases hj:j=i
  ·rw [if_pos hj,if_pos ⟨rfl,hj⟩]
  ·rw [if_neg hj,if_neg (fun k=>hj k.2)]
 ·rw [if_neg hb,if_neg (fun k=>hb k.1)]
theorem zk8{n I:Nat}{O:Int}{X:List (List Edge)}(h:CSh n I O X){a i:Nat}{e:Edge}(c:a<n)(hi:i<I)(f:0≤e.out∧e.out<O):CSh n I O (zjt X a i e):=by
 refine⟨by unfold zjt;rw [List.length_set];exact h.len,fun b d=>?_,fun b j d g=>?_⟩
 ·unfold zjt
  rw [zdp (by rw [h.len];exact c)]
  by_cases hba:b=a
  ·rw [if_pos hba,List.length_set];exact h.row a c
  ·rw [if_neg hba];exact h.row b d
 ·rw [zfn h c hi]
  split
  ·exact f
  ·exact h.out b j d g
theorem number_eq{N:Nat}{l:List Int}(a: ∀ k,k<l.length→0≤l.getD k default∧l.getD k default≤65535)(k:Nat): ∃ v,z06 N l (k:Int)=some v∧0≤v∧v≤65535:=by
 unfold z06
 by_cases h:k<l.length
 ·have:=a k h
  exact⟨l.getD k default,by rw [ny (by omega),zk (wh h),zk (show in64 (ix l (k:Int)) from jc (show-4611686018427387904≤l.getD k default∧l.getD k default≤4611686018427387904 by omega))];rfl,this⟩
 ·exact⟨0,by rw [di (by omega)],by omega⟩
section cof
variable {N : Nat} {x : Sd} {n I : Nat} {O : Int}
theorem zew(a b:Nat):(a:Int)*(b:Int)=((a*b:Nat):Int):=(Int.natCast_mul a b).symm
theorem zxz(d:CDOk x)(q:200≤N)(e:(1:Int)+x.fD%6=n)(c:(1:Int)+x.fB%3=I)(f:(1:Int)+x.fC%3=O)(t:1≤n)(g:I≤3)(h:1≤O){s:Nat}(u:s<6):
 ∃ r,mf N x (s:Int) N [] 0=some r∧r.length=I∧ ∀ j,j<I→(r.getD j default).to= -1∧0≤(r.getD j default).out∧(r.getD j default).out<O:=by
 refine l7 (fun F k (acc:List Edge)=>mf N x (s:Int) F acc (k:Int)) I (fun k acc=>acc.length=k∧ ∀ j,j<k→(acc.getD j default).to= -1∧0≤(acc.getD j default).out∧(acc.getD j default).out<O) _ (fun F k acc w hi=> .inr ?_) (fun F acc hi=>?_) N 0 [] (Nat.zero_le _) (by omega) ⟨rfl,fun j i=>by omega⟩
 ·obtain⟨v,l,a,m⟩:=number_eq (N:=N) d.ed (s*I+k)
  have o:s*I≤6*3:=Nat.mul_le_mul (by omega) g
  have hd:0≤v/(n:Int):=Int.ediv_nonneg a (by omega)
  have p:=Int.emod_nonneg (v/(n:Int)) (show O≠0 by omega)
  have b:=Int.emod_lt_of_pos (v/(n:Int)) (show 0<O by omega)
  refine⟨acc++[(⟨-1,v/(n:Int)%O⟩:Edge)],⟨by simp [hi.1],fun j i=>?_⟩,?_⟩
  ·by_cases hjk:j<k
   ·rw [List.getD_eq_getElem?_getD,List.getElem?_append_left (by omega),←List.getD_eq_getElem?_getD];exact hi.2 j hjk
   ·have:j=acc.length:=by omega
    subst this
    rw [List.getD_eq_getElem?_getD,List.getElem?_concat_length]
    exact⟨rfl,p,b⟩
  ·simp only [mf]
   rw [c,e,f,ny (by omega),zew,zk (jc (by omega)),show ((s*I:Nat):Int)+(k:Int)=((s*I+k:Nat):Int) from rfl,zk (jc (by omega)),qh l,zk ⟨a,by omega,by omega⟩,zk ⟨hd,h⟩,zk ⟨by simp only [List.length_singleton];omega,by simp only [List.length_singleton];omega⟩,zk (jc (by omega))]
   rfl
 ·simp only [mf]
  rw [c,di (by omega)]
  exact⟨_,rfl,hi⟩
theorem zwg(f:CDOk x)(g:200≤N)(c:(1:Int)+x.fD%6=n)(h:(1:Int)+x.fB%3=I)(m:(1:Int)+x.fC%3=O)(o:1≤n)(w:n≤6)(p:I≤3)(q:1≤O):
 ∃ X,bg N x N 0 []=some X∧CSh n I O X∧ ∀ a i,a<n→i<I→(cel X a i).to= -1:=by
 obtain⟨X,t,u,d⟩: ∃ X,bg N x N 0 []=some X∧X.length=n∧ ∀ a,a<n→(X.getD a default).length=I∧ ∀ j,j<I→((X.getD a default).getD j default).to= -1∧0≤((X.getD a default).getD j default).out∧((X.getD a default).getD j default).out<O:=by
  refine l7 (fun F k (acc:List (List Edge))=>bg N x F (k:Int) acc) n (fun k acc=>acc.length=k∧ ∀ a,a<k→(acc.getD a default).length=I∧ ∀ j,j<I→((acc.getD a default).getD j default).to= -1∧0≤((acc.getD a default).getD j default).out∧((acc.getD a default).getD j default).out<O) _ (fun F k acc y hi=> .inr ?_) (fun F acc hi=>?_) N 0 [] (Nat.zero_le _) (by omega) ⟨rfl,fun j z=>by omega⟩
  ·obtain⟨r,v,e⟩:=zxz (N:=N) (s:=k) f g c h m o p q (by omega)
   refine⟨acc++[r],⟨by simp [hi.1],fun a b=>?_⟩,?_⟩
   ·by_cases hjk:a<k
    ·rw [List.getD_eq_getElem?_getD (l:=acc++[r]),List.getElem?_append_left (by omega),←List.getD_eq_getElem?_getD];exact hi.2 a hjk
    ·have:a=acc.length:=by omega
     subst this
     rw [List.getD_eq_getElem?_getD (l:=acc++[r]),List.getElem?_concat_length]
     exact e
   ·simp only [bg]
    rw [c,ny (by omega),qh v,zk ⟨by simp only [List.length_singleton];omega,by simp only [List.length_singleton];omega⟩,zk (jc (by omega))]
    rfl
  ·simp only [bg]
   rw [c,di (by omega)]
   exact⟨_,rfl,hi⟩
 exact⟨X,t,⟨u,fun a b=>(d a b).1,fun a i b hi=>((d a b).2 i hi).2⟩,fun a i b hi=>((d a b).2 i hi).1⟩
theorem zwn(u:200≤N){X:List (List Edge)}(d:(1:Int)+x.fB%3=I)(h:CSh n I O X)(v:1≤I)(m:I≤3)(w:n≤6){s:Nat}(A:s<n):
 ∃ l,xe N x (s:Int) X N [] 0=some l∧(∀ z∈l,∃ k:Nat,z=(k:Int)∧k<s*I∧(cel X (k/I) (k%I)).to<0)∧(∀ k:Nat,k<s*I→(cel X (k/I) (k%I)).to<0→((k:Nat):Int)∈l)∧l.length≤s*I:=by
 have o:s*I≤6*3:=Nat.mul_le_mul (by omega) m
 have hrows: ∀ k,k<s*I→k/I<n∧k%I<I:=fun k c=>⟨Nat.lt_of_lt_of_le (Nat.div_lt_of_lt_mul (by rw [Nat.mul_comm];exact c)) (by omega),Nat.mod_lt _ (by omega)⟩
 refine l7 (fun F k (acc:List Int)=>xe N x (s:Int) X F acc (k:Int)) (s*I) (fun k acc=>(∀ z∈acc,∃ k:Nat,z=(k:Int)∧k<s*I∧(cel X (k/I) (k%I)).to<0)∧(∀ j:Nat,j<k→(cel X (j/I) (j%I)).to<0→((j:Nat):Int)∈acc)∧acc.length≤k) _ (fun F k acc c hi=> .inr ?_) (fun F acc hi=>?_) N 0 [] (Nat.zero_le _) (by omega) ⟨fun z b=>by simp at b,fun j f=>by omega,by simp⟩
 ·obtain⟨g,p⟩:=hrows k c
  have q:(k:Int)/(I:Int)=((k/I:Nat):Int):=rfl
  have r:(k:Int)%(I:Int)=((k%I:Nat):Int):=rfl
  have t: ∀ (y:List Int),y=(if(cel X (k/I) (k%I)).to<0 then acc++[((k:Nat):Int)] else acc)→
   xe N x (s:Int) X (F+1) acc (k:Int)=xe N x (s:Int) X F y ((k+1:Nat):Int):=fun y i=>by
   simp only [xe]
   rw [d,zew,zk (jc (by omega)),ny (by omega),q,r]
   refine(qh (x:=y) ?_).trans (by rw [zk (jc (by omega))];rfl)
   rw [zk ⟨by omega,by omega,by omega⟩,zk (wh (by rw [h.len];exact g)),zk ⟨by omega,by omega⟩,z0o,zk (wh (by rw [h.row _ g];exact p)),z0o]
   show (bif decide ((cel X (k/I) (k%I)).to<0) then _ else _)=_
   by_cases hc:(cel X (k/I) (k%I)).to<0
   ·rw [ny hc,i,if_pos hc]
    exact zk ⟨by simp only [List.length_singleton];omega,by simp only [List.length_singleton];omega⟩
   ·rw [di hc,i,if_neg hc]
  refine⟨_,?_,t _ rfl⟩
  by_cases hc:(cel X (k/I) (k%I)).to<0
  ·rw [if_pos hc]
   refine⟨fun z b=>?_,fun j f a=>?_,by simp;omega⟩
   ·rcases List.mem_append.1 b with b|b
    ·exact hi.1 z b
    ·rw [List.mem_singleton] at b
     exact⟨k,b,c,hc⟩
   ·by_cases e:j=k
    ·subst e;simp
    ·exact List.mem_append_left _ (hi.2.1 j (by omega) a)
  ·rw [if_neg hc]
   refine⟨hi.1,fun j f a=>?_,by omega⟩
   by_cases e:j=k
   ·subst e;exact absurd a hc
   ·exact hi.2.1 j (by omega) a
 ·simp only [xe]
  rw [d,zew,zk (jc (by omega)),di (by omega)]
  exact⟨_,rfl,hi⟩
structure CTree (n I:Nat) (O:Int) (s:Nat) (X:List (List Edge)):Prop where
 sh:CSh n I O X
 rng: ∀ a i,a<n→i<I→(cel X a i).to= -1∨(0≤(cel X a i).to∧(cel X a i).to<n)
 late: ∀ a i,s≤a+1→a<n→i<I→(cel X a i).to= -1
 tree: ∀ t,0<t→t<s→ ∃ a i,a<t∧i<I∧(cel X a i).to=(t:Int)
theorem zmp{s:Nat}{X:List (List Edge)}(h:CTree n I O s X)(m:0<s)(o:s<n){a i:Nat}(k:a<s)(hi:i<I)(p:(cel X a i).to<0):CTree n I O (s+1) (zjt X a i ⟨(s:Int),(cel X a i).out⟩):=by
 have cs:=fun b j=>zfn h.sh (e:=⟨(s:Int),(cel X a i).out⟩) (show a<n by omega) hi b j
 refine⟨zk8 h.sh (by omega) hi (h.sh.out a i (by omega) hi),fun b j c d=>?_,fun b j l c d=>?_,fun t f q=>?_⟩
 ·rw [cs]
  split
  ·exact .inr ⟨by simp,by simp;omega⟩
  ·exact h.rng b j c d
 ·rw [cs,if_neg (fun e=>by omega)]
  exact h.late b j (by omega) c d
 ·by_cases e:t=s
  ·subst e
   exact⟨a,i,k,hi,by rw [cs,if_pos ⟨rfl,rfl⟩]⟩
  ·obtain⟨b,j,c,d,g⟩:=h.tree t f (by omega)
   refine⟨b,j,c,d,?_⟩
   rw [cs,if_neg]
   ·exact g
   ·rintro⟨rfl,rfl⟩;omega
theorem zvl(w:CDOk x)(z:200≤N){X:List (List Edge)}(p:(1:Int)+x.fD%6=n)(r:(1:Int)+x.fB%3=I)(A:1≤I)(t:I≤3)(B:1≤n)(C:n≤6)(h:CTree n I O 1 X):
 ∃ Y,nk N x N 1 X=some Y∧CTree n I O n Y:=by
 refine l7 (fun F k (acc:List (List Edge))=>nk N x F (k:Int) acc) n (fun k acc=>0<k∧CTree n I O k acc) _ (fun F s acc u hi=> .inr ?_) (fun F acc hi=>?_) N 1 X B (by omega) ⟨by omega,h⟩
 ·obtain⟨c,a⟩:=hi
  obtain⟨l,D,d,f,E⟩:=zwn (x:=x) z r a.sh A t C u
  have G:s*I≤6*3:=Nat.mul_le_mul (by omega) t
  have hpos:0<l.length:=by
   have g:((s-1)*I)/I=s-1:=Nat.mul_div_cancel _ (by omega)
   have i:((s-1)*I)%I=0:=Nat.mul_mod_left _ _
   have:=f ((s-1)*I) (Nat.mul_lt_mul_of_pos_right (by omega) (by omega)) (by rw [g,i,a.late (s-1) 0 (by omega) (by omega) (by omega)];omega)
   exact List.length_pos_of_mem this
  obtain⟨q,hq,j⟩: ∃ q,q<l.length∧(bd (
   gd (in64 ((s:Int)-1))<|
   bif decide (((s:Int)-1)<(x.fF.length:Int)) then(
   gd (in64 ((s:Int)-1))<|
   gd (okI x.fF ((s:Int)-1))<|
   gd (in64 (ix x.fF ((s:Int)-1)))<|
   gd (okR (ix x.fF ((s:Int)-1)) (l.length:Int))<|
   gd (okI l ((ix x.fF ((s:Int)-1))%(l.length:Int)))<|
   some (ix l ((ix x.fF ((s:Int)-1))%(l.length:Int)))) else(
   some (ix l 0))) some)=some (l.getD q default):=by
   rw [zk (jc (by omega)),show (s:Int)-1=((s-1:Nat):Int) by omega]
   by_cases ht:s-1<x.fF.length
   ·have b:=w.tr _ ht
    refine⟨(x.fF.getD (s-1) default).toNat%l.length,Nat.mod_lt _ hpos,?_⟩
    have e:x.fF.getD (s-1) default%(l.length:Int)=(((x.fF.getD (s-1) default).toNat%l.length:Nat):Int):=by
     rw [Int.natCast_emod,Int.toNat_of_nonneg b.1]
    rw [ny (by omega),zk (jc (by omega)),zk (wh ht),z0o,zk (jc (by omega)),zk ⟨b.1,by omega⟩,e,zk (wh (Nat.mod_lt _ hpos))]
    rfl
   ·exact⟨0,hpos,by rw [di (by omega)];rfl⟩
  obtain⟨k,H,m,o⟩:=d _ (z2u hq)
  have J:k/I<s:=Nat.div_lt_of_lt_mul (by rw [Nat.mul_comm];exact m)
  have v:k%I<I:=Nat.mod_lt _ (by omega)
  have g:(k:Int)/(I:Int)=((k/I:Nat):Int):=rfl
  have i:(k:Int)%(I:Int)=((k%I:Nat):Int):=rfl
  refine⟨zjt acc (k/I) (k%I) ⟨(s:Int),(cel acc (k/I) (k%I)).out⟩,⟨by omega,zmp a c u J v o⟩,?_⟩
  simp only [nk]
  rw [r,p,ny (by omega),qh D,zk (show okI l 0 from⟨by omega,by omega⟩)]
  have hqe':=j
  rw [H] at hqe'
  refine(qh (x:=(k:Int)) ?_).trans ?_
  ·obtain⟨y,K,L⟩:=zx hqe'
   rw [K,←L]
  ·rw [g,i,zk ⟨by omega,by omega,by omega⟩,zk (wh (by rw [a.sh.len];omega)),zk ⟨by omega,by omega⟩,z0o,zk (wh (by rw [a.sh.row _ (by omega)];exact v)),zk (jc (by omega))]
   rfl
 ·simp only [nk]
  rw [p,di (by omega)]
  exact⟨_,rfl,hi.2⟩
structure CFill (n I:Nat) (O:Int) (s k:Nat) (X:List (List Edge)):Prop where
 sh:CSh n I O X
 rng: ∀ a i,a<n→i<I→(cel X a i).to= -1∨(0≤(cel X a i).to∧(cel X a i).to<n)
 done: ∀ a i,a<n→i<I→(a<s∨(a=s∧i<k))→0≤(cel X a i).to
 tree: ∀ t,0<t→t<n→ ∃ a i,a<t∧i<I∧(cel X a i).to=(t:Int)
theorem zpd(y:CDOk x)(H:200≤N){X:List (List Edge)}(z:(1:Int)+x.fD%6=n)(p:(1:Int)+x.fB%3=I)(A:I≤3)(J:1≤n)(K:n≤6){s:Nat}(f:s<n)(h:CFill n I O s 0 X):
 ∃ Y,xc N x (s:Int) N 0 X=some Y∧CFill n I O s I Y:=by
 have B:s*I≤6*3:=Nat.mul_le_mul (by omega) A
 refine l7 (fun F k (acc:List (List Edge))=>xc N x (s:Int) F (k:Int) acc) I (fun k acc=>CFill n I O s k acc) _ (fun F k acc g a=> .inr ?_) (fun F acc hi=>?_) N 0 X (Nat.zero_le _) (by omega) h
 ·obtain⟨v,C,i,D⟩:=number_eq (N:=N) y.ed (s*I+k)
  have q:=Int.emod_nonneg v (show (n:Int)≠0 by omega)
  have l:=Int.emod_lt_of_pos v (show 0<(n:Int) by omega)
  have E: ∀ Y,Y=(if(cel acc s k).to<0 then zjt acc s k ⟨v%(n:Int),(cel acc s k).out⟩ else acc)→xc N x (s:Int) (F+1) (k:Int) acc=xc N x (s:Int) F ((k+1:Nat):Int) Y:=fun Y r=>by
   simp only [xc]
   rw [p,z,ny (by omega)]
   refine(qh (x:=Y) ?_).trans (by rw [zk (jc (by omega))];rfl)
   have u:okI acc (s:Int):=wh (by rw [a.sh.len];exact f)
   have w:okI (ix acc (s:Int)) (k:Int):=wh (show k<(acc.getD s default).length by rw [a.sh.row _ f];exact g)
   rw [zk u,zk w]
   show (bif decide ((cel acc s k).to<0) then _ else _)=_
   by_cases hc:(cel acc s k).to<0
   ·rw [ny hc,r,if_pos hc,zk u,zew,zk (jc (by omega)),show ((s*I:Nat):Int)+(k:Int)=((s*I+k:Nat):Int) from rfl,zk (jc (by omega)),qh C,zk ⟨i,by omega⟩,zk w]
    rfl
   ·rw [di hc,r,if_neg hc]
  refine⟨_,?_,E _ rfl⟩
  by_cases hc:(cel acc s k).to<0
  ·rw [if_pos hc]
   have cs:=fun b j=>zfn a.sh (e:=⟨v%(n:Int),(cel acc s k).out⟩) f g b j
   refine⟨zk8 a.sh f g (a.sh.out s k f g),fun b j c d=>?_,fun b j c d hd=>?_,fun t m G=>?_⟩
   ·rw [cs]
    split
    ·exact .inr ⟨q,l⟩
    ·exact a.rng b j c d
   ·rw [cs]
    split
    ·exact q
    ·rename_i hne
     exact a.done b j c d (by rcases hd with hd|⟨rfl,hd⟩;exact .inl hd;exact .inr ⟨rfl,by have: ¬j=k:=fun e=>hne ⟨rfl,e⟩;omega⟩)
   ·obtain⟨b,j,c,d,o⟩:=a.tree t m G
    refine⟨b,j,c,d,?_⟩
    rw [cs,if_neg]
    ·exact o
    ·rintro⟨rfl,rfl⟩;omega
  ·rw [if_neg hc]
   refine⟨a.sh,a.rng,fun b j c d hd=>?_,a.tree⟩
   by_cases e:b=s∧j=k
   ·obtain⟨rfl,rfl⟩:=e;omega
   ·exact a.done b j c d (by rcases hd with hd|⟨rfl,hd⟩;exact .inl hd;exact .inr ⟨rfl,by have: ¬j=k:=fun e'=>e ⟨rfl,e'⟩;omega⟩)
 ·simp only [xc]
  rw [p,di (by omega)]
  exact⟨_,rfl,hi⟩
theorem zw2(d:CDOk x)(e:200≤N){X:List (List Edge)}(c:(1:Int)+x.fD%6=n)(f:(1:Int)+x.fB%3=I)(g:I≤3)(j:1≤n)(l:n≤6)(h:CFill n I O 0 0 X):
 ∃ Y,mg N x N 0 X=some Y∧CFill n I O n 0 Y:=by
 refine l7 (fun F k (acc:List (List Edge))=>mg N x F (k:Int) acc) n (fun k acc=>CFill n I O k 0 acc) _ (fun F s acc m o=> .inr ?_) (fun F acc hi=>?_) N 0 X (Nat.zero_le _) (by omega) h
 ·obtain⟨Y,p,b⟩:=zpd (N:=N) d e c f g j l m o
  refine⟨Y,⟨b.sh,b.rng,fun a i q hi hd=>b.done a i q hi (by rcases hd with hd|⟨_,hd⟩;exact(Nat.lt_or_ge a s).imp id (fun _=>⟨by omega,hi⟩);omega),b.tree⟩,?_⟩
  simp only [mg]
  rw [c,ny (by omega),qh p,zk (jc (by omega))]
  rfl
 ·simp only [mg]
  rw [c,di (by omega)]
  exact⟨_,rfl,hi⟩
end cof
theorem zu0{N:Nat}{x:Sd}(c:CDOk x)(g:200≤N): ∃ m,z02 N x=some m∧CMach m∧(m.rows.length:Int)=1+x.fD%6:=by
 obtain⟨u,D⟩:=c.st;obtain⟨E,F⟩:=c.ins;obtain⟨G,H⟩:=c.outs
 obtain⟨n,e⟩: ∃ n:Nat,(1:Int)+x.fD%6=n:=⟨((1:Int)+x.fD%6).toNat,by omega⟩
 obtain⟨I,f⟩: ∃ n:Nat,(1:Int)+x.fB%3=n:=⟨((1:Int)+x.fB%3).toNat,by omega⟩
 obtain⟨O,p⟩: ∃ O:Int,(1:Int)+x.fC%3=O:=⟨_,rfl⟩
 have h:1≤n:=by omega
 have j:n≤6:=by omega
 have v:1≤I:=by omega
 have k:I≤3:=by omega
 have q:1≤O:=by omega
 have w:O≤3:=by omega
 obtain⟨X,y,sX,fX⟩:=zwg (N:=N) c g e f p h j k q
 obtain⟨Y,z,tY⟩:=zvl (N:=N) (O:=O) c g e f v k h j (X:=X) ⟨sX,fun a i d hi=> .inl (fX a i d hi),fun a i _ d hi=>fX a i d hi,fun t J u=>by omega⟩
 obtain⟨Z,A,tZ⟩:=zw2 (N:=N) (O:=O) c g e f k h j (X:=Y) ⟨tY.sh,tY.rng,fun a i d hi hd=>by omega,tY.tree⟩
 refine⟨⟨(1:Int)+x.fB%3,(1:Int)+x.fC%3,Z⟩,?_,?_,by rw [e];exact congrArg Nat.cast tZ.sh.len⟩
 ·unfold z02
  rw [zk ⟨by omega,by omega⟩,zk (jc (by omega)),zk (jc (by omega)),zk ⟨by omega,by omega⟩,zk (jc (by omega)),zk (jc (by omega)),zk ⟨by omega,by omega⟩,zk (jc (by omega)),zk (jc (by omega)),qh y,qh z,qh A]
 ·rw [f,p]
  have hrow: ∀ s,s<Z.length→(Z.getD s default).length=I:=fun s b=>tZ.sh.row s (by rw [tZ.sh.len] at b;exact b)
  have hlen:=tZ.sh.len
  have hdone: ∀ s i,s<n→i<I→0≤(cel Z s i).to:=fun s i b hi=>tZ.done s i b hi (.inl b)
  refine⟨⟨by show 1≤(I:Int);omega,by show (I:Int)≤16;omega,q,by show O≤16;omega,by show 1≤Z.length;omega,by show Z.length≤64;omega,fun s b=>by rw [hrow s b],fun s i b hi=>?_⟩,by show Z.length≤6;omega,by show (I:Int)≤3;omega,w,fun s i b hi=>?_,fun t l B=>?_⟩
  ·have hs':s<Z.length:=b
   have hi':i<(Z.getD s default).length:=hi
   rw [hrow s hs'] at hi'
   rw [hlen] at hs'
   have C:=hdone s i hs' hi'
   have K:=tZ.rng s i hs' hi'
   have r:=tZ.sh.out s i hs' hi'
   exact .inr ⟨C,by show (cel Z s i).to<(Z.length:Int);omega,r.1,r.2⟩
  ·have hs':s<Z.length:=b
   have hi':i<(Z.getD s default).length:=hi
   rw [hrow s hs'] at hi'
   rw [hlen] at hs'
   exact hdone s i hs' hi'
  ·have ht':t<Z.length:=B
   obtain⟨a,i,d,hi,o⟩:=tZ.tree t l (by omega)
   exact⟨a,i,d,by show i<(Z.getD a default).length;rw [hrow a (by omega)];exact hi,o⟩
theorem zqa{N:Nat}{x:Sd}(a:CDOk x)(b:200≤N): ∃ m,z02 N x=some m∧CMach m:=by
 obtain⟨m,c,d,_⟩:=zu0 a b
 exact⟨m,c,d⟩
theorem CMach.all{m:Mach}(h:CMach m): ∀ t,t<m.rows.length→ ∃ j,j<(rch m 0).length∧((rch m 0).getD j default).st=t:=by
 have c:=h.ok
 have b:=zq2 c (s0:=0) (by have:=c.r1;omega)
 generalize rch m 0=P at b⊢
 intro t
 induction t using Nat.strongRecOn with
 |ind t ih=>
  intro f
  by_cases h0:t=0
  ·subst h0;exact⟨0,b.pos,by rw [b.root]⟩
  ·obtain⟨a,i,g,hi,d⟩:=h.tree t (by omega) f
   obtain⟨q,k,e⟩:=ih a g (by omega)
   have hrow:=c.row a (by omega)
   have l:ed m (P.getD q default).st i=(t:Int):=by rw [e];exact d
   obtain⟨j,n,o,_⟩:=b.cls q i k (by omega) (by rw [l];omega)
   exact⟨j,n,by omega⟩
theorem CMach.len{m:Mach}(h:CMach m):(rch m 0).length=m.rows.length:=by
 have b:=h.ok
 have c:=zq2 b (s0:=0) (by have:=b.r1;omega)
 have hall:=h.all
 generalize rch m 0=P at c hall⊢
 have f:=c.le
 have hsub:List.range m.rows.length⊆P.map (·.st):=by
  intro t d
  rw [List.mem_range] at d
  obtain⟨j,e,a⟩:=hall t d
  exact List.mem_map.2 ⟨_,z2u e,a⟩
 have:=List.Nodup.length_le_of_subset List.nodup_range hsub
 rw [List.length_range,List.length_map] at this
 omega
end GV
end Go.Proofs.Ytjmlpkkbmnjhcaa
