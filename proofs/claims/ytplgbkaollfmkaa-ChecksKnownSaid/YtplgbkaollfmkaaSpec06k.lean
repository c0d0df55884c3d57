
import Derived.Test.YtplgbkaollfmkaaPart06
set_option linter.unusedVariables false
set_option linter.unusedSimpArgs false
namespace Go.Proofs.Ytplgbkaollfmkaa
namespace GV
set_option maxRecDepth 100000
end GV
end Go.Proofs.Ytplgbkaollfmkaa

namespace Go.Proofs.Ytplgbkaollfmkaa
namespace GV
set_option maxRecDepth 100000
theorem q0w(L:List Nat)(t:Nat):pos L (t:Int)=(L.idxOf t:Int):=by
 unfold pos;rw [if_neg (by omega),Int.toNat_natCast]
section
variable {m : Mach} {L : List Nat}
end
/-! ### The states in their order-/
def zlj(P:List BE):List Nat:=P.map (·.st)
theorem zy5(P:List BE):(zlj P).length=P.length:=by simp [zlj]
theorem zj1{P:List BE}{s:Nat}:s∈zlj P↔ ∃ j,j<P.length∧(P.getD j default).st=s:=by
 unfold zlj;rw [List.mem_map]
 constructor
 ·rintro⟨e,b,rfl⟩
  obtain⟨j,a,rfl⟩:=List.mem_iff_getElem.1 b
  exact⟨j,a,by simp [List.getD_eq_getElem?_getD,a]⟩
 ·rintro⟨j,a,rfl⟩;exact⟨_,ay a,rfl⟩
section
variable {m : Mach} {s0 : Nat} {P : List BE}
theorem zz8(b:Rch m s0 P):(zlj P).Nodup:=by
 unfold zlj
 rw [List.nodup_iff_pairwise_ne,List.pairwise_iff_getElem]
 intro i j hi a c e
 rw [List.length_map] at hi a
 rw [List.getElem_map,List.getElem_map] at e
 have:=b.dis i j hi a (by simpa [List.getD_eq_getElem?_getD,a,hi] using e)
 omega
theorem zs7(a:Rch m s0 P):ClosedP m (zlj P):=by
 refine⟨fun s b=>?_,zz8 a,fun s b i hi c=>?_,fun e=>?_⟩
 ·obtain⟨j,d,rfl⟩:=zj1.1 b
  exact a.rng j d
 ·obtain⟨q,g,rfl⟩:=zj1.1 b
  obtain⟨j,d,h,_⟩:=a.cls q i g hi c
  exact zj1.2 ⟨j,d,by omega⟩
 ·have f:=zy5 P
  rw [e] at f
  have:=a.pos
  simp at f;omega
end
def q4k(m:Mach):Mach:=zmn m (zlj (rch m 0))
section
variable {m : Mach} {L : List Nat}
theorem zpo(a:MOk m):Rch m 0 (rch m 0):=zhq a (by have:=a.r1;omega)
theorem q0f(a:MOk m):MOk (q4k m):=zx3 a (zs7 (zpo a))
end
end GV
end Go.Proofs.Ytplgbkaollfmkaa

namespace Go.Proofs.Ytplgbkaollfmkaa
namespace GV
set_option maxRecDepth 100000
theorem zkg: ∀ {a b:List Int} {k:Nat},k<a.length→k<b.length→a.take k=b.take k→a.getD k default<b.getD k default→z6v a b
 | [],_,_,h,_,_,_=>by simp at h
 |_::_,[],_,_,h,_,_=>by simp at h
 |x::a,y::b,0,_,_,_,h=> .inl h
 |x::a,y::b,k+1,d,e,c,h=>by
  rw [List.take_succ_cons,List.take_succ_cons] at c
  obtain⟨rfl,ht'⟩:=List.cons.inj c
  exact .inr ⟨rfl,zkg (k:=k) (by simpa using d) (by simpa using e) ht' h⟩
theorem zxr{N:Nat}{a b:List Int}(d:a.length=b.length)(i:a.length<N)(j:a.length≤1000000){r:Ex Unit Int}(e:z6v a b→r=Ex.rt 1)(f:z6v b a→r=Ex.rt 0)(g:a=b→r=Ex.go ()):pz N a b N 0=some r:=by
 refine ug (σ:=Unit) (fun F k _=>pz N a b F (k:Int)) a.length (fun k _=>a.take k=b.take k) r (fun F k _ c hi=>?_) (fun F _ hi=>?_) N 0 () (Nat.zero_le _) (by omega) rfl
 ·simp only [pz]
  have oa:okI a (k:Int):=qx c
  have ob:okI b (k:Int):=qx (by omega)
  rw [uy (by omega),zm oa,zm ob]
  rcases Int.lt_trichotomy (ix a (k:Int)) (ix b (k:Int)) with h|h|h
  ·left
   rw [uy (by omega),zm oa,zm ob,uy h,e (zkg c (by omega) hi h)]
  ·right
   refine⟨(),?_,?_⟩
   ·rw [zay a k c,zay b k (by omega),hi,show a.getD k default=b.getD k default from h]
   ·rw [ul (by omega)];exact zm (qo (by omega))
  ·left
   rw [uy (by omega),zm oa,zm ob,ul (by omega),f (zkg (by omega) c hi.symm h)]
 ·simp only [pz]
  rw [ul (by omega),g (by rw [List.take_length,d,List.take_length] at hi;exact hi)]
theorem q2u{N:Nat}{a b:List Int}(h:llt a b)(c:a.length<N)(d:a.length≤1000000):l9 N a b=some 1:=by
 unfold l9
 rcases h with h|⟨f,h⟩
 ·rw [uy (by omega),uy (by omega)]
 ·rw [ul (by omega),qc (zxr f c d (r:=Ex.rt 1) (fun _=>rfl) (fun k=>absurd (za7 h k) (z5r _)) (fun e=>by rw [e] at h;exact absurd h (z5r _)))];rfl
theorem q2d{N:Nat}{a b:List Int}(h:llt b a)(c:a.length<N)(d:a.length≤1000000):l9 N a b=some 0:=by
 unfold l9
 rcases h with h|⟨f,h⟩
 ·rw [uy (by omega),ul (by omega)]
 ·rw [ul (by omega),qc (zxr f.symm c d (r:=Ex.rt 0) (fun k=>absurd (za7 h k) (z5r _)) (fun _=>rfl) (fun e=>by rw [e] at h;exact absurd h (z5r _)))];rfl
def z07(s:Nat)(P:List BE):List BE:=P.filter fun e=>decide (e.st<s)
theorem zi4{m:Mach}{s0:Nat}{P:List BE}(f:Rch m s0 P){j:Nat}(c:j<P.length):
 z07 ((P.getD j default).st+1) P=z07 (P.getD j default).st (P.take j)++P.getD j default::z07 (P.getD j default).st (P.drop (j+1))∧
 z07 (P.getD j default).st P=z07 (P.getD j default).st (P.take j)++z07 (P.getD j default).st (P.drop (j+1)):=by
 have d:P=P.take j++P.getD j default::P.drop (j+1):=by rw [←zdu P j c,List.take_append_drop]
 have key: ∀ i,i<P.length→i≠j→decide ((P.getD i default).st<(P.getD j default).st+1)=decide ((P.getD i default).st<(P.getD j default).st):=fun i hi a=>by
  have:(P.getD i default).st≠(P.getD j default).st:=fun e=>a (f.dis i j hi c e)
  rw [decide_eq_decide];omega
 generalize hx:P.getD j default=x at*
 have g:z07 (x.st+1) (P.take j)=z07 x.st (P.take j):=by
  refine List.filter_congr fun e b=>?_
  obtain⟨i,hi,rfl⟩:=List.mem_iff_getElem.1 b
  rw [List.length_take] at hi
  have:=key i (by omega) (by omega)
  rw [List.getElem_take]
  rwa [show P.getD i default=P[i]'(by omega) by simp [List.getD_eq_getElem?_getD,show i<P.length by omega]] at this
 have h:z07 (x.st+1) (P.drop (j+1))=z07 x.st (P.drop (j+1)):=by
  refine List.filter_congr fun e b=>?_
  obtain⟨i,hi,rfl⟩:=List.mem_iff_getElem.1 b
  rw [List.length_drop] at hi
  have:=key (j+1+i) (by omega) (by omega)
  rw [List.getElem_drop]
  rwa [show P.getD (j+1+i) default=P[j+1+i]'(by omega) by simp [List.getD_eq_getElem?_getD,show j+1+i<P.length by omega]] at this
 constructor
 ·conv=>lhs;rw [d]
  unfold z07 at*
  rw [List.filter_append,List.filter_cons,if_pos (decide_eq_true (by omega)),g,h]
 ·conv=>lhs;rw [d]
  unfold z07
  rw [List.filter_append,List.filter_cons,if_neg (by simp)]
theorem zrh{P:List BE}{s:Nat}(h:occ P s=false):z07 (s+1) P=z07 s P:=by
 refine List.filter_congr fun e b=>?_
 have:e.st≠s:=fun a=>by
  have:occ P s=true:=List.any_eq_true.2 ⟨e,b,decide_eq_true a⟩
  rw [h] at this;cases this
 rw [decide_eq_decide];omega
theorem zum{m:Mach}{s0:Nat}{P:List BE}(a:Rch m s0 P):z07 m.rows.length P=P:=by
 unfold z07
 rw [List.filter_eq_self]
 intro e b
 obtain⟨i,hi,rfl⟩:=List.mem_iff_getElem.1 b
 have:=a.rng i hi
 rw [show P.getD i default=P[i] by simp [List.getD_eq_getElem?_getD,hi]] at this
 exact decide_eq_true this
theorem zly{m:Mach}{s0:Nat}{P:List BE}(a:Rch m s0 P)(s:Nat):(z3i (z07 s P)).length≤P.length:=by
 unfold z3i z07;rw [List.length_map];exact List.length_filter_le _ _
theorem zi3(X Y:List BE):z3i (X++Y)=z3i X++z3i Y:=by simp [z3i]
theorem zz0{N:Nat}{m:Mach}(z:200≤N){s0:Nat}{P:List BE}(a:Rch m s0 P)(v:m.rows.length≤64){j:Nat}(q:j<P.length):
 bu N (lw m.rows.length P,z0j m.rows.length P) (z3i (z07 (P.getD j default).st P)) ((P.getD j default).st:Int) N 0=some ((z07 (P.getD j default).st (P.take j)).length:Int):=by
 obtain⟨_,r⟩:=zi4 a q
 have w:=a.le
 have l:=a.rng j q
 have x: ∀ e∈z07 (P.getD j default).st (P.take j),∃ i,i<j∧e=P.getD i default:=fun e c=>by
  obtain⟨i,hi,rfl⟩:=List.mem_iff_getElem.1 (List.mem_filter.1 c).1
  rw [List.length_take] at hi
  exact⟨i,by omega,by rw [List.getElem_take];simp [List.getD_eq_getElem?_getD,show i<P.length by omega]⟩
 have y: ∀ e∈z07 (P.getD j default).st (P.drop (j+1)),∃ i,j<i∧i<P.length∧e=P.getD i default:=fun e c=>by
  obtain⟨i,hi,rfl⟩:=List.mem_iff_getElem.1 (List.mem_filter.1 c).1
  rw [List.length_drop] at hi
  exact⟨j+1+i,by omega,by omega,by rw [List.getElem_drop];simp [List.getD_eq_getElem?_getD,show j+1+i<P.length by omega]⟩
 have hlen:=zly a (P.getD j default).st
 rw [r] at hlen⊢
 generalize hx:z07 (P.getD j default).st (P.take j)=A at*
 generalize z07 (P.getD j default).st (P.drop (j+1))=B at*
 have n:ix (lw m.rows.length P) ((P.getD j default).st:Int)=(P.getD j default).wd:=by rw [om,z7t l,a.wdOf q]
 have okw:okI (lw m.rows.length P) ((P.getD j default).st:Int):=qx (by rw [z2g];exact l)
 have s:(z3i (A++B)).length=A.length+B.length:=by simp [z3i]
 have hget: ∀ k,k<A.length+B.length→ix (z3i (A++B)) (k:Int)=(((A++B).getD k default).st:Int):=fun k o=>by
  have hk':k<(A++B).length:=by rw [List.length_append];exact o
  rw [om]
  unfold z3i
  rw [List.getD_eq_getElem?_getD,List.getElem?_map,List.getD_eq_getElem?_getD,List.getElem?_eq_getElem hk'];rfl
 refine ug (σ:=Unit) (fun F k _=>bu N (lw m.rows.length P,z0j m.rows.length P) (z3i (A++B)) ((P.getD j default).st:Int) F (k:Int)) A.length (fun _ _=>True) _ (fun F k _ o _=>?_) (fun F _ _=>?_) N 0 () (Nat.zero_le _) (by omega) trivial
 ·right
  refine⟨(),trivial,?_⟩
  simp only [bu,hget k (by omega),n]
  have c:(A++B).getD k default∈A:=by
   have:(A++B).getD k default=A[k]:=by simp [List.getD_eq_getElem?_getD,List.getElem?_append_left o,o]
   rw [this];exact List.getElem_mem o
  obtain⟨i,d,f⟩:=x _ c
  rw [f]
  have b:=a.rng i (by omega)
  have g:ix (lw m.rows.length P) ((P.getD i default).st:Int)=(P.getD i default).wd:=by rw [om,z7t b,a.wdOf (by omega)]
  have t:=(a.wok i (by omega)).2
  rw [g,zm (fun _=>qx (by omega)),zm (fun _=>qx (by rw [z2g];exact b)),zm (fun _=>okw),zgv (fun _=>q2u (N:=N) (a.inc i j d q) (by omega) (by omega))]
  have p:decide ((k:Int)<((z3i (A++B)).length:Int))=true:=decide_eq_true (by omega)
  refine(ct (by rw [p];rfl)).trans ?_
  exact zm (qo (by omega))
 ·simp only [bu]
  by_cases hb:0<B.length
  ·have p:decide ((A.length:Int)<((z3i (A++B)).length:Int))=true:=decide_eq_true (by omega)
   simp only [hget A.length (by omega),n]
   have c:(A++B).getD A.length default∈B:=by
    have:(A++B).getD A.length default=B[0]:=by simp [List.getD_eq_getElem?_getD,hb]
    rw [this];exact List.getElem_mem hb
   obtain⟨i,d,u,f⟩:=y _ c
   rw [f]
   have b:=a.rng i (by omega)
   have g:ix (lw m.rows.length P) ((P.getD i default).st:Int)=(P.getD i default).wd:=by rw [om,z7t b,a.wdOf (by omega)]
   have t:=(a.wok i (by omega)).2
   rw [g,zm (fun _=>qx (by omega)),zm (fun _=>qx (by rw [z2g];exact b)),zm (fun _=>okw),zgv (fun _=>q2d (N:=N) (a.inc j i d u) (by omega) (by omega))]
   exact cf (by rw [p];rfl)
  ·have p:decide ((A.length:Int)<((z3i (A++B)).length:Int))=false:=decide_eq_false (by omega)
   rw [p,zm (fun h=>by simp at h),zm (fun h=>by simp at h),zm (fun h=>by simp at h),q1v (by rfl)]
   rfl
theorem zux{N:Nat}{m:Mach}(e:MOk m)(o:400≤N)(p:m.rows.length≤6)(q:m.inputs≤3):z1n N m=some (z3i (rch m 0)):=by
 have c:=zpo e
 have g:=e.r2
 unfold z1n
 rw [qc (zrl e o p q)]
 generalize rch m 0=P at*
 have r:=c.le
 have s:bf N (lw m.rows.length P,z0j m.rows.length P) N [] 0=some (z3i P):=by
  refine ug (σ:=List Int) (fun F k st=>bf N (lw m.rows.length P,z0j m.rows.length P) F st (k:Int)) m.rows.length (fun k st=>st=z3i (z07 k P)) _ (fun F k st i a=>?_) (fun F st a=>?_) N 0 _ (Nat.zero_le _) (by omega) (by unfold z07 z3i;simp)
  ·subst a
   right
   refine⟨_,rfl,?_⟩
   have hixs:ix (z0j m.rows.length P) (k:Int)=occ P k:=by rw [om,z7z i]
   simp only [bf,hixs]
   rw [uy (by rw [z2g];omega)]
   refine(qc (x:=z3i (z07 (k+1) P)) ?_).trans (zm (qo (by omega)))
   rw [zm (qx (by rw [z4d];exact i))]
   cases ho:occ P k
   ·rw [ct (b:= !false) rfl,zrh ho]
   ·rw [cf (b:= !true) rfl]
    obtain⟨j,l,rfl⟩:=z3q.1 ho
    obtain⟨n,h⟩:=zi4 c l
    have hlen:=zly c (P.getD j default).st
    rw [qc (zz0 (by omega) c g l),n,h]
    rw [h] at hlen
    generalize z07 (P.getD j default).st (P.take j)=A at*
    generalize z07 (P.getD j default).st (P.drop (j+1))=B at*
    have d:(z3i A).length=A.length:=by simp [z3i]
    have t:(z3i B).length=B.length:=by simp [z3i]
    rw [zi3] at hlen⊢
    rw [List.length_append] at hlen
    have u:cut (z3i A++z3i B) 0 (A.length:Int)=z3i A:=by rw [zzj,←d,List.take_left]
    have v:cut (z3i A++z3i B) (A.length:Int) ((z3i A++z3i B).length:Int)=z3i B:=by
     unfold cut
     rw [Int.toNat_natCast,Int.toNat_natCast,←d,List.drop_left,List.take_of_length_le (by rw [List.length_append];omega)]
    have f: ∀ {X Y:List Int},X.length≤1000→Y.length≤1000→fits 8 X Y:=fun n h=>⟨by omega,by omega⟩
    have la:(z3i A++z3i B).length=A.length+B.length:=by rw [List.length_append];omega
    rw [zm ⟨by omega,by omega,by omega⟩,u,zm (f (by simp) (by omega)),List.nil_append,zm (f (by omega) (by simp)),zm ⟨by omega,by omega,by omega⟩,v,zm (f (by rw [List.length_append];simp;omega) (by omega))]
    rw [zi3,List.append_assoc];rfl
  ·subst a
   simp only [bf]
   rw [ul (by rw [z2g];omega),zum c]
 rw [qc s]
end GV
end Go.Proofs.Ytplgbkaollfmkaa

namespace Go.Proofs.Ytplgbkaollfmkaa
namespace GV
set_option maxRecDepth 100000
structure Num (n:Nat) (L:List Nat):Prop where
 len:L.length=n
 rng: ∀ k,k<n→L.getD k 0<n
 inj: ∀ i j,i<n→j<n→L.getD i 0=L.getD j 0→i=j
 sur: ∀ s,s<n→ ∃ k,k<n∧L.getD k 0=s
 zero:L.getD 0 0=0
def tr(a b k:Nat):Nat:=if k=b then a else if k=a then b else k
section
variable {m : Mach} {L : List Nat}
end
theorem zil{α β:Type}{b:Bool}{e:Option α}{v:α}{k:Option α→Option β}(a:b=true)(c:e=some v):bd (gop b e) k=k (some v):=by
 rw [zgv (fun _=>c),a];rfl
end GV
end Go.Proofs.Ytplgbkaollfmkaa

namespace Go.Proofs.Ytplgbkaollfmkaa
namespace GV
set_option maxRecDepth 100000
theorem zkb{P:List BE}{k:Nat}(a:k<P.length):ix (z3i P) (k:Int)=((P.getD k default).st:Int):=by
 rw [om];unfold z3i
 rw [List.getD_eq_getElem?_getD,List.getElem?_map,List.getD_eq_getElem?_getD,List.getElem?_eq_getElem a];rfl
theorem zz5(P:List BE):(z3i P).length=P.length:=by simp [z3i]
end GV
end Go.Proofs.Ytplgbkaollfmkaa

namespace Go.Proofs.Ytplgbkaollfmkaa
namespace GV
set_option maxRecDepth 100000
end GV
end Go.Proofs.Ytplgbkaollfmkaa

namespace Go.Proofs.Ytplgbkaollfmkaa
namespace GV
set_option maxRecDepth 100000
section
variable {N : Nat} {m : Mach}
end
end GV
end Go.Proofs.Ytplgbkaollfmkaa
