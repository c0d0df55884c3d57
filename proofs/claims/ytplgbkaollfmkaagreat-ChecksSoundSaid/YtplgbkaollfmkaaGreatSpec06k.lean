
import Derived.Test.YtplgbkaollfmkaaGreatPart06
set_option linter.unusedVariables false
set_option linter.unusedSimpArgs false
namespace Go.Proofs.YtplgbkaollfmkaaGreat
namespace GV
set_option maxRecDepth 100000
end GV
end Go.Proofs.YtplgbkaollfmkaaGreat

namespace Go.Proofs.YtplgbkaollfmkaaGreat
namespace GV
set_option maxRecDepth 100000
theorem q45(L:List Nat)(t:Nat):pos L (t:Int)=(L.idxOf t:Int):=by
 unfold pos;rw [if_neg (by omega),Int.toNat_natCast]
section
variable {m : Mach} {L : List Nat}
theorem zyn:(zkd m L).rows.length=L.length:=by simp [zkd]
end
/-! ### The states in their order-/
def znq(P:List BE):List Nat:=P.map (·.st)
theorem zrd(P:List BE):(znq P).length=P.length:=by simp [znq]
theorem zl2{P:List BE}{s:Nat}:s∈znq P↔ ∃ j,j<P.length∧(P.getD j default).st=s:=by
 unfold znq;rw [List.mem_map]
 constructor
 ·rintro⟨e,b,rfl⟩
  obtain⟨j,a,rfl⟩:=List.mem_iff_getElem.1 b
  exact⟨j,a,by simp [List.getD_eq_getElem?_getD,a]⟩
 ·rintro⟨j,a,rfl⟩;exact⟨_,lq a,rfl⟩
section
variable {m : Mach} {s0 : Nat} {P : List BE}
theorem q0d(b:Rch m s0 P):(znq P).Nodup:=by
 unfold znq
 rw [List.nodup_iff_pairwise_ne,List.pairwise_iff_getElem]
 intro i j hi a c e
 rw [List.length_map] at hi a
 rw [List.getElem_map,List.getElem_map] at e
 have:=b.dis i j hi a (by simpa [List.getD_eq_getElem?_getD,a,hi] using e)
 omega
theorem zu7(a:Rch m s0 P):ClosedP m (znq P):=by
 refine⟨fun s b=>?_,q0d a,fun s b i hi c=>?_,fun e=>?_⟩
 ·obtain⟨j,d,rfl⟩:=zl2.1 b
  exact a.rng j d
 ·obtain⟨q,g,rfl⟩:=zl2.1 b
  obtain⟨j,d,h,_⟩:=a.cls q i g hi c
  exact zl2.2 ⟨j,d,by omega⟩
 ·have f:=zrd P
  rw [e] at f
  have:=a.pos
  simp at f;omega
end
def q73(m:Mach):Mach:=zkd m (znq (rch m 0))
section
variable {m : Mach} {L : List Nat}
theorem zpo(a:MOk m):Rch m 0 (rch m 0):=zh5 a (by have:=a.r1;omega)
theorem q4f(a:MOk m):MOk (q73 m):=q2b a (zu7 (zpo a))
end
end GV
end Go.Proofs.YtplgbkaollfmkaaGreat

namespace Go.Proofs.YtplgbkaollfmkaaGreat
namespace GV
set_option maxRecDepth 100000
theorem zld: ∀ {a b:List Int} {k:Nat},k<a.length→k<b.length→a.take k=b.take k→a.getD k default<b.getD k default→z8p a b
 | [],_,_,h,_,_,_=>by simp at h
 |_::_,[],_,_,h,_,_=>by simp at h
 |x::a,y::b,0,_,_,_,h=> .inl h
 |x::a,y::b,k+1,d,e,c,h=>by
  rw [List.take_succ_cons,List.take_succ_cons] at c
  obtain⟨rfl,ht'⟩:=List.cons.inj c
  exact .inr ⟨rfl,zld (k:=k) (by simpa using d) (by simpa using e) ht' h⟩
theorem q0i{N:Nat}{a b:List Int}(d:a.length=b.length)(i:a.length<N)(j:a.length≤1000000){r:Ex Unit Int}(e:z8p a b→r=Ex.rt 1)(f:z8p b a→r=Ex.rt 0)(g:a=b→r=Ex.go ()):mg N a b N 0=some r:=by
 refine uk (σ:=Unit) (fun F k _=>mg N a b F (k:Int)) a.length (fun k _=>a.take k=b.take k) r (fun F k _ c hi=>?_) (fun F _ hi=>?_) N 0 () (Nat.zero_le _) (by omega) rfl
 ·simp only [mg]
  have oa:okI a (k:Int):=qo c
  have ob:okI b (k:Int):=qo (by omega)
  rw [uy (by omega),zk oa,zk ob]
  rcases Int.lt_trichotomy (ix a (k:Int)) (ix b (k:Int)) with h|h|h
  ·left
   rw [uy (by omega),zk oa,zk ob,uy h,e (zld c (by omega) hi h)]
  ·right
   refine⟨(),?_,?_⟩
   ·rw [zcm a k c,zcm b k (by omega),hi,show a.getD k default=b.getD k default from h]
   ·rw [uo (by omega)];exact zk (qm (by omega))
  ·left
   rw [uy (by omega),zk oa,zk ob,uo (by omega),f (zld (by omega) c hi.symm h)]
 ·simp only [mg]
  rw [uo (by omega),g (by rw [List.take_length,d,List.take_length] at hi;exact hi)]
theorem q5v{N:Nat}{a b:List Int}(h:llt a b)(c:a.length<N)(d:a.length≤1000000):z0k N a b=some 1:=by
 unfold z0k
 rcases h with h|⟨f,h⟩
 ·rw [uy (by omega),uy (by omega)]
 ·rw [uo (by omega),qc (q0i f c d (r:=Ex.rt 1) (fun _=>rfl) (fun k=>absurd (zbz h k) (z7b _)) (fun e=>by rw [e] at h;exact absurd h (z7b _)))];rfl
theorem q5u{N:Nat}{a b:List Int}(h:llt b a)(c:a.length<N)(d:a.length≤1000000):z0k N a b=some 0:=by
 unfold z0k
 rcases h with h|⟨f,h⟩
 ·rw [uy (by omega),uo (by omega)]
 ·rw [uo (by omega),qc (q0i f.symm c d (r:=Ex.rt 0) (fun k=>absurd (zbz h k) (z7b _)) (fun _=>rfl) (fun e=>by rw [e] at h;exact absurd h (z7b _)))];rfl
def z18(s:Nat)(P:List BE):List BE:=P.filter fun e=>decide (e.st<s)
theorem zk7{m:Mach}{s0:Nat}{P:List BE}(f:Rch m s0 P){j:Nat}(c:j<P.length):
 z18 ((P.getD j default).st+1) P=z18 (P.getD j default).st (P.take j)++P.getD j default::z18 (P.getD j default).st (P.drop (j+1))∧
 z18 (P.getD j default).st P=z18 (P.getD j default).st (P.take j)++z18 (P.getD j default).st (P.drop (j+1)):=by
 have d:P=P.take j++P.getD j default::P.drop (j+1):=by rw [←zfj P j c,List.take_append_drop]
 have key: ∀ i,i<P.length→i≠j→decide ((P.getD i default).st<(P.getD j default).st+1)=decide ((P.getD i default).st<(P.getD j default).st):=fun i hi a=>by
  have:(P.getD i default).st≠(P.getD j default).st:=fun e=>a (f.dis i j hi c e)
  rw [decide_eq_decide];omega
 generalize hx:P.getD j default=x at*
 have g:z18 (x.st+1) (P.take j)=z18 x.st (P.take j):=by
  refine List.filter_congr fun e b=>?_
  obtain⟨i,hi,rfl⟩:=List.mem_iff_getElem.1 b
  rw [List.length_take] at hi
  have:=key i (by omega) (by omega)
  rw [List.getElem_take]
  rwa [show P.getD i default=P[i]'(by omega) by simp [List.getD_eq_getElem?_getD,show i<P.length by omega]] at this
 have h:z18 (x.st+1) (P.drop (j+1))=z18 x.st (P.drop (j+1)):=by
  refine List.filter_congr fun e b=>?_
  obtain⟨i,hi,rfl⟩:=List.mem_iff_getElem.1 b
  rw [List.length_drop] at hi
  have:=key (j+1+i) (by omega) (by omega)
  rw [List.getElem_drop]
  rwa [show P.getD (j+1+i) default=P[j+1+i]'(by omega) by simp [List.getD_eq_getElem?_getD,show j+1+i<P.length by omega]] at this
 constructor
 ·conv=>lhs;rw [d]
  unfold z18 at*
  rw [List.filter_append,List.filter_cons,if_pos (decide_eq_true (by omega)),g,h]
 ·conv=>lhs;rw [d]
  unfold z18
  rw [List.filter_append,List.filter_cons,if_neg (by simp)]
theorem zux{P:List BE}{s:Nat}(h:occ P s=false):z18 (s+1) P=z18 s P:=by
 refine List.filter_congr fun e b=>?_
 have:e.st≠s:=fun a=>by
  have:occ P s=true:=List.any_eq_true.2 ⟨e,b,decide_eq_true a⟩
  rw [h] at this;cases this
 rw [decide_eq_decide];omega
theorem zy4{m:Mach}{s0:Nat}{P:List BE}(a:Rch m s0 P):z18 m.rows.length P=P:=by
 unfold z18
 rw [List.filter_eq_self]
 intro e b
 obtain⟨i,hi,rfl⟩:=List.mem_iff_getElem.1 b
 have:=a.rng i hi
 rw [show P.getD i default=P[i] by simp [List.getD_eq_getElem?_getD,hi]] at this
 exact decide_eq_true this
theorem zor{m:Mach}{s0:Nat}{P:List BE}(a:Rch m s0 P)(s:Nat):(z4n (z18 s P)).length≤P.length:=by
 unfold z4n z18;rw [List.length_map];exact List.length_filter_le _ _
theorem zkg(X Y:List BE):z4n (X++Y)=z4n X++z4n Y:=by simp [z4n]
theorem q2t{N:Nat}{m:Mach}(z:200≤N){s0:Nat}{P:List BE}(a:Rch m s0 P)(v:m.rows.length≤64){j:Nat}(q:j<P.length):
 cz N (z0y m.rows.length P,z1o m.rows.length P) (z4n (z18 (P.getD j default).st P)) ((P.getD j default).st:Int) N 0=some ((z18 (P.getD j default).st (P.take j)).length:Int):=by
 obtain⟨_,r⟩:=zk7 a q
 have w:=a.le
 have l:=a.rng j q
 have x: ∀ e∈z18 (P.getD j default).st (P.take j),∃ i,i<j∧e=P.getD i default:=fun e c=>by
  obtain⟨i,hi,rfl⟩:=List.mem_iff_getElem.1 (List.mem_filter.1 c).1
  rw [List.length_take] at hi
  exact⟨i,by omega,by rw [List.getElem_take];simp [List.getD_eq_getElem?_getD,show i<P.length by omega]⟩
 have y: ∀ e∈z18 (P.getD j default).st (P.drop (j+1)),∃ i,j<i∧i<P.length∧e=P.getD i default:=fun e c=>by
  obtain⟨i,hi,rfl⟩:=List.mem_iff_getElem.1 (List.mem_filter.1 c).1
  rw [List.length_drop] at hi
  exact⟨j+1+i,by omega,by omega,by rw [List.getElem_drop];simp [List.getD_eq_getElem?_getD,show j+1+i<P.length by omega]⟩
 have hlen:=zor a (P.getD j default).st
 rw [r] at hlen⊢
 generalize hx:z18 (P.getD j default).st (P.take j)=A at*
 generalize z18 (P.getD j default).st (P.drop (j+1))=B at*
 have n:ix (z0y m.rows.length P) ((P.getD j default).st:Int)=(P.getD j default).wd:=by rw [ak,z9m l,a.wdOf q]
 have okw:okI (z0y m.rows.length P) ((P.getD j default).st:Int):=qo (by rw [z3u];exact l)
 have s:(z4n (A++B)).length=A.length+B.length:=by simp [z4n]
 have hget: ∀ k,k<A.length+B.length→ix (z4n (A++B)) (k:Int)=(((A++B).getD k default).st:Int):=fun k o=>by
  have hk':k<(A++B).length:=by rw [List.length_append];exact o
  rw [ak]
  unfold z4n
  rw [List.getD_eq_getElem?_getD,List.getElem?_map,List.getD_eq_getElem?_getD,List.getElem?_eq_getElem hk'];rfl
 refine uk (σ:=Unit) (fun F k _=>cz N (z0y m.rows.length P,z1o m.rows.length P) (z4n (A++B)) ((P.getD j default).st:Int) F (k:Int)) A.length (fun _ _=>True) _ (fun F k _ o _=>?_) (fun F _ _=>?_) N 0 () (Nat.zero_le _) (by omega) trivial
 ·right
  refine⟨(),trivial,?_⟩
  simp only [cz,hget k (by omega),n]
  have c:(A++B).getD k default∈A:=by
   have:(A++B).getD k default=A[k]:=by simp [List.getD_eq_getElem?_getD,List.getElem?_append_left o,o]
   rw [this];exact List.getElem_mem o
  obtain⟨i,d,f⟩:=x _ c
  rw [f]
  have b:=a.rng i (by omega)
  have g:ix (z0y m.rows.length P) ((P.getD i default).st:Int)=(P.getD i default).wd:=by rw [ak,z9m b,a.wdOf (by omega)]
  have t:=(a.wok i (by omega)).2
  rw [g,zk (fun _=>qo (by omega)),zk (fun _=>qo (by rw [z3u];exact b)),zk (fun _=>okw),zef (fun _=>q5v (N:=N) (a.inc i j d q) (by omega) (by omega))]
  have p:decide ((k:Int)<((z4n (A++B)).length:Int))=true:=decide_eq_true (by omega)
  refine(ct (by rw [p];rfl)).trans ?_
  exact zk (qm (by omega))
 ·simp only [cz]
  by_cases hb:0<B.length
  ·have p:decide ((A.length:Int)<((z4n (A++B)).length:Int))=true:=decide_eq_true (by omega)
   simp only [hget A.length (by omega),n]
   have c:(A++B).getD A.length default∈B:=by
    have:(A++B).getD A.length default=B[0]:=by simp [List.getD_eq_getElem?_getD,hb]
    rw [this];exact List.getElem_mem hb
   obtain⟨i,d,u,f⟩:=y _ c
   rw [f]
   have b:=a.rng i (by omega)
   have g:ix (z0y m.rows.length P) ((P.getD i default).st:Int)=(P.getD i default).wd:=by rw [ak,z9m b,a.wdOf (by omega)]
   have t:=(a.wok i (by omega)).2
   rw [g,zk (fun _=>qo (by omega)),zk (fun _=>qo (by rw [z3u];exact b)),zk (fun _=>okw),zef (fun _=>q5u (N:=N) (a.inc j i d u) (by omega) (by omega))]
   exact cf (by rw [p];rfl)
  ·have p:decide ((A.length:Int)<((z4n (A++B)).length:Int))=false:=decide_eq_false (by omega)
   rw [p,zk (fun h=>by simp at h),zk (fun h=>by simp at h),zk (fun h=>by simp at h),q5f (by rfl)]
   rfl
theorem zxi{N:Nat}{m:Mach}(e:MOk m)(o:400≤N)(p:m.rows.length≤6)(q:m.inputs≤3):z2y N m=some (z4n (rch m 0)):=by
 have c:=zpo e
 have g:=e.r2
 unfold z2y
 rw [qc (zuq e o p q)]
 generalize rch m 0=P at*
 have r:=c.le
 have s:dz N (z0y m.rows.length P,z1o m.rows.length P) N [] 0=some (z4n P):=by
  refine uk (σ:=List Int) (fun F k st=>dz N (z0y m.rows.length P,z1o m.rows.length P) F st (k:Int)) m.rows.length (fun k st=>st=z4n (z18 k P)) _ (fun F k st i a=>?_) (fun F st a=>?_) N 0 _ (Nat.zero_le _) (by omega) (by unfold z18 z4n;simp)
  ·subst a
   right
   refine⟨_,rfl,?_⟩
   have hixs:ix (z1o m.rows.length P) (k:Int)=occ P k:=by rw [ak,z9q i]
   simp only [dz,hixs]
   rw [uy (by rw [z3u];omega)]
   refine(qc (x:=z4n (z18 (k+1) P)) ?_).trans (zk (qm (by omega)))
   rw [zk (qo (by rw [z5b];exact i))]
   cases ho:occ P k
   ·rw [ct (b:= !false) rfl,zux ho]
   ·rw [cf (b:= !true) rfl]
    obtain⟨j,l,rfl⟩:=z4z.1 ho
    obtain⟨n,h⟩:=zk7 c l
    have hlen:=zor c (P.getD j default).st
    rw [qc (q2t (by omega) c g l),n,h]
    rw [h] at hlen
    generalize z18 (P.getD j default).st (P.take j)=A at*
    generalize z18 (P.getD j default).st (P.drop (j+1))=B at*
    have d:(z4n A).length=A.length:=by simp [z4n]
    have t:(z4n B).length=B.length:=by simp [z4n]
    rw [zkg] at hlen⊢
    rw [List.length_append] at hlen
    have u:cut (z4n A++z4n B) 0 (A.length:Int)=z4n A:=by rw [q2i,←d,List.take_left]
    have v:cut (z4n A++z4n B) (A.length:Int) ((z4n A++z4n B).length:Int)=z4n B:=by
     unfold cut
     rw [Int.toNat_natCast,Int.toNat_natCast,←d,List.drop_left,List.take_of_length_le (by rw [List.length_append];omega)]
    have f: ∀ {X Y:List Int},X.length≤1000→Y.length≤1000→fits 8 X Y:=fun n h=>⟨by omega,by omega⟩
    have la:(z4n A++z4n B).length=A.length+B.length:=by rw [List.length_append];omega
    rw [zk ⟨by omega,by omega,by omega⟩,u,zk (f (by simp) (by omega)),List.nil_append,zk (f (by omega) (by simp)),zk ⟨by omega,by omega,by omega⟩,v,zk (f (by rw [List.length_append];simp;omega) (by omega))]
    rw [zkg,List.append_assoc];rfl
  ·subst a
   simp only [dz]
   rw [uo (by rw [z3u];omega),zy4 c]
 rw [qc s]
end GV
end Go.Proofs.YtplgbkaollfmkaaGreat

namespace Go.Proofs.YtplgbkaollfmkaaGreat
namespace GV
set_option maxRecDepth 100000
structure Num (n:Nat) (L:List Nat):Prop where
 len:L.length=n
 rng: ∀ k,k<n→L.getD k 0<n
 inj: ∀ i j,i<n→j<n→L.getD i 0=L.getD j 0→i=j
 sur: ∀ s,s<n→ ∃ k,k<n∧L.getD k 0=s
 zero:L.getD 0 0=0
def tr(a b k:Nat):Nat:=if k=b then a else if k=a then b else k
section
variable {m : Mach} {L : List Nat}
end
theorem zq6{α β:Type}{b:Bool}{e:Option α}{v:α}{k:Option α→Option β}(a:b=true)(c:e=some v):bd (gop b e) k=k (some v):=by
 rw [zef (fun _=>c),a];rfl
end GV
end Go.Proofs.YtplgbkaollfmkaaGreat

namespace Go.Proofs.YtplgbkaollfmkaaGreat
namespace GV
set_option maxRecDepth 100000
theorem zle{P:List BE}{k:Nat}(a:k<P.length):ix (z4n P) (k:Int)=((P.getD k default).st:Int):=by
 rw [ak];unfold z4n
 rw [List.getD_eq_getElem?_getD,List.getElem?_map,List.getD_eq_getElem?_getD,List.getElem?_eq_getElem a];rfl
theorem q2k(P:List BE):(z4n P).length=P.length:=by simp [z4n]
end GV
end Go.Proofs.YtplgbkaollfmkaaGreat

namespace Go.Proofs.YtplgbkaollfmkaaGreat
namespace GV
set_option maxRecDepth 100000
end GV
end Go.Proofs.YtplgbkaollfmkaaGreat

namespace Go.Proofs.YtplgbkaollfmkaaGreat
namespace GV
set_option maxRecDepth 100000
section
variable {N : Nat} {m : Mach}
end
end GV
end Go.Proofs.YtplgbkaollfmkaaGreat
