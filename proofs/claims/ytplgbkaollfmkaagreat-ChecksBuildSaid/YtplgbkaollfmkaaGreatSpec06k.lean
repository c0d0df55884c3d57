
import Derived.Test.YtplgbkaollfmkaaGreatPart06
set_option linter.unusedVariables false
set_option linter.unusedSimpArgs false
namespace Go.Proofs.YtplgbkaollfmkaaGreat
namespace GV
set_option maxRecDepth 100000
end GV
end Go.Proofs.YtplgbkaollfmkaaGreat

namespace Go.Proofs.YtplgbkaollfmkaaGreat
namespace GV
set_option maxRecDepth 100000
theorem q59(L:List Nat)(t:Nat):pos L (t:Int)=(L.idxOf t:Int):=by
 unfold pos;rw [if_neg (by omega),Int.toNat_natCast]
section
variable {m : Mach} {L : List Nat}
theorem zzg:(zkb m L).rows.length=L.length:=by simp [zkb]
end
/-! ### The states in their order-/
def zo2(P:List BE):List Nat:=P.map (·.st)
theorem ztf(P:List BE):(zo2 P).length=P.length:=by simp [zo2]
theorem zl3{P:List BE}{s:Nat}:s∈zo2 P↔ ∃ j,j<P.length∧(P.getD j default).st=s:=by
 unfold zo2;rw [List.mem_map]
 constructor
 ·rintro⟨e,b,rfl⟩
  obtain⟨j,a,rfl⟩:=List.mem_iff_getElem.1 b
  exact⟨j,a,by simp [List.getD_eq_getElem?_getD,a]⟩
 ·rintro⟨j,a,rfl⟩;exact⟨_,l8 a,rfl⟩
section
variable {m : Mach} {s0 : Nat} {P : List BE}
theorem q10(b:Rch m s0 P):(zo2 P).Nodup:=by
 unfold zo2
 rw [List.nodup_iff_pairwise_ne,List.pairwise_iff_getElem]
 intro i j hi a c e
 rw [List.length_map] at hi a
 rw [List.getElem_map,List.getElem_map] at e
 have:=b.dis i j hi a (by simpa [List.getD_eq_getElem?_getD,a,hi] using e)
 omega
theorem zv0(a:Rch m s0 P):ClosedP m (zo2 P):=by
 refine⟨fun s b=>?_,q10 a,fun s b i hi c=>?_,fun e=>?_⟩
 ·obtain⟨j,d,rfl⟩:=zl3.1 b
  exact a.rng j d
 ·obtain⟨q,g,rfl⟩:=zl3.1 b
  obtain⟨j,d,h,_⟩:=a.cls q i g hi c
  exact zl3.2 ⟨j,d,by omega⟩
 ·have f:=ztf P
  rw [e] at f
  have:=a.pos
  simp at f;omega
end
def q7b(m:Mach):Mach:=zkb m (zo2 (rch m 0))
section
variable {m : Mach} {L : List Nat}
theorem zql(a:MOk m):Rch m 0 (rch m 0):=zdp a (by have:=a.r1;omega)
theorem q48(a:MOk m):MOk (q7b m):=q00 a (zv0 (zql a))
end
end GV
end Go.Proofs.YtplgbkaollfmkaaGreat

namespace Go.Proofs.YtplgbkaollfmkaaGreat
namespace GV
set_option maxRecDepth 100000
theorem zma: ∀ {a b:List Int} {k:Nat},k<a.length→k<b.length→a.take k=b.take k→a.getD k default<b.getD k default→z90 a b
 | [],_,_,h,_,_,_=>by simp at h
 |_::_,[],_,_,h,_,_=>by simp at h
 |x::a,y::b,0,_,_,_,h=> .inl h
 |x::a,y::b,k+1,d,e,c,h=>by
  rw [List.take_succ_cons,List.take_succ_cons] at c
  obtain⟨rfl,ht'⟩:=List.cons.inj c
  exact .inr ⟨rfl,zma (k:=k) (by simpa using d) (by simpa using e) ht' h⟩
theorem q0v{N:Nat}{a b:List Int}(d:a.length=b.length)(i:a.length<N)(j:a.length≤1000000){r:Ex Unit Int}(e:z90 a b→r=Ex.rt 1)(f:z90 b a→r=Ex.rt 0)(g:a=b→r=Ex.go ()):mf N a b N 0=some r:=by
 refine kz (σ:=Unit) (fun F k _=>mf N a b F (k:Int)) a.length (fun k _=>a.take k=b.take k) r (fun F k _ c hi=>?_) (fun F _ hi=>?_) N 0 () (Nat.zero_le _) (by omega) rfl
 ·simp only [mf]
  have oa:okI a (k:Int):=ql c
  have ob:okI b (k:Int):=ql (by omega)
  rw [ui (by omega),zh oa,zh ob]
  rcases Int.lt_trichotomy (ix a (k:Int)) (ix b (k:Int)) with h|h|h
  ·left
   rw [ui (by omega),zh oa,zh ob,ui h,e (zma c (by omega) hi h)]
  ·right
   refine⟨(),?_,?_⟩
   ·rw [zcn a k c,zcn b k (by omega),hi,show a.getD k default=b.getD k default from h]
   ·rw [uh (by omega)];exact zh (qh (by omega))
  ·left
   rw [ui (by omega),zh oa,zh ob,uh (by omega),f (zma (by omega) c hi.symm h)]
 ·simp only [mf]
  rw [uh (by omega),g (by rw [List.take_length,d,List.take_length] at hi;exact hi)]
theorem q6x{N:Nat}{a b:List Int}(h:llt a b)(c:a.length<N)(d:a.length≤1000000):z0w N a b=some 1:=by
 unfold z0w
 rcases h with h|⟨f,h⟩
 ·rw [ui (by omega),ui (by omega)]
 ·rw [uh (by omega),q8 (q0v f c d (r:=Ex.rt 1) (fun _=>rfl) (fun k=>absurd (zbt h k) (z7e _)) (fun e=>by rw [e] at h;exact absurd h (z7e _)))];rfl
theorem q6d{N:Nat}{a b:List Int}(h:llt b a)(c:a.length<N)(d:a.length≤1000000):z0w N a b=some 0:=by
 unfold z0w
 rcases h with h|⟨f,h⟩
 ·rw [ui (by omega),uh (by omega)]
 ·rw [uh (by omega),q8 (q0v f.symm c d (r:=Ex.rt 0) (fun k=>absurd (zbt h k) (z7e _)) (fun _=>rfl) (fun e=>by rw [e] at h;exact absurd h (z7e _)))];rfl
def z1j(s:Nat)(P:List BE):List BE:=P.filter fun e=>decide (e.st<s)
theorem zkk{m:Mach}{s0:Nat}{P:List BE}(f:Rch m s0 P){j:Nat}(c:j<P.length):
 z1j ((P.getD j default).st+1) P=z1j (P.getD j default).st (P.take j)++P.getD j default::z1j (P.getD j default).st (P.drop (j+1))∧
 z1j (P.getD j default).st P=z1j (P.getD j default).st (P.take j)++z1j (P.getD j default).st (P.drop (j+1)):=by
 have d:P=P.take j++P.getD j default::P.drop (j+1):=by rw [←zfz P j c,List.take_append_drop]
 have key: ∀ i,i<P.length→i≠j→decide ((P.getD i default).st<(P.getD j default).st+1)=decide ((P.getD i default).st<(P.getD j default).st):=fun i hi a=>by
  have:(P.getD i default).st≠(P.getD j default).st:=fun e=>a (f.dis i j hi c e)
  rw [decide_eq_decide];omega
 generalize hx:P.getD j default=x at*
 have g:z1j (x.st+1) (P.take j)=z1j x.st (P.take j):=by
  refine List.filter_congr fun e b=>?_
  obtain⟨i,hi,rfl⟩:=List.mem_iff_getElem.1 b
  rw [List.length_take] at hi
  have:=key i (by omega) (by omega)
  rw [List.getElem_take]
  rwa [show P.getD i default=P[i]'(by omega) by simp [List.getD_eq_getElem?_getD,show i<P.length by omega]] at this
 have h:z1j (x.st+1) (P.drop (j+1))=z1j x.st (P.drop (j+1)):=by
  refine List.filter_congr fun e b=>?_
  obtain⟨i,hi,rfl⟩:=List.mem_iff_getElem.1 b
  rw [List.length_drop] at hi
  have:=key (j+1+i) (by omega) (by omega)
  rw [List.getElem_drop]
  rwa [show P.getD (j+1+i) default=P[j+1+i]'(by omega) by simp [List.getD_eq_getElem?_getD,show j+1+i<P.length by omega]] at this
 constructor
 ·conv=>lhs;rw [d]
  unfold z1j at*
  rw [List.filter_append,List.filter_cons,if_pos (decide_eq_true (by omega)),g,h]
 ·conv=>lhs;rw [d]
  unfold z1j
  rw [List.filter_append,List.filter_cons,if_neg (by simp)]
theorem zvs{P:List BE}{s:Nat}(h:occ P s=false):z1j (s+1) P=z1j s P:=by
 refine List.filter_congr fun e b=>?_
 have:e.st≠s:=fun a=>by
  have:occ P s=true:=List.any_eq_true.2 ⟨e,b,decide_eq_true a⟩
  rw [h] at this;cases this
 rw [decide_eq_decide];omega
theorem zxr{m:Mach}{s0:Nat}{P:List BE}(a:Rch m s0 P):z1j m.rows.length P=P:=by
 unfold z1j
 rw [List.filter_eq_self]
 intro e b
 obtain⟨i,hi,rfl⟩:=List.mem_iff_getElem.1 b
 have:=a.rng i hi
 rw [show P.getD i default=P[i] by simp [List.getD_eq_getElem?_getD,hi]] at this
 exact decide_eq_true this
theorem zoh{m:Mach}{s0:Nat}{P:List BE}(a:Rch m s0 P)(s:Nat):(z16 (z1j s P)).length≤P.length:=by
 unfold z16 z1j;rw [List.length_map];exact List.length_filter_le _ _
theorem zkh(X Y:List BE):z16 (X++Y)=z16 X++z16 Y:=by simp [z16]
theorem q28{N:Nat}{m:Mach}(z:200≤N){s0:Nat}{P:List BE}(a:Rch m s0 P)(v:m.rows.length≤64){j:Nat}(q:j<P.length):
 di N (o9 m.rows.length P,z08 m.rows.length P) (z16 (z1j (P.getD j default).st P)) ((P.getD j default).st:Int) N 0=some ((z1j (P.getD j default).st (P.take j)).length:Int):=by
 obtain⟨_,r⟩:=zkk a q
 have w:=a.le
 have l:=a.rng j q
 have x: ∀ e∈z1j (P.getD j default).st (P.take j),∃ i,i<j∧e=P.getD i default:=fun e c=>by
  obtain⟨i,hi,rfl⟩:=List.mem_iff_getElem.1 (List.mem_filter.1 c).1
  rw [List.length_take] at hi
  exact⟨i,by omega,by rw [List.getElem_take];simp [List.getD_eq_getElem?_getD,show i<P.length by omega]⟩
 have y: ∀ e∈z1j (P.getD j default).st (P.drop (j+1)),∃ i,j<i∧i<P.length∧e=P.getD i default:=fun e c=>by
  obtain⟨i,hi,rfl⟩:=List.mem_iff_getElem.1 (List.mem_filter.1 c).1
  rw [List.length_drop] at hi
  exact⟨j+1+i,by omega,by omega,by rw [List.getElem_drop];simp [List.getD_eq_getElem?_getD,show j+1+i<P.length by omega]⟩
 have hlen:=zoh a (P.getD j default).st
 rw [r] at hlen⊢
 generalize hx:z1j (P.getD j default).st (P.take j)=A at*
 generalize z1j (P.getD j default).st (P.drop (j+1))=B at*
 have n:ix (o9 m.rows.length P) ((P.getD j default).st:Int)=(P.getD j default).wd:=by rw [dn,z5q l,a.wdOf q]
 have okw:okI (o9 m.rows.length P) ((P.getD j default).st:Int):=ql (by rw [z0x];exact l)
 have s:(z16 (A++B)).length=A.length+B.length:=by simp [z16]
 have hget: ∀ k,k<A.length+B.length→ix (z16 (A++B)) (k:Int)=(((A++B).getD k default).st:Int):=fun k o=>by
  have hk':k<(A++B).length:=by rw [List.length_append];exact o
  rw [dn]
  unfold z16
  rw [List.getD_eq_getElem?_getD,List.getElem?_map,List.getD_eq_getElem?_getD,List.getElem?_eq_getElem hk'];rfl
 refine kz (σ:=Unit) (fun F k _=>di N (o9 m.rows.length P,z08 m.rows.length P) (z16 (A++B)) ((P.getD j default).st:Int) F (k:Int)) A.length (fun _ _=>True) _ (fun F k _ o _=>?_) (fun F _ _=>?_) N 0 () (Nat.zero_le _) (by omega) trivial
 ·right
  refine⟨(),trivial,?_⟩
  simp only [di,hget k (by omega),n]
  have c:(A++B).getD k default∈A:=by
   have:(A++B).getD k default=A[k]:=by simp [List.getD_eq_getElem?_getD,List.getElem?_append_left o,o]
   rw [this];exact List.getElem_mem o
  obtain⟨i,d,f⟩:=x _ c
  rw [f]
  have b:=a.rng i (by omega)
  have g:ix (o9 m.rows.length P) ((P.getD i default).st:Int)=(P.getD i default).wd:=by rw [dn,z5q b,a.wdOf (by omega)]
  have t:=(a.wok i (by omega)).2
  rw [g,zh (fun _=>ql (by omega)),zh (fun _=>ql (by rw [z0x];exact b)),zh (fun _=>okw),zek (fun _=>q6x (N:=N) (a.inc i j d q) (by omega) (by omega))]
  have p:decide ((k:Int)<((z16 (A++B)).length:Int))=true:=decide_eq_true (by omega)
  refine(ct (by rw [p];rfl)).trans ?_
  exact zh (qh (by omega))
 ·simp only [di]
  by_cases hb:0<B.length
  ·have p:decide ((A.length:Int)<((z16 (A++B)).length:Int))=true:=decide_eq_true (by omega)
   simp only [hget A.length (by omega),n]
   have c:(A++B).getD A.length default∈B:=by
    have:(A++B).getD A.length default=B[0]:=by simp [List.getD_eq_getElem?_getD,hb]
    rw [this];exact List.getElem_mem hb
   obtain⟨i,d,u,f⟩:=y _ c
   rw [f]
   have b:=a.rng i (by omega)
   have g:ix (o9 m.rows.length P) ((P.getD i default).st:Int)=(P.getD i default).wd:=by rw [dn,z5q b,a.wdOf (by omega)]
   have t:=(a.wok i (by omega)).2
   rw [g,zh (fun _=>ql (by omega)),zh (fun _=>ql (by rw [z0x];exact b)),zh (fun _=>okw),zek (fun _=>q6d (N:=N) (a.inc j i d u) (by omega) (by omega))]
   exact cf (by rw [p];rfl)
  ·have p:decide ((A.length:Int)<((z16 (A++B)).length:Int))=false:=decide_eq_false (by omega)
   rw [p,zh (fun h=>by simp at h),zh (fun h=>by simp at h),zh (fun h=>by simp at h),q5r (by rfl)]
   rfl
theorem zyx{N:Nat}{m:Mach}(e:MOk m)(o:400≤N)(p:m.rows.length≤6)(q:m.inputs≤3):z3o N m=some (z16 (rch m 0)):=by
 have c:=zql e
 have g:=e.r2
 unfold z3o
 rw [q8 (zv9 e o p q)]
 generalize rch m 0=P at*
 have r:=c.le
 have s:dw N (o9 m.rows.length P,z08 m.rows.length P) N [] 0=some (z16 P):=by
  refine kz (σ:=List Int) (fun F k st=>dw N (o9 m.rows.length P,z08 m.rows.length P) F st (k:Int)) m.rows.length (fun k st=>st=z16 (z1j k P)) _ (fun F k st i a=>?_) (fun F st a=>?_) N 0 _ (Nat.zero_le _) (by omega) (by unfold z1j z16;simp)
  ·subst a
   right
   refine⟨_,rfl,?_⟩
   have hixs:ix (z08 m.rows.length P) (k:Int)=occ P k:=by rw [dn,z7x i]
   simp only [dw,hixs]
   rw [ui (by rw [z0x];omega)]
   refine(q8 (x:=z16 (z1j (k+1) P)) ?_).trans (zh (qh (by omega)))
   rw [zh (ql (by rw [z4a];exact i))]
   cases ho:occ P k
   ·rw [ct (b:= !false) rfl,zvs ho]
   ·rw [cf (b:= !true) rfl]
    obtain⟨j,l,rfl⟩:=z4p.1 ho
    obtain⟨n,h⟩:=zkk c l
    have hlen:=zoh c (P.getD j default).st
    rw [q8 (q28 (by omega) c g l),n,h]
    rw [h] at hlen
    generalize z1j (P.getD j default).st (P.take j)=A at*
    generalize z1j (P.getD j default).st (P.drop (j+1))=B at*
    have d:(z16 A).length=A.length:=by simp [z16]
    have t:(z16 B).length=B.length:=by simp [z16]
    rw [zkh] at hlen⊢
    rw [List.length_append] at hlen
    have u:cut (z16 A++z16 B) 0 (A.length:Int)=z16 A:=by rw [q0o,←d,List.take_left]
    have v:cut (z16 A++z16 B) (A.length:Int) ((z16 A++z16 B).length:Int)=z16 B:=by
     unfold cut
     rw [Int.toNat_natCast,Int.toNat_natCast,←d,List.drop_left,List.take_of_length_le (by rw [List.length_append];omega)]
    have f: ∀ {X Y:List Int},X.length≤1000→Y.length≤1000→fits 8 X Y:=fun n h=>⟨by omega,by omega⟩
    have la:(z16 A++z16 B).length=A.length+B.length:=by rw [List.length_append];omega
    rw [zh ⟨by omega,by omega,by omega⟩,u,zh (f (by simp) (by omega)),List.nil_append,zh (f (by omega) (by simp)),zh ⟨by omega,by omega,by omega⟩,v,zh (f (by rw [List.length_append];simp;omega) (by omega))]
    rw [zkh,List.append_assoc];rfl
  ·subst a
   simp only [dw]
   rw [uh (by rw [z0x];omega),zxr c]
 rw [q8 s]
end GV
end Go.Proofs.YtplgbkaollfmkaaGreat

namespace Go.Proofs.YtplgbkaollfmkaaGreat
namespace GV
set_option maxRecDepth 100000
structure Num (n:Nat) (L:List Nat):Prop where
 len:L.length=n
 rng: ∀ k,k<n→L.getD k 0<n
 inj: ∀ i j,i<n→j<n→L.getD i 0=L.getD j 0→i=j
 sur: ∀ s,s<n→ ∃ k,k<n∧L.getD k 0=s
 zero:L.getD 0 0=0
def tr(a b k:Nat):Nat:=if k=b then a else if k=a then b else k
section
variable {m : Mach} {L : List Nat}
end
theorem zge{α β:Type}{b:Bool}{e:Option α}{v:α}{k:Option α→Option β}(a:b=true)(c:e=some v):bd (gop b e) k=k (some v):=by
 rw [zek (fun _=>c),a];rfl
end GV
end Go.Proofs.YtplgbkaollfmkaaGreat

namespace Go.Proofs.YtplgbkaollfmkaaGreat
namespace GV
set_option maxRecDepth 100000
theorem zm3{P:List BE}{k:Nat}(a:k<P.length):ix (z16 P) (k:Int)=((P.getD k default).st:Int):=by
 rw [dn];unfold z16
 rw [List.getD_eq_getElem?_getD,List.getElem?_map,List.getD_eq_getElem?_getD,List.getElem?_eq_getElem a];rfl
theorem q2b(P:List BE):(z16 P).length=P.length:=by simp [z16]
end GV
end Go.Proofs.YtplgbkaollfmkaaGreat

namespace Go.Proofs.YtplgbkaollfmkaaGreat
namespace GV
set_option maxRecDepth 100000
end GV
end Go.Proofs.YtplgbkaollfmkaaGreat

namespace Go.Proofs.YtplgbkaollfmkaaGreat
namespace GV
set_option maxRecDepth 100000
section
variable {N : Nat} {m : Mach}
end
end GV
end Go.Proofs.YtplgbkaollfmkaaGreat
