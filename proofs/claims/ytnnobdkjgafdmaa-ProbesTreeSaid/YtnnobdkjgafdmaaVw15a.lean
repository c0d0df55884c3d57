import Derived.Test.YtnnobdkjgafdmaaPro15
set_option linter.unusedVariables false
set_option linter.unusedSimpArgs false
set_option linter.unusedSectionVars false
namespace Go.Proofs.Ytnnobdkjgafdmaa
namespace GV
set_option maxRecDepth 100000
/-! ### arrays told by a function-/
def mkA(n:Nat)(f:Nat→Int):Arr n Int:=⟨(List.range n).map f,by simp⟩
theorem zew{n s:Nat}{f:Nat→Int}(h:s<n):ix (mkA n f).1 (s:Int)=f s:=by
 rw [yn];exact ik _ h
theorem z4x{n s:Nat}{f:Nat→Int}(h:s<n):okI (mkA n f).1 (s:Int):=qy (by rw [(mkA n f).2];exact h)
theorem iq{n:Nat}{f g:Nat→Int}(h: ∀ s,s<n→f s=g s):mkA n f=mkA n g:=
 Subtype.ext (List.map_congr_left fun s a=>h s (List.mem_range.1 a))
theorem zif{n s:Nat}{f:Nat→Int}{z:Int}:z0g (mkA n f) (s:Int) z=mkA n fun t=>if t=s then z else f t:=by
 refine Subtype.ext ?_
 show ((List.range n).map f).set ((s:Int).toNat) z=_
 rw [Int.toNat_natCast]
 apply List.ext_getElem?
 intro t
 simp only [List.getElem?_set,List.getElem?_map,List.length_map,List.length_range,mkA]
 by_cases h:s=t
 ·subst h
  rw [if_pos rfl]
  by_cases h2:s<n
  ·rw [if_pos h2,List.getElem?_range h2];simp
  ·rw [if_neg h2,List.getElem?_eq_none (by simp;omega)];rfl
 ·rw [if_neg h]
  by_cases h2:t<n
  ·rw [List.getElem?_range h2];simp only [Option.map_some];rw [if_neg (fun e=>h e.symm)]
  ·rw [List.getElem?_eq_none (by simp;omega)];rfl
theorem zmr{n:Nat}:lq n (List.replicate n (0:Int))=mkA n fun _=>0:=by
 refine Subtype.ext ?_
 rw [zcp (by simp)]
 show _=(List.range n).map fun _=>(0:Int)
 rw [List.map_const',List.length_range]
/-! ### a state and a set in one number-/
def pkn(a:Nat)(b:Int):Int:=(a:Int)*256+b
section
variable {a : Nat} {b : Int} (ha : a ≤ 200) (hb : 0 ≤ b ∧ b < 256)
include ha hb
theorem q1b:0≤pkn a b∧pkn a b≤65535:=by unfold pkn;omega
theorem zkv:pkn a b=((2^8*a+b.toNat:Nat):Int):=by unfold pkn;omega
theorem zts:ow (pkn a b) 8=(a:Int):=by
 rw [zkv ha hb,show (8:Int)=((8:Nat):Int) from rfl,zch]
 congr 1
 omega
theorem q9y{t:Nat}(c:t<8):tb (pkn a b) t=tb b t:=by
 unfold tb
 rw [zkv ha hb,Int.toNat_natCast,Nat.testBit_two_pow_mul_add a (show b.toNat<2^8 by omega),if_pos c]
theorem q6h:z2t (pkn a b) 255=b:=by
 rw [zkv ha hb,show (255:Int)=((255:Nat):Int) from rfl,zi3]
 have:=Nat.and_two_pow_sub_one_eq_mod (2^8*a+b.toNat) 8
 rw [show (255:Nat)=2^8-1 from rfl,this]
 omega
theorem q2r:ior (lh .u16 (IntKind.u16.wrap (a:Int)) 8) b=pkn a b:=by
 have c:IntKind.u16.wrap (a:Int)=(a:Int):=z6o _ (by omega) (by show (a:Int)≤65535;omega)
 have d:lh .u16 (a:Int) 8=((2^8*a:Nat):Int):=by
  unfold lh
  rw [show (2:Int)^(8:Int).toNat=256 from rfl]
  rw [z6o _ (by omega) (by show (a:Int)*256≤65535;omega)]
  omega
 rw [c,d,zkv ha hb]
 unfold ior
 rw [Int.toNat_natCast,←Nat.two_pow_add_eq_or_of_lt (show b.toNat<2^8 by omega)]
end
theorem zq5{x:Int}(a:0≤x)(s:Nat):decide (z2t (ow x (s:Int)) 1=0)= !tb x s:=by
 rw [←zq2 a s]
 obtain⟨k,rfl⟩: ∃ k:Nat,x=(k:Int):=⟨x.toNat,by omega⟩
 rw [zch,show (1:Int)=((1:Nat):Int) from rfl,zi3,Nat.and_one_is_mod]
 by_cases h:k/2^s%2=1
 ·rw [decide_eq_false (by omega),decide_eq_true (by omega)];rfl
 ·rw [decide_eq_true (by omega),decide_eq_false (by omega)];rfl
theorem zwo: ∀ n:Nat,n<7→IntKind.u16.wrap ((lh .u16 (1:Int) (n:Int))-1)=bmk (fun _=>true) n:=by decide+kernel
theorem ziv{p:Nat→Bool}{n:Nat}(h:n≤6):0≤bmk p n∧bmk p n<256:=by
 obtain⟨a,b⟩:=z9c p n
 have:(2:Nat)^n≤2^6:=Nat.pow_le_pow_right (by decide) h
 omega
structure Cnt (m:Mach) (c:Int):Prop where
 ge:0≤c
 lt:c<((2^m.rows.length:Nat):Int)
theorem Cnt.le{m:Mach}{c:Int}(a:PM m)(h:Cnt m c):0≤c∧c≤65535:=by
 have:=h.lt;have:=h.ge
 have:(2:Nat)^m.rows.length≤2^6:=Nat.pow_le_pow_right (by decide) a.r6
 omega
theorem Cnt.in{m:Mach}{c:Int}(h:Cnt m c){s:Nat}(a:tb c s=true):s<m.rows.length:=by
 by_cases e:s<m.rows.length
 ·exact e
 ·rw [zu1 h.lt (by omega)] at a;cases a
/-! ### the program's steps-/
theorem q20{n:Nat}(h:n≤6):z8a 5000 (n:Int)=some (mkA 6 fun s=>if s<n then pkn s (bmk (fun _=>true) n) else 0):=by
 unfold z8a
 have hb:=ziv (p:=fun _=>true) h
 rw [zmr]
 have:af 5000 (n:Int) 5000 ((0:Nat):Int) (mkA 6 fun s=>if s<0 then pkn s (bmk (fun _=>true) n) else 0)=some (mkA 6 fun s=>if s<n then pkn s (bmk (fun _=>true) n) else 0):=by
  refine z2k (fun F k X=>af 5000 (n:Int) F (k:Int) X) n (fun k=>mkA 6 fun s=>if s<k then pkn s (bmk (fun _=>true) n) else 0) _ (fun F k c=>?_) (fun F=>?_) (by omega)
  ·show af 5000 (n:Int) (F+1) (k:Int) _=_
   rw [af]
   have a:IntKind.u16.wrap (k:Int)=(k:Int):=z6o _ (by omega) (by show (k:Int)≤65535;omega)
   have b:lh .u16 (k:Int) 8=((256*k:Nat):Int):=by
    unfold lh
    rw [show (2:Int)^(8:Int).toNat=256 from rfl,z6o _ (by omega) (by show (k:Int)*256≤65535;omega)]
    omega
   rw [wu (by omega),ze (by decide),ze ⟨by omega,by show (n:Int)≤16;omega⟩,zwo n (by omega),q2r (by omega) hb,
    ze ⟨⟨by rw [a,b];omega,by rw [a,b];show _≤(65535:Int);omega⟩,by omega,by show _≤(65535:Int);omega⟩,ze (z4x (by omega)),ze (qm (by omega)),zif,kz]
   congr 1
   refine iq fun s d=>?_
   by_cases h1:s=k
   ·subst h1;rw [if_pos rfl,if_pos (by omega)]
   ·rw [if_neg h1]
    by_cases h2:s<k
    ·rw [if_pos h2,if_pos (by omega)]
    ·rw [if_neg h2,if_neg (by omega)]
  ·show af 5000 (n:Int) (F+1) (n:Int) _=_
   rw [af,um (by omega)]
 rw [show (mkA 6 fun _=>0)=mkA 6 (fun s=>if s<0 then pkn s (bmk (fun _=>true) n) else 0) from iq fun s _=>(if_neg (by omega)).symm]
 rw [qc (show af 5000 (n:Int) 5000 0 _=_ from this)]
theorem zwv{f:Nat→Int}{c:Int}(b:0≤c∧c≤65535):z3g 5000 (mkA 6 f) c=some (mkA 6 fun s=>if tb c s=true then f s else 0):=by
 unfold z3g
 have:lg 5000 c 5000 ((0:Nat):Int) (mkA 6 fun s=>if s<0∧tb c s=false then 0 else f s)=some (mkA 6 fun s=>if tb c s=true then f s else 0):=by
  refine z2k (fun F k X=>lg 5000 c F (k:Int) X) 6 (fun k=>mkA 6 fun s=>if s<k∧tb c s=false then 0 else f s) _ (fun F k d=>?_) (fun F=>?_) (by omega)
  ·show lg 5000 c (F+1) (k:Int) _=_
   rw [lg,wu (by omega)]
   have hi:=zfp b k
   rw [ze ⟨by omega,by show (k:Int)≤16;omega⟩,ze ⟨⟨hi.1,hi.2⟩,by decide,by decide⟩,zq5 b.1]
   cases hb:tb c k with
   |true=>
    rw [show (bif !true then gd (okI (mkA 6 fun s=>if s<k∧tb c s=false then 0 else f s).1 (k:Int)) (some (z0g (mkA 6 fun s=>if s<k∧tb c s=false then 0 else f s) (k:Int) 0)) else some (mkA 6 fun s=>if s<k∧tb c s=false then 0 else f s))=some (mkA 6 fun s=>if s<k∧tb c s=false then 0 else f s) from rfl]
    rw [zg4,ze (qm (by omega)),kz]
    congr 1
    refine iq fun s a=>?_
    by_cases h1:s=k
    ·subst h1;rw [if_neg (by rw [hb];simp),if_neg (by rw [hb];simp)]
    ·by_cases h2:s<k∧tb c s=false
     ·rw [if_pos h2,if_pos ⟨by omega,h2.2⟩]
     ·rw [if_neg h2,if_neg (fun h=>h2 ⟨by omega,h.2⟩)]
   |false=>
    rw [show (bif !false then gd (okI (mkA 6 fun s=>if s<k∧tb c s=false then 0 else f s).1 (k:Int)) (some (z0g (mkA 6 fun s=>if s<k∧tb c s=false then 0 else f s) (k:Int) 0)) else some (mkA 6 fun s=>if s<k∧tb c s=false then 0 else f s))=some (z0g (mkA 6 fun s=>if s<k∧tb c s=false then 0 else f s) (k:Int) 0) from ze (z4x (by omega))]
    rw [zg4,ze (qm (by omega)),kz,zif]
    congr 1
    refine iq fun s a=>?_
    by_cases h1:s=k
    ·subst h1;rw [if_pos rfl,if_pos ⟨by omega,hb⟩]
    ·rw [if_neg h1]
     by_cases h2:s<k∧tb c s=false
     ·rw [if_pos h2,if_pos ⟨by omega,h2.2⟩]
     ·rw [if_neg h2,if_neg (fun h=>h2 ⟨by omega,h.2⟩)]
  ·show lg 5000 c (F+1) ((6:Nat):Int) _=_
   rw [lg,um (by omega)]
   congr 1
   refine iq fun s a=>?_
   cases hb:tb c s with
   |true=>rw [if_neg (by simp),if_pos rfl]
   |false=>rw [if_pos ⟨a,rfl⟩,if_neg (by simp)]
 rw [show (mkA 6 f)=mkA 6 (fun s=>if s<0∧tb c s=false then 0 else f s) from iq fun s _=>(if_neg (by omega)).symm]
 rw [qc (show lg 5000 c 5000 0 _=_ from this)]
theorem q6o{f:Nat→Int}{c:Int}(d:0≤c∧c≤65535)(g: ∀ s,s<6→0≤f s∧f s≤65535):z3t 5000 (mkA 6 f) c=some ((List.range 6).all fun s=> !(tb c s&&decide (1<pcB (z2t (f s) 255)))):=by
 have key: ∀ F k,k≤6→6-k<F→(∀ s,s<k→(tb c s&&decide (1<pcB (z2t (f s) 255)))=false)→z0y 5000 (mkA 6 f) c F (k:Int)=some (if((List.range 6).all fun s=> !(tb c s&&decide (1<pcB (z2t (f s) 255))))=true then Ex.go () else Ex.rt false):=by
  intro F
  induction F with
  |zero=>intro k _ h;omega
  |succ F ih=>
   intro k j hF hb
   unfold z0y
   by_cases e:k=6
   ·subst e
    rw [um (by omega),if_pos]
    rw [List.all_eq_true]
    intro s a
    rw [hb s (List.mem_range.1 a)];rfl
   ·have hi:=zfp d k
    have hf':=g k (by omega)
    have i:0≤z2t (f k) 255∧z2t (f k) 255≤65535:=by
     unfold z2t
     have:=Nat.and_le_left (n:=(f k).toNat) (m:=(255:Int).toNat)
     omega
    rw [wu (by omega),ze ⟨by omega,by show (k:Int)≤16;omega⟩,ze ⟨⟨hi.1,hi.2⟩,by decide,by decide⟩,ze (fun _=>z4x (by omega)),zew (show k<6 by omega),ze (fun _=>⟨hf',by decide,by decide⟩),zq2 d.1]
    have b:(bif (tb c k)&&(decide ((1:Int)<(((bif (true&&(tb c k==true)) then some (pcB (z2t (f k) 255):Int) else none):Option Int).getD default))) then(some (Ex.rt false):Option (Ex Unit Bool)) else(gd (in64 ((k:Int)+1))<|z0y 5000 (mkA 6 f) c F ((k:Int)+1)))=some (if((List.range 6).all fun s=> !(tb c s&&decide (1<pcB (z2t (f s) 255))))=true then Ex.go () else Ex.rt false):=by
     cases ht:(tb c k&&decide (1<pcB (z2t (f k) 255))) with
     |true=>
      rw [Bool.and_eq_true,decide_eq_true_iff] at ht
      rw [ht.1]
      rw [show ((true&&(true==true)):Bool)=true from rfl]
      rw [show ((bif true then some (pcB (z2t (f k) 255):Int) else none:Option Int).getD default)=(pcB (z2t (f k) 255):Int) from rfl,decide_eq_true (by omega),if_neg]
      ·rfl
      ·intro h
       have:=List.all_eq_true.1 h k (List.mem_range.2 (by omega))
       rw [ht.1,decide_eq_true ht.2] at this;cases this
     |false=>
      have:((tb c k)&&(decide ((1:Int)<(((bif (true&&(tb c k==true)) then some (pcB (z2t (f k) 255):Int) else none):Option Int).getD default))))=false:=by
       cases hc':tb c k with
       |false=>rfl
       |true=>
        rw [hc',Bool.true_and] at ht
        rw [show ((bif (true&&(true==true)) then some (pcB (z2t (f k) 255):Int) else none:Option Int).getD default)=(pcB (z2t (f k) 255):Int) from rfl]
        have:=of_decide_eq_false ht
        rw [decide_eq_false (by omega)];rfl
      rw [cf this,ze (qm (by omega)),kz]
      exact ih (k+1) (by omega) (by omega) fun s a=>by
       by_cases e2:s=k
       ·subst e2;exact ht
       ·exact hb s (by omega)
    refine(zn5 (fun _=>zou i)).trans ?_
    exact b
 unfold z3t
 rw [qc (show z0y 5000 (mkA 6 f) c 5000 0=_ from key 5000 0 (by omega) (by omega) fun s a=>by omega)]
 cases (List.range 6).all fun s=> !(tb c s&&decide (1<pcB (z2t (f s) 255)))<;>rfl
end GV
end Go.Proofs.Ytnnobdkjgafdmaa
