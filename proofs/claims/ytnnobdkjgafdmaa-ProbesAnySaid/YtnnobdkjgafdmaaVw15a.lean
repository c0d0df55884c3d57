import Derived.Test.YtnnobdkjgafdmaaPro15
set_option linter.unusedVariables false
set_option linter.unusedSimpArgs false
set_option linter.unusedSectionVars false
namespace Go.Proofs.Ytnnobdkjgafdmaa
namespace GV
set_option maxRecDepth 100000
/-! ### arrays told by a function-/
def mkA(n:Nat)(f:Nat→Int):Arr n Int:=⟨(List.range n).map f,by simp⟩
theorem zam{n s:Nat}{f:Nat→Int}(h:s<n):ix (mkA n f).1 (s:Int)=f s:=by
 rw [z0g];exact zh0 _ h
theorem z1v{n s:Nat}{f:Nat→Int}(h:s<n):okI (mkA n f).1 (s:Int):=jk (by rw [(mkA n f).2];exact h)
theorem dn{n:Nat}{f g:Nat→Int}(h: ∀ s,s<n→f s=g s):mkA n f=mkA n g:=
 Subtype.ext (List.map_congr_left fun s a=>h s (List.mem_range.1 a))
theorem zcp{n s:Nat}{f:Nat→Int}{z:Int}:ah (mkA n f) (s:Int) z=mkA n fun t=>if t=s then z else f t:=by
 refine Subtype.ext ?_
 show ((List.range n).map f).set ((s:Int).toNat) z=_
 rw [Int.toNat_natCast]
 apply List.ext_getElem?
 intro t
 simp only [List.getElem?_set,List.getElem?_map,List.length_map,List.length_range,mkA]
 by_cases h:s=t
 ·subst h
  rw [if_pos rfl]
  by_cases h2:s<n
  ·rw [if_pos h2,List.getElem?_range h2];simp
  ·rw [if_neg h2,List.getElem?_eq_none (by simp;omega)];rfl
 ·rw [if_neg h]
  by_cases h2:t<n
  ·rw [List.getElem?_range h2];simp only [Option.map_some];rw [if_neg (fun e=>h e.symm)]
  ·rw [List.getElem?_eq_none (by simp;omega)];rfl
theorem zh8{n:Nat}:mr n (List.replicate n (0:Int))=mkA n fun _=>0:=by
 refine Subtype.ext ?_
 rw [z8s (by simp)]
 show _=(List.range n).map fun _=>(0:Int)
 rw [List.map_const',List.length_range]
/-! ### a state and a set in one number-/
def pkn(a:Nat)(b:Int):Int:=(a:Int)*256+b
section
variable {a : Nat} {b : Int} (ha : a ≤ 200) (hb : 0 ≤ b ∧ b < 256)
include ha hb
theorem zto:0≤pkn a b∧pkn a b≤65535:=by unfold pkn;omega
theorem zg7:pkn a b=((2^8*a+b.toNat:Nat):Int):=by unfold pkn;omega
theorem zn0:p9 (pkn a b) 8=(a:Int):=by
 rw [zg7 ha hb,show (8:Int)=((8:Nat):Int) from rfl,zao]
 congr 1
 omega
theorem zzj{t:Nat}(c:t<8):tb (pkn a b) t=tb b t:=by
 unfold tb
 rw [zg7 ha hb,Int.toNat_natCast,Nat.testBit_two_pow_mul_add a (show b.toNat<2^8 by omega),if_pos c]
theorem zx4:z0j (pkn a b) 255=b:=by
 rw [zg7 ha hb,show (255:Int)=((255:Nat):Int) from rfl,ze1]
 have:=Nat.and_two_pow_sub_one_eq_mod (2^8*a+b.toNat) 8
 rw [show (255:Nat)=2^8-1 from rfl,this]
 omega
theorem zve:ior (su .u16 (IntKind.u16.wrap (a:Int)) 8) b=pkn a b:=by
 have c:IntKind.u16.wrap (a:Int)=(a:Int):=z4h _ (by omega) (by show (a:Int)≤65535;omega)
 have d:su .u16 (a:Int) 8=((2^8*a:Nat):Int):=by
  unfold su
  rw [show (2:Int)^(8:Int).toNat=256 from rfl]
  rw [z4h _ (by omega) (by show (a:Int)*256≤65535;omega)]
  omega
 rw [c,d,zg7 ha hb]
 unfold ior
 rw [Int.toNat_natCast,←Nat.two_pow_add_eq_or_of_lt (show b.toNat<2^8 by omega)]
end
theorem zl9{x:Int}(a:0≤x)(s:Nat):decide (z0j (p9 x (s:Int)) 1=0)= !tb x s:=by
 rw [←zl7 a s]
 obtain⟨k,rfl⟩: ∃ k:Nat,x=(k:Int):=⟨x.toNat,by omega⟩
 rw [zao,show (1:Int)=((1:Nat):Int) from rfl,ze1,Nat.and_one_is_mod]
 by_cases h:k/2^s%2=1
 ·rw [decide_eq_false (by omega),decide_eq_true (by omega)];rfl
 ·rw [decide_eq_true (by omega),decide_eq_false (by omega)];rfl
theorem zpc: ∀ n:Nat,n<7→IntKind.u16.wrap ((su .u16 (1:Int) (n:Int))-1)=bmk (fun _=>true) n:=by decide+kernel
theorem zcw{p:Nat→Bool}{n:Nat}(h:n≤6):0≤bmk p n∧bmk p n<256:=by
 obtain⟨a,b⟩:=z5h p n
 have:(2:Nat)^n≤2^6:=Nat.pow_le_pow_right (by decide) h
 omega
structure Cnt (m:Mach) (c:Int):Prop where
 ge:0≤c
 lt:c<((2^m.rows.length:Nat):Int)
theorem Cnt.le{m:Mach}{c:Int}(a:PM m)(h:Cnt m c):0≤c∧c≤65535:=by
 have:=h.lt;have:=h.ge
 have:(2:Nat)^m.rows.length≤2^6:=Nat.pow_le_pow_right (by decide) a.r6
 omega
theorem Cnt.in{m:Mach}{c:Int}(h:Cnt m c){s:Nat}(a:tb c s=true):s<m.rows.length:=by
 by_cases e:s<m.rows.length
 ·exact e
 ·rw [zwj h.lt (by omega)] at a;cases a
/-! ### the program's steps-/
theorem zug{n:Nat}(h:n≤6):z4u 5000 (n:Int)=some (mkA 6 fun s=>if s<n then pkn s (bmk (fun _=>true) n) else 0):=by
 unfold z4u
 have hb:=zcw (p:=fun _=>true) h
 rw [zh8]
 have:bu 5000 (n:Int) 5000 ((0:Nat):Int) (mkA 6 fun s=>if s<0 then pkn s (bmk (fun _=>true) n) else 0)=some (mkA 6 fun s=>if s<n then pkn s (bmk (fun _=>true) n) else 0):=by
  refine z6s (fun F k X=>bu 5000 (n:Int) F (k:Int) X) n (fun k=>mkA 6 fun s=>if s<k then pkn s (bmk (fun _=>true) n) else 0) _ (fun F k c=>?_) (fun F=>?_) (by omega)
  ·show bu 5000 (n:Int) (F+1) (k:Int) _=_
   rw [bu]
   have a:IntKind.u16.wrap (k:Int)=(k:Int):=z4h _ (by omega) (by show (k:Int)≤65535;omega)
   have b:su .u16 (k:Int) 8=((256*k:Nat):Int):=by
    unfold su
    rw [show (2:Int)^(8:Int).toNat=256 from rfl,z4h _ (by omega) (by show (k:Int)*256≤65535;omega)]
    omega
   rw [xu (by omega),zl (by decide),zl ⟨by omega,by show (n:Int)≤16;omega⟩,zpc n (by omega),zve (by omega) hb,
    zl ⟨⟨by rw [a,b];omega,by rw [a,b];show _≤(65535:Int);omega⟩,by omega,by show _≤(65535:Int);omega⟩,zl (z1v (by omega)),zl (jb (by omega)),zcp,yt]
   congr 1
   refine dn fun s d=>?_
   by_cases h1:s=k
   ·subst h1;rw [if_pos rfl,if_pos (by omega)]
   ·rw [if_neg h1]
    by_cases h2:s<k
    ·rw [if_pos h2,if_pos (by omega)]
    ·rw [if_neg h2,if_neg (by omega)]
  ·show bu 5000 (n:Int) (F+1) (n:Int) _=_
   rw [bu,yo (by omega)]
 rw [show (mkA 6 fun _=>0)=mkA 6 (fun s=>if s<0 then pkn s (bmk (fun _=>true) n) else 0) from dn fun s _=>(if_neg (by omega)).symm]
 rw [qc (show bu 5000 (n:Int) 5000 0 _=_ from this)]
theorem zp1{f:Nat→Int}{c:Int}(b:0≤c∧c≤65535):z0w 5000 (mkA 6 f) c=some (mkA 6 fun s=>if tb c s=true then f s else 0):=by
 unfold z0w
 have:mi 5000 c 5000 ((0:Nat):Int) (mkA 6 fun s=>if s<0∧tb c s=false then 0 else f s)=some (mkA 6 fun s=>if tb c s=true then f s else 0):=by
  refine z6s (fun F k X=>mi 5000 c F (k:Int) X) 6 (fun k=>mkA 6 fun s=>if s<k∧tb c s=false then 0 else f s) _ (fun F k d=>?_) (fun F=>?_) (by omega)
  ·show mi 5000 c (F+1) (k:Int) _=_
   rw [mi,xu (by omega)]
   have hi:=zbi b k
   rw [zl ⟨by omega,by show (k:Int)≤16;omega⟩,zl ⟨⟨hi.1,hi.2⟩,by decide,by decide⟩,zl9 b.1]
   cases hb:tb c k with
   |true=>
    rw [show (bif !true then gd (okI (mkA 6 fun s=>if s<k∧tb c s=false then 0 else f s).1 (k:Int)) (some (ah (mkA 6 fun s=>if s<k∧tb c s=false then 0 else f s) (k:Int) 0)) else some (mkA 6 fun s=>if s<k∧tb c s=false then 0 else f s))=some (mkA 6 fun s=>if s<k∧tb c s=false then 0 else f s) from rfl]
    rw [zcb,zl (jb (by omega)),yt]
    congr 1
    refine dn fun s a=>?_
    by_cases h1:s=k
    ·subst h1;rw [if_neg (by rw [hb];simp),if_neg (by rw [hb];simp)]
    ·by_cases h2:s<k∧tb c s=false
     ·rw [if_pos h2,if_pos ⟨by omega,h2.2⟩]
     ·rw [if_neg h2,if_neg (fun h=>h2 ⟨by omega,h.2⟩)]
   |false=>
    rw [show (bif !false then gd (okI (mkA 6 fun s=>if s<k∧tb c s=false then 0 else f s).1 (k:Int)) (some (ah (mkA 6 fun s=>if s<k∧tb c s=false then 0 else f s) (k:Int) 0)) else some (mkA 6 fun s=>if s<k∧tb c s=false then 0 else f s))=some (ah (mkA 6 fun s=>if s<k∧tb c s=false then 0 else f s) (k:Int) 0) from zl (z1v (by omega))]
    rw [zcb,zl (jb (by omega)),yt,zcp]
    congr 1
    refine dn fun s a=>?_
    by_cases h1:s=k
    ·subst h1;rw [if_pos rfl,if_pos ⟨by omega,hb⟩]
    ·rw [if_neg h1]
     by_cases h2:s<k∧tb c s=false
     ·rw [if_pos h2,if_pos ⟨by omega,h2.2⟩]
     ·rw [if_neg h2,if_neg (fun h=>h2 ⟨by omega,h.2⟩)]
  ·show mi 5000 c (F+1) ((6:Nat):Int) _=_
   rw [mi,yo (by omega)]
   congr 1
   refine dn fun s a=>?_
   cases hb:tb c s with
   |true=>rw [if_neg (by simp),if_pos rfl]
   |false=>rw [if_pos ⟨a,rfl⟩,if_neg (by simp)]
 rw [show (mkA 6 f)=mkA 6 (fun s=>if s<0∧tb c s=false then 0 else f s) from dn fun s _=>(if_neg (by omega)).symm]
 rw [qc (show mi 5000 c 5000 0 _=_ from this)]
theorem zxd{f:Nat→Int}{c:Int}(d:0≤c∧c≤65535)(g: ∀ s,s<6→0≤f s∧f s≤65535):z19 5000 (mkA 6 f) c=some ((List.range 6).all fun s=> !(tb c s&&decide (1<pcB (z0j (f s) 255)))):=by
 have key: ∀ F k,k≤6→6-k<F→(∀ s,s<k→(tb c s&&decide (1<pcB (z0j (f s) 255)))=false)→iq 5000 (mkA 6 f) c F (k:Int)=some (if((List.range 6).all fun s=> !(tb c s&&decide (1<pcB (z0j (f s) 255))))=true then Ex.go () else Ex.rt false):=by
  intro F
  induction F with
  |zero=>intro k _ h;omega
  |succ F ih=>
   intro k j l hb
   unfold iq
   by_cases e:k=6
   ·subst e
    rw [yo (by omega),if_pos]
    rw [List.all_eq_true]
    intro s a
    rw [hb s (List.mem_range.1 a)];rfl
   ·have hi:=zbi d k
    have hf':=g k (by omega)
    have i:0≤z0j (f k) 255∧z0j (f k) 255≤65535:=by
     unfold z0j
     have:=Nat.and_le_left (n:=(f k).toNat) (m:=(255:Int).toNat)
     omega
    rw [xu (by omega),zl ⟨by omega,by show (k:Int)≤16;omega⟩,zl ⟨⟨hi.1,hi.2⟩,by decide,by decide⟩,zl (fun _=>z1v (by omega)),zam (show k<6 by omega),zl (fun _=>⟨hf',by decide,by decide⟩),zl7 d.1]
    have b:(bif (tb c k)&&(decide ((1:Int)<(((bif (true&&(tb c k==true)) then some (pcB (z0j (f k) 255):Int) else none):Option Int).getD default))) then(some (Ex.rt false):Option (Ex Unit Bool)) else(gd (in64 ((k:Int)+1))<|iq 5000 (mkA 6 f) c F ((k:Int)+1)))=some (if((List.range 6).all fun s=> !(tb c s&&decide (1<pcB (z0j (f s) 255))))=true then Ex.go () else Ex.rt false):=by
     cases ht:(tb c k&&decide (1<pcB (z0j (f k) 255))) with
     |true=>
      rw [Bool.and_eq_true,decide_eq_true_iff] at ht
      rw [ht.1]
      rw [show ((true&&(true==true)):Bool)=true from rfl]
      rw [show ((bif true then some (pcB (z0j (f k) 255):Int) else none:Option Int).getD default)=(pcB (z0j (f k) 255):Int) from rfl,decide_eq_true (by omega),if_neg]
      ·rfl
      ·intro h
       have:=List.all_eq_true.1 h k (List.mem_range.2 (by omega))
       rw [ht.1,decide_eq_true ht.2] at this;cases this
     |false=>
      have:((tb c k)&&(decide ((1:Int)<(((bif (true&&(tb c k==true)) then some (pcB (z0j (f k) 255):Int) else none):Option Int).getD default))))=false:=by
       cases hc':tb c k with
       |false=>rfl
       |true=>
        rw [hc',Bool.true_and] at ht
        rw [show ((bif (true&&(true==true)) then some (pcB (z0j (f k) 255):Int) else none:Option Int).getD default)=(pcB (z0j (f k) 255):Int) from rfl]
        have:=of_decide_eq_false ht
        rw [decide_eq_false (by omega)];rfl
      rw [cf this,zl (jb (by omega)),yt]
      exact ih (k+1) (by omega) (by omega) fun s a=>by
       by_cases e2:s=k
       ·subst e2;exact ht
       ·exact hb s (by omega)
    refine(zpr (fun _=>zk8 i)).trans ?_
    exact b
 unfold z19
 rw [qc (show iq 5000 (mkA 6 f) c 5000 0=_ from key 5000 0 (by omega) (by omega) fun s a=>by omega)]
 cases (List.range 6).all fun s=> !(tb c s&&decide (1<pcB (z0j (f s) 255)))<;>rfl
end GV
end Go.Proofs.Ytnnobdkjgafdmaa
