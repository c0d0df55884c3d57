import Derived.Test.YtnnobdkjgafdmaaHgt15a
set_option linter.unusedVariables false
set_option linter.unusedSimpArgs false
set_option linter.unusedSectionVars false
namespace Go.Proofs.Ytnnobdkjgafdmaa
namespace GV
set_option maxRecDepth 100000
def cI(L:List Nat):List Int:=L.map fun(s:Nat)=>(s:Int)
theorem z5k(L:List Nat):(cI L).length=L.length:=List.length_map ..
theorem zq5{L:List Nat}{k:Nat}(h:k<L.length):ix (cI L) (k:Int)=((L.getD k default:Nat):Int):=by
 rw [z0g]
 unfold cI
 simp [List.getD_eq_getElem?_getD,List.getElem?_eq_getElem h]
theorem zkk{L:List Nat}{k:Nat}(h:k<L.length):okI (cI L) (k:Int):=jk (by rw [z5k];exact h)
structure Blk (n:Nat) (L:List Nat):Prop where
 lt: ∀ s∈L,s<n
 nd:L.Nodup
theorem Blk.len{n:Nat}{L:List Nat}(h:Blk n L):L.length≤n:=by
 have b:L⊆List.range n:=fun s c=>List.mem_range.2 (h.lt s c)
 have a:=List.Nodup.length_le_of_subset h.nd b
 rw [List.length_range] at a;exact a
def num(n:Nat)(L:List Nat):Nat:=(bmk (fun s=>decide (s∈L)) n).toNat
theorem z9u{n:Nat}{L:List Nat}:(num n L:Int)=bmk (fun s=>decide (s∈L)) n:=by
 have:=(z5h (fun s=>decide (s∈L)) n).1
 unfold num;omega
theorem zaq{n:Nat}{L:List Nat}:num n L<2^n:=by
 have:=(z5h (fun s=>decide (s∈L)) n).2
 have:=z9u (n:=n) (L:=L)
 omega
theorem zen{n:Nat}{L:List Nat}(h:Blk n L){s:Nat}:tb (num n L:Int) s=true↔s∈L:=by
 rw [z9u,z4s,Bool.and_eq_true,decide_eq_true_iff,decide_eq_true_iff]
 exact⟨fun h=>h.2,fun a=>⟨h.lt s a,a⟩⟩
def stN(n x:Nat):List Nat:=(List.range n).filter fun s=>tb (x:Int) s
theorem zra{x t:Nat}(h:x.testBit t=false):x|||2^t=x+2^t:=by
 have c:x%2^(t+1)<2^t:=by
  rw [Nat.testBit_eq_decide_div_mod_eq,decide_eq_false_iff_not] at h
  rw [Nat.pow_succ,Nat.mod_mul]
  have:=Nat.mod_lt x (Nat.two_pow_pos t)
  have a:x/2^t%2=0:=by omega
  rw [a];omega
 have a:x=2^(t+1)*(x/2^(t+1))+x%2^(t+1):=(Nat.div_add_mod x (2^(t+1))).symm
 generalize x/2^(t+1)=q at a
 generalize x%2^(t+1)=r at c a
 have j:2^(t+1)=2^t+2^t:=by rw [Nat.pow_succ];omega
 have e:r<2^(t+1):=by omega
 have f:=Nat.two_pow_add_eq_or_of_lt e q
 have d:=Nat.two_pow_add_eq_or_of_lt c 1
 have g:=Nat.two_pow_add_eq_or_of_lt (i:=t+1) (b:=2^t+r) (by omega) q
 rw [Nat.mul_one] at d
 rw [a,f,Nat.or_assoc,Nat.or_comm r,←d,←g]
 omega
theorem ztz{n:Nat}{L:List Nat}{t:Nat}(a:t<n)(b:t∉L)(f: ∀ s∈L,s<n):num n (L++[t])=num n L+2^t:=by
 have c:(num n L).testBit t=false:=by
  have h:=z4s (fun s=>decide (s∈L)) n t
  rw [←z9u,decide_eq_false b,Bool.and_false] at h
  exact h
 rw [←zra c]
 have g:(num n (L++[t]):Int)=((num n L|||2^t:Nat):Int):=by
  rw [z9u]
  refine(zet (Int.natCast_nonneg _) (by exact_mod_cast Nat.or_lt_two_pow zaq (Nat.pow_lt_pow_right (by decide) a)) fun s d=>?_).symm
  have h:=zuz (x:=(num n L:Int)) (by omega) t s
  have e:ior (num n L:Int) ((2^t:Nat):Int)=((num n L|||2^t:Nat):Int):=by unfold ior;rw [Int.toNat_natCast,Int.toNat_natCast]
  rw [e] at h
  rw [h,z9u,z4s,decide_eq_true d,Bool.true_and,Bool.eq_iff_iff,Bool.or_eq_true,decide_eq_true_iff,decide_eq_true_iff,decide_eq_true_iff,List.mem_append,List.mem_singleton]
 omega
theorem takeN{L:List Nat}{k:Nat}(h:k<L.length):L.take (k+1)=L.take k++[L.getD k default]:=zxq h
theorem zlw{n:Nat}{L:List Nat}(h:Blk n L)(k:Nat):Blk n (L.take k):=⟨fun s a=>h.lt s (List.mem_of_mem_take a),h.nd.sublist (List.take_sublist k L)⟩
theorem zq3{n:Nat}{L:List Nat}(h:Blk n L){k:Nat}(a:k<L.length):L.getD k default<n∧L.getD k default∉L.take k:=by
 refine⟨h.lt _ (z5o a),fun hm=>?_⟩
 have b:=(zlw h (k+1)).nd
 rw [takeN a,List.nodup_append] at b
 exact b.2.2 _ hm _ (List.mem_singleton.2 rfl) rfl
/-! ### splitting a list-/
def ptN(m:Mach)(L:List Nat)(i k o:Nat):List Nat:=((L.take k).filter (qO m i o)).map fun s=>tgt m s i
def q0o(m:Mach)(L:List Nat)(i k:Nat):Bool:=decide (tgt m (L.getD k default) i∈ptN m L i k (z1t m (L.getD k default) i))
def okL(m:Mach)(L:List Nat)(i:Nat):Bool:=(List.range L.length).all fun k=> !q0o m L i k
section
variable {m : Mach} (hm : PM m) {i : Nat} (hi : i < nIn m)
include hm hi
theorem zyi{L:List Nat}{k o:Nat}:(ptN m L i k o).length≤k:=by
 unfold ptN
 rw [List.length_map]
 have a:=List.length_filter_le (qO m i o) (L.take k)
 have b:=List.length_take_le k L
 omega
theorem zo1{L:List Nat}{k o:Nat}(a:k<L.length):ptN m L i (k+1) o=ptN m L i k o++if o=z1t m (L.getD k default) i then [tgt m (L.getD k default) i] else []:=by
 unfold ptN
 rw [takeN a,List.filter_append,List.map_append,List.filter_cons]
 by_cases e:o=z1t m (L.getD k default) i
 ·rw [if_pos e,if_pos (show qO m i o (L.getD k default)=true from decide_eq_true e.symm)];rfl
 ·rw [if_neg e,if_neg (show¬qO m i o (L.getD k default)=true from fun h=>e (of_decide_eq_true h).symm)];rfl
/-! ### a list and its number-/
def zuo(m:Mach)(L:List Nat)(i:Nat):Prop:= ∀ s∈L,∀ t∈L,z1t m s i=z1t m t i→tgt m s i=tgt m t i→s=t
theorem zql{L:List Nat}(o:Blk m.rows.length L):okL m L i=true↔zuo m L i:=by
 unfold okL
 rw [List.all_eq_true]
 constructor
 ·intro h
  have key: ∀ a b,a<b→b<L.length→z1t m (L.getD a default) i=z1t m (L.getD b default) i→tgt m (L.getD a default) i≠tgt m (L.getD b default) i:=fun a b p g f c=>by
   have:=h b (List.mem_range.2 g)
   rw [show q0o m L i b=true from decide_eq_true (List.mem_map.2 ⟨L.getD a default,List.mem_filter.2 ⟨?_,decide_eq_true f⟩,c⟩)] at this
   ·cases this
   ·rw [List.mem_iff_getElem]
    refine⟨a,by rw [List.length_take];omega,?_⟩
    rw [List.getElem_take,List.getD_eq_getElem?_getD,List.getElem?_eq_getElem (show a<L.length by omega)];rfl
  intro s l t q f c
  obtain⟨a,n,rfl⟩:=List.mem_iff_getElem.1 l
  obtain⟨b,g,rfl⟩:=List.mem_iff_getElem.1 q
  have ea:L.getD a default=L[a]:=by rw [List.getD_eq_getElem?_getD,List.getElem?_eq_getElem n];rfl
  have eb:L.getD b default=L[b]:=by rw [List.getD_eq_getElem?_getD,List.getElem?_eq_getElem g];rfl
  rcases Nat.lt_trichotomy a b with d|d|d
  ·exact absurd (by rw [ea,eb];exact c) (key a b d g (by rw [ea,eb];exact f))
  ·subst d;rfl
  ·exact absurd (by rw [ea,eb];exact c.symm) (key b a d n (by rw [ea,eb];exact f.symm))
 ·intro h k j
  have j:=List.mem_range.1 j
  cases hd:q0o m L i k with
  |false=>rfl
  |true=>
   obtain⟨s,l,f⟩:=List.mem_map.1 (of_decide_eq_true hd)
   obtain⟨c,d⟩:=List.mem_filter.1 l
   have e:=h s (List.mem_of_mem_take c) (L.getD k default) (z5o j) (of_decide_eq_true d) f
   rw [e] at c
   exact absurd c (zq3 o j).2
theorem zxb{x:Nat}(v:x<2^m.rows.length):z1n m x i=true↔zuo m (stN m.rows.length x) i:=by
 unfold z1n
 rw [List.all_eq_true]
 have hmem: ∀ s,s∈stN m.rows.length x↔s<m.rows.length∧tb (x:Int) s=true:=fun s=>by unfold stN;rw [List.mem_filter,List.mem_range]
 have o: ∀ s,zkw m x i s=true↔tb (x:Int) s=true∧ ∃ t,t<s∧tb (x:Int) t=true∧z1t m t i=z1t m s i∧tgt m t i=tgt m s i:=fun s=>by
  unfold zkw
  rw [Bool.and_eq_true,zin]
  constructor
  ·rintro⟨d,t,f,c,g,j⟩;exact⟨d,t,f,c,of_decide_eq_true g,j⟩
  ·rintro⟨d,t,f,c,g,j⟩;exact⟨d,t,f,c,decide_eq_true g,j⟩
 constructor
 ·intro h s e t k d f
  rw [hmem] at e k
  have one: ∀ a b,a<b→b<m.rows.length→tb (x:Int) a=true→tb (x:Int) b=true→z1t m a i=z1t m b i→tgt m a i=tgt m b i→False:=fun a b l p q n r u=>by
   have:=h b (List.mem_range.2 p)
   rw [(o b).2 ⟨n,a,l,q,r,u⟩] at this;cases this
  rcases Nat.lt_trichotomy s t with c|c|c
  ·exact(one s t c k.1 e.2 k.2 d f).elim
  ·exact c
  ·exact(one t s c e.1 k.2 e.2 d.symm f.symm).elim
 ·intro h s e
  cases hds:zkw m x i s with
  |false=>rfl
  |true=>
   obtain⟨d,t,f,c,g,j⟩:=(o s).1 hds
   have e:=List.mem_range.1 e
   have:=h t ((hmem t).2 ⟨by omega,c⟩) s ((hmem s).2 ⟨e,d⟩) g j
   omega
theorem zxg{L:List Nat}(a:Blk m.rows.length L):okL m L i=z1n m (num m.rows.length L) i:=by
 rw [Bool.eq_iff_iff,zql hm hi a,zxb hm hi zaq]
 have hmem: ∀ s,s∈stN m.rows.length (num m.rows.length L)↔s∈L:=fun s=>by
  unfold stN
  rw [List.mem_filter,List.mem_range,zen a]
  exact⟨fun h=>h.2,fun h=>⟨a.lt s h,h⟩⟩
 unfold zuo
 constructor
 ·intro h s b t c;exact h s ((hmem s).1 b) t ((hmem t).1 c)
 ·intro h s b t c;exact h s ((hmem s).2 b) t ((hmem t).2 c)
theorem zrc{L:List Nat}{o t:Nat}:t∈ptN m L i L.length o↔ ∃ s∈L,z1t m s i=o∧tgt m s i=t:=by
 unfold ptN
 rw [List.take_length,List.mem_map]
 constructor
 ·rintro⟨s,a,h⟩
  obtain⟨b,c⟩:=List.mem_filter.1 a
  exact⟨s,b,of_decide_eq_true c,h⟩
 ·rintro⟨s,a,b,c⟩;exact⟨s,List.mem_filter.2 ⟨a,decide_eq_true b⟩,c⟩
theorem zx8{L:List Nat}(d:Blk m.rows.length L)(h:zuo m L i)(o:Nat):Blk m.rows.length (ptN m L i L.length o):=by
 refine⟨fun t f=>?_,?_⟩
 ·obtain⟨s,g,_,rfl⟩:=(zrc hm hi).1 f
  exact(hm.toCM.tgt (d.lt s g) hi).1
 ·unfold ptN
  rw [List.take_length]
  unfold List.Nodup
  rw [List.pairwise_map]
  refine(List.Pairwise.filter (qO m i o) d.nd).imp_of_mem ?_
  intro a b j k c e
  obtain⟨l,n⟩:=List.mem_filter.1 j
  obtain⟨p,q⟩:=List.mem_filter.1 k
  exact c (h a l b p ((of_decide_eq_true n).trans (of_decide_eq_true q).symm) e)
theorem zqo{L:List Nat}(a:Blk m.rows.length L)(o:Nat):num m.rows.length (ptN m L i L.length o)=prN m (num m.rows.length L) i o:=by
 have h:(num m.rows.length (ptN m L i L.length o):Int)=(prN m (num m.rows.length L) i o:Int):=by
  rw [z9u,←zez.2]
  unfold prI zbk
  refine z94 fun t f=>?_
  rw [Bool.eq_iff_iff,decide_eq_true_iff,zrc hm hi,zin]
  constructor
  ·rintro⟨s,d,b,c⟩;exact⟨s,a.lt s d,(zen a).2 d,decide_eq_true b,c⟩
  ·rintro⟨s,_,b,c,e⟩;exact⟨s,(zen a).1 b,of_decide_eq_true c,e⟩
 omega
/-! ### below-/
end
end GV
end Go.Proofs.Ytnnobdkjgafdmaa
