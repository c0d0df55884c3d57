import Derived.Test.YtnnobdkjgafdmaaHgt15a
set_option linter.unusedVariables false
set_option linter.unusedSimpArgs false
set_option linter.unusedSectionVars false
namespace Go.Proofs.Ytnnobdkjgafdmaa
namespace GV
set_option maxRecDepth 100000
def cI(L:List Nat):List Int:=L.map fun(s:Nat)=>(s:Int)
theorem av(L:List Nat):(cI L).length=L.length:=List.length_map ..
theorem zdx{L:List Nat}{k:Nat}(h:k<L.length):ix (cI L) (k:Int)=((L.getD k default:Nat):Int):=by
 rw [yn]
 unfold cI
 simp [List.getD_eq_getElem?_getD,List.getElem?_eq_getElem h]
theorem z9x{L:List Nat}{k:Nat}(h:k<L.length):okI (cI L) (k:Int):=qy (by rw [av];exact h)
structure Blk (n:Nat) (L:List Nat):Prop where
 lt: ∀ s∈L,s<n
 nd:L.Nodup
theorem Blk.len{n:Nat}{L:List Nat}(h:Blk n L):L.length≤n:=by
 have b:L⊆List.range n:=fun s c=>List.mem_range.2 (h.lt s c)
 have a:=List.Nodup.length_le_of_subset h.nd b
 rw [List.length_range] at a;exact a
def num(n:Nat)(L:List Nat):Nat:=(bmk (fun s=>decide (s∈L)) n).toNat
theorem z96{n:Nat}{L:List Nat}:(num n L:Int)=bmk (fun s=>decide (s∈L)) n:=by
 have:=(z9c (fun s=>decide (s∈L)) n).1
 unfold num;omega
theorem z2w{n:Nat}{L:List Nat}:num n L<2^n:=by
 have:=(z9c (fun s=>decide (s∈L)) n).2
 have:=z96 (n:=n) (L:=L)
 omega
theorem zf5{n:Nat}{L:List Nat}(h:Blk n L){s:Nat}:tb (num n L:Int) s=true↔s∈L:=by
 rw [z96,z8h,Bool.and_eq_true,decide_eq_true_iff,decide_eq_true_iff]
 exact⟨fun h=>h.2,fun a=>⟨h.lt s a,a⟩⟩
def stN(n x:Nat):List Nat:=(List.range n).filter fun s=>tb (x:Int) s
theorem zxx{n x:Nat}:Blk n (stN n x):=⟨fun s a=>List.mem_range.1 (List.mem_filter.1 a).1,List.Pairwise.filter _ List.nodup_range⟩
theorem q7b{n x:Nat}(a:x<2^n):num n (stN n x)=x:=by
 have:(num n (stN n x):Int)=(x:Int):=by
  rw [z96]
  refine(zar (by omega) (by exact_mod_cast a) fun s b=>?_).symm
  unfold stN
  rw [Bool.eq_iff_iff,decide_eq_true_iff,List.mem_filter,List.mem_range]
  exact⟨fun h=>⟨b,h⟩,fun h=>h.2⟩
 omega
theorem zyf{x t:Nat}(h:x.testBit t=false):x|||2^t=x+2^t:=by
 have c:x%2^(t+1)<2^t:=by
  rw [Nat.testBit_eq_decide_div_mod_eq,decide_eq_false_iff_not] at h
  rw [Nat.pow_succ,Nat.mod_mul]
  have:=Nat.mod_lt x (Nat.two_pow_pos t)
  have a:x/2^t%2=0:=by omega
  rw [a];omega
 have a:x=2^(t+1)*(x/2^(t+1))+x%2^(t+1):=(Nat.div_add_mod x (2^(t+1))).symm
 generalize x/2^(t+1)=q at a
 generalize x%2^(t+1)=r at c a
 have j:2^(t+1)=2^t+2^t:=by rw [Nat.pow_succ];omega
 have e:r<2^(t+1):=by omega
 have f:=Nat.two_pow_add_eq_or_of_lt e q
 have d:=Nat.two_pow_add_eq_or_of_lt c 1
 have g:=Nat.two_pow_add_eq_or_of_lt (i:=t+1) (b:=2^t+r) (by omega) q
 rw [Nat.mul_one] at d
 rw [a,f,Nat.or_assoc,Nat.or_comm r,←d,←g]
 omega
theorem zs8{n:Nat}{L:List Nat}{t:Nat}(a:t<n)(b:t∉L)(f: ∀ s∈L,s<n):num n (L++[t])=num n L+2^t:=by
 have c:(num n L).testBit t=false:=by
  have h:=z8h (fun s=>decide (s∈L)) n t
  rw [←z96,decide_eq_false b,Bool.and_false] at h
  exact h
 rw [←zyf c]
 have g:(num n (L++[t]):Int)=((num n L|||2^t:Nat):Int):=by
  rw [z96]
  refine(zar (Int.natCast_nonneg _) (by exact_mod_cast Nat.or_lt_two_pow z2w (Nat.pow_lt_pow_right (by decide) a)) fun s d=>?_).symm
  have h:=q4v (x:=(num n L:Int)) (by omega) t s
  have e:ior (num n L:Int) ((2^t:Nat):Int)=((num n L|||2^t:Nat):Int):=by unfold ior;rw [Int.toNat_natCast,Int.toNat_natCast]
  rw [e] at h
  rw [h,z96,z8h,decide_eq_true d,Bool.true_and,Bool.eq_iff_iff,Bool.or_eq_true,decide_eq_true_iff,decide_eq_true_iff,decide_eq_true_iff,List.mem_append,List.mem_singleton]
 omega
theorem takeN{L:List Nat}{k:Nat}(h:k<L.length):L.take (k+1)=L.take k++[L.getD k default]:=zxm h
theorem zmz{n:Nat}{L:List Nat}(h:Blk n L)(k:Nat):Blk n (L.take k):=⟨fun s a=>h.lt s (List.mem_of_mem_take a),h.nd.sublist (List.take_sublist k L)⟩
theorem zlb{n:Nat}{L:List Nat}(h:Blk n L){k:Nat}(a:k<L.length):L.getD k default<n∧L.getD k default∉L.take k:=by
 refine⟨h.lt _ (su a),fun hm=>?_⟩
 have b:=(zmz h (k+1)).nd
 rw [takeN a,List.nodup_append] at b
 exact b.2.2 _ hm _ (List.mem_singleton.2 rfl) rfl
theorem zxi{n:Nat}(f:n≤6){L:List Nat}(h:Blk n L):z1k 5000 (cI L)=some (num n L:Int):=by
 have m:=h.len
 have:wm 5000 (cI L) 5000 ((num n (L.take 0):Nat):Int) ((0:Nat):Int)=some (num n L:Int):=by
  refine z2k (fun F k z=>wm 5000 (cI L) F z (k:Int)) L.length (fun k=>((num n (L.take k):Nat):Int)) _ (fun F k c=>?_) (fun F=>?_) (by omega)
  ·show wm 5000 (cI L) (F+1) _ (k:Int)=wm 5000 (cI L) F _ ((k+1:Nat):Int)
   obtain⟨a,b⟩:=zlb h c
   have e:=zs8 a b (zmz h k).lt
   rw [←takeN c] at e
   have g:=z2w (n:=n) (L:=L.take (k+1))
   have i:2^n≤64:=Nat.le_trans (Nat.pow_le_pow_right (by decide) f) (by decide)
   have hnum:((num n (L.take k):Nat):Int)≤64:=by have:=z2w (n:=n) (L:=L.take k);omega
   have j:2^(L.getD k default)≤64:=by omega
   have hq':((2^(L.getD k default):Nat):Int)≤64:=Int.ofNat_le.2 j
   have d:lh .i64 (1:Int) ((L.getD k default:Nat):Int)=((2^(L.getD k default):Nat):Int):=by
    unfold lh
    rw [Int.toNat_natCast,Int.one_mul,show ((2:Int)^(L.getD k default))=((2^(L.getD k default):Nat):Int) by norm_cast]
    exact z6o _ (Int.natCast_nonneg _) (Int.le_trans hq' (by decide))
   rw [wm,wu (by rw [av];omega),ze (z9x c),zdx c,ze ⟨by omega,by show ((L.getD k default:Nat):Int)≤64;omega⟩,d,ze (qm (by omega)),ze (qm (by omega)),kz,e]
   rfl
  ·show wm 5000 (cI L) (F+1) _ (L.length:Int)=_
   rw [wm,um (by rw [av];omega),List.take_length]
 have l:((num n (L.take 0):Nat):Int)=0:=by
  rw [List.take_zero,z96]
  refine(zar (Int.le_refl 0) (by have:(0:Nat)<2^n:=Nat.two_pow_pos _;omega) fun s o=>?_).symm
  rw [zcx];rfl
 rw [l] at this
 unfold z1k
 rw [qc (show wm 5000 (cI L) 5000 0 0=_ from this)]
theorem zom{n x:Nat}(f:n≤6)(g:x<2^n):l8 5000 (x:Int)=some (cI (stN n x)):=by
 have i:2^n≤64:=Nat.le_trans (Nat.pow_le_pow_right (by decide) f) (by decide)
 have key: ∀ F s,s≤n→n-s<F→cz 5000 (x:Int) F (cI ((List.range s).filter fun s=>tb (x:Int) s)) (s:Int)=some (cI (stN n x)):=by
  intro F
  induction F with
  |zero=>intro s _ h;omega
  |succ F ih=>
   intro s o hF
   unfold cz
   rw [ze ⟨by omega,by show (s:Int)≤64;omega⟩,zch]
   by_cases h0:x/2^s=0
   ·rw [h0,um (by decide)]
    have c:x<2^s:=by
     rcases (Nat.div_eq_zero_iff).1 h0 with h|h
     ·have:=Nat.two_pow_pos s;omega
     ·exact h
    congr 2
    unfold stN
    have e:List.range n=List.range s++(List.range (n-s)).map (s+ ·):=by rw [←List.range_add];congr 1;omega
    rw [e,List.filter_append]
    have:((List.range (n-s)).map (s+ ·)).filter (fun s=>tb (x:Int) s)=[]:=by
     rw [List.filter_eq_nil_iff]
     intro a j h
     obtain⟨b,_,rfl⟩:=List.mem_map.1 j
     rw [zu1 (n:=s) (by exact_mod_cast c) (by omega)] at h;cases h
    rw [this,List.append_nil]
   ·have k:s<n:=by
     by_cases e:s=n
     ·subst e;exact absurd (Nat.div_eq_of_lt g) h0
     ·omega
    have hpos:(0:Int)<((x/2^s:Nat):Int):=by exact_mod_cast Nat.pos_of_ne_zero h0
    rw [wu hpos,ze ⟨by omega,by show (s:Int)≤64;omega⟩,ze ⟨Int.natCast_nonneg _,by decide⟩]
    have l:decide (((x/2^s:Nat):Int)%2=1)=tb (x:Int) s:=by
     unfold tb
     rw [Int.toNat_natCast,Nat.testBit_eq_decide_div_mod_eq]
     exact decide_eq_decide.2 ⟨fun h=>by omega,fun h=>by omega⟩
    have m:=List.length_filter_le (fun s=>tb (x:Int) s) (List.range s)
    rw [List.length_range] at m
    have d:(List.range (s+1)).filter (fun s=>tb (x:Int) s)=(List.range s).filter (fun s=>tb (x:Int) s)++if tb (x:Int) s=true then [s] else []:=by
     rw [List.range_succ,List.filter_append,List.filter_cons];rfl
    have hi:=ih (s+1) (by omega) (by omega)
    rw [l]
    cases ht:tb (x:Int) s with
    |true=>
     refine(qc ((ct rfl).trans (ze ⟨by rw [av];simp;omega,by rw [av];simp;omega⟩))).trans ?_
     rw [ze (qm (by omega)),kz,←hi,d,if_pos ht]
     unfold cI
     rw [List.map_append];rfl
    |false=>
     refine(qc (cf rfl)).trans ?_
     rw [ze (qm (by omega)),kz,←hi,d,if_neg (by rw [ht];decide),List.append_nil]
 unfold l8
 rw [qc (show cz 5000 (x:Int) 5000 [] 0=_ from key 5000 0 (Nat.zero_le _) (by omega))]
/-! ### splitting a list-/
def ptN(m:Mach)(L:List Nat)(i k o:Nat):List Nat:=((L.take k).filter (qO m i o)).map fun s=>tgt m s i
def q4s(m:Mach)(L:List Nat)(i k:Nat):Bool:=decide (tgt m (L.getD k default) i∈ptN m L i k (rz m (L.getD k default) i))
def okL(m:Mach)(L:List Nat)(i:Nat):Bool:=(List.range L.length).all fun k=> !q4s m L i k
section
variable {m : Mach} (hm : PM m) {i : Nat} (hi : i < nIn m)
include hm hi
theorem q0m{L X:List Nat}{P:List (List Int)}{k:Nat}(d:k<L.length)(c:L.getD k default<m.rows.length)(f:P.getD (rz m (L.getD k default) i) default=cI X)(b:rz m (L.getD k default) i<P.length)(p:X.length≤100):
 tq 5000 m (cI L) (i:Int) (k:Int) P 5000 0=some (if tgt m (L.getD k default) i∈X then Ex.rt (Ex.rt ([],false)) else Ex.go ()):=by
 obtain⟨g,q,r⟩:=zas hm hi c
 obtain⟨s,l⟩:=hm.toCM.tgt c hi
 have n:(ix (ix m.rows ((L.getD k default:Nat):Int)) (i:Int)).out=(rz m (L.getD k default) i:Int):=g
 have o:(ix (ix m.rows ((L.getD k default:Nat):Int)) (i:Int)).to=(tgt m (L.getD k default) i:Int):=l
 have key: ∀ F j,j≤X.length→X.length-j<F→tgt m (L.getD k default) i∉X.take j→tq 5000 m (cI L) (i:Int) (k:Int) P F (j:Int)=some (if tgt m (L.getD k default) i∈X then Ex.rt (Ex.rt ([],false)) else Ex.go ()):=by
  intro F
  induction F with
  |zero=>intro j _ h;omega
  |succ F ih=>
   intro j t hF a
   unfold tq
   rw [zdx d,n,o,ze (qy b),yn,f]
   by_cases e:j=X.length
   ·subst e
    rw [um (by rw [av];omega)]
    rw [List.take_length] at a
    rw [if_neg a]
   ·have hj':j<X.length:=by omega
    rw [wu (by rw [av];omega),ze (qy b),ze (z9x hj'),zdx hj']
    by_cases et:X.getD j default=tgt m (L.getD k default) i
    ·rw [wu (by omega),if_pos (by rw [←et];exact su hj')]
    ·rw [um (by omega),ze (qm (by omega)),kz]
     exact ih (j+1) (by omega) (by omega) fun h=>by
      rw [takeN hj',List.mem_append,List.mem_singleton] at h
      rcases h with h|h
      ·exact a h
      ·exact et h.symm
 exact key 5000 0 (Nat.zero_le _) (by omega) (by simp)
theorem zq7{L:List Nat}{k o:Nat}:(ptN m L i k o).length≤k:=by
 unfold ptN
 rw [List.length_map]
 have a:=List.length_filter_le (qO m i o) (L.take k)
 have b:=List.length_take_le k L
 omega
theorem zey{L:List Nat}{k o:Nat}(a:k<L.length):ptN m L i (k+1) o=ptN m L i k o++if o=rz m (L.getD k default) i then [tgt m (L.getD k default) i] else []:=by
 unfold ptN
 rw [takeN a,List.filter_append,List.map_append,List.filter_cons]
 by_cases e:o=rz m (L.getD k default) i
 ·rw [if_pos e,if_pos (show qO m i o (L.getD k default)=true from decide_eq_true e.symm)];rfl
 ·rw [if_neg e,if_neg (show¬qO m i o (L.getD k default)=true from fun h=>e (of_decide_eq_true h).symm)];rfl
def ptL(m:Mach)(L:List Nat)(i k:Nat):List (List Int):=(List.range m.outputs.toNat).map fun o=>cI (ptN m L i k o)
theorem zyw{L:List Nat}(l:Blk m.rows.length L):z2g 5000 m (cI L) (i:Int)=some (if okL m L i=true then(ptL m L i L.length,true) else([],false)):=by
 have w:=hm.r6
 have x:=l.len
 have y:=hm.toCM.nin
 have n:=hm.ok.o1
 have p:=hm.ok.o2
 have a: ∀ k o,o<m.outputs.toNat→(ptL m L i k).getD o default=cI (ptN m L i k o):=fun k o b=>ik _ b
 have hptl: ∀ k,(ptL m L i k).length=m.outputs.toNat:=fun k=>by unfold ptL;simp
 have key: ∀ F k,k≤L.length→L.length-k<F→(∀ j,j<k→q4s m L i j=false)→o9 5000 m (cI L) (i:Int) F (k:Int) (ptL m L i k)=some (if okL m L i=true then Ex.go (ptL m L i L.length) else Ex.rt ([],false)):=by
  intro F
  induction F with
  |zero=>intro k _ h;omega
  |succ F ih=>
   intro k z hF c
   unfold o9
   by_cases e:k=L.length
   ·subst e
    rw [um (by rw [av];omega),if_pos]
    unfold okL
    rw [List.all_eq_true]
    intro j f
    rw [c j (List.mem_range.1 f)];rfl
   ·have hk':k<L.length:=by omega
    have d:=l.lt _ (su hk')
    obtain⟨q,A,B⟩:=zas hm hi d
    obtain⟨C,r⟩:=hm.toCM.tgt d hi
    have s:(ix (ix m.rows ((L.getD k default:Nat):Int)) (i:Int)).out=(rz m (L.getD k default) i:Int):=q
    have t:(ix (ix m.rows ((L.getD k default:Nat):Int)) (i:Int)).to=(tgt m (L.getD k default) i:Int):=r
    have u:=zq7 hm hi (L:=L) (k:=k) (o:=rz m (L.getD k default) i)
    rw [wu (by rw [av];omega),ze (z9x hk'),zdx hk',ze (qy d),ze (hm.toCM.okr ⟨by omega,by omega⟩ (by omega) (by omega)),qc (q0m hm hi hk' d (a k _ (by omega)) (by rw [hptl];omega) (by omega))]
    by_cases hd:tgt m (L.getD k default) i∈ptN m L i k (rz m (L.getD k default) i)
    ·rw [if_pos hd,q94,if_neg]
     intro h
     have:=List.all_eq_true.1 h k (List.mem_range.2 hk')
     rw [show q4s m L i k=true from decide_eq_true hd] at this;cases this
    ·rw [if_neg hd,zgl,s,t]
     have hokI:okI (ptL m L i k) (rz m (L.getD k default) i:Int):=qy (by rw [hptl];omega)
     rw [ze hokI,yn,a k _ (by omega),ze ⟨by rw [av,List.length_singleton];omega,by rw [av,List.length_singleton];omega⟩,ze hokI,ze (qm (by omega)),kz,z5o]
     have g:(ptL m L i k).set (rz m (L.getD k default) i) (cI (ptN m L i k (rz m (L.getD k default) i))++[(tgt m (L.getD k default) i:Int)])=ptL m L i (k+1):=by
      refine z3c (by rw [List.length_set,hptl,hptl]) fun o b=>?_
      rw [List.length_set,hptl] at b
      rw [z0a (by rw [hptl];omega),a _ _ b,a _ _ b,zey hm hi hk']
      by_cases e2:o=rz m (L.getD k default) i
      ·subst e2
       rw [if_pos rfl,if_pos rfl];unfold cI;rw [List.map_append];rfl
      ·rw [if_neg e2,if_neg e2,List.append_nil]
     rw [g]
     exact ih (k+1) (by omega) (by omega) fun j f=>by
      by_cases ej:j=k
      ·subst ej;exact decide_eq_false hd
      ·exact c j (by omega)
 unfold z2g
 have v:mk m.outputs ([]:List Int)=ptL m L i 0:=by
  unfold mk ptL
  refine z3c (by simp) fun o b=>?_
  have ho':o<m.outputs.toNat:=by simpa using b
  rw [ik _ ho']
  simp [List.getD_eq_getElem?_getD,ho']
  rfl
 rw [ze ⟨by omega,by omega,by omega⟩,v,qc (show o9 5000 m (cI L) (i:Int) 5000 0 (ptL m L i 0)=_ from key 5000 0 (Nat.zero_le _) (by omega) fun j f=>by omega)]
 by_cases h:okL m L i=true
 ·rw [if_pos h,if_pos h];rfl
 ·rw [if_neg h,if_neg h];rfl
/-! ### a list and its number-/
def q08(m:Mach)(L:List Nat)(i:Nat):Prop:= ∀ s∈L,∀ t∈L,rz m s i=rz m t i→tgt m s i=tgt m t i→s=t
theorem zl2{L:List Nat}(o:Blk m.rows.length L):okL m L i=true↔q08 m L i:=by
 unfold okL
 rw [List.all_eq_true]
 constructor
 ·intro h
  have key: ∀ a b,a<b→b<L.length→rz m (L.getD a default) i=rz m (L.getD b default) i→tgt m (L.getD a default) i≠tgt m (L.getD b default) i:=fun a b p g f c=>by
   have:=h b (List.mem_range.2 g)
   rw [show q4s m L i b=true from decide_eq_true (List.mem_map.2 ⟨L.getD a default,List.mem_filter.2 ⟨?_,decide_eq_true f⟩,c⟩)] at this
   ·cases this
   ·rw [List.mem_iff_getElem]
    refine⟨a,by rw [List.length_take];omega,?_⟩
    rw [List.getElem_take,List.getD_eq_getElem?_getD,List.getElem?_eq_getElem (show a<L.length by omega)];rfl
  intro s l t q f c
  obtain⟨a,n,rfl⟩:=List.mem_iff_getElem.1 l
  obtain⟨b,g,rfl⟩:=List.mem_iff_getElem.1 q
  have ea:L.getD a default=L[a]:=by rw [List.getD_eq_getElem?_getD,List.getElem?_eq_getElem n];rfl
  have eb:L.getD b default=L[b]:=by rw [List.getD_eq_getElem?_getD,List.getElem?_eq_getElem g];rfl
  rcases Nat.lt_trichotomy a b with d|d|d
  ·exact absurd (by rw [ea,eb];exact c) (key a b d g (by rw [ea,eb];exact f))
  ·subst d;rfl
  ·exact absurd (by rw [ea,eb];exact c.symm) (key b a d n (by rw [ea,eb];exact f.symm))
 ·intro h k j
  have j:=List.mem_range.1 j
  cases hd:q4s m L i k with
  |false=>rfl
  |true=>
   obtain⟨s,l,f⟩:=List.mem_map.1 (of_decide_eq_true hd)
   obtain⟨c,d⟩:=List.mem_filter.1 l
   have e:=h s (List.mem_of_mem_take c) (L.getD k default) (su j) (of_decide_eq_true d) f
   rw [e] at c
   exact absurd c (zlb o j).2
theorem q61{x:Nat}(v:x<2^m.rows.length):z2d m x i=true↔q08 m (stN m.rows.length x) i:=by
 unfold z2d
 rw [List.all_eq_true]
 have hmem: ∀ s,s∈stN m.rows.length x↔s<m.rows.length∧tb (x:Int) s=true:=fun s=>by unfold stN;rw [List.mem_filter,List.mem_range]
 have o: ∀ s,zq9 m x i s=true↔tb (x:Int) s=true∧ ∃ t,t<s∧tb (x:Int) t=true∧rz m t i=rz m s i∧tgt m t i=tgt m s i:=fun s=>by
  unfold zq9
  rw [Bool.and_eq_true,zib]
  constructor
  ·rintro⟨d,t,f,c,g,j⟩;exact⟨d,t,f,c,of_decide_eq_true g,j⟩
  ·rintro⟨d,t,f,c,g,j⟩;exact⟨d,t,f,c,decide_eq_true g,j⟩
 constructor
 ·intro h s e t k d f
  rw [hmem] at e k
  have one: ∀ a b,a<b→b<m.rows.length→tb (x:Int) a=true→tb (x:Int) b=true→rz m a i=rz m b i→tgt m a i=tgt m b i→False:=fun a b l p q n r u=>by
   have:=h b (List.mem_range.2 p)
   rw [(o b).2 ⟨n,a,l,q,r,u⟩] at this;cases this
  rcases Nat.lt_trichotomy s t with c|c|c
  ·exact(one s t c k.1 e.2 k.2 d f).elim
  ·exact c
  ·exact(one t s c e.1 k.2 e.2 d.symm f.symm).elim
 ·intro h s e
  cases hds:zq9 m x i s with
  |false=>rfl
  |true=>
   obtain⟨d,t,f,c,g,j⟩:=(o s).1 hds
   have e:=List.mem_range.1 e
   have:=h t ((hmem t).2 ⟨by omega,c⟩) s ((hmem s).2 ⟨e,d⟩) g j
   omega
theorem zl4{L:List Nat}(a:Blk m.rows.length L):okL m L i=z2d m (num m.rows.length L) i:=by
 rw [Bool.eq_iff_iff,zl2 hm hi a,q61 hm hi z2w]
 have hmem: ∀ s,s∈stN m.rows.length (num m.rows.length L)↔s∈L:=fun s=>by
  unfold stN
  rw [List.mem_filter,List.mem_range,zf5 a]
  exact⟨fun h=>h.2,fun h=>⟨a.lt s h,h⟩⟩
 unfold q08
 constructor
 ·intro h s b t c;exact h s ((hmem s).1 b) t ((hmem t).1 c)
 ·intro h s b t c;exact h s ((hmem s).2 b) t ((hmem t).2 c)
theorem zfl{L:List Nat}{o t:Nat}:t∈ptN m L i L.length o↔ ∃ s∈L,rz m s i=o∧tgt m s i=t:=by
 unfold ptN
 rw [List.take_length,List.mem_map]
 constructor
 ·rintro⟨s,a,h⟩
  obtain⟨b,c⟩:=List.mem_filter.1 a
  exact⟨s,b,of_decide_eq_true c,h⟩
 ·rintro⟨s,a,b,c⟩;exact⟨s,List.mem_filter.2 ⟨a,decide_eq_true b⟩,c⟩
theorem zr3{L:List Nat}(d:Blk m.rows.length L)(h:q08 m L i)(o:Nat):Blk m.rows.length (ptN m L i L.length o):=by
 refine⟨fun t f=>?_,?_⟩
 ·obtain⟨s,g,_,rfl⟩:=(zfl hm hi).1 f
  exact(hm.toCM.tgt (d.lt s g) hi).1
 ·unfold ptN
  rw [List.take_length]
  unfold List.Nodup
  rw [List.pairwise_map]
  refine(List.Pairwise.filter (qO m i o) d.nd).imp_of_mem ?_
  intro a b j k c e
  obtain⟨l,n⟩:=List.mem_filter.1 j
  obtain⟨p,q⟩:=List.mem_filter.1 k
  exact c (h a l b p ((of_decide_eq_true n).trans (of_decide_eq_true q).symm) e)
theorem zae{L:List Nat}(a:Blk m.rows.length L)(o:Nat):num m.rows.length (ptN m L i L.length o)=prN m (num m.rows.length L) i o:=by
 have h:(num m.rows.length (ptN m L i L.length o):Int)=(prN m (num m.rows.length L) i o:Int):=by
  rw [z96,←zgc.2]
  unfold prI zg7
  refine zcd fun t f=>?_
  rw [Bool.eq_iff_iff,decide_eq_true_iff,zfl hm hi,zib]
  constructor
  ·rintro⟨s,d,b,c⟩;exact⟨s,a.lt s d,(zf5 a).2 d,decide_eq_true b,c⟩
  ·rintro⟨s,_,b,c,e⟩;exact⟨s,(zf5 a).1 b,of_decide_eq_true c,e⟩
 omega
/-! ### below-/
theorem zpd{L:List Nat}(b:Blk m.rows.length L){H:Nat→Int}{lv:Int}:iy 5000 m ((List.range (2^m.rows.length)).map H) (cI L) (i:Int) lv=some (z2d m (num m.rows.length L) i&&(List.range m.outputs.toNat).all fun o=>decide (0≤H (prN m (num m.rows.length L) i o))&&decide (H (prN m (num m.rows.length L) i o)<lv)):=by
 have f:=hm.r6
 have g:=hm.ok.o2
 have h:=z4z hm
 have c:=zyw hm hi b
 rw [zl4 hm hi b] at c
 unfold iy
 rw [qc c]
 cases hok:z2d m (num m.rows.length L) i with
 |false=>
  rw [if_neg (by decide),Bool.false_and]
  rw [qc (show uk 5000 ((List.range (2^m.rows.length)).map H) lv (([]:List (List Int)),false) 5000 (([]:List (List Int)),false).2 0=some false from by rw [uk];exact cf rfl)]
 |true=>
  rw [if_pos rfl,Bool.true_and]
  have hinj:=(zl2 hm hi b).1 ((zl4 hm hi b).trans hok)
  have a:(ptL m L i L.length).length=m.outputs.toNat:=by unfold ptL;simp
  have:=z2k (fun F k (z:Bool)=>uk 5000 ((List.range (2^m.rows.length)).map H) lv (ptL m L i L.length,true) F z (k:Int)) m.outputs.toNat (fun k=>(List.range k).all fun o=>decide (0≤H (prN m (num m.rows.length L) i o))&&decide (H (prN m (num m.rows.length L) i o)<lv)) ((List.range m.outputs.toNat).all fun o=>decide (0≤H (prN m (num m.rows.length L) i o))&&decide (H (prN m (num m.rows.length L) i o)<lv)) (fun F k e=>?_) (fun F=>?_) (F:=5000) (by omega)
  ·exact qc (show uk 5000 ((List.range (2^m.rows.length)).map H) lv (ptL m L i L.length,true) 5000 true 0=_ from this)
  ·show uk 5000 ((List.range (2^m.rows.length)).map H) lv (ptL m L i L.length,true) (F+1) _ (k:Int)=uk 5000 ((List.range (2^m.rows.length)).map H) lv (ptL m L i L.length,true) F _ ((k+1:Nat):Int)
   have j:ix (ptL m L i L.length) (k:Int)=cI (ptN m L i L.length k):=by rw [yn];exact ik _ e
   have d:=zgc (m:=m) (x:=num m.rows.length L) (i:=i) (o:=k)
   rw [uk]
   dsimp only
   rw [wu (by rw [a];omega),ze (qy (by rw [a];exact e)),j,qc (zxi f (zr3 hm hi b hinj k)),zae hm hi b,ze (qy (by simp;exact d.1)),yn,ik _ d.1,ze (qm (by omega)),kz]
   congr 1
   rw [List.range_succ,List.all_append]
   simp [Bool.and_assoc]
  ·show uk 5000 ((List.range (2^m.rows.length)).map H) lv (ptL m L i L.length,true) (F+1) _ (m.outputs.toNat:Int)=_
   rw [uk]
   dsimp only
   rw [um (by rw [a];omega)]
end
end GV
end Go.Proofs.Ytnnobdkjgafdmaa
