import Derived.Test.YtnnobdkjgafdmaaLst15
set_option linter.unusedVariables false
set_option linter.unusedSimpArgs false
set_option linter.unusedSectionVars false
namespace Go.Proofs.Ytnnobdkjgafdmaa
namespace GV
set_option maxRecDepth 100000
theorem zhw{σ ρ:Type}(L:Nat→Nat→σ→Option ρ)(n:Nat)(inv:Nat→σ→Prop)(r:ρ)(step: ∀ F k s,k<n→inv k s→ ∃ s',inv (k+1) s'∧L (F+1) k s=L F (k+1) s')(fin: ∀ F s,inv n s→L (F+1) n s=some r)(F:Nat)(s:σ)(c:n<F)(hi:inv 0 s):L F 0 s=some r:=
 cz L n inv r (fun F k s a b=> .inr (step F k s a b)) fin F 0 s (Nat.zero_le _) (by omega) hi
theorem q0c{N:Nat}{a b:List Int}(f:a.length<N)(g:a.length≤4611686018427387904):ll N a b=some (cmpL a b):=by
 unfold ll cmpL
 by_cases h0:a.length≠b.length
 ·rw [bq (by omega)]
  by_cases h1:a.length<b.length
  ·rw [bq (by omega),if_pos h1]
  ·rw [xh (by omega),if_neg h1,if_pos (by omega)]
 ·rw [xh (by omega),if_neg (by omega),if_neg (by omega)]
  have h:a.length=b.length:=by omega
  have e:wy N a b N 0=some (if zgv a b=0 then Ex.go () else Ex.rt (zgv a b)):=by
   refine cz (σ:=Unit) (fun F k _=>wy N a b F (k:Int)) a.length (fun k _=>zgv (a.drop k) (b.drop k)=zgv a b) _ (fun F k _ d hi=>?_) (fun F _ hi=>?_) N 0 () (Nat.zero_le _) (by omega) rfl
   ·simp only [wy]
    rw [bq (by omega),zl (jf d),zl (jf (by omega))]
    have c:=zvf d (show k<b.length by omega)
    rw [hi] at c
    by_cases h3:a.getD k default<b.getD k default
    ·left
     refine Eq.trans (bq h3) ?_
     rw [if_pos h3] at c;rw [c];rfl
    ·refine(show _∨_ from ?_)
     rw [if_neg h3] at c
     by_cases h4:b.getD k default<a.getD k default
     ·left
      refine Eq.trans (xh h3) ?_
      rw [zl (jf d),zl (jf (by omega))]
      refine Eq.trans (bq h4) ?_
      rw [if_pos h4] at c;rw [c];rfl
     ·right
      rw [if_neg h4] at c
      refine⟨(),c.symm,Eq.trans (xh h3) ?_⟩
      rw [zl (jf d),zl (jf (by omega))]
      refine Eq.trans (xh h4) ?_
      rw [zl (j6 (by omega))];rfl
   ·simp only [wy]
    rw [xh (by omega)]
    have:zgv a b=0:=by rw [←hi,List.drop_of_length_le (Nat.le_refl _)];rfl
    rw [if_pos this]
  rw [qg e]
  by_cases h5:zgv a b=0
  ·rw [if_pos h5,h5];rfl
  ·rw [if_neg h5];rfl
def z01(ni:Nat):Nat→List (List Int)
 |0=>[[]]
 |k+1=>(z01 ni k).flatMap fun w=>(List.range ni).map fun(i:Nat)=>w++[(i:Int)]
def z4c(ni k:Nat):List (List Int):=(List.range k).flatMap (z01 ni)
theorem z5c{ni:Nat}: ∀ {k:Nat} {w:List Int},w∈z01 ni k↔w.length=k∧WIn ni w
 |0,w=>by
  unfold z01
  rw [List.mem_singleton]
  constructor
  ·rintro rfl;exact⟨rfl,WIn.nil⟩
  ·rintro⟨h,_⟩;exact List.length_eq_zero_iff.1 h
 |k+1,w=>by
  unfold z01
  rw [List.mem_flatMap]
  constructor
  ·rintro⟨v,a,e⟩
   obtain⟨i,hi,rfl⟩:=List.mem_map.1 e
   obtain⟨b,c⟩:=z5c.1 a
   have:=List.mem_range.1 hi
   exact⟨by simp [b],c.snoc (by omega) (by omega)⟩
  ·rintro⟨b,c⟩
   obtain⟨v,i,rfl,a⟩:=zib b
   obtain⟨d,f,g⟩:=c.init
   refine⟨v,z5c.2 ⟨a,d⟩,List.mem_map.2 ⟨i.toNat,List.mem_range.2 (by omega),?_⟩⟩
   show v++[((i.toNat:Nat):Int)]=v++[i]
   rw [show ((i.toNat:Nat):Int)=i by omega]
theorem zit{ni:Nat}: ∀ k,(z01 ni k).Pairwise llt
 |0=>List.pairwise_singleton ..
 |k+1=>by
  unfold z01
  rw [List.pairwise_flatMap]
  refine⟨fun w f=>?_,(zit k).imp_of_mem fun {a b} g l c x d y e=>?_⟩
  ·rw [List.pairwise_map]
   exact List.pairwise_lt_range.imp fun h=>zke w (by omega)
  ·obtain⟨i,_,rfl⟩:=List.mem_map.1 d
   obtain⟨j,_,rfl⟩:=List.mem_map.1 e
   exact zc4 _ _ c
theorem zbn{ni:Nat}: ∀ k,(z01 ni k).length=ni^k
 |0=>rfl
 |k+1=>by
  unfold z01
  have: ∀ l:List (List Int),(l.flatMap fun w=>(List.range ni).map fun(i:Nat)=>w++[(i:Int)]).length=l.length*ni:=by
   intro l
   induction l with
   |nil=>simp
   |cons a l ih=>rw [List.flatMap_cons,List.length_append,ih,List.length_map,List.length_range,List.length_cons,Nat.add_mul];omega
  rw [this,zbn k,Nat.pow_succ]
theorem zgm{ni k:Nat}{w:List Int}:w∈z4c ni k↔w.length<k∧WIn ni w:=by
 unfold z4c
 rw [List.mem_flatMap]
 constructor
 ·rintro⟨j,c,d⟩
  obtain⟨b,a⟩:=z5c.1 d
  have:=List.mem_range.1 c
  exact⟨by omega,a⟩
 ·rintro⟨b,a⟩
  exact⟨w.length,List.mem_range.2 b,z5c.2 ⟨rfl,a⟩⟩
theorem zvk{ni k:Nat}:(z4c ni k).Pairwise llt:=by
 unfold z4c
 rw [List.pairwise_flatMap]
 refine⟨fun j _=>zit j,List.pairwise_lt_range.imp fun {a b} c x d y e=>?_⟩
 exact .inl (by rw [(z5c.1 d).1,(z5c.1 e).1];exact c)
theorem q05{N ni k:Nat}(n:5000≤N)(d:ni≤3)(o:k≤6):z0o N (ni:Int) (k:Int)=some (z01 ni k):=by
 have hpow: ∀ j,j≤6→(z01 ni j).length≤729:=fun j c=>by
  rw [zbn]
  exact Nat.le_trans (Nat.pow_le_pow_left d j) (Nat.le_trans (Nat.pow_le_pow_right (by decide) c) (by decide))
 have e: ∀ {j p:Nat},p<(z01 ni j).length→((z01 ni j).getD p default).length=j:=fun b=>(z5c.1 (zea b)).1
 have f: ∀ (j p:Nat) (out:List (List Int)),j≤5→p<(z01 ni j).length→out.length≤4000→yu N (ni:Int) (z01 ni j) (p:Int) N 0 out=some (out++(List.range ni).map fun(i:Nat)=>(z01 ni j).getD p default++[(i:Int)]):=fun j p out c b q=>by
  have r:=e b
  refine zhw (fun F i s=>yu N (ni:Int) (z01 ni j) (p:Int) F (i:Int) s) ni (fun i s=>s=out++(List.range i).map (fun(i:Nat)=>(z01 ni j).getD p default++[(i:Int)])∧s.length=out.length+i) _ (fun F i s hi a=>?_) (fun F s a=>?_) N out (by omega) ⟨by simp,by simp⟩
  ·obtain⟨a,m⟩:=a
   simp only [yu]
   rw [bq (by omega),zl (jf b),su,zl ⟨by simp only [List.length_nil];omega,by simp only [List.length_nil];omega⟩,List.nil_append,zl ⟨by simp only [List.length_singleton];omega,by simp only [List.length_singleton];omega⟩,zl ⟨by simp only [List.length_singleton];omega,by simp only [List.length_singleton];omega⟩,zl (j6 (by omega)),mq]
   refine⟨_,⟨?_,by simp only [List.length_append,List.length_singleton];omega⟩,rfl⟩
   rw [a,List.range_succ,List.map_append,List.append_assoc];rfl
  ·simp only [yu]
   rw [xh (by omega),a.1]
 have g: ∀ j,j≤5→yw N (ni:Int) (z01 ni j) N [] 0=some (z01 ni (j+1)):=fun j c=>by
  have l:=hpow j (by omega)
  refine zhw (fun F p s=>yw N (ni:Int) (z01 ni j) F s (p:Int)) (z01 ni j).length (fun p s=>s=((z01 ni j).take p).flatMap (fun w=>(List.range ni).map fun(i:Nat)=>w++[(i:Int)])∧s.length≤3*p) _ (fun F p s b a=>?_) (fun F s a=>?_) N [] (by omega) ⟨rfl,Nat.zero_le _⟩
  ·obtain⟨a,m⟩:=a
   simp only [yw]
   rw [bq (by omega),qg (f j p s c b (by omega)),zl (j6 (by omega)),mq]
   refine⟨_,⟨?_,?_⟩,rfl⟩
   ·rw [q0v b,List.flatMap_append,a];simp
   ·rw [List.length_append,List.length_map,List.length_range];omega
  ·simp only [yw]
   rw [xh (by omega),a.1,List.take_length];rfl
 have h:yn N (ni:Int) (k:Int) N [[]] 0=some (z01 ni k):=by
  refine zhw (fun F j s=>yn N (ni:Int) (k:Int) F s (j:Int)) k (fun j s=>s=z01 ni j) _ (fun F j s c a=>?_) (fun F s a=>?_) N [[]] (by omega) rfl
  ·subst a
   simp only [yn]
   rw [bq (by omega),qg (g j (by omega)),zl (j6 (by omega)),mq]
   exact⟨_,rfl,rfl⟩
  ·simp only [yn]
   rw [xh (by omega),a]
 unfold z0o
 rw [qg h]
theorem zmu{N ni k:Nat}(e:5000≤N)(a:ni≤3)(h:k≤6):lw N (ni:Int) (k:Int)=some (z4c ni (k+1))∧(z4c ni (k+1)).length≤1093:=by
 have hlen: ∀ j,2*(z4c ni j).length+1≤3^j:=by
  intro j
  induction j with
  |zero=>simp [z4c]
  |succ j ih=>
   have f:(z01 ni j).length≤3^j:=by rw [zbn];exact Nat.pow_le_pow_left a j
   unfold z4c at ih⊢
   rw [List.range_succ,List.flatMap_append,List.length_append,Nat.pow_succ]
   simp only [List.flatMap_cons,List.flatMap_nil,List.append_nil]
   omega
 have b: ∀ j,j≤7→3^j≤2187:=fun j d=>Nat.le_trans (Nat.pow_le_pow_right (by decide) d) (by decide)
 have g:xu N (ni:Int) (k:Int) N [] 0=some (z4c ni (k+1)):=by
  refine zhw (fun F j s=>xu N (ni:Int) (k:Int) F s (j:Int)) (k+1) (fun j s=>s=z4c ni j) _ (fun F j s d c=>?_) (fun F s c=>?_) N [] (by omega) rfl
  ·subst c
   have i:=hlen j;have l:=b j (by omega);have f:(z01 ni j).length≤3^j:=by rw [zbn];exact Nat.pow_le_pow_left a j
   simp only [xu]
   rw [bq (by omega),qg (q05 e a (by omega)),zl ⟨by omega,by omega⟩,zl (j6 (by omega)),mq]
   refine⟨_,?_,rfl⟩
   unfold z4c
   rw [List.range_succ,List.flatMap_append];simp
  ·simp only [xu]
   rw [xh (by omega),c]
 unfold lw
 rw [qg g]
 exact⟨rfl,by have:=hlen (k+1);have:=b (k+1) (by omega);omega⟩
theorem zwy{a b:List Int}(h:lle a b)(k:lle b a):a=b:=by
 rcases h with h|h
 ·exact h
 ·exact absurd h (z9s k)
end GV
end Go.Proofs.Ytnnobdkjgafdmaa
