import Derived.Test.YtnnobdkjgafdmaaHgt15b
set_option linter.unusedVariables false
set_option linter.unusedSimpArgs false
set_option linter.unusedSectionVars false
namespace Go.Proofs.Ytnnobdkjgafdmaa
namespace GV
set_option maxRecDepth 100000
def mpR(n:Nat)(f:Nat→Int):List Int:=(List.range n).map f
theorem z5r{n:Nat}{f:Nat→Int}:(mpR n f).length=n:=by unfold mpR;simp
theorem zpp{n k:Nat}{f:Nat→Int}(h:k<n):ix (mpR n f) (k:Int)=f k:=by rw [yn];exact ik _ h
theorem zdo{n k:Nat}{f:Nat→Int}(h:k<n):okI (mpR n f) (k:Int):=qy (by rw [z5r];exact h)
theorem z7p{n:Nat}{f g:Nat→Int}(h: ∀ y,y<n→f y=g y):mpR n f=mpR n g:=List.map_congr_left fun y a=>h y (List.mem_range.1 a)
theorem zv9{n k:Nat}{f:Nat→Int}{z:Int}(b:k<n):up (mpR n f) (k:Int) z=mpR n fun t=>if t=k then z else f t:=by
 rw [z5o]
 refine z3c (by rw [List.length_set,z5r,z5r]) fun y a=>?_
 rw [List.length_set,z5r] at a
 rw [z0a (by rw [z5r];exact b)]
 rw [show (mpR n fun t=>if t=k then z else f t).getD y default=if y=k then z else f y from ik _ a,show (mpR n f).getD y default=f y from ik _ a]
theorem q2t{n:Nat}:List.replicate n (0:Int)=mpR n fun _=>0:=by
 refine z3c (by rw [z5r];simp) fun y a=>?_
 have a:y<n:=by simpa using a
 rw [show (mpR n fun _=>0).getD y default=0 from ik _ a]
 simp [List.getD_eq_getElem?_getD,a]
theorem zl0{n x s:Nat}:s∈stN n x↔s<n∧tb (x:Int) s=true:=by unfold stN;rw [List.mem_filter,List.mem_range]
theorem q5r{n x:Nat}(j:n≤6)(l:x<2^n):(stN n x).length<2↔pcB (x:Int)<2:=by
 have m:2^n≤64:=Nat.le_trans (Nat.pow_le_pow_right (by decide) j) (by decide)
 have o:=zxx (n:=n) (x:=x)
 have i:=zfv (x:=(x:Int)) (by omega)
 constructor
 ·intro h
  refine Nat.lt_of_not_le fun p=>?_
  obtain⟨a,b,g,c,d⟩:=i.1 (show 1<pcB (x:Int) by omega)
  have lt: ∀ a,tb (x:Int) a=true→a<n:=fun a c=>by
   refine Nat.lt_of_not_le fun h=>?_
   rw [zu1 (n:=n) (by exact_mod_cast l) h] at c;cases c
  have hsub:[a,b]⊆stN n x:=fun s f=>by
   rcases List.mem_cons.1 f with rfl|f
   ·exact zl0.2 ⟨lt _ c,c⟩
   ·rw [List.mem_singleton] at f;subst f
    exact zl0.2 ⟨lt _ d,d⟩
  have:=List.Nodup.length_le_of_subset (l₁:=[a,b]) (by simp [g]) hsub
  simp at this
  omega
 ·intro h
  refine Nat.lt_of_not_le fun p=>?_
  have:1<pcB (x:Int):=i.2 ⟨(stN n x).getD 0 default,(stN n x).getD 1 default,?_,(zl0.1 (su (by omega))).2,(zl0.1 (su (by omega))).2⟩
  ·omega
  ·intro e
   have:=(zlb o (k:=1) (by omega)).2
   rw [←e] at this
   refine this ?_
   rw [takeN (k:=0) (by omega)]
   simp
section
variable {m : Mach} (hm : PM m)
include hm
theorem qa6:uu 5000 5000 0 (List.replicate (2^m.rows.length) (0:Int))=some (mpR (2^m.rows.length) (LV m 0)):=by
 have f:=hm.r6
 have g:=z4z hm
 have:=z2k (fun F k z=>uu 5000 F (k:Int) z) (2^m.rows.length) (fun k=>mpR (2^m.rows.length) fun y=>if y<k then LV m 0 y else 0) (mpR (2^m.rows.length) (LV m 0)) (fun F k a=>?_) (fun F=>?_) (F:=5000) (by omega)
 ·rw [q2t,show (mpR (2^m.rows.length) fun _=>0)=mpR (2^m.rows.length) (fun y=>if y<0 then LV m 0 y else 0) from z7p fun y _=>(if_neg (by omega)).symm]
  exact this
 ·show uu 5000 (F+1) (k:Int) _=uu 5000 F ((k+1:Nat):Int) _
  have b:=q5r f a
  have hstep: ∀ z,z=LV m 0 k→(mpR (2^m.rows.length) fun t=>if t=k then z else if t<k then LV m 0 t else 0)=mpR (2^m.rows.length) fun y=>if y<k+1 then LV m 0 y else 0:=fun z i=>z7p fun y c=>by
   by_cases e:y=k
   ·subst e;rw [if_pos rfl,if_pos (by omega),i]
   ·rw [if_neg e]
    by_cases h:y<k
    ·rw [if_pos h,if_pos (by omega)]
    ·rw [if_neg h,if_neg (by omega)]
  rw [uu,wu (by rw [z5r];omega)]
  have hbody:(gd (okI (mpR (2^m.rows.length) fun y=>if y<k then LV m 0 y else 0) (k:Int))<|
   bd (l8 5000 (k:Int)) fun d=>
   bif decide ((↑d.length:Int)<2) then(
   gd (okI (up (mpR (2^m.rows.length) fun y=>if y<k then LV m 0 y else 0) (k:Int) (-1)) (k:Int))<|
   some (up (up (mpR (2^m.rows.length) fun y=>if y<k then LV m 0 y else 0) (k:Int) (-1)) (k:Int) 0)) else(
   some (up (mpR (2^m.rows.length) fun y=>if y<k then LV m 0 y else 0) (k:Int) (-1))))=some (mpR (2^m.rows.length) fun y=>if y<k+1 then LV m 0 y else 0):=by
   rw [ze (zdo a),qc (zom f a),zv9 a,zv9 a]
   by_cases h:(stN m.rows.length k).length<2
   ·rw [wu (by rw [av];omega),ze (zdo a)]
    congr 1
    rw [←hstep 0 (if_pos (b.1 h)).symm]
    exact z7p fun y c=>by
     by_cases e:y=k
     ·rw [if_pos e,if_pos e]
     ·rw [if_neg e,if_neg e,if_neg e]
   ·rw [um (by rw [av];omega)]
    congr 1
    exact hstep (-1) (if_neg fun j=>h (b.2 j)).symm
  rw [qc hbody,ze (qm (by omega)),kz]
 ·show uu 5000 (F+1) ((2^m.rows.length:Nat):Int) _=_
  rw [uu,um (by rw [z5r];omega)]
  congr 1
  exact z7p fun y c=>if_pos c
theorem zu3{x i o:Nat}(hi:i<nIn m)(c:m.outputs.toNat≤o):prN m x i o=0:=by
 have:prI m x i o=0:=by
  refine(zar (Int.le_refl 0) (by have:(0:Nat)<2^m.rows.length:=Nat.two_pow_pos _;omega) fun t d=>?_).symm
  rw [zcx]
  cases h:zct m (x:Int) i (qO m i o) m.rows.length t with
  |false=>rfl
  |true=>
   obtain⟨s,a,_,b,_⟩:=zib.1 h
   have e:rz m s i=o:=of_decide_eq_true b
   obtain⟨_,_,f⟩:=zas hm hi a
   omega
 unfold prN
 rw [this];rfl
theorem zxk{k:Nat}:LV m k 0=0:=zc5 (by decide) k
theorem zzp{k y i:Nat}(b:y<2^m.rows.length)(hi:i<nIn m):iy 5000 m (mpR (2^m.rows.length) (LV m k)) (cI (stN m.rows.length y)) (i:Int) ((k:Int)+1)=some (z2d m y i&&(List.range 16).all fun o=>decide (0≤LV m k (prN m y i o))):=by
 have h:=zpd hm hi (zxx (n:=m.rows.length) (x:=y)) (H:=LV m k) (lv:=(k:Int)+1)
 rw [q7b b] at h
 refine h.trans ?_
 congr 2
 have c:=hm.ok.o1
 have d:=hm.ok.o2
 rw [Bool.eq_iff_iff,List.all_eq_true,List.all_eq_true]
 constructor
 ·intro h o a
  by_cases e:o<m.outputs.toNat
  ·exact(Bool.and_eq_true _ _▸h o (List.mem_range.2 e)).1
  ·rw [zu3 hm hi (by omega),zxk hm];rfl
 ·intro h o a
  have a:=List.mem_range.1 a
  have f:=zk7 (m:=m) (k:=k) (x:=prN m y i o)
  rw [h o (List.mem_range.2 (by omega)),Bool.true_and,decide_eq_true_iff];omega
theorem qaf{k y:Nat}{X:List Int}(a:y<2^m.rows.length)(g:X.length≤1000):xg 5000 m ((k:Int)+1) (mpR (2^m.rows.length) (LV m k)) X (y:Int) 5000 0=some (X++if z5f m k y=true then [(y:Int)] else []):=by
 have d:=hm.r6
 have l:=hm.toCM.nin
 have f:=hm.ok.i2
 by_cases h0:0≤LV m k y
 ·have hnew:z5f m k y=false:=by unfold z5f;rw [decide_eq_false (by omega)];rfl
  rw [if_neg (by rw [hnew];decide),List.append_nil,xg,ze (fun _=>zdo a),zpp a,decide_eq_false (show¬LV m k y<0 by omega),Bool.and_false];rfl
 ·have key: ∀ F i,i≤nIn m→nIn m-i<F→(∀ j,j<i→(z2d m y j&&(List.range 16).all fun o=>decide (0≤LV m k (prN m y j o)))=false)→xg 5000 m ((k:Int)+1) (mpR (2^m.rows.length) (LV m k)) X (y:Int) F (i:Int)=some (X++if z5f m k y=true then [(y:Int)] else []):=by
   intro F
   induction F with
   |zero=>intro i _ h;omega
   |succ F ih=>
    intro i hi hF b
    unfold xg
    rw [ze (fun _=>zdo a),zpp a,decide_eq_true (show LV m k y<0 by omega),Bool.and_true]
    by_cases e:i=nIn m
    ·subst e
     rw [um (by omega)]
     have hnew:z5f m k y=false:=by
      unfold z5f
      rw [Bool.and_eq_false_iff];right
      unfold zfz
      rw [List.any_eq_false]
      intro j c h
      rw [b j (List.mem_range.1 c)] at h;cases h
     rw [if_neg (by rw [hnew];decide),List.append_nil]
    ·rw [wu (by omega),qc (zom d a),qc (zzp hm a (by omega))]
     cases hb:(z2d m y i&&(List.range 16).all fun o=>decide (0≤LV m k (prN m y i o))) with
     |true=>
      have hnew:z5f m k y=true:=by
       unfold z5f zfz
       rw [decide_eq_true (show LV m k y<0 by omega),Bool.true_and,List.any_eq_true]
       exact⟨i,List.mem_range.2 (by omega),hb⟩
      refine(ct rfl).trans ?_
      rw [if_pos hnew,ze ⟨by simp;omega,by simp;omega⟩]
     |false=>
      refine(cf rfl).trans ?_
      rw [ze (qm (by omega)),kz]
      exact ih (i+1) (by omega) (by omega) fun j c=>by
       by_cases ej:j=i
       ·subst ej;exact hb
       ·exact b j (by omega)
  exact key 5000 0 (Nat.zero_le _) (by omega) fun j c=>by omega
def nwL(m:Mach)(k y:Nat):List Nat:=(List.range y).filter (z5f m k)
theorem zyc{k y:Nat}:(nwL m k y).length≤y:=by
 have:=List.length_filter_le (z5f m k) (List.range y)
 rw [List.length_range] at this;exact this
theorem qci{k:Nat}:ut 5000 m ((k:Int)+1) (mpR (2^m.rows.length) (LV m k)) 5000 [] 0=some (cI (nwL m k (2^m.rows.length))):=by
 have a:=z4z hm
 have:=z2k (fun F y z=>ut 5000 m ((k:Int)+1) (mpR (2^m.rows.length) (LV m k)) F z (y:Int)) (2^m.rows.length) (fun y=>cI (nwL m k y)) (cI (nwL m k (2^m.rows.length))) (fun F y b=>?_) (fun F=>?_) (F:=5000) (by omega)
 ·exact this
 ·show ut 5000 m ((k:Int)+1) (mpR (2^m.rows.length) (LV m k)) (F+1) (cI (nwL m k y)) (y:Int)=ut 5000 m ((k:Int)+1) (mpR (2^m.rows.length) (LV m k)) F (cI (nwL m k (y+1))) ((y+1:Nat):Int)
  have c:=zyc hm (k:=k) (y:=y)
  rw [ut,wu (by rw [z5r];omega),qc (qaf hm b (by rw [av];omega)),ze (qm (by omega)),kz]
  congr 1
  unfold nwL
  rw [List.range_succ,List.filter_append,List.filter_cons]
  unfold cI
  rw [List.map_append]
  split<;>rfl
 ·show ut 5000 m ((k:Int)+1) (mpR (2^m.rows.length) (LV m k)) (F+1) _ ((2^m.rows.length:Nat):Int)=_
  rw [ut,um (by rw [z5r];omega)]
theorem qbk{k:Nat}:uq 5000 ((k:Int)+1) (cI (nwL m k (2^m.rows.length))) 5000 0 (mpR (2^m.rows.length) (LV m k))=some (mpR (2^m.rows.length) (LV m (k+1))):=by
 have f:=z4z hm
 have g:=zyc hm (k:=k) (y:=2^m.rows.length)
 have hmem: ∀ y,y∈nwL m k (2^m.rows.length)↔y<2^m.rows.length∧z5f m k y=true:=fun y=>by unfold nwL;rw [List.mem_filter,List.mem_range]
 generalize nwL m k (2^m.rows.length)=W at*
 have:=z2k (fun F j z=>uq 5000 ((k:Int)+1) (cI W) F (j:Int) z) W.length (fun j=>mpR (2^m.rows.length) fun y=>if y∈W.take j then(k:Int)+1 else LV m k y) (mpR (2^m.rows.length) (LV m (k+1))) (fun F j b=>?_) (fun F=>?_) (F:=5000) (by omega)
 ·rw [show mpR (2^m.rows.length) (LV m k)=mpR (2^m.rows.length) (fun y=>if y∈W.take 0 then(k:Int)+1 else LV m k y) from z7p fun y _=>(if_neg (by simp)).symm]
  exact this
 ·show uq 5000 ((k:Int)+1) (cI W) (F+1) (j:Int) _=uq 5000 ((k:Int)+1) (cI W) F ((j+1:Nat):Int) _
  have c:=((hmem _).1 (su b)).1
  rw [uq,wu (by rw [av];omega),ze (z9x b),zdx b,ze (zdo c),ze (qm (by omega)),kz,zv9 c]
  congr 1
  exact z7p fun y d=>by
   rw [takeN b]
   by_cases e:y=W.getD j default
   ·rw [if_pos e,if_pos (by rw [e];simp)]
   ·rw [if_neg e]
    by_cases h:y∈W.take j
    ·rw [if_pos h,if_pos (List.mem_append.2 (.inl h))]
    ·rw [if_neg h,if_neg]
     intro a
     rcases List.mem_append.1 a with a|a
     ·exact h a
     ·exact e (List.mem_singleton.1 a)
 ·show uq 5000 ((k:Int)+1) (cI W) (F+1) (W.length:Int) _=_
  rw [uq,um (by rw [av];omega),List.take_length]
  congr 1
  exact z7p fun y d=>by
   by_cases h:z5f m k y=true
   ·rw [if_pos ((hmem y).2 ⟨d,h⟩)]
    unfold z5f at h
    rw [Bool.and_eq_true,decide_eq_true_iff] at h
    exact(if_pos h).symm
   ·rw [if_neg fun a=>h ((hmem y).1 a).2]
    refine(if_neg fun a=>h ?_).symm
    unfold z5f
    rw [Bool.and_eq_true,decide_eq_true_iff];exact a
theorem qbi: ∀ F k,zs2 m k<F→k+zs2 m k+1≤2^m.rows.length→p8 5000 m F ((k:Int)+1) (mpR (2^m.rows.length) (LV m k))=some (mpR (2^m.rows.length) (FT m)):=by
 have f:=z4z hm
 intro F
 induction F with
 |zero=>intro k h;omega
 |succ F ih=>
  intro k hF i
  unfold p8
  rw [wu (by rw [z5r];omega),qc (qci hm),qc (qbk hm)]
  by_cases e:nwL m k (2^m.rows.length)=[]
  ·rw [wu (by rw [e];rfl)]
   have d:Stb m k:=fun y a=>by
    cases h:z5f m k y with
    |false=>rfl
    |true=>
     have:y∈nwL m k (2^m.rows.length):=List.mem_filter.2 ⟨List.mem_range.2 a,h⟩
     rw [e] at this;cases this
   congr 1
   exact z7p fun y a=>by
    have b:=(zvq hm d 1).2 y a
    have c:=zum hm d (by omega) a
    exact b.trans c.symm
  ·have g:=List.length_pos_iff.2 e
   have hany:(List.range (2^m.rows.length)).any (z5f m k)=true:=by
    obtain⟨y,a⟩:=List.exists_mem_of_length_pos g
    obtain⟨b,c⟩:=List.mem_filter.1 a
    exact List.any_eq_true.2 ⟨y,b,c⟩
   have j:=zsr hm hany
   rw [um (by rw [av];omega),ze (qm (by omega))]
   exact ih (k+1) (by omega) (by omega)
theorem zk2:om 5000 m=some (mpR (2^m.rows.length) (FT m)):=by
 have c:=hm.r6
 have a:=z4z hm
 have d:=q48 hm
 have b:lh .i64 (1:Int) (m.rows.length:Int)=((2^m.rows.length:Nat):Int):=by
  unfold lh
  rw [Int.toNat_natCast,Int.one_mul,show ((2:Int)^(m.rows.length))=((2^m.rows.length:Nat):Int) by norm_cast]
  exact z6o _ (Int.natCast_nonneg _) (Int.le_trans (Int.ofNat_le.2 a) (by decide))
 unfold om
 rw [ze ⟨by omega,by show (m.rows.length:Int)≤64;omega⟩,b,ze ⟨by omega,by omega,by omega⟩,zdp,qc (qa6 hm),qc (show p8 5000 m 5000 1 (mpR (2^m.rows.length) (LV m 0))=some (mpR (2^m.rows.length) (FT m)) from qbi hm 5000 0 (by omega) (by omega))]
end
end GV
end Go.Proofs.Ytnnobdkjgafdmaa
