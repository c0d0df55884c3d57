import Derived.Test.YtkkcidhcfkmbjaaGreatDoorFil
import Derived.Test.YtkkcidhcfkmbjaaGreatDoorDifp
import Derived.Test.YtkkcidhcfkmbjaaGreatDoorJoint
set_option linter.unusedVariables false
set_option linter.unusedSimpArgs false
set_option linter.unusedSectionVars false
namespace Go.Proofs.YtkkcidhcfkmbjaaGreatDoor
namespace GV
set_option maxRecDepth 100000
section
variable {N : Nat} {m f : Mach}
theorem zhi{a b:List Int}(h:lle a b):a.length≤b.length:=by
 rcases h with rfl|h|⟨h,_⟩
 ·exact Nat.le_refl _
 ·omega
 ·omega
/-! ### Comparing words-/
theorem zje(x y:Int):cmp_Compare_int N x y=some (if x<y then-1 else if y<x then 1 else 0):=by
 unfold cmp_Compare_int
 rw [show cmp_isNaN_int N x=some false by unfold cmp_isNaN_int;rw [decide_eq_false (fun h=>h rfl)],z7r,show cmp_isNaN_int N y=some false by unfold cmp_isNaN_int;rw [decide_eq_false (fun h=>h rfl)],z7r]
 refine(cf rfl).trans ((cf rfl).trans ?_)
 by_cases h1:x<y
 ·rw [gz h1,if_pos h1]
 ·rw [xz h1,if_neg h1]
  by_cases h2:y<x
  ·rw [gz h2,if_pos h2]
  ·rw [xz h2,if_neg h2]
theorem zhn: ∀ (k:Nat) (a b:List Int),k<a.length→k<b.length→(∀ j,j<k→a.getD j default=b.getD j default)→a.getD k default<b.getD k default→z5l a b
 |0,x::a,y::b,_,_,_,h=> .inl (by simpa using h)
 |k+1,x::a,y::b,d,e,c,f=>by
  refine .inr ⟨by simpa using c 0 (by omega),zhn k a b (by simpa using d) (by simpa using e) (fun j g=>?_) (by simpa using f)⟩
  simpa using c (j+1) (by omega)
theorem zpc{a b:List Int}(m:a.length<N)(n:a.length≤1000): ∃ c,mh N a b=some c∧(a.length=b.length→c<0→z5l a b):=by
 obtain⟨r,f,g⟩: ∃ r,uj N a b N 0=some r∧(r=Ex.go ()∨ ∃ c,r=Ex.rt c∧(a.length=b.length→c<0→z5l a b)):=by
  refine z98 (σ:=Unit) (fun F k _=>uj N a b F (k:Int)) a.length (fun k _=>k≤b.length∧ ∀ j,j<k→a.getD j default=b.getD j default) _ (fun F k _ d hi=>?_) (fun F _ hi=>?_) N 0 () (Nat.zero_le _) (by omega) ⟨Nat.zero_le _,fun j i=>by omega⟩
  ·simp only [uj]
   rw [gz (by omega),zm (jc d)]
   by_cases hb:b.length≤k
   ·left
    rw [gz (by omega)]
    exact⟨_,rfl,.inr ⟨1,rfl,fun _ h=>absurd h (by decide)⟩⟩
   ·rw [xz (by omega),zm (jc (by omega)),bi,bi,q9 (zje _ _)]
    by_cases h1:a.getD k default<b.getD k default
    ·left
     rw [if_pos h1,gz (by decide)]
     exact⟨_,rfl,.inr ⟨-1,rfl,fun _ _=>zhn k a b d (by omega) hi.2 h1⟩⟩
    ·rw [if_neg h1]
     by_cases h2:b.getD k default<a.getD k default
     ·left
      rw [if_pos h2,gz (by decide)]
      exact⟨_,rfl,.inr ⟨1,rfl,fun _ h=>absurd h (by decide)⟩⟩
     ·right
      refine⟨(),⟨by omega,fun j i=>?_⟩,?_⟩
      ·by_cases e:j=k
       ·rw [e];omega
       ·exact hi.2 j (by omega)
      ·rw [if_neg h2,xz (fun h=>h rfl),zm (jm (by omega))];rfl
  ·simp only [uj]
   rw [xz (by omega)]
   exact⟨_,rfl,.inl rfl⟩
 unfold mh
 rw [q9 f]
 rcases g with rfl|⟨c,rfl,l⟩
 ·rw [z9u]
  by_cases h:(a.length:Int)<(b.length:Int)
  ·rw [gz h];exact⟨_,rfl,fun o _=>by omega⟩
  ·rw [xz h];exact⟨_,rfl,fun _ h=>absurd h (by decide)⟩
 ·exact⟨c,rfl,l⟩
theorem zu6(a:5≤N)(x y:Int):z2r N [x,y]=some (if x≠0 then x else y):=by
 obtain⟨F,rfl⟩: ∃ F,N=F+5:=⟨N-5,by omega⟩
 unfold z2r
 by_cases hx:x≠0
 ·rw [q9 (x:=Ex.rt x) (by
   simp only [nk]
   rw [gz (by simp),zm (show okI ([x,y]:List Int) 0 from⟨by omega,by simp⟩),gz (show ix ([x,y]:List Int) 0≠0 from hx)];rfl),if_pos hx];rfl
 ·by_cases hy:y≠0
  ·rw [q9 (x:=Ex.rt y) (by
    simp only [nk]
    rw [gz (by simp),zm (show okI ([x,y]:List Int) 0 from⟨by omega,by simp⟩),xz (show¬ix ([x,y]:List Int) 0≠0 from hx),zm (jm (by omega))]
    rw [gz (by simp),zm (show okI ([x,y]:List Int) (0+1) from⟨by omega,by simp⟩),gz (show ix ([x,y]:List Int) (0+1)≠0 from hy)];rfl),if_neg hx];rfl
  ·rw [q9 (x:=Ex.go ()) (by
    simp only [nk]
    rw [gz (by simp),zm (show okI ([x,y]:List Int) 0 from⟨by omega,by simp⟩),xz (show¬ix ([x,y]:List Int) 0≠0 from hx),zm (jm (by omega))]
    rw [gz (by simp),zm (show okI ([x,y]:List Int) (0+1) from⟨by omega,by simp⟩),xz (show¬ix ([x,y]:List Int) (0+1)≠0 from hy),zm (jm (by omega))]
    rw [xz (by simp)]),if_neg hx,z9u,show y=0 by omega]
theorem zpg{a b:List Int}(g:a.length+5<N)(d:a.length≤1000): ∃ c,z0e N a b=some c∧(c<0→llt a b):=by
 obtain⟨c,e,f⟩:=zpc (N:=N) (b:=b) (by omega:a.length<N) d
 unfold z0e
 rw [q9 (zje _ _),q9 e,q9 (zu6 (by omega) _ _)]
 refine⟨_,rfl,fun h=>?_⟩
 by_cases h1:(a.length:Int)<(b.length:Int)
 ·exact .inl (by omega)
 ·rw [if_neg h1] at h
  by_cases h2:(b.length:Int)<(a.length:Int)
  ·rw [if_pos h2,if_pos (by decide)] at h;exact absurd h (by decide)
  ·rw [if_neg h2,if_neg (fun h=>h rfl)] at h
   exact .inr ⟨by omega,f (by omega) h⟩
/-! ### Runs-/
theorem zer(e:MOk m)(a:FilOf m f): ∀ (w:List Int) (s:Nat),s<f.rows.length→WOk m.inputs w→(-1:Int)∉bq f (s:Int) w
 | [],s,_,_=>by simp [bq]
 |c::w,s,b,g=>by
  obtain⟨i,rfl,hi,hw'⟩:=z6s g
  have hi':i<f.inputs.toNat:=by rw [a.i];exact hi
  have d:=a.all s i b hi
  have k:=(ze5 a.ok b hi').resolve_left (fun h=>by rw [h.1] at d;exact absurd d (by decide))
  rw [lv]
  intro hmem
  rcases List.mem_cons.1 hmem with h|h
  ·have:ou f s i=(eg f s i).out:=rfl
   omega
  ·have j:ed f s i=(((eg f s i).to.toNat:Nat):Int):=by show (eg f s i).to=_;omega
   rw [j] at h
   exact zer e a w _ (by omega) hw' h
theorem zj5(a:MOk m)(b:FilOf m f): ∀ (w:List Int) (s:Nat),s<m.rows.length→WOk m.inputs w→bq f (s:Int) w=bq m (s:Int) w∨(-1:Int)∈bq m (s:Int) w
 | [],s,_,_=> .inl rfl
 |c::w,s,d,j=>by
  obtain⟨i,rfl,hi,hw'⟩:=z6s j
  rw [lv,lv]
  by_cases e:(eg m s i).to= -1∧(eg m s i).out= -1
  ·right
   rw [show ou m s i= -1 from e.2]
   exact List.mem_cons.2 (.inl rfl)
  ·have o:=(ze5 a d hi).resolve_left e
   have g:=b.old s i d hi e
   have k:ou f s i=ou m s i:=congrArg Edge.out g
   have l:ed f s i=ed m s i:=congrArg Edge.to g
   have n:ed m s i=(((eg m s i).to.toNat:Nat):Int):=by show (eg m s i).to=_;omega
   rw [k,l,n]
   rcases zj5 a b w _ (show (eg m s i).to.toNat<m.rows.length by omega) hw' with h|h
   ·left;rw [h]
   ·right;exact List.mem_cons.2 (.inr h)
theorem z4p(b:MOk m)(c:FilOf m f){w:List Int}:zg6 m f w↔WOk m.inputs w∧(-1:Int)∈bq m 0 w:=by
 have d:0<m.rows.length:=b.r1
 constructor
 ·rintro⟨a,g⟩
  exact⟨a,(zj5 b c w 0 d a).resolve_left fun h=>g h.symm⟩
 ·rintro⟨a,h⟩
  refine⟨a,fun e=>?_⟩
  rw [e] at h
  exact zer b c w 0 (by have:=c.r1;omega) a h
theorem zdg(a:MOk m)(b:zjl m): ∀ (w:List Int) (s:Nat),s<m.rows.length→WOk m.inputs w→(-1:Int)∉bq m (s:Int) w
 | [],s,_,_=>by simp [bq]
 |c::w,s,d,e=>by
  obtain⟨i,rfl,hi,hw'⟩:=z6s e
  have g:=(ze5 a d hi).resolve_left (b s i d hi)
  rw [lv]
  intro hmem
  rcases List.mem_cons.1 hmem with h|h
  ·have:ou m s i=(eg m s i).out:=rfl
   omega
  ·have f:ed m s i=(((eg m s i).to.toNat:Nat):Int):=by show (eg m s i).to=_;omega
   rw [f] at h
   exact zdg a b w _ (by omega) hw' h
def zp6(m:Mach):Prop:= ∀ s,s<m.rows.length→occ (rch m 0) s=true
theorem zah(b:MOk m)(e:zp6 m){s:Nat}(f:s<m.rows.length):WOk m.inputs (wdOf (rch m 0) s)∧aftL m 0 (wdOf (rch m 0) s)=(s:Int)∧(wdOf (rch m 0) s).length≤64:=by
 have a:=z6l b (s0:=0) b.r1
 obtain⟨j,c,g,h⟩:=zgn a (e s f)
 have i:=a.wok j c
 have d:=a.aft j c
 have k:=a.le;have l:=b.r2
 rw [h]
 exact⟨i.1,by rw [g] at d;exact d,by omega⟩
theorem zbw(a:MOk m)(b:zp6 m){s i:Nat}(c:s<m.rows.length)(hi:i<m.inputs.toNat)(d:(eg m s i).out= -1):WOk m.inputs (wdOf (rch m 0) s++[(i:Int)])∧(-1:Int)∈bq m 0 (wdOf (rch m 0) s++[(i:Int)]):=by
 obtain⟨f,g,k⟩:=zah a b c
 constructor
 ·intro j h
  rw [List.length_append,List.length_singleton] at h
  rw [List.getD_eq_getElem?_getD]
  by_cases e:j<(wdOf (rch m 0) s).length
  ·rw [List.getElem?_append_left e,←List.getD_eq_getElem?_getD];exact f j e
  ·rw [List.getElem?_append_right (by omega),show j-(wdOf (rch m 0) s).length=0 by omega]
   show 0≤(i:Int)∧(i:Int)<m.inputs
   omega
 ·rw [z1q,g,lv]
  refine List.mem_append.2 (.inr (List.mem_cons.2 (.inl ?_)))
  exact d.symm
theorem zkz(a:MOk m):zp6 (l6 m (z2c m.rows.length (rch m 0)))∧MOk (l6 m (z2c m.rows.length (rch m 0)))∧(l6 m (z2c m.rows.length (rch m 0))).rows.length≤m.rows.length:=by
 have b:=z6l a (s0:=0) a.r1
 have d:=zax a b
 have e:=znu a d
 have n:=zl9 a b
 have h:(l6 m (z2c m.rows.length (rch m 0))).rows.length=(z2c m.rows.length (rch m 0)).length:=by simp [l6]
 refine⟨fun k f=>?_,e,by rw [h];exact d.len⟩
 rw [h] at f
 have hmem:(z2c m.rows.length (rch m 0)).getD k 0∈z2c m.rows.length (rch m 0):=by simp [List.getD_eq_getElem?_getD,f]
 obtain⟨j,i,o,u⟩:=zgn b (z4l.1 hmem).2
 have l:=b.wok j i
 have p:=b.aft j i
 have c:(0:Nat)∈z2c m.rows.length (rch m 0):=z4l.2 ⟨a.r1,z00.2 ⟨0,b.pos,by rw [b.root]⟩⟩
 have hrun:=(zgh a d ((rch m 0).getD j default).wd (s:=0) (.inr ⟨Int.le_refl _,c⟩) l.1).2
 have h4':aftL m 0 ((rch m 0).getD j default).wd=(((z2c m.rows.length (rch m 0)).getD k 0:Nat):Int):=by rw [←o];exact p
 rw [n,h4'] at hrun
 have hpos:pos (z2c m.rows.length (rch m 0)) (((z2c m.rows.length (rch m 0)).getD k 0:Nat):Int)=(k:Int):=by
  unfold pos
  rw [if_neg (by omega),Int.toNat_natCast,zd1 d.nd f]
 rw [hpos] at hrun
 obtain⟨q,r,g,_⟩:=(z6l e (s0:=0) e.r1).least e _ _ rfl l.1 (by show aftL _ (0:Int) _≠ -1;rw [hrun];omega)
 have t:(((rch (l6 m (z2c m.rows.length (rch m 0))) 0).getD q default).st:Int)=(k:Int):=g.trans hrun
 exact z00.2 ⟨q,r,by omega⟩
end
end GV
end Go.Proofs.YtkkcidhcfkmbjaaGreatDoor
