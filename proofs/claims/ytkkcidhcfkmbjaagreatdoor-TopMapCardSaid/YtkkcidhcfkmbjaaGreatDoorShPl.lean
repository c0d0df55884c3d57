import Derived.Test.YtkkcidhcfkmbjaaGreatDoorShMap
set_option linter.unusedVariables false
set_option linter.unusedSimpArgs false
set_option linter.unusedSectionVars false
namespace Go.Proofs.YtkkcidhcfkmbjaaGreatDoor
namespace GV
theorem bq{α:Type}{c:Prop}[Decidable c]{x y:α}(h:c):(bif decide c then x else y)=x:=by rw [decide_eq_true h];rfl
theorem yz{α:Type}{c:Prop}[Decidable c]{x y:α}(h: ¬c):(bif decide c then x else y)=y:=by rw [decide_eq_false h];rfl
theorem ct{α:Type}{b:Bool}{x y:α}(h:b=true):(bif b then x else y)=x:=by rw [h];rfl
theorem cf{α:Type}{b:Bool}{x y:α}(h:b=false):(bif b then x else y)=y:=by rw [h];rfl
theorem zu{α β:Type}{e:Option α}{x:α}{k:α→Option β}(h:e=some x):bd e k=k x:=by rw [h];rfl
theorem zkt{α β:Type}{x:α}{k:α→Option β}:bd (some x) k=k x:=rfl
theorem zh0{α β γ:Type}{a:α}{f:α→Option γ}{g:β→Option γ}:Ex.on (.go a) f g=f a:=rfl
theorem zyw{α β γ:Type}{b:β}{f:α→Option γ}{g:β→Option γ}:Ex.on (.rt b) f g=g b:=rfl
theorem q06{α:Type}{b:Bool}{x:Option α}(h:b=true):gop b x=x.map some:=by rw [h];rfl
theorem z9n{α β:Type}{b:Bool}{e:Option α}{x:α}{k:Option α→Option β}(h:b=true→e=some x):bd (gop b e) k=k (bif b then some x else none):=by
 cases b
 ·rfl
 ·rw [q06 rfl,h rfl];rfl
theorem pg{α:Type}[Inhabited α](X:List α)(k:Nat):ix X (k:Int)=X.getD k default:=rfl
theorem zxm{α:Type}[Inhabited α](X:List α)(k:Int):ix X k=X.getD k.toNat default:=rfl
theorem z1p{α:Type}(X:List α)(k:Nat)(y:α):up X (k:Int) y=X.set k y:=rfl
theorem zb5{α:Type}(n:Nat)(z:α):mk (n:Int) z=List.replicate n z:=rfl
theorem j3{α:Type}{X:List α}{k:Nat}(h:k<X.length):okI X (k:Int):=⟨Int.natCast_nonneg k,Int.ofNat_lt.2 h⟩
theorem zew{α:Type}(X:List α):cut X 0 (X.length:Int)=X:=by simp [cut]
theorem zf2{α:Type}(X:List α):okS X 0 (X.length:Int):=⟨Int.le_refl _,Int.natCast_nonneg _,Int.le_refl _⟩
theorem ja{x:Int}(h: -4611686018427387904≤x∧x≤4611686018427387904):in64 x:=⟨by omega,by omega⟩
theorem zmk(k:Nat):(k:Int)+1=((k+1:Nat):Int):=rfl
theorem z9q{σ ρ:Type}(L:Nat→Nat→σ→Option ρ)(n:Nat)(inv:Nat→σ→Prop)(post:ρ→Prop)
 (step: ∀ F k s,k<n→inv k s→(∃ r,L (F+1) k s=some r∧post r)∨ ∃ s',inv (k+1) s'∧L (F+1) k s=L F (k+1) s')
 (fin: ∀ F s,inv n s→ ∃ r,L (F+1) n s=some r∧post r): ∀ F k s,k≤n→n-k<F→inv k s→ ∃ r,L F k s=some r∧post r
 |0,k,s,_,h,_=>by omega
 |F+1,k,s,a,b,hi=>by
  by_cases e:k=n
  ·subst e;exact fin F s hi
  ·rcases step F k s (by omega) hi with h|⟨s',hi',h⟩
   ·exact h
   ·rw [h];exact z9q L n inv post step fin F (k+1) s' (by omega) (by omega) hi'
theorem mq{σ ρ:Type}(L:Nat→Nat→σ→Option ρ)(n:Nat)(inv:Nat→σ→Prop)(r:ρ)
 (step: ∀ F k s,k<n→inv k s→L (F+1) k s=some r∨ ∃ s',inv (k+1) s'∧L (F+1) k s=L F (k+1) s')
 (fin: ∀ F s,inv n s→L (F+1) n s=some r) (F k:Nat) (s:σ) (a:k≤n) (b:n-k<F) (hi:inv k s):L F k s=some r:=by
 obtain⟨r',h,rfl⟩:=z9q L n inv (· =r) (fun F k s c d=>(step F k s c d).imp (fun h=>⟨r,h,rfl⟩) id) (fun F s h=>⟨r,fin F s h,rfl⟩) F k s a b hi
 exact h
end GV
end Go.Proofs.YtkkcidhcfkmbjaaGreatDoor
