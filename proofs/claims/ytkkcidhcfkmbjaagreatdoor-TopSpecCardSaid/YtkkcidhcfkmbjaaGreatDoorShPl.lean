import Derived.Test.YtkkcidhcfkmbjaaGreatDoorShMap
set_option linter.unusedVariables false
set_option linter.unusedSimpArgs false
set_option linter.unusedSectionVars false
namespace Go.Proofs.YtkkcidhcfkmbjaaGreatDoor
namespace GV
theorem aj{α:Type}{c:Prop}[Decidable c]{x y:α}(h:c):(bif decide c then x else y)=x:=by rw [decide_eq_true h];rfl
theorem yn{α:Type}{c:Prop}[Decidable c]{x y:α}(h: ¬c):(bif decide c then x else y)=y:=by rw [decide_eq_false h];rfl
theorem ct{α:Type}{b:Bool}{x y:α}(h:b=true):(bif b then x else y)=x:=by rw [h];rfl
theorem cf{α:Type}{b:Bool}{x y:α}(h:b=false):(bif b then x else y)=y:=by rw [h];rfl
theorem qa{α β:Type}{e:Option α}{x:α}{k:α→Option β}(h:e=some x):bd e k=k x:=by rw [h];rfl
theorem zfu{α β:Type}{x:α}{k:α→Option β}:bd (some x) k=k x:=rfl
theorem zku{α β γ:Type}{a:α}{f:α→Option γ}{g:β→Option γ}:Ex.on (.go a) f g=f a:=rfl
theorem zsh{α β γ:Type}{b:β}{f:α→Option γ}{g:β→Option γ}:Ex.on (.rt b) f g=g b:=rfl
theorem zk9{α:Type}{b:Bool}{x:Option α}(h:b=true):gop b x=x.map some:=by rw [h];rfl
theorem zoi{α β:Type}{b:Bool}{e:Option α}{x:α}{k:Option α→Option β}(h:b=true→e=some x):bd (gop b e) k=k (bif b then some x else none):=by
 cases b
 ·rfl
 ·rw [zk9 rfl,h rfl];rfl
theorem sj{α:Type}[Inhabited α](X:List α)(k:Nat):ix X (k:Int)=X.getD k default:=rfl
theorem znm{α:Type}[Inhabited α](X:List α)(k:Int):ix X k=X.getD k.toNat default:=rfl
theorem z5d{α:Type}(X:List α)(k:Nat)(y:α):up X (k:Int) y=X.set k y:=rfl
theorem z9g{α:Type}(n:Nat)(z:α):mk (n:Int) z=List.replicate n z:=rfl
theorem uf{α:Type}{X:List α}{k:Nat}(h:k<X.length):okI X (k:Int):=⟨Int.natCast_nonneg k,Int.ofNat_lt.2 h⟩
theorem zf8{α:Type}(X:List α):cut X 0 (X.length:Int)=X:=by simp [cut]
theorem zkd{α:Type}(X:List α):okS X 0 (X.length:Int):=⟨Int.le_refl _,Int.natCast_nonneg _,Int.le_refl _⟩
theorem je{x:Int}(h: -4611686018427387904≤x∧x≤4611686018427387904):in64 x:=⟨by omega,by omega⟩
theorem zcl{σ ρ:Type}(L:Nat→Nat→σ→Option ρ)(n:Nat)(inv:Nat→σ→Prop)(post:ρ→Prop)
 (step: ∀ F k s,k<n→inv k s→(∃ r,L (F+1) k s=some r∧post r)∨ ∃ s',inv (k+1) s'∧L (F+1) k s=L F (k+1) s')
 (fin: ∀ F s,inv n s→ ∃ r,L (F+1) n s=some r∧post r): ∀ F k s,k≤n→n-k<F→inv k s→ ∃ r,L F k s=some r∧post r
 |0,k,s,_,h,_=>by omega
 |F+1,k,s,a,b,hi=>by
  by_cases e:k=n
  ·subst e;exact fin F s hi
  ·rcases step F k s (by omega) hi with h|⟨s',hi',h⟩
   ·exact h
   ·rw [h];exact zcl L n inv post step fin F (k+1) s' (by omega) (by omega) hi'
theorem mi{σ ρ:Type}(L:Nat→Nat→σ→Option ρ)(n:Nat)(inv:Nat→σ→Prop)(r:ρ)
 (step: ∀ F k s,k<n→inv k s→L (F+1) k s=some r∨ ∃ s',inv (k+1) s'∧L (F+1) k s=L F (k+1) s')
 (fin: ∀ F s,inv n s→L (F+1) n s=some r) (F k:Nat) (s:σ) (a:k≤n) (b:n-k<F) (hi:inv k s):L F k s=some r:=by
 obtain⟨r',h,rfl⟩:=zcl L n inv (· =r) (fun F k s c d=>(step F k s c d).imp (fun h=>⟨r,h,rfl⟩) id) (fun F s h=>⟨r,fin F s h,rfl⟩) F k s a b hi
 exact h
end GV
end Go.Proofs.YtkkcidhcfkmbjaaGreatDoor
