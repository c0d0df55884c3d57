/- Iterators: what a function that yields is known to do; a range over one. -/
import Derived.Test.YtncblcdhmcmkmaaGvMid
namespace Go.Proofs.Ytncblcdhmcmkmaa
namespace GV
set_option linter.unusedVariables false
set_option linter.unusedSectionVars false

theorem orep_one {α : Type} {T : Ty α} {R : RH} {f : Frag} {v : Value} {X : List α} (h : ORep T R f v X) : v.oneCell' = true := by
  rcases h with ⟨rfl, _, _⟩ | ⟨b, pre, cs, cap, ty, rfl, _⟩ <;> rfl
theorem orep_cells {α : Type} {T : Ty α} {R : RH} {f : Frag} {v : Value} {X : List α} (h : ORep T R f v X) : v.cells = ([v] : List Value).toArray := by
  rcases h with ⟨rfl, _, _⟩ | ⟨b, pre, cs, cap, ty, rfl, _⟩ <;> rfl
theorem vrep_one {α : Type} {T : Ty α} {R : RH} {v : Value} {X : List α} (h : VRep (tSlice T) R v X) : v.oneCell' = true := by
  obtain ⟨p, n, rfl, _⟩ := vrep_slice.1 h; rfl
theorem vrep_cells {α : Type} {T : Ty α} {R : RH} {v : Value} {X : List α} (h : VRep (tSlice T) R v X) : v.cells = ([v] : List Value).toArray := by
  obtain ⟨p, n, rfl, _⟩ := vrep_slice.1 h; rfl
theorem one_nil : ∀ v ∈ ([] : List Value), v.oneCell' = true := fun _ h => by cases h
theorem one_cons {v : Value} {vs : List Value} (h : v.oneCell' = true) (k : ∀ u ∈ vs, u.oneCell' = true) : ∀ u ∈ v :: vs, u.oneCell' = true := fun u hu => by
  rcases List.mem_cons.1 hu with rfl | hu
  · exact h
  · exact k u hu
section eqb
variable {P : Program} {ρ : Option Nat} {l : Nat → Value} {R : RH} {O : List Frag} {dst : Option Tmp} {ty : TypeId} {pos : String} {after : Array Go.Edge} {g : Option (Nat × Bool)}
theorem val_neqB {t t' : TypeId} {x y : Operand} {a b : Bool} (hu : P.underlying t = some .bool) (hx : ev l x = .bool a) (hy : ev l y = .bool b) : Val P ρ ⟨dst, .binOp .neq t x y t', ty, pos, after, g⟩ l R O (.bool (decide (a ≠ b))) := by
  intro A w _; rw [sem_plain (by intro c h; cases h)]
  have hg : (eqGuard .neq t x y (.bool a) (.bool b)).run P w = .ok () w := by simp [eqGuard]
  simp only [execOp, hx, hy, Sem.run_bind, hg, Result.andThen_ok, run_neq_bool w t a b hu]
  cases a <;> cases b <;> rfl
end eqb
theorem Eff.frz {P : Program} {ρ : Option Nat} {o : Oper} {l : Nat → Value} {R : RH} {O : List Frag} {α : Type} {T : Ty α} {X : List α} (h : Eff P ρ o l R O fun v R' O' => ∃ f, O' = f :: O ∧ ORep T R' f v X) : Eff P ρ o l R O fun v R' O' => O' = O ∧ phR (tSlice T) X v R' := by
  intro A w hh
  refine out_mono (h A w hh) ?_
  rintro v w' ⟨R', O', hle, hh', f, rfl, ho⟩
  exact ⟨R'.add f, O, hle.trans (RH.le_add _ _), holds_freeze hh', rfl, vrep_freeze ho hh'⟩
def LoopOk (L : Loop) (n : Nat) (l : Nat → Value) (ps : List Nat) (assign body : Code) : Prop := FrT n l L.tmps ∧ L.params = ps.toArray ∧ L.assign = assign ∧ L.body = body
theorem perm_tail {J Oc A : List Frag} : (J ++ (Oc ++ A)).Perm (Oc ++ (J ++ A)) := by
  rw [← List.append_assoc, ← List.append_assoc]; exact List.perm_append_comm.append_right A
theorem wo_perm {P : Program} {ρ : Option Nat} {n : Nat} {Q : Po} {l : Nat → Value} {D : List Nat} {R : RH} {O O' : List Frag} {ops : Array Oper} {rest : List Oper} (hp : O'.Perm O) (h : wo P ρ n ops Q rest l D R O') : wo P ρ n ops Q rest l D R O :=
  fun a w hf hh => h a w hf (holds_perm hh (hp.symm.append_right _))
end GV
end Go.Proofs.Ytncblcdhmcmkmaa
