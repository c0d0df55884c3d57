/- A region that draws its order and in which one store may come before other operations. -/
import Derived.Test.YtncblcdhmcmkmaaGvData
namespace Go.Proofs.Ytncblcdhmcmkmaa
namespace GV
set_option linter.unusedVariables false

section mid
variable {P : Program} {ρ : Option Nat} {n : Nat} {Q : Po} {D : List Nat} {gs : List Oper} {φs : List (Value → RH → Prop)} {l0 : Nat → Value} {R0 : RH} {O : List Frag} {ms : Nat} {Os : Bool → List Frag → Prop}

theorem msetl_agree {l : Nat → Value} (h : Agree gs l0 l) : l = setl l0 (gs.filterMap fun o => o.dst.map fun d => (d, l d)) := by
  have key : ∀ (os : List Oper) s, setl l0 (os.filterMap fun o => o.dst.map fun d => (d, l d)) s = if s ∈ os.filterMap (·.dst) then l s else l0 s := by
    intro os
    induction os with
    | nil => intro s; simp [setl]
    | cons o os ih =>
      intro s
      cases hd : o.dst with
      | none => simp only [List.filterMap_cons, hd, Option.map_none]; exact ih s
      | some d =>
        simp only [List.filterMap_cons, hd, Option.map_some, setl]
        unfold upd
        by_cases e : s = d
        · subst e; simp
        · have : Nat.beq s d = false := by
            cases hb : Nat.beq s d
            · rfl
            · exact absurd (Nat.eq_of_beq_eq_true hb) e
          rw [this]
          simp only [cond_false, ih s, List.mem_cons, e, false_or]
  funext s
  rw [key gs s]
  split
  · rfl
  · rename_i hn
    exact h s (by simpa [dsts] using hn)

structure MJ (gs : List Oper) (φs : List (Value → RH → Prop)) (l0 : Nat → Value) (R0 : RH) (Os : Bool → List Frag → Prop) (ms n : Nat) (D : List Nat) (listed : Array Bool) (a : Act) (w : World) : Prop where
  ex : ∃ l R O', Fr n l D a ∧ Holds R (O' ++ D.map dfrag) w ∧ RH.le R0 R ∧ Os (listed.getD ms false) O' ∧ Agree gs l0 l ∧ (∀ i d, listed.getD i false = true → dstOf gs i = some d → phi φs i (l d) R)

end mid
/-- A function value that tells of each element of a list whether it is so. -/
def Pred1 (P : Program) (R : RH) (fv : Value) {α : Type} (val : α → Value) (p : α → Bool) (X : List α) : Prop :=
  ∀ R', RH.le R R' → ∀ x ∈ X, CallV P fv [val x].toArray R' [] (fun v _ O => O = [] ∧ v = .bool (p x))
theorem Pred1.mono {P : Program} {R R' : RH} {fv : Value} {α : Type} {val : α → Value} {p : α → Bool} {X : List α} (h : Pred1 P R fv val p X) (hle : RH.le R R') : Pred1 P R' fv val p X := fun R2 hle2 => h R2 (hle.trans hle2)
/-- A function value that compares two elements. -/
def Pred2 (P : Program) (R : RH) (fv : Value) {α : Type} (T : Ty α) (p : α → α → Bool) (S : α → α → Prop) : Prop :=
  ∀ R', RH.le R R' → ∀ x y u v, S x y → VRep T R' u x → VRep T R' v y → CallV P fv [u, v].toArray R' [] (fun v _ O => O = [] ∧ v = .bool (p x y))
theorem Pred2.mono {P : Program} {R R' : RH} {fv : Value} {α : Type} {T : Ty α} {p : α → α → Bool} {S : α → α → Prop} (h : Pred2 P R fv T p S) (hle : RH.le R R') : Pred2 P R' fv T p S := fun R2 hle2 => h R2 (hle.trans hle2)
theorem getD_mem {α : Type} [Inhabited α] {X : List α} {i : Nat} (h : i < X.length) : X.getD i default ∈ X := List.mem_of_getElem? (getD_some h)
section eq2
variable {P : Program}
theorem part_of1 {t : TypeId} {k : IntKind} (hu : P.underlying t = some (.int k)) {cs : Array Value} {off : Nat} {v : Value} (h : cs[off]? = some v) (w : World) : (part t cs off).run P w = .ok v w := by
  have : (isAgg t).run P w = .ok false w := by simp [isAgg, underlying, hu]
  simp [part, this, h]
theorem eqOk2_struct {t : TypeId} (hm : P.eqGuardType P.depth t = false) (ht : P.underlying t = some (.struct (P.fieldsOf t))) (hp : P.stoodInHeld t = false) {f0 f1 : Field} (hfs : (P.fieldsOf t).toList = [f0, f1])
    (n0 : (f0.name == "_") = false) (n1 : (f1.name == "_") = false) (t0 : P.underlying f0.type = some (.int .i64)) (t1 : P.underlying f1.type = some (.int .i64)) (o0 : f0.offset = 0) (o1 : f1.offset = 1) : EqOk2 P t := by
  intro a b c d x y w
  have n0' : f0.name ≠ "_" := by simpa using n0
  have n1' : f1.name ≠ "_" := by simpa using n1
  rw [Sem.run_bind, run_eqGuard_agg w .eql t x y _ _ hm, Result.andThen_ok, run_eql_struct, run_equalIn_agg w 9999 t _ _ ht hp, hfs]
  simp only [Op.eqFields, n0', n1', ne_eq, not_false_eq_true, if_true, Sem.run_bind, o0, o1]
  rw [part_of1 t0 (v := .int .i64 a) rfl, Result.andThen_ok, part_of1 t0 (v := .int .i64 c) rfl, Result.andThen_ok, run_equalIn_int w 9998 _ _ _ _ _ t0, Result.andThen_ok]
  cases hac : (a == c)
  · simp
  · rw [if_neg (by decide : ¬ (!true) = true)]
    simp only [Sem.run_bind]
    rw [part_of1 t1 (v := .int .i64 b) rfl, Result.andThen_ok, part_of1 t1 (v := .int .i64 d) rfl, Result.andThen_ok, run_equalIn_int w 9998 _ _ _ _ _ t1, Result.andThen_ok]
    cases hbd : (b == d) <;> simp
end eq2
theorem gandT {a b w : Bool} (h : a = true) (hb : b = w) : (a && (b == w)) = true := by simp [h, hb]
end GV
end Go.Proofs.Ytncblcdhmcmkmaa
