/- Slices of owned rows, told with their headers. -/
import Derived.Test.YtncblcdhmcmkmaaShCore
namespace Go.Proofs.Ytncblcdhmcmkmaa
namespace GV
set_option linter.unusedVariables false
set_option linter.unusedSectionVars false

def RTight {α : Type} (t : Bool) (Vs : List Value) (X : List (List α)) (no : Nat → Prop) : Prop := t = true → ∀ j, j < X.length → ¬ no j → capOf (Vs.getD j default) = (X.getD j default).length
/-- v: the outer slice; Vs: its rows' headers; X: what the rows hold; t: rows have no room. -/
def N2 {α : Type} (t : Bool) (T : Ty α) (R : RH) (F : Frag) (v : Value) (Vs : List Value) (X : List (List α)) : Prop :=
  ∃ f0 Fs, Vs.length = X.length ∧ ORep tHdr R f0 v Vs ∧ Has F f0 ∧ Rows T R F Vs X Fs (fun _ => False) ∧ (∀ j, j < X.length → Apart f0 (Fs.getD j emp)) ∧ RTight t Vs X (fun _ => False)
/-- The same, the row k being elsewhere. -/
def N2h {α : Type} (t : Bool) (T : Ty α) (k : Nat) (R : RH) (F : Frag) (v : Value) (Vs : List Value) (X : List (List α)) : Prop :=
  ∃ f0 Fs, Vs.length = X.length ∧ ORep tHdr R f0 v Vs ∧ Has F f0 ∧ Rows T R F Vs X Fs (fun j => j = k) ∧ (∀ j, j < X.length → j ≠ k → Apart f0 (Fs.getD j emp)) ∧ RTight t Vs X (fun j => j = k)
section n2
variable {α : Type} {t : Bool} {T : Ty α} {R R' : RH} {F : Frag} {v : Value} {Vs : List Value} {X : List (List α)}
theorem N2.mono (h : N2 t T R F v Vs X) (hle : RH.le R R') : N2 t T R' F v Vs X := let ⟨f0, Fs, a, b, c, d, e, g⟩ := h; ⟨f0, Fs, a, b.mono hle, c, d.mono hle, e, g⟩
theorem N2h.mono {k : Nat} (h : N2h t T k R F v Vs X) (hle : RH.le R R') : N2h t T k R' F v Vs X := let ⟨f0, Fs, a, b, c, d, e, g⟩ := h; ⟨f0, Fs, a, b.mono hle, c, d.mono hle, e, g⟩
theorem N2.o (h : N2 t T R F v Vs X) : ∃ f0, ORep tHdr R f0 v Vs ∧ Has F f0 ∧ Vs.length = X.length := let ⟨f0, Fs, a, b, c, d, e, g⟩ := h; ⟨f0, b, c, a⟩
theorem N2h.o {k : Nat} (h : N2h t T k R F v Vs X) : ∃ f0, ORep tHdr R f0 v Vs ∧ Has F f0 ∧ Vs.length = X.length := let ⟨f0, Fs, a, b, c, d, e, g⟩ := h; ⟨f0, b, c, a⟩
theorem N2.row (h : N2 t T R F v Vs X) {k : Nat} (hk : k < X.length) : ∃ fk, ORep T R fk (Vs.getD k default) (X.getD k default) ∧ Has F fk :=
  let ⟨f0, Fs, a, b, c, d, e, g⟩ := h; ⟨_, d.2.1 k hk (fun h => h)⟩
theorem N2.hole (h : N2 t T R F v Vs X) {k : Nat} (hk : k < X.length) : ∃ fk, ORep T R fk (Vs.getD k default) (X.getD k default) ∧ Has F fk ∧ N2h t T k R (minus F fk) v Vs X := by
  obtain ⟨f0, Fs, hl, h0, hF0, ⟨hr1, hr2, hr3⟩, hap, ht⟩ := h
  have n : ∀ j, ¬ (fun (_ : Nat) => False) j := fun _ h => h
  refine ⟨Fs.getD k emp, (hr2 k hk (n k)).1, (hr2 k hk (n k)).2, f0, Fs, hl, h0, has_minus hF0 (hap k hk).symm, ⟨hr1, fun j hj hjk => ⟨(hr2 j hj (n j)).1, has_minus (hr2 j hj (n j)).2 (hr3 k j hk hj (n k) (n j) (fun e => hjk e.symm))⟩, fun i j hi hj hik hjk hij => hr3 i j hi hj (n i) (n j) hij⟩, fun j hj _ => hap j hj, fun e j hj _ => ht e j hj (n j)⟩
/-- The row is back, perhaps another one behind another header. -/
theorem N2h.fill {k : Nat} {G fk : Frag} {u : Value} {Y : List α} (h : N2h t T k R G v Vs X) (hk : k < X.length) (hf : ORep T R fk (Vs.getD k default) Y) (ha : Apart fk G) (ht' : t = true → capOf (Vs.getD k default) = Y.length) :
    N2 t T R (joinF fk G) v Vs (X.set k Y) := by
  obtain ⟨f0, Fs, hl, h0, hG0, ⟨hr1, hr2, hr3⟩, hap, ht⟩ := h
  have hx := fun j => getD_set_nat (X := X) (j := j) (y := Y) (d := default) hk
  have hg := fun j => getD_set_nat (X := Fs) (j := j) (y := fk) (d := emp) (k := k) (by omega)
  refine ⟨f0, Fs.set k fk, by simp [hl], h0, (has_join2 ha).trans hG0, ⟨by simp [hr1], fun j hj _ => ?_, fun i j hi hj _ _ hij => ?_⟩, fun j hj => ?_, fun e j hj _ => ?_⟩
  · have hj' : j < X.length := by simpa using hj
    rw [hg, hx]
    by_cases e : j = k
    · subst e; rw [if_pos rfl, if_pos rfl]; exact ⟨hf, has_join1⟩
    · rw [if_neg e, if_neg e]; exact ⟨(hr2 j hj' e).1, (has_join2 ha).trans (hr2 j hj' e).2⟩
  · have hi' : i < X.length := by simpa using hi
    have hj' : j < X.length := by simpa using hj
    rw [hg, hg]
    by_cases e1 : i = k
    · rw [if_pos e1, if_neg (fun e => hij (e1.trans e.symm))]
      exact (hr2 j hj' (fun e => hij (e1.trans e.symm))).2.apart ha
    · by_cases e2 : j = k
      · rw [if_neg e1, if_pos e2]; exact ((hr2 i hi' e1).2.apart ha).symm
      · rw [if_neg e1, if_neg e2]; exact hr3 i j hi' hj' e1 e2 hij
  · have hj' : j < X.length := by simpa using hj
    rw [hg]
    by_cases e : j = k
    · rw [if_pos e]; exact (hG0.apart ha).symm
    · rw [if_neg e]; exact hap j hj' e
  · have hj' : j < X.length := by simpa using hj
    rw [hx]
    by_cases e' : j = k
    · subst e'; rw [if_pos rfl]; exact ht' e
    · rw [if_neg e']; exact ht e j hj' e'
theorem getD_rep {β : Type} {m j : Nat} {y d : β} (h : j < m) : (List.replicate m y).getD j d = y := by simp [List.getD_eq_getElem?_getD, h]
theorem getD_rep' {β : Type} {m j : Nat} {y : β} : (List.replicate m y).getD j y = y := by simp only [List.getD_eq_getElem?_getD, List.getElem?_replicate]; split <;> rfl
theorem n2_make {f : Frag} {m : Nat} (h : ORep tHdr R f v (List.replicate m (Value.slice none 0 0))) : N2 t T R f v (List.replicate m (Value.slice none 0 0)) (List.replicate m ([] : List α)) := by
  refine ⟨f, List.replicate m emp, by simp, h, has_self, ⟨by simp, fun j hj _ => ?_, fun i j hi hj _ _ _ => ?_⟩, fun j hj => ?_, fun _ j hj _ => ?_⟩
  · have hj' : j < m := by simpa using hj
    rw [getD_rep', getD_rep hj', getD_rep hj']
    exact ⟨.inl ⟨rfl, rfl, rfl⟩, has_emp⟩
  · rw [getD_rep', getD_rep']; exact apart_emp
  · rw [getD_rep']; exact apart_emp.symm
  · have hj' : j < m := by simpa using hj
    rw [getD_rep hj', getD_rep hj']; rfl
end n2
theorem apart_of {R : RH} {f g : Frag} {O : List Frag} {w : World} (h : Holds R (f :: g :: O) w) : Apart f g := fun k => (List.pairwise_cons.1 h.sep).1 g (by simp) k

theorem eff_conv {P : Program} {ρ : Option Nat} {o : Oper} {l : Nat → Value} {R : RH} {O O1 Or : List Frag} {φ1 φ : Value → RH → List Frag → Prop} (hin : ∀ A w, Holds R (O ++ A) w → Holds R (O1 ++ (Or ++ A)) w)
    (h : Eff P ρ o l R O1 φ1) (hout : ∀ v R' O1', RH.le R R' → φ1 v R' O1' → ∀ A w, Holds R' (O1' ++ (Or ++ A)) w → ∃ O', Holds R' (O' ++ A) w ∧ φ v R' O') : Eff P ρ o l R O φ := by
  intro A w hh
  refine out_mono (h (Or ++ A) w (hin A w hh)) ?_
  rintro v w' ⟨R', O1', hle, hh', hp⟩
  obtain ⟨O', h1, h2⟩ := hout v R' O1' hle hp A w' hh'
  exact ⟨R', O', hle, h1, h2⟩

section vals
variable {P : Program} {ρ : Option Nat} {l : Nat → Value} {R : RH} {O : List Frag} {dst : Option Tmp} {ty : TypeId} {pos : String} {after : Array Go.Edge} {g : Option (Nat × Bool)}
/-- An element read out of an owned array that is part of a greater fragment. -/
theorem val_loadH {α : Type} {T : Ty α} {t : TypeId} {x : Operand} {f F : Frag} {v u : Value} {X : List α} {i j : Nat} {y : α} (ht : TyOk P t T) (hv : ORep T R f v X) (hF : Has F f) (hO : O[j]? = some F)
    (hx : ev l x = u) (hp : OPtr T v X u i) (hy : X[i]? = some y) :
    ∃ u, VRep T R u y ∧ ∀ (dst : Option Tmp) (ty : TypeId) (pos : String) (after : Array Go.Edge) (g : Option (Nat × Bool)), Val P ρ ⟨dst, .load t x, ty, pos, after, g⟩ l R O u := by
  obtain ⟨b, off, hb, rfl⟩ := hp
  rcases hv with ⟨rfl, rfl, _⟩ | ⟨b', pre, cs, cap, bt, rfl, rfl, hc, hcl, hcc, hel⟩
  · simp at hy
  · simp only [capOf, Value.slice.injEq, Option.some.injEq, Addr.mk.injEq, and_true] at hb
    obtain ⟨rfl, rfl⟩ := hb
    have hr : T.rep R (cellsAt (pre ++ cs).toArray (pre.length + i * T.size) T.size) y := by rw [cellsAt_pre]; simpa [cellsAt] using hel i y hy
    refine ⟨T.mk' (cellsAt (pre ++ cs).toArray (pre.length + i * T.size) T.size), ⟨_, hr, rfl⟩, fun dst ty pos after g A w hh => ?_⟩
    rw [sem_plain (by intro c h; cases h)]
    have hblk : w.heap[b']? = some (.cells (pre ++ cs).toArray bt (0, 0)) := holds_at hh (i := j) (by rw [List.getElem?_append_left (by exact (List.getElem?_eq_some_iff.1 hO).1)]; exact hO) (hF _ _ (single_same _ _))
    simp only [execOp, hx, Instr.loadAt, Instr.sureAddr, Sem.run_bind, Sem.run_pure, Result.andThen_ok, run_loadVar ht hblk (R := R) (x := y) hr]
end vals
end GV
end Go.Proofs.Ytncblcdhmcmkmaa
