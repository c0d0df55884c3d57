/- How data reads in memory: integers, bools, structs, slices; over a heap that is only read, and over an owned block. -/
import Derived.Test.YtncblcdhmcmkmaaGvCore
namespace Go.Proofs.Ytncblcdhmcmkmaa
namespace GV
set_option linter.unusedVariables false

/-- A kind of data: how many cells, whether a struct or an array; how cells read. -/
structure Ty (α : Type) where
  size : Nat
  agg : Bool
  rep : RH → List Value → α → Prop
  len : ∀ {R cs x}, rep R cs x → cs.length = size
  mono : ∀ {R R' cs x}, RH.le R R' → rep R cs x → rep R' cs x
  one : agg = false → size = 1
  cell : ∀ {R cs x}, rep R cs x → ∀ v ∈ cs, v.oneCell' = true

def Ty.mk' {α : Type} (T : Ty α) (cs : List Value) : Value := bif T.agg then .agg cs.toArray else cs.headD undef
def VRep {α : Type} (T : Ty α) (R : RH) (v : Value) (x : α) : Prop := ∃ cs, T.rep R cs x ∧ v = T.mk' cs
theorem VRep.mono {α : Type} {T : Ty α} {R R' : RH} {v : Value} {x : α} (h : VRep T R v x) (hle : RH.le R R') : VRep T R' v x :=
  let ⟨cs, a, b⟩ := h; ⟨cs, T.mono hle a, b⟩
theorem cells_mk {α : Type} {T : Ty α} {R : RH} {cs : List Value} {x : α} (h : T.rep R cs x) : (T.mk' cs).cells = cs.toArray := by
  unfold Ty.mk'
  cases ha : T.agg
  · have h1 := T.one ha
    have h2 := T.len h
    rw [h1] at h2
    obtain ⟨c, rfl⟩ : ∃ c, cs = [c] := by
      match cs, h2 with
      | [c], _ => exact ⟨c, rfl⟩
    have hc := T.cell h c (by simp)
    cases c <;> first | rfl | (simp [Value.oneCell'] at hc)
  · rfl

def tInt (k : IntKind) : Ty Int where
  size := 1
  agg := false
  rep _ cs x := cs = [.int k x]
  len h := by rw [h]; rfl
  mono _ h := h
  one _ := rfl
  cell h := by rw [h]; intro v hv; simp at hv; subst hv; rfl
def tBool : Ty Bool where
  size := 1
  agg := false
  rep _ cs x := cs = [.bool x]
  len h := by rw [h]; rfl
  mono _ h := h
  one _ := rfl
  cell h := by rw [h]; intro v hv; simp at hv; subst hv; rfl
theorem vrep_int {k : IntKind} {R : RH} {v : Value} {x : Int} : VRep (tInt k) R v x ↔ v = .int k x :=
  ⟨fun ⟨_, h, e⟩ => by cases h; exact e, fun h => ⟨_, rfl, h⟩⟩
theorem vrep_bool {R : RH} {v : Value} {x : Bool} : VRep tBool R v x ↔ v = .bool x :=
  ⟨fun ⟨_, h, e⟩ => by cases h; exact e, fun h => ⟨_, rfl, h⟩⟩

/-- k cells from place o on. -/
def cellsAt (c : Array Value) (o k : Nat) : List Value := (c.toList.drop o).take k

/-- A slice's elements. -/
def SRep {α : Type} (T : Ty α) (R : RH) (p : Option Addr) (X : List α) : Prop :=
  X = [] ∨ ∃ b off c ty fr, p = some ⟨b, off, none⟩ ∧ R.blk b = some (.cells c ty fr) ∧ ∀ i x, X[i]? = some x → T.rep R (cellsAt c (off + i * T.size) T.size) x
def tSlice {α : Type} (T : Ty α) : Ty (List α) where
  size := 1
  agg := false
  rep R cs X := ∃ p n, cs = [.slice p X.length n] ∧ X.length ≤ n ∧ (p = none → X = []) ∧ SRep T R p X
  len := by rintro R cs X ⟨p, n, rfl, _⟩; rfl
  mono := by
    rintro R R' cs X hle ⟨p, n, rfl, hn, hp, h⟩
    refine ⟨p, n, rfl, hn, hp, ?_⟩
    rcases h with h | ⟨b, off, c, ty, fr, h1, h2, h3⟩
    · exact .inl h
    · exact .inr ⟨b, off, c, ty, fr, h1, hle.blk _ _ h2, fun i x hx => T.mono hle (h3 i x hx)⟩
  one _ := rfl
  cell := by rintro R cs X ⟨p, n, rfl, _⟩ v hv; simp at hv; subst hv; rfl
theorem vrep_slice {α : Type} {T : Ty α} {R : RH} {v : Value} {X : List α} :
    VRep (tSlice T) R v X ↔ ∃ p n, v = .slice p X.length n ∧ X.length ≤ n ∧ (p = none → X = []) ∧ SRep T R p X :=
  ⟨fun ⟨_, ⟨p, n, h, a, b, c⟩, e⟩ => by subst h; exact ⟨p, n, e, a, b, c⟩, fun ⟨p, n, h, a, b, c⟩ => ⟨_, ⟨p, n, rfl, a, b, c⟩, h⟩⟩
theorem vrep_nil {α : Type} {T : Ty α} {R : RH} : VRep (tSlice T) R (.slice none 0 0) [] :=
  vrep_slice.2 ⟨none, 0, rfl, Nat.le_refl _, fun _ => rfl, .inl rfl⟩
/-- The capacity of a slice's value. -/
def capOf : Value → Nat
  | .slice _ _ c => c
  | _ => 0

/-- Two kinds of data side by side: a struct. -/
def tPair {α β : Type} (A : Ty α) (B : Ty β) : Ty (α × β) where
  size := A.size + B.size
  agg := true
  rep R cs x := ∃ ca cb, cs = ca ++ cb ∧ A.rep R ca x.1 ∧ B.rep R cb x.2
  len := by rintro R cs x ⟨ca, cb, rfl, ha, hb⟩; rw [List.length_append, A.len ha, B.len hb]
  mono := by rintro R R' cs x hle ⟨ca, cb, rfl, ha, hb⟩; exact ⟨ca, cb, rfl, A.mono hle ha, B.mono hle hb⟩
  one h := by cases h
  cell := by
    rintro R cs x ⟨ca, cb, rfl, ha, hb⟩ v hv
    rcases List.mem_append.1 hv with h | h
    · exact A.cell ha v h
    · exact B.cell hb v h
/-- A struct of data that is said in another way. -/
def Ty.as {α β : Type} (T : Ty α) (f : β → α) : Ty β where
  size := T.size
  agg := T.agg
  rep R cs x := T.rep R cs (f x)
  len h := T.len h
  mono hle h := T.mono hle h
  one h := T.one h
  cell h := T.cell h

/-- A pointer to data that is only read. -/
def PRep {α : Type} (T : Ty α) (R : RH) (v : Value) (x : α) : Prop :=
  ∃ b off c ty fr, v = .pointer (some ⟨b, off, none⟩) ∧ R.blk b = some (.cells c ty fr) ∧ T.rep R (cellsAt c off T.size) x
theorem PRep.mono {α : Type} {T : Ty α} {R R' : RH} {v : Value} {x : α} (h : PRep T R v x) (hle : RH.le R R') : PRep T R' v x :=
  let ⟨b, off, c, ty, fr, h1, h2, h3⟩ := h; ⟨b, off, c, ty, fr, h1, hle.blk _ _ h2, T.mono hle h3⟩

/-- A part of a struct: at place o, of kind B, the data f. -/
def Part {α β : Type} (A : Ty α) (o : Nat) (B : Ty β) (f : α → β) : Prop :=
  o + B.size ≤ A.size ∧ ∀ R cs x, A.rep R cs x → B.rep R ((cs.drop o).take B.size) (f x)
theorem part_fst {α β : Type} {A : Ty α} {B : Ty β} : Part (tPair A B) 0 A Prod.fst :=
  ⟨by simp [tPair], by rintro R cs x ⟨ca, cb, rfl, ha, hb⟩; rw [List.drop_zero, List.take_left' (A.len ha)]; exact ha⟩
theorem part_snd {α β γ : Type} {A : Ty α} {B : Ty β} {C : Ty γ} {o : Nat} {f : β → γ} (h : Part B o C f) : Part (tPair A B) (A.size + o) C (fun x => f x.2) :=
  ⟨by have := h.1; simp [tPair]; omega, by
    rintro R cs x ⟨ca, cb, rfl, ha, hb⟩
    rw [← A.len ha, ← List.drop_drop, List.drop_left]
    exact h.2 R cb x.2 hb⟩
theorem part_self {α : Type} {A : Ty α} : Part A 0 A id :=
  ⟨by simp, fun R cs x h => by rw [List.drop_zero, ← A.len h, List.take_length]; exact h⟩
theorem cellsAt_part {c : Array Value} {off S o k : Nat} (h : o + k ≤ S) : ((cellsAt c off S).drop o).take k = cellsAt c (off + o) k := by
  unfold cellsAt
  rw [List.drop_take, List.drop_drop, List.take_take]
  congr 1
  omega

/-! ### Owned blocks -/
def box (b : Nat) (cs : List Value) (ty : TypeId) : Frag := single b (.cells cs.toArray ty (0, 0))

/-- An owned array behind a slice that begins somewhere in it: what is before, the elements, and room. -/
def ORep {α : Type} (T : Ty α) (R : RH) (f : Frag) (v : Value) (X : List α) : Prop :=
  (v = .slice none 0 0 ∧ X = [] ∧ f = emp) ∨
  ∃ b pre cs cap ty, v = .slice (some ⟨b, pre.length, none⟩) X.length cap ∧ f = box b (pre ++ cs) ty ∧ X.length ≤ cap ∧ cap * T.size ≤ cs.length ∧ (∀ v ∈ pre ++ cs, v.oneCell' = true) ∧
    ∀ i x, X[i]? = some x → T.rep R ((cs.drop (i * T.size)).take T.size) x
theorem ORep.mono {α : Type} {T : Ty α} {R R' : RH} {f : Frag} {v : Value} {X : List α} (h : ORep T R f v X) (hle : RH.le R R') : ORep T R' f v X := by
  rcases h with h | ⟨b, pre, cs, cap, ty, h1, h2, h3, h4, h5, h6⟩
  · exact .inl h
  · exact .inr ⟨b, pre, cs, cap, ty, h1, h2, h3, h4, h5, fun i x hx => T.mono hle (h6 i x hx)⟩

theorem cellsAt_pre {pre cs : List Value} {o k : Nat} : cellsAt (pre ++ cs).toArray (pre.length + o) k = cellsAt cs.toArray o k := by
  simp only [cellsAt]
  rw [List.drop_append, List.drop_eq_nil_of_le (by omega), Nat.add_sub_cancel_left, List.nil_append]

/-! ### Memory -/
def RH.add (R : RH) (f : Frag) : RH := { R with blk := fun k => match R.blk k with | some o => some o | none => f k }
theorem RH.le_add (R : RH) (f : Frag) : RH.le R (R.add f) := ⟨fun k o h => by simp [RH.add, h], rfl, rfl⟩

/-- What was owned is now only read. -/
theorem holds_freeze {R : RH} {f : Frag} {O : List Frag} {w : World} (h : Holds R (f :: O) w) : Holds (R.add f) O w := by
  refine ⟨fun k o hk => ?_, fun g hg k o hk => ?_, (List.pairwise_cons.1 h.sep).2, h.os, h.out⟩
  · cases e : R.blk k with
    | some o' => simp [RH.add, e] at hk; subst hk; exact h.ro k _ e
    | none => simp [RH.add, e] at hk; exact (h.own f (List.mem_cons_self ..) k o hk).1
  · have h1 := h.own g (List.mem_cons_of_mem _ hg) k o hk
    refine ⟨h1.1, ?_⟩
    simp only [RH.add, h1.2]
    rcases (List.pairwise_cons.1 h.sep).1 g hg k with h2 | h2
    · exact h2
    · rw [h2] at hk; cases hk

theorem holds_alloc {R : RH} {O : List Frag} {w : World} (h : Holds R O w) (o : Obj) (ho : Unfr o := by first | exact rfl | exact trivial) : Holds R (single w.heap.size o :: O) (w.alloc o) := by
  have hold : ∀ k ob, w.heap[k]? = some ob → (w.alloc o).heap[k]? = some ob := fun k ob hk =>
    (by
      have hlt := (Array.getElem?_eq_some_iff.1 hk).1
      show (w.heap.push o)[k]? = _
      rw [Array.getElem?_push, if_neg (by omega)]; exact hk)
  have hfresh : ∀ k ob, w.heap[k]? = some ob → k ≠ w.heap.size := fun k ob hk e => by
    have := (Array.getElem?_eq_some_iff.1 hk).1
    omega
  refine ⟨fun k ob hk => hold k ob (h.ro k ob hk), fun f hf k ob hk => ?_, ?_, ⟨h.os.1, fun k ob hk hb => ?_⟩, h.out⟩
  · rcases List.mem_cons.1 hf with rfl | hf'
    · obtain ⟨rfl, rfl⟩ := single_some hk
      refine ⟨(by show (w.heap.push _)[w.heap.size]? = _; rw [Array.getElem?_push, if_pos rfl]), ?_⟩
      cases e : R.blk w.heap.size with
      | none => rfl
      | some o' => exact absurd rfl (hfresh _ _ (h.ro _ _ e))
    · exact ⟨hold k ob (h.own f hf' k ob hk).1, (h.own f hf' k ob hk).2⟩
  · refine List.pairwise_cons.2 ⟨fun f hf k => ?_, h.sep⟩
    by_cases e : k = w.heap.size
    · right
      cases e' : f k with
      | none => rfl
      | some o' => exact absurd e (hfresh _ _ (h.own f hf k o' e').1)
    · exact .inl (single_other e)
  · by_cases e : k = w.heap.size
    · subst e
      rw [show (w.alloc o).heap[w.heap.size]? = some o from (by show (w.heap.push _)[w.heap.size]? = _; rw [Array.getElem?_push, if_pos rfl])] at hb
      exact Option.some.inj hb ▸ ho
    · refine h.os.2 k ob hk ?_
      have hb' : (w.heap.push o)[k]? = some ob := hb
      rw [Array.getElem?_push, if_neg e] at hb'
      exact hb'

theorem holds_at {R : RH} {O : List Frag} {w : World} {i : Nat} {f : Frag} {k : Nat} {o : Obj} (h : Holds R O w) (hi : O[i]? = some f) (hk : f k = some o) : w.heap[k]? = some o :=
  (h.own f (List.mem_of_getElem? hi) k o hk).1

theorem perm_erase {α : Type} : ∀ (O : List α) (i : Nat) (f : α), O[i]? = some f → O.Perm (f :: O.eraseIdx i)
  | [], i, f, h => by simp at h
  | x :: O, 0, f, h => by simp at h; subst h; exact List.Perm.refl _
  | x :: O, i + 1, f, h => by
    have h' : O[i]? = some f := by simpa using h
    exact ((perm_erase O i f h').cons x).trans (List.Perm.swap f x _)

/-- A block of one's own is turned. -/
theorem holds_set {R : RH} {O : List Frag} {w w' : World} {i r : Nat} {o o' : Obj} (h : Holds R O w) (hi : O[i]? = some (single r o)) (hs : w'.heap[r]? = some o')
    (hk : ∀ k, k ≠ r → w'.heap[k]? = w.heap[k]?) (hos : w'.os = w.os) (hout : w'.output = w.output) (ho : Unfr o' := by first | exact rfl | exact trivial) : Holds R (O.set i (single r o')) w' := by
  obtain ⟨hlt, hget⟩ := List.getElem?_eq_some_iff.1 hi
  have hp : O.Perm (single r o :: O.eraseIdx i) := perm_erase O i _ hi
  have hp' : (O.set i (single r o')).Perm (single r o' :: O.eraseIdx i) := by
    have := perm_erase (O.set i (single r o')) i (single r o') (by simp [hlt])
    rwa [List.eraseIdx_set_eq] at this
  exact holds_perm (holds_turn (holds_perm h hp) hs hk hos hout ho) hp'.symm

theorem cell_of_block {w : World} {b off : Nat} {c : Array Value} {ty : TypeId} {fr : Nat × Nat} (h : w.heap[b]? = some (.cells c ty fr)) : w.cell? ⟨b, off, none⟩ = c[off]? := by
  simp [World.cell?, h]
theorem frozen_of_box {w : World} {b off : Nat} {c : Array Value} {ty : TypeId} (h : w.heap[b]? = some (.cells c ty (0, 0))) : w.frozen? ⟨b, off, none⟩ = false := by
  simp [World.frozen?, h]

theorem addr_add (b off n : Nat) : (⟨b, off, none⟩ : Addr).add n = ⟨b, off + n, none⟩ := by
  unfold Addr.add
  split
  · rename_i h; subst h; rfl
  · rfl

theorem run_loadCellsFrom {P : Program} {w : World} {b off : Nat} {c : Array Value} {ty : TypeId} {fr : Nat × Nat} (h : w.heap[b]? = some (.cells c ty fr)) :
    ∀ (n i : Nat) (acc : Array Value), off + i + n ≤ c.size → (loadCellsFrom ⟨b, off, none⟩ i n acc).run P w = .ok (acc ++ (cellsAt c (off + i) n).toArray) w
  | 0, i, acc, _ => by simp [loadCellsFrom, cellsAt]
  | n + 1, i, acc, hs => by
    have hlt : off + i < c.size := by omega
    have hc : w.cell? ((⟨b, off, none⟩ : Addr).add i) = some c[off + i] := by
      rw [addr_add, cell_of_block h, Array.getElem?_eq_getElem hlt]
    simp only [loadCellsFrom, Sem.run_bind, run_load, hc, Result.andThen_ok]
    rw [run_loadCellsFrom h n (i + 1) _ (by omega)]
    congr 1
    apply Array.ext'
    have e : c.toList.drop (off + i) = c[off + i] :: c.toList.drop (off + i + 1) := by
      rw [List.drop_eq_getElem_cons (by simpa using hlt)]; simp
    simp [cellsAt, e, Nat.add_assoc]
theorem run_loadCells {P : Program} {w : World} {b off n : Nat} {c : Array Value} {ty : TypeId} {fr : Nat × Nat} (h : w.heap[b]? = some (.cells c ty fr)) (hs : off + n ≤ c.size) :
    (loadCells ⟨b, off, none⟩ n).run P w = .ok (cellsAt c off n).toArray w := by
  have := run_loadCellsFrom (P := P) h n 0 #[] (by omega)
  simpa [loadCells] using this

/-- Type t of the program is of this kind. -/
structure TyOk (P : Program) (t : TypeId) {α : Type} (T : Ty α) : Prop where
  agg : ∀ w, (isAgg t).run P w = .ok T.agg w
  size : ∀ w, (sizeOf t).run P w = .ok T.size w

theorem tyOk_of {P : Program} {t : TypeId} {α : Type} {T : Ty α} {d : TypeDesc} {i : TypeInfo} (hu : P.underlying t = some d) (hi : P.info? t = some i)
    (ha : (match d with | .struct _ | .array _ _ => true | _ => false) = T.agg) (hs : i.size = T.size) : TyOk P t T := by
  refine ⟨fun w => ?_, fun w => ?_⟩
  · cases d <;> simp [isAgg, underlying, hu, ← ha]
  · simp [sizeOf, typeInfo, hi, hs]

theorem cellsAt_length {c : Array Value} {o k : Nat} (h : (cellsAt c o k).length = k) (hk : k ≠ 0) : o + k ≤ c.size := by
  simp only [cellsAt, List.length_take, List.length_drop, Array.length_toList] at h
  omega

theorem run_loadVar {P : Program} {w : World} {α : Type} {T : Ty α} {t : TypeId} {b off : Nat} {c : Array Value} {ty : TypeId} {fr : Nat × Nat} {R : RH} {x : α} (ht : TyOk P t T)
    (hb : w.heap[b]? = some (.cells c ty fr)) (hr : T.rep R (cellsAt c off T.size) x) : (loadVar t ⟨b, off, none⟩).run P w = .ok (T.mk' (cellsAt c off T.size)) w := by
  unfold loadVar Ty.mk'
  simp only [Sem.run_bind, ht.agg, Result.andThen_ok]
  cases ha : T.agg
  · have h1 := T.one ha
    have hlen := T.len hr
    rw [h1] at hlen hr
    have hle := cellsAt_length hlen (by simp)
    have hlt : off < c.size := by omega
    simp only [Bool.false_eq_true, if_false, run_load, cell_of_block hb, Array.getElem?_eq_getElem hlt]
    have e : c.toList.drop off = c[off] :: c.toList.drop (off + 1) := by
      rw [List.drop_eq_getElem_cons (by simpa using hlt)]; simp
    simp [cellsAt, e, h1]
  · simp only [if_true, Sem.run_bind, ht.size, Result.andThen_ok]
    have hlen := T.len hr
    by_cases h0 : T.size = 0
    · rw [h0] at *
      simp [loadCells, loadCellsFrom, cellsAt]
    · rw [run_loadCells hb (cellsAt_length hlen h0)]
      rfl
end GV
end Go.Proofs.Ytncblcdhmcmkmaa
