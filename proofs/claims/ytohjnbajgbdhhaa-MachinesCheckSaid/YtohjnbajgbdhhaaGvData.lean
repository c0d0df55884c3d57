/- The program's data as Lean data. -/
import Derived.Test.YtohjnbajgbdhhaaGvWo
namespace Go.Proofs.Ytohjnbajgbdhhaa
namespace GV
set_option linter.unusedVariables false

structure Edge where
  to : Int
  out : Int
  deriving DecidableEq, Inhabited
structure Mach where
  inputs : Int
  outputs : Int
  rows : List (List Edge)
  deriving DecidableEq, Inhabited

def encE (e : Edge) : Value := .agg #[.int .i64 e.to, .int .i64 e.out]
def encI2 (e : Int × Int) : Value := .agg #[.int .i64 e.1, .int .i64 e.2]
def tEdge : Ty Edge := (tPair (tInt .i64) (tInt .i64)).as fun e => (e.to, e.out)
def tI2 : Ty (Int × Int) := tPair (tInt .i64) (tInt .i64)
def tMach : Ty Mach := (tPair (tInt .i64) (tPair (tInt .i64) (tSlice (tSlice tEdge)))).as fun m => (m.inputs, m.outputs, m.rows)

/-- A struct of one field. -/
def tOne {α : Type} (A : Ty α) : Ty α where
  size := A.size
  agg := true
  rep := A.rep
  len h := A.len h
  mono hle h := A.mono hle h
  one h := by cases h
  cell h := A.cell h
theorem part_one {α : Type} {A : Ty α} : Part (tOne A) 0 A id :=
  ⟨by simp [tOne], fun R cs x h => by rw [List.drop_zero, ← A.len h, List.take_length]; exact h⟩
theorem vrep_edge {R : RH} {v : Value} {e : Edge} : VRep tEdge R v e ↔ v = encE e :=
  ⟨fun ⟨_, ⟨_, _, h, h1, h2⟩, e⟩ => by cases h1; cases h2; subst h; exact e, fun h => ⟨_, ⟨_, _, rfl, rfl, rfl⟩, h⟩⟩
theorem vrep_i2 {R : RH} {v : Value} {e : Int × Int} : VRep tI2 R v e ↔ v = encI2 e :=
  ⟨fun ⟨_, ⟨_, _, h, h1, h2⟩, e⟩ => by cases h1; cases h2; subst h; exact e, fun h => ⟨_, ⟨_, _, rfl, rfl, rfl⟩, h⟩⟩
theorem rep_edge {R : RH} {e : Edge} : tEdge.rep R [.int .i64 e.to, .int .i64 e.out] e := ⟨[_], [_], rfl, rfl, rfl⟩
theorem rep_i2 {R : RH} {e : Int × Int} : tI2.rep R [.int .i64 e.1, .int .i64 e.2] e := ⟨[_], [_], rfl, rfl, rfl⟩
theorem rep_int {k : IntKind} {R : RH} {x : Int} : (tInt k).rep R [.int k x] x := rfl
theorem rep_bool {R : RH} {x : Bool} : tBool.rep R [.bool x] x := rfl
theorem rep_slice {α : Type} {T : Ty α} {R : RH} {v : Value} {X : List α} (h : VRep (tSlice T) R v X) : (tSlice T).rep R [v] X := by
  obtain ⟨cs, hr, rfl⟩ := h
  obtain ⟨p, n, rfl, h⟩ := hr
  exact ⟨p, n, rfl, h⟩

theorem part_mach0 : Part tMach 0 (tInt .i64) Mach.inputs := ⟨by decide, fun R cs x h => (part_fst (A := tInt .i64) (B := tPair (tInt .i64) (tSlice (tSlice tEdge)))).2 R cs (x.inputs, x.outputs, x.rows) h⟩
theorem part_mach1 : Part tMach 1 (tInt .i64) Mach.outputs := ⟨by decide, fun R cs x h => (part_snd (A := tInt .i64) (part_fst (A := tInt .i64) (B := tSlice (tSlice tEdge)))).2 R cs (x.inputs, x.outputs, x.rows) h⟩
theorem part_mach2 : Part tMach 2 (tSlice (tSlice tEdge)) Mach.rows :=
  ⟨by decide, fun R cs x h => (part_snd (A := tInt .i64) (part_snd (A := tInt .i64) (part_self (A := tSlice (tSlice tEdge))))).2 R cs (x.inputs, x.outputs, x.rows) h⟩
theorem part_edge0 : Part tEdge 0 (tInt .i64) Edge.to := ⟨by decide, fun R cs x h => (part_fst (A := tInt .i64) (B := tInt .i64)).2 R cs (x.to, x.out) h⟩
theorem part_edge1 : Part tEdge 1 (tInt .i64) Edge.out := ⟨by decide, fun R cs x h => (part_snd (A := tInt .i64) (part_self (A := tInt .i64))).2 R cs (x.to, x.out) h⟩

theorem mach_rep {R : RH} {i o : Int} {v : Value} {rows : List (List Edge)} (h : VRep (tSlice (tSlice tEdge)) R v rows) : VRep tMach R (.agg #[.int .i64 i, .int .i64 o, v]) ⟨i, o, rows⟩ :=
  ⟨_, ⟨[.int .i64 i], [.int .i64 o, v], rfl, rfl, [.int .i64 o], [v], rfl, rfl, rep_slice h⟩, rfl⟩
theorem mach_cases {R : RH} {v : Value} {m : Mach} (h : VRep tMach R v m) : ∃ u, v = .agg #[.int .i64 m.inputs, .int .i64 m.outputs, u] ∧ VRep (tSlice (tSlice tEdge)) R u m.rows := by
  obtain ⟨cs, ⟨ca, cb, rfl, h1, ⟨cc, cd, h2, h3, h4⟩⟩, rfl⟩ := h
  cases h1
  cases h3
  obtain ⟨p, n, h5, h6⟩ := h4
  subst h5
  simp only at h2
  subst h2
  exact ⟨_, rfl, vrep_slice.2 ⟨p, n, rfl, h6⟩⟩
end GV
end Go.Proofs.Ytohjnbajgbdhhaa
