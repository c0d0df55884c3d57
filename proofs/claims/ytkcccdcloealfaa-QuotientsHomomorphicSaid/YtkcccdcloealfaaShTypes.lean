import Derived.Test.YtkcccdcloealfaaShLay
import Derived.Test.YtkcccdcloealfaaShWide
set_option linter.unusedVariables false
set_option linter.unusedSimpArgs false
namespace Go.Proofs.Ytkcccdcloealfaa
namespace GV
structure MDat where
  states : Int
  ins : Int
  outs : Int
  part : Bool
  edges : (List Int)
  deriving DecidableEq, Inhabited
def z0m (b0 : Bool) : Ty MDat := (fe (qc .u8) (fe (qc .u8) (fe (qc .u8) (fe ol (tSl b0 (qc .u16)))))).as fun x => (x.states, x.ins, x.outs, x.part, x.edges)
theorem zqh {b0 : Bool} : Part (z0m b0) 0 (qc .u8) (fun x : MDat => x.states) := ⟨Nat.le_of_ble_eq_true rfl, fun R cs x h => (z3b (A := (qc .u8)) (B := (fe (qc .u8) (fe (qc .u8) (fe ol (tSl b0 (qc .u16))))))).2 R cs (x.states, x.ins, x.outs, x.part, x.edges) h⟩
theorem zr1 {b0 : Bool} : Part (z0m b0) 1 (qc .u8) (fun x : MDat => x.ins) := ⟨Nat.le_of_ble_eq_true rfl, fun R cs x h => (ib (A := (qc .u8)) (z3b (A := (qc .u8)) (B := (fe (qc .u8) (fe ol (tSl b0 (qc .u16))))))).2 R cs (x.states, x.ins, x.outs, x.part, x.edges) h⟩
theorem zpk {b0 : Bool} : Part (z0m b0) 2 (qc .u8) (fun x : MDat => x.outs) := ⟨Nat.le_of_ble_eq_true rfl, fun R cs x h => (ib (A := (qc .u8)) (ib (A := (qc .u8)) (z3b (A := (qc .u8)) (B := (fe ol (tSl b0 (qc .u16))))))).2 R cs (x.states, x.ins, x.outs, x.part, x.edges) h⟩
theorem zq1 {b0 : Bool} : Part (z0m b0) 3 ol (fun x : MDat => x.part) := ⟨Nat.le_of_ble_eq_true rfl, fun R cs x h => (ib (A := (qc .u8)) (ib (A := (qc .u8)) (ib (A := (qc .u8)) (z3b (A := ol) (B := (tSl b0 (qc .u16))))))).2 R cs (x.states, x.ins, x.outs, x.part, x.edges) h⟩
theorem zj8 {b0 : Bool} : Part (z0m b0) 4 (tSl b0 (qc .u16)) (fun x : MDat => x.edges) := ⟨Nat.le_of_ble_eq_true rfl, fun R cs x h => (ib (A := (qc .u8)) (ib (A := (qc .u8)) (ib (A := (qc .u8)) (ib (A := ol) (z8y (A := (tSl b0 (qc .u16)))))))).2 R cs (x.states, x.ins, x.outs, x.part, x.edges) h⟩
def kEdge : Ty Edge := (fe (qc .i64) (qc .i64)).as fun x => (x.to, x.out)
theorem zef : Part kEdge 0 (qc .i64) (fun x : Edge => x.to) := ⟨by decide, fun R cs x h => (z3b (A := (qc .i64)) (B := (qc .i64))).2 R cs (x.to, x.out) h⟩
theorem zfa : Part kEdge 1 (qc .i64) (fun x : Edge => x.out) := ⟨by decide, fun R cs x h => (ib (A := (qc .i64)) (z8y (A := (qc .i64)))).2 R cs (x.to, x.out) h⟩
def ui (x : Edge) : Value := .agg #[(.int .i64 x.to), (.int .i64 x.out)]
theorem zpv {R : RH} {x : Edge} : kEdge.rep R [(.int .i64 x.to), (.int .i64 x.out)] x := ⟨_, _, rfl, rfl, rfl⟩
theorem yt {R : RH} {v : Value} {x : Edge} : VRep kEdge R v x ↔ v = ui x := ⟨fun ⟨_, h, e⟩ => by
  obtain ⟨_, _, rfl, rfl, rfl⟩ := h
  exact e, fun h => ⟨_, zpv, h⟩⟩
def ql (b0 b1 : Bool) : Ty Mach := (fe (qc .i64) (fe (qc .i64) (tSl b0 (tSl b1 kEdge)))).as fun x => (x.inputs, x.outputs, x.rows)
theorem z02 {b0 b1 : Bool} : Part (ql b0 b1) 0 (qc .i64) (fun x : Mach => x.inputs) := ⟨Nat.le_of_ble_eq_true rfl, fun R cs x h => (z3b (A := (qc .i64)) (B := (fe (qc .i64) (tSl b0 (tSl b1 kEdge))))).2 R cs (x.inputs, x.outputs, x.rows) h⟩
theorem z2g {b0 b1 : Bool} : Part (ql b0 b1) 1 (qc .i64) (fun x : Mach => x.outputs) := ⟨Nat.le_of_ble_eq_true rfl, fun R cs x h => (ib (A := (qc .i64)) (z3b (A := (qc .i64)) (B := (tSl b0 (tSl b1 kEdge))))).2 R cs (x.inputs, x.outputs, x.rows) h⟩
theorem um {b0 b1 : Bool} : Part (ql b0 b1) 2 (tSl b0 (tSl b1 kEdge)) (fun x : Mach => x.rows) := ⟨Nat.le_of_ble_eq_true rfl, fun R cs x h => (ib (A := (qc .i64)) (ib (A := (qc .i64)) (z8y (A := (tSl b0 (tSl b1 kEdge)))))).2 R cs (x.inputs, x.outputs, x.rows) h⟩
theorem il {b0 b1 : Bool} {R : RH} {v : Value} {x : Mach} (h : VRep (ql b0 b1) R v x) : ∃ u0, v = .agg #[(.int .i64 x.inputs), (.int .i64 x.outputs), u0] ∧ VRep (tSl b0 (tSl b1 kEdge)) R u0 x.rows := by
  obtain ⟨_, h, rfl⟩ := h
  obtain ⟨_, _, rfl, rfl, ⟨_, _, rfl, rfl, q2⟩⟩ := h
  obtain ⟨w2, rfl, k2⟩ := zmh rfl q2
  exact ⟨_, rfl, k2⟩
def kA2tInti64 : Ty (Int × Int) := (fe (qc .i64) (qc .i64)).as fun x => (x.1, x.2)
def zfh (x : (Int × Int)) : Value := .agg #[(.int .i64 x.1), (.int .i64 x.2)]
theorem zfl {R : RH} {x : (Int × Int)} : kA2tInti64.rep R [(.int .i64 x.1), (.int .i64 x.2)] x := ⟨_, _, rfl, rfl, rfl⟩
def o6 (x : (Int × Int)) : List Value := [(.int .i64 x.1), (.int .i64 x.2)]
theorem co_A2tInti64 : CellsOf kA2tInti64 o6 := ⟨fun _ => rfl, fun R cs x => ⟨fun h => by
  obtain ⟨_, _, rfl, rfl, rfl⟩ := h
  rfl, fun h => by subst h; exact zfl⟩⟩
theorem zh4 (x : (Int × Int)) : ∀ v ∈ o6 x, z5r v := by
  intro v hv
  simp only [o6, List.mem_cons, List.not_mem_nil, or_false] at hv
  rcases hv with rfl | rfl
  · exact .inl ⟨_, _, rfl⟩
  · exact .inl ⟨_, _, rfl⟩
theorem zhs (x y : (Int × Int)) (h : o6 x = o6 y) : x = y := by
  simp only [o6, List.cons.injEq, Value.int.injEq, Value.bool.injEq, true_and, and_true] at h
  rcases x with ⟨⟩; rcases y with ⟨⟩
  simp_all [Prod.ext_iff]
def z9q : Ty (Arr 16 (Int × Int)) := zvk 16 kA2tInti64
def uo (x : (Arr 16 (Int × Int))) : List Value := z13 o6 x
theorem co_A16A2tInti64 : CellsOf z9q uo := zoi co_A2tInti64
def z0z (x : (Arr 16 (Int × Int))) : Value := .agg (uo x).toArray
theorem z7p (x : (Arr 16 (Int × Int))) : ∀ v ∈ uo x, z5r v := zq7 zh4 x
theorem zdc (x y : (Arr 16 (Int × Int))) (h : uo x = uo y) : x = y := znz co_A2tInti64.len zhs h
structure Srefines_key where
  f_block : Int
  f_signature : (Arr 16 (Int × Int))
  deriving DecidableEq, Inhabited
def zfm : Ty Srefines_key := (fe (qc .i64) z9q).as fun x => (x.f_block, x.f_signature)
def yo (x : Srefines_key) : List Value := [(.int .i64 x.f_block)] ++ (uo x.f_signature)
theorem co_Srefines_key : CellsOf zfm yo := zor (zl4 cells_int co_A16A2tInti64)
def cz (x : Srefines_key) : Value := .agg (yo x).toArray
theorem z7r (x : Srefines_key) : ∀ v ∈ yo x, z5r v := by
  intro v hv
  unfold yo at hv
  rcases List.mem_append.1 hv with hv | hv
  · exact pl_int _ v hv
  exact z7p _ v hv
theorem zd5 (x y : Srefines_key) (h : yo x = yo y) : x = y := by
  obtain ⟨h0, h⟩ := List.append_inj h ((cells_int.len _).trans (cells_int.len _).symm)
  have e0 := zut _ _ h0
  have e1 := zdc _ _ h
  cases x; cases y; simp only at e0 e1; rw [e0, e1]
structure Swalks_arrival where
  f_state : Int
  f_from : Int
  f_input : Int
  deriving DecidableEq, Inhabited
def kSwalks_arrival : Ty Swalks_arrival := (fe (qc .i64) (fe (qc .i64) (qc .i64))).as fun x => (x.f_state, x.f_from, x.f_input)
def z4t (x : Swalks_arrival) : Value := .agg #[(.int .i64 x.f_state), (.int .i64 x.f_from), (.int .i64 x.f_input)]
theorem z9w {R : RH} {x : Swalks_arrival} : kSwalks_arrival.rep R [(.int .i64 x.f_state), (.int .i64 x.f_from), (.int .i64 x.f_input)] x := ⟨_, _, rfl, rfl, ⟨_, _, rfl, rfl, rfl⟩⟩
theorem z9p {R : RH} {v : Value} {x : Swalks_arrival} : VRep kSwalks_arrival R v x ↔ v = z4t x := ⟨fun ⟨_, h, e⟩ => by
  obtain ⟨_, _, rfl, rfl, ⟨_, _, rfl, rfl, rfl⟩⟩ := h
  exact e, fun h => ⟨_, z9w, h⟩⟩
def zaz (b0 b1 : Bool) : Ty (MDat × MDat) := (fe (z0m b0) (z0m b1)).as fun x => (x.1, x.2)
theorem zli {b0 b1 : Bool} : Part (zaz b0 b1) 0 (z0m b0) (fun x : (MDat × MDat) => x.1) := ⟨Nat.le_of_ble_eq_true rfl, fun R cs x h => (z3b (A := (z0m b0)) (B := (z0m b1))).2 R cs (x.1, x.2) h⟩
theorem zls {b0 b1 : Bool} : Part (zaz b0 b1) 5 (z0m b1) (fun x : (MDat × MDat) => x.2) := ⟨Nat.le_of_ble_eq_true rfl, fun R cs x h => (ib (A := (z0m b0)) (z8y (A := (z0m b1)))).2 R cs (x.1, x.2) h⟩
structure WDat where
  syms : (List Int)
  deriving DecidableEq, Inhabited
def ze8 (b0 : Bool) : Ty WDat := (zs9 (tSl b0 (qc .u8))).as fun x => x.syms
theorem zit {b0 : Bool} : Part (ze8 b0) 0 (tSl b0 (qc .u8)) (fun x : WDat => x.syms) := ⟨Nat.le_refl _, fun R cs x h => (zpw (A := (tSl b0 (qc .u8)))).2 R cs x.syms h⟩
end GV
end Go.Proofs.Ytkcccdcloealfaa
