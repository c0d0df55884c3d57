import Derived.Test.YtkcccdcloealfaaGreatShLay
import Derived.Test.YtkcccdcloealfaaGreatShWide
set_option linter.unusedVariables false
set_option linter.unusedSimpArgs false
namespace Go.Proofs.YtkcccdcloealfaaGreat
namespace GV
structure MDat where
  states : Int
  ins : Int
  outs : Int
  part : Bool
  edges : (List Int)
  deriving DecidableEq, Inhabited
structure WDat where
  syms : (List Int)
  deriving DecidableEq, Inhabited
def kEdge : Ty Edge := (z0q (qf .i64) (qf .i64)).as fun x => (x.to, x.out)
theorem z9h : Part kEdge 0 (qf .i64) (fun x : Edge => x.to) := ⟨by decide, fun R cs x h => (z4m (A := (qf .i64)) (B := (qf .i64))).2 R cs (x.to, x.out) h⟩
theorem zj0 : Part kEdge 1 (qf .i64) (fun x : Edge => x.out) := ⟨by decide, fun R cs x h => (iw (A := (qf .i64)) (zdw (A := (qf .i64)))).2 R cs (x.to, x.out) h⟩
def uy (x : Edge) : Value := .agg #[(.int .i64 x.to), (.int .i64 x.out)]
theorem zwy {R : RH} {x : Edge} : kEdge.rep R [(.int .i64 x.to), (.int .i64 x.out)] x := ⟨_, _, rfl, rfl, rfl⟩
theorem cu {R : RH} {v : Value} {x : Edge} : VRep kEdge R v x ↔ v = uy x := ⟨fun ⟨_, h, e⟩ => by
  obtain ⟨_, _, rfl, rfl, rfl⟩ := h
  exact e, fun h => ⟨_, zwy, h⟩⟩
def qj (b0 b1 : Bool) : Ty Mach := (z0q (qf .i64) (z0q (qf .i64) (tSl b0 (tSl b1 kEdge)))).as fun x => (x.inputs, x.outputs, x.rows)
theorem rf {b0 b1 : Bool} : Part (qj b0 b1) 0 (qf .i64) (fun x : Mach => x.inputs) := ⟨Nat.le_of_ble_eq_true rfl, fun R cs x h => (z4m (A := (qf .i64)) (B := (z0q (qf .i64) (tSl b0 (tSl b1 kEdge))))).2 R cs (x.inputs, x.outputs, x.rows) h⟩
theorem z3t {b0 b1 : Bool} : Part (qj b0 b1) 1 (qf .i64) (fun x : Mach => x.outputs) := ⟨Nat.le_of_ble_eq_true rfl, fun R cs x h => (iw (A := (qf .i64)) (z4m (A := (qf .i64)) (B := (tSl b0 (tSl b1 kEdge))))).2 R cs (x.inputs, x.outputs, x.rows) h⟩
theorem ko {b0 b1 : Bool} : Part (qj b0 b1) 2 (tSl b0 (tSl b1 kEdge)) (fun x : Mach => x.rows) := ⟨Nat.le_of_ble_eq_true rfl, fun R cs x h => (iw (A := (qf .i64)) (iw (A := (qf .i64)) (zdw (A := (tSl b0 (tSl b1 kEdge)))))).2 R cs (x.inputs, x.outputs, x.rows) h⟩
theorem fo {b0 b1 : Bool} {R : RH} {v : Value} {x : Mach} (h : VRep (qj b0 b1) R v x) : ∃ u0, v = .agg #[(.int .i64 x.inputs), (.int .i64 x.outputs), u0] ∧ VRep (tSl b0 (tSl b1 kEdge)) R u0 x.rows := by
  obtain ⟨_, h, rfl⟩ := h
  obtain ⟨_, _, rfl, rfl, ⟨_, _, rfl, rfl, q2⟩⟩ := h
  obtain ⟨w2, rfl, k2⟩ := zm7 rfl q2
  exact ⟨_, rfl, k2⟩
def kA2tInti64 : Ty (Int × Int) := (z0q (qf .i64) (qf .i64)).as fun x => (x.1, x.2)
def zkk (x : (Int × Int)) : Value := .agg #[(.int .i64 x.1), (.int .i64 x.2)]
theorem zkl {R : RH} {x : (Int × Int)} : kA2tInti64.rep R [(.int .i64 x.1), (.int .i64 x.2)] x := ⟨_, _, rfl, rfl, rfl⟩
def z18 (x : (Int × Int)) : List Value := [(.int .i64 x.1), (.int .i64 x.2)]
theorem co_A2tInti64 : CellsOf kA2tInti64 z18 := ⟨fun _ => rfl, fun R cs x => ⟨fun h => by
  obtain ⟨_, _, rfl, rfl, rfl⟩ := h
  rfl, fun h => by subst h; exact zkl⟩⟩
theorem zn0 (x : (Int × Int)) : ∀ v ∈ z18 x, zaw v := by
  intro v hv
  simp only [z18, List.mem_cons, List.not_mem_nil, or_false] at hv
  rcases hv with rfl | rfl
  · exact .inl ⟨_, _, rfl⟩
  · exact .inl ⟨_, _, rfl⟩
theorem znu (x y : (Int × Int)) (h : z18 x = z18 y) : x = y := by
  simp only [z18, List.cons.injEq, Value.int.injEq, Value.bool.injEq, true_and, and_true] at h
  rcases x with ⟨⟩; rcases y with ⟨⟩
  simp_all [Prod.ext_iff]
def zem : Ty (Arr 16 (Int × Int)) := q54 16 kA2tInti64
def vv (x : (Arr 16 (Int × Int))) : List Value := z5c z18 x
theorem co_A16A2tInti64 : CellsOf zem vv := zun co_A2tInti64
def z4y (x : (Arr 16 (Int × Int))) : Value := .agg (vv x).toArray
theorem zcl (x : (Arr 16 (Int × Int))) : ∀ v ∈ vv x, zaw v := zw5 zn0 x
theorem zi0 (x y : (Arr 16 (Int × Int))) (h : vv x = vv y) : x = y := zui co_A2tInti64.len znu h
structure Srefines_key where
  f_block : Int
  f_signature : (Arr 16 (Int × Int))
  deriving DecidableEq, Inhabited
def zkt : Ty Srefines_key := (z0q (qf .i64) zem).as fun x => (x.f_block, x.f_signature)
def nu (x : Srefines_key) : List Value := [(.int .i64 x.f_block)] ++ (vv x.f_signature)
theorem co_Srefines_key : CellsOf zkt nu := zxh (zqm cells_int co_A16A2tInti64)
def z06 (x : Srefines_key) : Value := .agg (nu x).toArray
theorem zck (x : Srefines_key) : ∀ v ∈ nu x, zaw v := by
  intro v hv
  unfold nu at hv
  rcases List.mem_append.1 hv with hv | hv
  · exact pl_int _ v hv
  exact zcl _ v hv
theorem zi7 (x y : Srefines_key) (h : nu x = nu y) : x = y := by
  obtain ⟨h0, h⟩ := List.append_inj h ((cells_int.len _).trans (cells_int.len _).symm)
  have e0 := q2h _ _ h0
  have e1 := zi0 _ _ h
  cases x; cases y; simp only at e0 e1; rw [e0, e1]
structure Swalks_arrival where
  f_state : Int
  f_from : Int
  f_input : Int
  deriving DecidableEq, Inhabited
def kSwalks_arrival : Ty Swalks_arrival := (z0q (qf .i64) (z0q (qf .i64) (qf .i64))).as fun x => (x.f_state, x.f_from, x.f_input)
def z9u (x : Swalks_arrival) : Value := .agg #[(.int .i64 x.f_state), (.int .i64 x.f_from), (.int .i64 x.f_input)]
theorem zfc {R : RH} {x : Swalks_arrival} : kSwalks_arrival.rep R [(.int .i64 x.f_state), (.int .i64 x.f_from), (.int .i64 x.f_input)] x := ⟨_, _, rfl, rfl, ⟨_, _, rfl, rfl, rfl⟩⟩
theorem zef {R : RH} {v : Value} {x : Swalks_arrival} : VRep kSwalks_arrival R v x ↔ v = z9u x := ⟨fun ⟨_, h, e⟩ => by
  obtain ⟨_, _, rfl, rfl, ⟨_, _, rfl, rfl, rfl⟩⟩ := h
  exact e, fun h => ⟨_, zfc, h⟩⟩
structure Sgauntletlaw06_C where
  f_States : Int
  f_Inputs : Int
  f_Outputs : Int
  f_Tree : (List Int)
  f_Edges : (List Int)
  deriving DecidableEq, Inhabited
def yn (b0 b1 : Bool) : Ty Sgauntletlaw06_C := (z0q (qf .u8) (z0q (qf .u8) (z0q (qf .u8) (z0q (tSl b0 (qf .u8)) (tSl b1 (qf .u16)))))).as fun x => (x.f_States, x.f_Inputs, x.f_Outputs, x.f_Tree, x.f_Edges)
theorem zdi {b0 b1 : Bool} : Part (yn b0 b1) 0 (qf .u8) (fun x : Sgauntletlaw06_C => x.f_States) := ⟨Nat.le_of_ble_eq_true rfl, fun R cs x h => (z4m (A := (qf .u8)) (B := (z0q (qf .u8) (z0q (qf .u8) (z0q (tSl b0 (qf .u8)) (tSl b1 (qf .u16))))))).2 R cs (x.f_States, x.f_Inputs, x.f_Outputs, x.f_Tree, x.f_Edges) h⟩
theorem zd7 {b0 b1 : Bool} : Part (yn b0 b1) 1 (qf .u8) (fun x : Sgauntletlaw06_C => x.f_Inputs) := ⟨Nat.le_of_ble_eq_true rfl, fun R cs x h => (iw (A := (qf .u8)) (z4m (A := (qf .u8)) (B := (z0q (qf .u8) (z0q (tSl b0 (qf .u8)) (tSl b1 (qf .u16))))))).2 R cs (x.f_States, x.f_Inputs, x.f_Outputs, x.f_Tree, x.f_Edges) h⟩
theorem zcz {b0 b1 : Bool} : Part (yn b0 b1) 2 (qf .u8) (fun x : Sgauntletlaw06_C => x.f_Outputs) := ⟨Nat.le_of_ble_eq_true rfl, fun R cs x h => (iw (A := (qf .u8)) (iw (A := (qf .u8)) (z4m (A := (qf .u8)) (B := (z0q (tSl b0 (qf .u8)) (tSl b1 (qf .u16))))))).2 R cs (x.f_States, x.f_Inputs, x.f_Outputs, x.f_Tree, x.f_Edges) h⟩
theorem z8g {b0 b1 : Bool} : Part (yn b0 b1) 3 (tSl b0 (qf .u8)) (fun x : Sgauntletlaw06_C => x.f_Tree) := ⟨Nat.le_of_ble_eq_true rfl, fun R cs x h => (iw (A := (qf .u8)) (iw (A := (qf .u8)) (iw (A := (qf .u8)) (z4m (A := (tSl b0 (qf .u8))) (B := (tSl b1 (qf .u16))))))).2 R cs (x.f_States, x.f_Inputs, x.f_Outputs, x.f_Tree, x.f_Edges) h⟩
theorem z8b {b0 b1 : Bool} : Part (yn b0 b1) 4 (tSl b1 (qf .u16)) (fun x : Sgauntletlaw06_C => x.f_Edges) := ⟨Nat.le_of_ble_eq_true rfl, fun R cs x h => (iw (A := (qf .u8)) (iw (A := (qf .u8)) (iw (A := (qf .u8)) (iw (A := (tSl b0 (qf .u8))) (zdw (A := (tSl b1 (qf .u16)))))))).2 R cs (x.f_States, x.f_Inputs, x.f_Outputs, x.f_Tree, x.f_Edges) h⟩
structure Sgauntletlaw09_K where
  f_C : Sgauntletlaw06_C
  deriving DecidableEq, Inhabited
def z1l (b0 b1 : Bool) : Ty Sgauntletlaw09_K := (zyc (yn b0 b1)).as fun x => x.f_C
theorem zch {b0 b1 : Bool} {R : RH} {v : Value} {x : Sgauntletlaw09_K} (h : VRep (z1l b0 b1) R v x) : ∃ u0 u1, v = .agg #[(.int .u8 x.f_C.f_States), (.int .u8 x.f_C.f_Inputs), (.int .u8 x.f_C.f_Outputs), u0, u1] ∧ VRep (tSl b0 (qf .u8)) R u0 x.f_C.f_Tree ∧ VRep (tSl b1 (qf .u16)) R u1 x.f_C.f_Edges := by
  obtain ⟨_, h, rfl⟩ := h
  obtain ⟨_, _, rfl, rfl, ⟨_, _, rfl, rfl, ⟨_, _, rfl, rfl, ⟨_, _, rfl, q0_3, q0_4⟩⟩⟩⟩ := h
  obtain ⟨w0_3, rfl, k0_3⟩ := zm7 rfl q0_3
  obtain ⟨w0_4, rfl, k0_4⟩ := zm7 rfl q0_4
  exact ⟨_, _, rfl, k0_3, k0_4⟩
end GV
end Go.Proofs.YtkcccdcloealfaaGreat
