import Derived.Test.YtplgbkaollfmkaaShPtr
set_option linter.unusedVariables false
set_option linter.unusedSimpArgs false
namespace Go.Proofs.Ytplgbkaollfmkaa
namespace GV
def kEdge : Ty Edge := (l8 (zw .i64) (zw .i64)).as fun x => (x.to, x.out)
theorem z3j : Part kEdge 0 (zw .i64) (fun x : Edge => x.to) := ⟨by decide, fun R cs x h => (z1u (A := (zw .i64)) (B := (zw .i64))).2 R cs (x.to, x.out) h⟩
theorem zkx : Part kEdge 1 (zw .i64) (fun x : Edge => x.out) := ⟨by decide, fun R cs x h => (pz (A := (zw .i64)) (z6j (A := (zw .i64)))).2 R cs (x.to, x.out) h⟩
def z0b (x : Edge) : Value := .agg #[(.int .i64 x.to), (.int .i64 x.out)]
theorem zs1 {R : RH} {x : Edge} : kEdge.rep R [(.int .i64 x.to), (.int .i64 x.out)] x := ⟨_, _, rfl, rfl, rfl⟩
theorem mg {R : RH} {v : Value} {x : Edge} : VRep kEdge R v x ↔ v = z0b x := ⟨fun ⟨_, h, e⟩ => by
  obtain ⟨_, _, rfl, rfl, rfl⟩ := h
  exact e, fun h => ⟨_, zs1, h⟩⟩
def jf (b0 b1 : Bool) : Ty Mach := (l8 (zw .i64) (l8 (zw .i64) (tSl b0 (tSl b1 kEdge)))).as fun x => (x.inputs, x.outputs, x.rows)
theorem si {b0 b1 : Bool} : Part (jf b0 b1) 0 (zw .i64) (fun x : Mach => x.inputs) := ⟨Nat.le_of_ble_eq_true rfl, fun R cs x h => (z1u (A := (zw .i64)) (B := (l8 (zw .i64) (tSl b0 (tSl b1 kEdge))))).2 R cs (x.inputs, x.outputs, x.rows) h⟩
theorem z8e {b0 b1 : Bool} : Part (jf b0 b1) 1 (zw .i64) (fun x : Mach => x.outputs) := ⟨Nat.le_of_ble_eq_true rfl, fun R cs x h => (pz (A := (zw .i64)) (z1u (A := (zw .i64)) (B := (tSl b0 (tSl b1 kEdge))))).2 R cs (x.inputs, x.outputs, x.rows) h⟩
theorem kv {b0 b1 : Bool} : Part (jf b0 b1) 2 (tSl b0 (tSl b1 kEdge)) (fun x : Mach => x.rows) := ⟨Nat.le_of_ble_eq_true rfl, fun R cs x h => (pz (A := (zw .i64)) (pz (A := (zw .i64)) (z6j (A := (tSl b0 (tSl b1 kEdge)))))).2 R cs (x.inputs, x.outputs, x.rows) h⟩
theorem z8y {b0 b1 : Bool} {R : RH} {v : Value} {x : Mach} (h : VRep (jf b0 b1) R v x) : ∃ u0, v = .agg #[(.int .i64 x.inputs), (.int .i64 x.outputs), u0] ∧ VRep (tSl b0 (tSl b1 kEdge)) R u0 x.rows := by
  obtain ⟨_, h, rfl⟩ := h
  obtain ⟨_, _, rfl, rfl, ⟨_, _, rfl, rfl, q2⟩⟩ := h
  obtain ⟨w2, rfl, k2⟩ := zf1 rfl q2
  exact ⟨_, rfl, k2⟩
def kA2tInti64 : Ty (Int × Int) := (l8 (zw .i64) (zw .i64)).as fun x => (x.1, x.2)
def fe (x : (Int × Int)) : Value := .agg #[(.int .i64 x.1), (.int .i64 x.2)]
theorem zbd {R : RH} {x : (Int × Int)} : kA2tInti64.rep R [(.int .i64 x.1), (.int .i64 x.2)] x := ⟨_, _, rfl, rfl, rfl⟩
theorem zae {R : RH} {v : Value} {x : (Int × Int)} : VRep kA2tInti64 R v x ↔ v = fe x := ⟨fun ⟨_, h, e⟩ => by
  obtain ⟨_, _, rfl, rfl, rfl⟩ := h
  exact e, fun h => ⟨_, zbd, h⟩⟩
def rz (x : (Int × Int)) : List Value := [(.int .i64 x.1), (.int .i64 x.2)]
theorem co_A2tInti64 : CellsOf kA2tInti64 rz := ⟨fun _ => rfl, fun R cs x => ⟨fun h => by
  obtain ⟨_, _, rfl, rfl, rfl⟩ := h
  rfl, fun h => by subst h; exact zbd⟩⟩
theorem zd2 (x : (Int × Int)) : ∀ v ∈ rz x, z7t v := by
  intro v hv
  simp only [rz, List.mem_cons, List.not_mem_nil, or_false] at hv
  rcases hv with rfl | rfl
  · exact .inl ⟨_, _, rfl⟩
  · exact .inl ⟨_, _, rfl⟩
theorem zd3 (x y : (Int × Int)) (h : rz x = rz y) : x = y := by
  simp only [rz, List.cons.injEq, Value.int.injEq, Value.bool.injEq, true_and, and_true] at h
  rcases x with ⟨⟩; rcases y with ⟨⟩
  simp_all [Prod.ext_iff]
def zb9 : Ty (Arr 16 (Int × Int)) := zvz 16 kA2tInti64
def uy (x : (Arr 16 (Int × Int))) : List Value := z3f rz x
theorem co_A16A2tInti64 : CellsOf zb9 uy := zou co_A2tInti64
def z2v (x : (Arr 16 (Int × Int))) : Value := .agg (uy x).toArray
theorem z9k (x : (Arr 16 (Int × Int))) : ∀ v ∈ uy x, z7t v := zs3 zd2 x
theorem zel (x y : (Arr 16 (Int × Int))) (h : uy x = uy y) : x = y := zpg co_A2tInti64.len zd3 h
structure Srefines_key where
  f_block : Int
  f_signature : (Arr 16 (Int × Int))
  deriving DecidableEq, Inhabited
def zgr : Ty Srefines_key := (l8 (zw .i64) zb9).as fun x => (x.f_block, x.f_signature)
def gz (x : Srefines_key) : List Value := [(.int .i64 x.f_block)] ++ (uy x.f_signature)
theorem co_Srefines_key : CellsOf zgr gz := zq7 (zmp cells_int co_A16A2tInti64)
def ae (x : Srefines_key) : Value := .agg (gz x).toArray
theorem z9o (x : Srefines_key) : ∀ v ∈ gz x, z7t v := by
  intro v hv
  unfold gz at hv
  rcases List.mem_append.1 hv with hv | hv
  · exact pl_int _ v hv
  exact z9k _ v hv
theorem zen (x y : Srefines_key) (h : gz x = gz y) : x = y := by
  obtain ⟨h0, h⟩ := List.append_inj h ((cells_int.len _).trans (cells_int.len _).symm)
  have e0 := zuu _ _ h0
  have e1 := zel _ _ h
  cases x; cases y; simp only at e0 e1; rw [e0, e1]
structure Stours_step where
  f_input : Int
  f_to : Int
  deriving DecidableEq, Inhabited
def zei (x : Stours_step) : Value := .agg #[(.int .i64 x.f_input), (.int .i64 x.f_to)]
structure Schecks_bridge where
  f_from : Int
  f_w : (List Int)
  deriving DecidableEq, Inhabited
def uf (b0 : Bool) : Ty Schecks_bridge := (l8 (zw .i64) (tSl b0 (zw .i64))).as fun x => (x.f_from, x.f_w)
theorem z6z {b0 : Bool} : Part (uf b0) 0 (zw .i64) (fun x : Schecks_bridge => x.f_from) := ⟨Nat.le_of_ble_eq_true rfl, fun R cs x h => (z1u (A := (zw .i64)) (B := (tSl b0 (zw .i64)))).2 R cs (x.f_from, x.f_w) h⟩
theorem z6o {b0 : Bool} : Part (uf b0) 1 (tSl b0 (zw .i64)) (fun x : Schecks_bridge => x.f_w) := ⟨Nat.le_of_ble_eq_true rfl, fun R cs x h => (pz (A := (zw .i64)) (z6j (A := (tSl b0 (zw .i64))))).2 R cs (x.f_from, x.f_w) h⟩
structure Schecks_track where
  f_m : Mach
  f_w : (List Int)
  f_at : (List Int)
  f_id : (List Bool)
  f_known : (List Bool)
  deriving DecidableEq, Inhabited
def ak (b0 b1 b2 b3 b4 b5 : Bool) : Ty Schecks_track := (l8 (jf b0 b1) (l8 (tSl b2 (zw .i64)) (l8 (tSl b3 (zw .i64)) (l8 (tSl b4 j4) (tSl b5 j4))))).as fun x => (x.f_m, x.f_w, x.f_at, x.f_id, x.f_known)
theorem z7q {b0 b1 b2 b3 b4 b5 : Bool} : Part (ak b0 b1 b2 b3 b4 b5) 4 (tSl b3 (zw .i64)) (fun x : Schecks_track => x.f_at) := ⟨Nat.le_of_ble_eq_true rfl, fun R cs x h => (pz (A := (jf b0 b1)) (pz (A := (tSl b2 (zw .i64))) (z1u (A := (tSl b3 (zw .i64))) (B := (l8 (tSl b4 j4) (tSl b5 j4)))))).2 R cs (x.f_m, x.f_w, x.f_at, x.f_id, x.f_known) h⟩
theorem z7j {b0 b1 b2 b3 b4 b5 : Bool} : Part (ak b0 b1 b2 b3 b4 b5) 5 (tSl b4 j4) (fun x : Schecks_track => x.f_id) := ⟨Nat.le_of_ble_eq_true rfl, fun R cs x h => (pz (A := (jf b0 b1)) (pz (A := (tSl b2 (zw .i64))) (pz (A := (tSl b3 (zw .i64))) (z1u (A := (tSl b4 j4)) (B := (tSl b5 j4)))))).2 R cs (x.f_m, x.f_w, x.f_at, x.f_id, x.f_known) h⟩
theorem z2j {b0 b1 b2 b3 b4 b5 : Bool} : Part (ak b0 b1 b2 b3 b4 b5) 6 (tSl b5 j4) (fun x : Schecks_track => x.f_known) := ⟨Nat.le_of_ble_eq_true rfl, fun R cs x h => (pz (A := (jf b0 b1)) (pz (A := (tSl b2 (zw .i64))) (pz (A := (tSl b3 (zw .i64))) (pz (A := (tSl b4 j4)) (z6j (A := (tSl b5 j4))))))).2 R cs (x.f_m, x.f_w, x.f_at, x.f_id, x.f_known) h⟩
structure Schecks_Report where
  f_Begins : Bool
  f_States : (List Int)
  f_Edges : (List (Int × Int))
  deriving DecidableEq, Inhabited
def uu (b0 b1 : Bool) : Ty Schecks_Report := (l8 j4 (l8 (tSl b0 (zw .i64)) (tSl b1 kA2tInti64))).as fun x => (x.f_Begins, x.f_States, x.f_Edges)
theorem z6l {b0 b1 : Bool} : Part (uu b0 b1) 0 j4 (fun x : Schecks_Report => x.f_Begins) := ⟨Nat.le_of_ble_eq_true rfl, fun R cs x h => (z1u (A := j4) (B := (l8 (tSl b0 (zw .i64)) (tSl b1 kA2tInti64)))).2 R cs (x.f_Begins, x.f_States, x.f_Edges) h⟩
theorem z6w {b0 b1 : Bool} : Part (uu b0 b1) 1 (tSl b0 (zw .i64)) (fun x : Schecks_Report => x.f_States) := ⟨Nat.le_of_ble_eq_true rfl, fun R cs x h => (pz (A := j4) (z1u (A := (tSl b0 (zw .i64))) (B := (tSl b1 kA2tInti64)))).2 R cs (x.f_Begins, x.f_States, x.f_Edges) h⟩
theorem z0m {b0 b1 : Bool} : Part (uu b0 b1) 2 (tSl b1 kA2tInti64) (fun x : Schecks_Report => x.f_Edges) := ⟨Nat.le_of_ble_eq_true rfl, fun R cs x h => (pz (A := j4) (pz (A := (tSl b0 (zw .i64))) (z6j (A := (tSl b1 kA2tInti64))))).2 R cs (x.f_Begins, x.f_States, x.f_Edges) h⟩
theorem z5f {b0 b1 : Bool} {R : RH} {v : Value} {x : Schecks_Report} (h : VRep (uu b0 b1) R v x) : ∃ u0 u1, v = .agg #[(.bool x.f_Begins), u0, u1] ∧ VRep (tSl b0 (zw .i64)) R u0 x.f_States ∧ VRep (tSl b1 kA2tInti64) R u1 x.f_Edges := by
  obtain ⟨_, h, rfl⟩ := h
  obtain ⟨_, _, rfl, rfl, ⟨_, _, rfl, q1, q2⟩⟩ := h
  obtain ⟨w1, rfl, k1⟩ := zf1 rfl q1
  obtain ⟨w2, rfl, k2⟩ := zf1 rfl q2
  exact ⟨_, _, rfl, k1, k2⟩
structure Sgauntletlaw06_C where
  f_States : Int
  f_Inputs : Int
  f_Outputs : Int
  f_Tree : (List Int)
  f_Edges : (List Int)
  deriving DecidableEq, Inhabited
def bn (b0 b1 : Bool) : Ty Sgauntletlaw06_C := (l8 (zw .u8) (l8 (zw .u8) (l8 (zw .u8) (l8 (tSl b0 (zw .u8)) (tSl b1 (zw .u16)))))).as fun x => (x.f_States, x.f_Inputs, x.f_Outputs, x.f_Tree, x.f_Edges)
theorem zac {b0 b1 : Bool} : Part (bn b0 b1) 0 (zw .u8) (fun x : Sgauntletlaw06_C => x.f_States) := ⟨Nat.le_of_ble_eq_true rfl, fun R cs x h => (z1u (A := (zw .u8)) (B := (l8 (zw .u8) (l8 (zw .u8) (l8 (tSl b0 (zw .u8)) (tSl b1 (zw .u16))))))).2 R cs (x.f_States, x.f_Inputs, x.f_Outputs, x.f_Tree, x.f_Edges) h⟩
theorem z9t {b0 b1 : Bool} : Part (bn b0 b1) 1 (zw .u8) (fun x : Sgauntletlaw06_C => x.f_Inputs) := ⟨Nat.le_of_ble_eq_true rfl, fun R cs x h => (pz (A := (zw .u8)) (z1u (A := (zw .u8)) (B := (l8 (zw .u8) (l8 (tSl b0 (zw .u8)) (tSl b1 (zw .u16))))))).2 R cs (x.f_States, x.f_Inputs, x.f_Outputs, x.f_Tree, x.f_Edges) h⟩
theorem za6 {b0 b1 : Bool} : Part (bn b0 b1) 2 (zw .u8) (fun x : Sgauntletlaw06_C => x.f_Outputs) := ⟨Nat.le_of_ble_eq_true rfl, fun R cs x h => (pz (A := (zw .u8)) (pz (A := (zw .u8)) (z1u (A := (zw .u8)) (B := (l8 (tSl b0 (zw .u8)) (tSl b1 (zw .u16))))))).2 R cs (x.f_States, x.f_Inputs, x.f_Outputs, x.f_Tree, x.f_Edges) h⟩
theorem z5k {b0 b1 : Bool} : Part (bn b0 b1) 3 (tSl b0 (zw .u8)) (fun x : Sgauntletlaw06_C => x.f_Tree) := ⟨Nat.le_of_ble_eq_true rfl, fun R cs x h => (pz (A := (zw .u8)) (pz (A := (zw .u8)) (pz (A := (zw .u8)) (z1u (A := (tSl b0 (zw .u8))) (B := (tSl b1 (zw .u16))))))).2 R cs (x.f_States, x.f_Inputs, x.f_Outputs, x.f_Tree, x.f_Edges) h⟩
theorem z5s {b0 b1 : Bool} : Part (bn b0 b1) 4 (tSl b1 (zw .u16)) (fun x : Sgauntletlaw06_C => x.f_Edges) := ⟨Nat.le_of_ble_eq_true rfl, fun R cs x h => (pz (A := (zw .u8)) (pz (A := (zw .u8)) (pz (A := (zw .u8)) (pz (A := (tSl b0 (zw .u8))) (z6j (A := (tSl b1 (zw .u16)))))))).2 R cs (x.f_States, x.f_Inputs, x.f_Outputs, x.f_Tree, x.f_Edges) h⟩
structure Sgauntletlaw09_K where
  f_C : Sgauntletlaw06_C
  deriving DecidableEq, Inhabited
structure Sgauntletlaw39_X where
  f_K : Sgauntletlaw09_K
  f_D : (List Int)
  deriving DecidableEq, Inhabited
end GV
end Go.Proofs.Ytplgbkaollfmkaa
