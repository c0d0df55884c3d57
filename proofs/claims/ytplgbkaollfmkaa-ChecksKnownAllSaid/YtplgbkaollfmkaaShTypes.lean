import Derived.Test.YtplgbkaollfmkaaShPtr
set_option linter.unusedVariables false
set_option linter.unusedSimpArgs false
namespace Go.Proofs.Ytplgbkaollfmkaa
namespace GV
def kEdge : Ty Edge := (z0k (zw .i64) (zw .i64)).as fun x => (x.to, x.out)
theorem z6h : Part kEdge 0 (zw .i64) (fun x : Edge => x.to) := ⟨by decide, fun R cs x h => (z2j (A := (zw .i64)) (B := (zw .i64))).2 R cs (x.to, x.out) h⟩
theorem zgo : Part kEdge 1 (zw .i64) (fun x : Edge => x.out) := ⟨by decide, fun R cs x h => (mi (A := (zw .i64)) (z4z (A := (zw .i64)))).2 R cs (x.to, x.out) h⟩
def z0p (x : Edge) : Value := .agg #[(.int .i64 x.to), (.int .i64 x.out)]
theorem zo5 {R : RH} {x : Edge} : kEdge.rep R [(.int .i64 x.to), (.int .i64 x.out)] x := ⟨_, _, rfl, rfl, rfl⟩
theorem tu {R : RH} {v : Value} {x : Edge} : VRep kEdge R v x ↔ v = z0p x := ⟨fun ⟨_, h, e⟩ => by
  obtain ⟨_, _, rfl, rfl, rfl⟩ := h
  exact e, fun h => ⟨_, zo5, h⟩⟩
def jd (b0 b1 : Bool) : Ty Mach := (z0k (zw .i64) (z0k (zw .i64) (tSl b0 (tSl b1 kEdge)))).as fun x => (x.inputs, x.outputs, x.rows)
theorem z2q {b0 b1 : Bool} : Part (jd b0 b1) 0 (zw .i64) (fun x : Mach => x.inputs) := ⟨Nat.le_of_ble_eq_true rfl, fun R cs x h => (z2j (A := (zw .i64)) (B := (z0k (zw .i64) (tSl b0 (tSl b1 kEdge))))).2 R cs (x.inputs, x.outputs, x.rows) h⟩
theorem zbu {b0 b1 : Bool} : Part (jd b0 b1) 1 (zw .i64) (fun x : Mach => x.outputs) := ⟨Nat.le_of_ble_eq_true rfl, fun R cs x h => (mi (A := (zw .i64)) (z2j (A := (zw .i64)) (B := (tSl b0 (tSl b1 kEdge))))).2 R cs (x.inputs, x.outputs, x.rows) h⟩
theorem yt {b0 b1 : Bool} : Part (jd b0 b1) 2 (tSl b0 (tSl b1 kEdge)) (fun x : Mach => x.rows) := ⟨Nat.le_of_ble_eq_true rfl, fun R cs x h => (mi (A := (zw .i64)) (mi (A := (zw .i64)) (z4z (A := (tSl b0 (tSl b1 kEdge)))))).2 R cs (x.inputs, x.outputs, x.rows) h⟩
theorem z5u {b0 b1 : Bool} {R : RH} {v : Value} {x : Mach} (h : VRep (jd b0 b1) R v x) : ∃ u0, v = .agg #[(.int .i64 x.inputs), (.int .i64 x.outputs), u0] ∧ VRep (tSl b0 (tSl b1 kEdge)) R u0 x.rows := by
  obtain ⟨_, h, rfl⟩ := h
  obtain ⟨_, _, rfl, rfl, ⟨_, _, rfl, rfl, q2⟩⟩ := h
  obtain ⟨w2, rfl, k2⟩ := zfd rfl q2
  exact ⟨_, rfl, k2⟩
def kA2tInti64 : Ty (Int × Int) := (z0k (zw .i64) (zw .i64)).as fun x => (x.1, x.2)
def ma (x : (Int × Int)) : Value := .agg #[(.int .i64 x.1), (.int .i64 x.2)]
theorem z7x {R : RH} {x : (Int × Int)} : kA2tInti64.rep R [(.int .i64 x.1), (.int .i64 x.2)] x := ⟨_, _, rfl, rfl, rfl⟩
theorem z6i {R : RH} {v : Value} {x : (Int × Int)} : VRep kA2tInti64 R v x ↔ v = ma x := ⟨fun ⟨_, h, e⟩ => by
  obtain ⟨_, _, rfl, rfl, rfl⟩ := h
  exact e, fun h => ⟨_, z7x, h⟩⟩
def nz (x : (Int × Int)) : List Value := [(.int .i64 x.1), (.int .i64 x.2)]
theorem co_A2tInti64 : CellsOf kA2tInti64 nz := ⟨fun _ => rfl, fun R cs x => ⟨fun h => by
  obtain ⟨_, _, rfl, rfl, rfl⟩ := h
  rfl, fun h => by subst h; exact z7x⟩⟩
theorem z9q (x : (Int × Int)) : ∀ v ∈ nz x, z4j v := by
  intro v hv
  simp only [nz, List.mem_cons, List.not_mem_nil, or_false] at hv
  rcases hv with rfl | rfl
  · exact .inl ⟨_, _, rfl⟩
  · exact .inl ⟨_, _, rfl⟩
theorem z9k (x y : (Int × Int)) (h : nz x = nz y) : x = y := by
  simp only [nz, List.cons.injEq, Value.int.injEq, Value.bool.injEq, true_and, and_true] at h
  rcases x with ⟨⟩; rcases y with ⟨⟩
  simp_all [Prod.ext_iff]
def z7s : Ty (Arr 16 (Int × Int)) := zsh 16 kA2tInti64
def ug (x : (Arr 16 (Int × Int))) : List Value := z0m nz x
theorem co_A16A2tInti64 : CellsOf z7s ug := zjz co_A2tInti64
def z0f (x : (Arr 16 (Int × Int))) : Value := .agg (ug x).toArray
theorem z5w (x : (Arr 16 (Int × Int))) : ∀ v ∈ ug x, z4j v := zmd z9q x
theorem zb7 (x y : (Arr 16 (Int × Int))) (h : ug x = ug y) : x = y := zly co_A2tInti64.len z9k h
structure Srefines_key where
  f_block : Int
  f_signature : (Arr 16 (Int × Int))
  deriving DecidableEq, Inhabited
def zdn : Ty Srefines_key := (z0k (zw .i64) z7s).as fun x => (x.f_block, x.f_signature)
def vv (x : Srefines_key) : List Value := [(.int .i64 x.f_block)] ++ (ug x.f_signature)
theorem co_Srefines_key : CellsOf zdn vv := zok (zj2 cells_int co_A16A2tInti64)
def pq (x : Srefines_key) : Value := .agg (vv x).toArray
theorem z5v (x : Srefines_key) : ∀ v ∈ vv x, z4j v := by
  intro v hv
  unfold vv at hv
  rcases List.mem_append.1 hv with hv | hv
  · exact pl_int _ v hv
  exact z5w _ v hv
theorem zb8 (x y : Srefines_key) (h : vv x = vv y) : x = y := by
  obtain ⟨h0, h⟩ := List.append_inj h ((cells_int.len _).trans (cells_int.len _).symm)
  have e0 := zsd _ _ h0
  have e1 := zb7 _ _ h
  cases x; cases y; simp only at e0 e1; rw [e0, e1]
structure Stours_step where
  f_input : Int
  f_to : Int
  deriving DecidableEq, Inhabited
def zb9 (x : Stours_step) : Value := .agg #[(.int .i64 x.f_input), (.int .i64 x.f_to)]
structure Schecks_bridge where
  f_from : Int
  f_w : (List Int)
  deriving DecidableEq, Inhabited
def jv (b0 : Bool) : Ty Schecks_bridge := (z0k (zw .i64) (tSl b0 (zw .i64))).as fun x => (x.f_from, x.f_w)
theorem z3p {b0 : Bool} : Part (jv b0) 0 (zw .i64) (fun x : Schecks_bridge => x.f_from) := ⟨Nat.le_of_ble_eq_true rfl, fun R cs x h => (z2j (A := (zw .i64)) (B := (tSl b0 (zw .i64)))).2 R cs (x.f_from, x.f_w) h⟩
theorem z3m {b0 : Bool} : Part (jv b0) 1 (tSl b0 (zw .i64)) (fun x : Schecks_bridge => x.f_w) := ⟨Nat.le_of_ble_eq_true rfl, fun R cs x h => (mi (A := (zw .i64)) (z4z (A := (tSl b0 (zw .i64))))).2 R cs (x.f_from, x.f_w) h⟩
structure Schecks_track where
  f_m : Mach
  f_w : (List Int)
  f_at : (List Int)
  f_id : (List Bool)
  f_known : (List Bool)
  deriving DecidableEq, Inhabited
def df (b0 b1 b2 b3 b4 b5 : Bool) : Ty Schecks_track := (z0k (jd b0 b1) (z0k (tSl b2 (zw .i64)) (z0k (tSl b3 (zw .i64)) (z0k (tSl b4 qz) (tSl b5 qz))))).as fun x => (x.f_m, x.f_w, x.f_at, x.f_id, x.f_known)
theorem z3x {b0 b1 b2 b3 b4 b5 : Bool} : Part (df b0 b1 b2 b3 b4 b5) 4 (tSl b3 (zw .i64)) (fun x : Schecks_track => x.f_at) := ⟨Nat.le_of_ble_eq_true rfl, fun R cs x h => (mi (A := (jd b0 b1)) (mi (A := (tSl b2 (zw .i64))) (z2j (A := (tSl b3 (zw .i64))) (B := (z0k (tSl b4 qz) (tSl b5 qz)))))).2 R cs (x.f_m, x.f_w, x.f_at, x.f_id, x.f_known) h⟩
theorem z3u {b0 b1 b2 b3 b4 b5 : Bool} : Part (df b0 b1 b2 b3 b4 b5) 5 (tSl b4 qz) (fun x : Schecks_track => x.f_id) := ⟨Nat.le_of_ble_eq_true rfl, fun R cs x h => (mi (A := (jd b0 b1)) (mi (A := (tSl b2 (zw .i64))) (mi (A := (tSl b3 (zw .i64))) (z2j (A := (tSl b4 qz)) (B := (tSl b5 qz)))))).2 R cs (x.f_m, x.f_w, x.f_at, x.f_id, x.f_known) h⟩
theorem z07 {b0 b1 b2 b3 b4 b5 : Bool} : Part (df b0 b1 b2 b3 b4 b5) 6 (tSl b5 qz) (fun x : Schecks_track => x.f_known) := ⟨Nat.le_of_ble_eq_true rfl, fun R cs x h => (mi (A := (jd b0 b1)) (mi (A := (tSl b2 (zw .i64))) (mi (A := (tSl b3 (zw .i64))) (mi (A := (tSl b4 qz)) (z4z (A := (tSl b5 qz))))))).2 R cs (x.f_m, x.f_w, x.f_at, x.f_id, x.f_known) h⟩
structure Schecks_Report where
  f_Begins : Bool
  f_States : (List Int)
  f_Edges : (List (Int × Int))
  deriving DecidableEq, Inhabited
def kv (b0 b1 : Bool) : Ty Schecks_Report := (z0k qz (z0k (tSl b0 (zw .i64)) (tSl b1 kA2tInti64))).as fun x => (x.f_Begins, x.f_States, x.f_Edges)
theorem z0v {b0 b1 : Bool} : Part (kv b0 b1) 0 qz (fun x : Schecks_Report => x.f_Begins) := ⟨Nat.le_of_ble_eq_true rfl, fun R cs x h => (z2j (A := qz) (B := (z0k (tSl b0 (zw .i64)) (tSl b1 kA2tInti64)))).2 R cs (x.f_Begins, x.f_States, x.f_Edges) h⟩
theorem z10 {b0 b1 : Bool} : Part (kv b0 b1) 1 (tSl b0 (zw .i64)) (fun x : Schecks_Report => x.f_States) := ⟨Nat.le_of_ble_eq_true rfl, fun R cs x h => (mi (A := qz) (z2j (A := (tSl b0 (zw .i64))) (B := (tSl b1 kA2tInti64)))).2 R cs (x.f_Begins, x.f_States, x.f_Edges) h⟩
theorem nu {b0 b1 : Bool} : Part (kv b0 b1) 2 (tSl b1 kA2tInti64) (fun x : Schecks_Report => x.f_Edges) := ⟨Nat.le_of_ble_eq_true rfl, fun R cs x h => (mi (A := qz) (mi (A := (tSl b0 (zw .i64))) (z4z (A := (tSl b1 kA2tInti64))))).2 R cs (x.f_Begins, x.f_States, x.f_Edges) h⟩
theorem z2m {b0 b1 : Bool} {R : RH} {v : Value} {x : Schecks_Report} (h : VRep (kv b0 b1) R v x) : ∃ u0 u1, v = .agg #[(.bool x.f_Begins), u0, u1] ∧ VRep (tSl b0 (zw .i64)) R u0 x.f_States ∧ VRep (tSl b1 kA2tInti64) R u1 x.f_Edges := by
  obtain ⟨_, h, rfl⟩ := h
  obtain ⟨_, _, rfl, rfl, ⟨_, _, rfl, q1, q2⟩⟩ := h
  obtain ⟨w1, rfl, k1⟩ := zfd rfl q1
  obtain ⟨w2, rfl, k2⟩ := zfd rfl q2
  exact ⟨_, _, rfl, k1, k2⟩
structure Sgauntletlaw06_C where
  f_States : Int
  f_Inputs : Int
  f_Outputs : Int
  f_Tree : (List Int)
  f_Edges : (List Int)
  deriving DecidableEq, Inhabited
structure Sgauntletlaw09_K where
  f_C : Sgauntletlaw06_C
  deriving DecidableEq, Inhabited
structure Sgauntletlaw39_X where
  f_K : Sgauntletlaw09_K
  f_D : (List Int)
  deriving DecidableEq, Inhabited
end GV
end Go.Proofs.Ytplgbkaollfmkaa
