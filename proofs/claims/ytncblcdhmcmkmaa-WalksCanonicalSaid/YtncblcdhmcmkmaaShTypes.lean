/- Kinds of data of the program; printed. -/
import Derived.Test.YtncblcdhmcmkmaaShLay
namespace Go.Proofs.Ytncblcdhmcmkmaa
namespace GV
set_option linter.unusedVariables false
structure MDat where
  states : Int
  ins : Int
  outs : Int
  part : Bool
  edges : (List Int)
  deriving DecidableEq, Inhabited
def kMDat (b0 : Bool) : Ty MDat := (tPair (tInt .u8) (tPair (tInt .u8) (tPair (tInt .u8) (tPair tBool (tSl b0 (tInt .u16)))))).as fun x => (x.states, x.ins, x.outs, x.part, x.edges)
theorem pt_MDat0 {b0 : Bool} : Part (kMDat b0) 0 (tInt .u8) (fun x : MDat => x.states) := ⟨Nat.le_of_ble_eq_true rfl, fun R cs x h => (part_fst (A := (tInt .u8)) (B := (tPair (tInt .u8) (tPair (tInt .u8) (tPair tBool (tSl b0 (tInt .u16))))))).2 R cs (x.states, x.ins, x.outs, x.part, x.edges) h⟩
theorem pt_MDat1 {b0 : Bool} : Part (kMDat b0) 1 (tInt .u8) (fun x : MDat => x.ins) := ⟨Nat.le_of_ble_eq_true rfl, fun R cs x h => (part_snd (A := (tInt .u8)) (part_fst (A := (tInt .u8)) (B := (tPair (tInt .u8) (tPair tBool (tSl b0 (tInt .u16))))))).2 R cs (x.states, x.ins, x.outs, x.part, x.edges) h⟩
theorem pt_MDat2 {b0 : Bool} : Part (kMDat b0) 2 (tInt .u8) (fun x : MDat => x.outs) := ⟨Nat.le_of_ble_eq_true rfl, fun R cs x h => (part_snd (A := (tInt .u8)) (part_snd (A := (tInt .u8)) (part_fst (A := (tInt .u8)) (B := (tPair tBool (tSl b0 (tInt .u16))))))).2 R cs (x.states, x.ins, x.outs, x.part, x.edges) h⟩
theorem pt_MDat3 {b0 : Bool} : Part (kMDat b0) 3 tBool (fun x : MDat => x.part) := ⟨Nat.le_of_ble_eq_true rfl, fun R cs x h => (part_snd (A := (tInt .u8)) (part_snd (A := (tInt .u8)) (part_snd (A := (tInt .u8)) (part_fst (A := tBool) (B := (tSl b0 (tInt .u16))))))).2 R cs (x.states, x.ins, x.outs, x.part, x.edges) h⟩
theorem pt_MDat4 {b0 : Bool} : Part (kMDat b0) 4 (tSl b0 (tInt .u16)) (fun x : MDat => x.edges) := ⟨Nat.le_of_ble_eq_true rfl, fun R cs x h => (part_snd (A := (tInt .u8)) (part_snd (A := (tInt .u8)) (part_snd (A := (tInt .u8)) (part_snd (A := tBool) (part_self (A := (tSl b0 (tInt .u16)))))))).2 R cs (x.states, x.ins, x.outs, x.part, x.edges) h⟩
def kEdge : Ty Edge := (tPair (tInt .i64) (tInt .i64)).as fun x => (x.to, x.out)
theorem pt_Edge0 : Part kEdge 0 (tInt .i64) (fun x : Edge => x.to) := ⟨by decide, fun R cs x h => (part_fst (A := (tInt .i64)) (B := (tInt .i64))).2 R cs (x.to, x.out) h⟩
theorem pt_Edge1 : Part kEdge 1 (tInt .i64) (fun x : Edge => x.out) := ⟨by decide, fun R cs x h => (part_snd (A := (tInt .i64)) (part_self (A := (tInt .i64)))).2 R cs (x.to, x.out) h⟩
def enc_Edge (x : Edge) : Value := .agg #[(.int .i64 x.to), (.int .i64 x.out)]
theorem rep_Edge {R : RH} {x : Edge} : kEdge.rep R [(.int .i64 x.to), (.int .i64 x.out)] x := ⟨_, _, rfl, rfl, rfl⟩
theorem vrep_Edge {R : RH} {v : Value} {x : Edge} : VRep kEdge R v x ↔ v = enc_Edge x := ⟨fun ⟨_, h, e⟩ => by
  obtain ⟨_, _, rfl, rfl, rfl⟩ := h
  exact e, fun h => ⟨_, rep_Edge, h⟩⟩
def kMach (b0 b1 : Bool) : Ty Mach := (tPair (tInt .i64) (tPair (tInt .i64) (tSl b0 (tSl b1 kEdge)))).as fun x => (x.inputs, x.outputs, x.rows)
theorem pt_Mach0 {b0 b1 : Bool} : Part (kMach b0 b1) 0 (tInt .i64) (fun x : Mach => x.inputs) := ⟨Nat.le_of_ble_eq_true rfl, fun R cs x h => (part_fst (A := (tInt .i64)) (B := (tPair (tInt .i64) (tSl b0 (tSl b1 kEdge))))).2 R cs (x.inputs, x.outputs, x.rows) h⟩
theorem pt_Mach1 {b0 b1 : Bool} : Part (kMach b0 b1) 1 (tInt .i64) (fun x : Mach => x.outputs) := ⟨Nat.le_of_ble_eq_true rfl, fun R cs x h => (part_snd (A := (tInt .i64)) (part_fst (A := (tInt .i64)) (B := (tSl b0 (tSl b1 kEdge))))).2 R cs (x.inputs, x.outputs, x.rows) h⟩
theorem pt_Mach2 {b0 b1 : Bool} : Part (kMach b0 b1) 2 (tSl b0 (tSl b1 kEdge)) (fun x : Mach => x.rows) := ⟨Nat.le_of_ble_eq_true rfl, fun R cs x h => (part_snd (A := (tInt .i64)) (part_snd (A := (tInt .i64)) (part_self (A := (tSl b0 (tSl b1 kEdge)))))).2 R cs (x.inputs, x.outputs, x.rows) h⟩
theorem cases_Mach {b0 b1 : Bool} {R : RH} {v : Value} {x : Mach} (h : VRep (kMach b0 b1) R v x) : ∃ u0, v = .agg #[(.int .i64 x.inputs), (.int .i64 x.outputs), u0] ∧ VRep (tSl b0 (tSl b1 kEdge)) R u0 x.rows := by
  obtain ⟨_, h, rfl⟩ := h
  obtain ⟨_, _, rfl, rfl, ⟨_, _, rfl, rfl, q2⟩⟩ := h
  obtain ⟨w2, rfl, k2⟩ := one_rep rfl q2
  exact ⟨_, rfl, k2⟩
structure Swalks_arrival where
  f_state : Int
  f_from : Int
  f_input : Int
  deriving DecidableEq, Inhabited
def kSwalks_arrival : Ty Swalks_arrival := (tPair (tInt .i64) (tPair (tInt .i64) (tInt .i64))).as fun x => (x.f_state, x.f_from, x.f_input)
def enc_Swalks_arrival (x : Swalks_arrival) : Value := .agg #[(.int .i64 x.f_state), (.int .i64 x.f_from), (.int .i64 x.f_input)]
theorem rep_Swalks_arrival {R : RH} {x : Swalks_arrival} : kSwalks_arrival.rep R [(.int .i64 x.f_state), (.int .i64 x.f_from), (.int .i64 x.f_input)] x := ⟨_, _, rfl, rfl, ⟨_, _, rfl, rfl, rfl⟩⟩
theorem vrep_Swalks_arrival {R : RH} {v : Value} {x : Swalks_arrival} : VRep kSwalks_arrival R v x ↔ v = enc_Swalks_arrival x := ⟨fun ⟨_, h, e⟩ => by
  obtain ⟨_, _, rfl, rfl, ⟨_, _, rfl, rfl, rfl⟩⟩ := h
  exact e, fun h => ⟨_, rep_Swalks_arrival, h⟩⟩
structure WDat where
  syms : (List Int)
  deriving DecidableEq, Inhabited
def kWDat (b0 : Bool) : Ty WDat := (tOne (tSl b0 (tInt .u8))).as fun x => x.syms
theorem pt_WDat0 {b0 : Bool} : Part (kWDat b0) 0 (tSl b0 (tInt .u8)) (fun x : WDat => x.syms) := ⟨Nat.le_refl _, fun R cs x h => (part_one (A := (tSl b0 (tInt .u8)))).2 R cs x.syms h⟩
def kA2tIntu8 : Ty (Int × Int) := (tPair (tInt .u8) (tInt .u8)).as fun x => (x.1, x.2)
theorem pt_A2tIntu80 : Part kA2tIntu8 0 (tInt .u8) (fun x : (Int × Int) => x.1) := ⟨by decide, fun R cs x h => (part_fst (A := (tInt .u8)) (B := (tInt .u8))).2 R cs (x.1, x.2) h⟩
theorem pt_A2tIntu81 : Part kA2tIntu8 1 (tInt .u8) (fun x : (Int × Int) => x.2) := ⟨by decide, fun R cs x h => (part_snd (A := (tInt .u8)) (part_self (A := (tInt .u8)))).2 R cs (x.1, x.2) h⟩
def enc_A2tIntu8 (x : (Int × Int)) : Value := .agg #[(.int .u8 x.1), (.int .u8 x.2)]
theorem rep_A2tIntu8 {R : RH} {x : (Int × Int)} : kA2tIntu8.rep R [(.int .u8 x.1), (.int .u8 x.2)] x := ⟨_, _, rfl, rfl, rfl⟩
theorem vrep_A2tIntu8 {R : RH} {v : Value} {x : (Int × Int)} : VRep kA2tIntu8 R v x ↔ v = enc_A2tIntu8 x := ⟨fun ⟨_, h, e⟩ => by
  obtain ⟨_, _, rfl, rfl, rfl⟩ := h
  exact e, fun h => ⟨_, rep_A2tIntu8, h⟩⟩
def kA2tInti64 : Ty (Int × Int) := (tPair (tInt .i64) (tInt .i64)).as fun x => (x.1, x.2)
theorem pt_A2tInti640 : Part kA2tInti64 0 (tInt .i64) (fun x : (Int × Int) => x.1) := ⟨by decide, fun R cs x h => (part_fst (A := (tInt .i64)) (B := (tInt .i64))).2 R cs (x.1, x.2) h⟩
theorem pt_A2tInti641 : Part kA2tInti64 1 (tInt .i64) (fun x : (Int × Int) => x.2) := ⟨by decide, fun R cs x h => (part_snd (A := (tInt .i64)) (part_self (A := (tInt .i64)))).2 R cs (x.1, x.2) h⟩
def enc_A2tInti64 (x : (Int × Int)) : Value := .agg #[(.int .i64 x.1), (.int .i64 x.2)]
theorem rep_A2tInti64 {R : RH} {x : (Int × Int)} : kA2tInti64.rep R [(.int .i64 x.1), (.int .i64 x.2)] x := ⟨_, _, rfl, rfl, rfl⟩
theorem vrep_A2tInti64 {R : RH} {v : Value} {x : (Int × Int)} : VRep kA2tInti64 R v x ↔ v = enc_A2tInti64 x := ⟨fun ⟨_, h, e⟩ => by
  obtain ⟨_, _, rfl, rfl, rfl⟩ := h
  exact e, fun h => ⟨_, rep_A2tInti64, h⟩⟩
structure Sgauntletlaw06_C where
  f_States : Int
  f_Inputs : Int
  f_Outputs : Int
  f_Tree : (List Int)
  f_Edges : (List Int)
  deriving DecidableEq, Inhabited
def kSgauntletlaw06_C (b0 b1 : Bool) : Ty Sgauntletlaw06_C := (tPair (tInt .u8) (tPair (tInt .u8) (tPair (tInt .u8) (tPair (tSl b0 (tInt .u8)) (tSl b1 (tInt .u16)))))).as fun x => (x.f_States, x.f_Inputs, x.f_Outputs, x.f_Tree, x.f_Edges)
theorem pt_Sgauntletlaw06_C0 {b0 b1 : Bool} : Part (kSgauntletlaw06_C b0 b1) 0 (tInt .u8) (fun x : Sgauntletlaw06_C => x.f_States) := ⟨Nat.le_of_ble_eq_true rfl, fun R cs x h => (part_fst (A := (tInt .u8)) (B := (tPair (tInt .u8) (tPair (tInt .u8) (tPair (tSl b0 (tInt .u8)) (tSl b1 (tInt .u16))))))).2 R cs (x.f_States, x.f_Inputs, x.f_Outputs, x.f_Tree, x.f_Edges) h⟩
theorem pt_Sgauntletlaw06_C1 {b0 b1 : Bool} : Part (kSgauntletlaw06_C b0 b1) 1 (tInt .u8) (fun x : Sgauntletlaw06_C => x.f_Inputs) := ⟨Nat.le_of_ble_eq_true rfl, fun R cs x h => (part_snd (A := (tInt .u8)) (part_fst (A := (tInt .u8)) (B := (tPair (tInt .u8) (tPair (tSl b0 (tInt .u8)) (tSl b1 (tInt .u16))))))).2 R cs (x.f_States, x.f_Inputs, x.f_Outputs, x.f_Tree, x.f_Edges) h⟩
theorem pt_Sgauntletlaw06_C2 {b0 b1 : Bool} : Part (kSgauntletlaw06_C b0 b1) 2 (tInt .u8) (fun x : Sgauntletlaw06_C => x.f_Outputs) := ⟨Nat.le_of_ble_eq_true rfl, fun R cs x h => (part_snd (A := (tInt .u8)) (part_snd (A := (tInt .u8)) (part_fst (A := (tInt .u8)) (B := (tPair (tSl b0 (tInt .u8)) (tSl b1 (tInt .u16))))))).2 R cs (x.f_States, x.f_Inputs, x.f_Outputs, x.f_Tree, x.f_Edges) h⟩
theorem pt_Sgauntletlaw06_C3 {b0 b1 : Bool} : Part (kSgauntletlaw06_C b0 b1) 3 (tSl b0 (tInt .u8)) (fun x : Sgauntletlaw06_C => x.f_Tree) := ⟨Nat.le_of_ble_eq_true rfl, fun R cs x h => (part_snd (A := (tInt .u8)) (part_snd (A := (tInt .u8)) (part_snd (A := (tInt .u8)) (part_fst (A := (tSl b0 (tInt .u8))) (B := (tSl b1 (tInt .u16))))))).2 R cs (x.f_States, x.f_Inputs, x.f_Outputs, x.f_Tree, x.f_Edges) h⟩
theorem pt_Sgauntletlaw06_C4 {b0 b1 : Bool} : Part (kSgauntletlaw06_C b0 b1) 4 (tSl b1 (tInt .u16)) (fun x : Sgauntletlaw06_C => x.f_Edges) := ⟨Nat.le_of_ble_eq_true rfl, fun R cs x h => (part_snd (A := (tInt .u8)) (part_snd (A := (tInt .u8)) (part_snd (A := (tInt .u8)) (part_snd (A := (tSl b0 (tInt .u8))) (part_self (A := (tSl b1 (tInt .u16)))))))).2 R cs (x.f_States, x.f_Inputs, x.f_Outputs, x.f_Tree, x.f_Edges) h⟩
end GV
end Go.Proofs.Ytncblcdhmcmkmaa
