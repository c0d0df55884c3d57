/- The functions as plain programs; printed. -/
import Derived.Test.YtohjnbajgbdhhaaShTypes
namespace Go.Proofs.Ytohjnbajgbdhhaa
namespace GV
set_option linter.unusedVariables false
set_option maxRecDepth 100000
/-- (gauntlet/gauntletlaw04.M).Of -/
def gauntletlaw04_M_Of_L2 (N : Nat) (x : MDat) (x39 : Int) : Nat → (List Edge) → Int → Option (List Edge)
  | 0, _, _ => none
  | F56 + 1, x57, x58 =>
    bif decide (x58 < ((1 : Int) + (x.ins % 3))) then (
    bd (
    bd (
    gd (in64 (x39 * ((1 : Int) + (x.ins % 3)))) <|
    gd (in64 ((x39 * ((1 : Int) + (x.ins % 3))) + x58)) <|
    bif decide (((x39 * ((1 : Int) + (x.ins % 3))) + x58) < (↑x.edges.length : Int)) then (
    gd (okI x.edges ((x39 * ((1 : Int) + (x.ins % 3))) + x58)) <|
    gd (in64 (ix x.edges ((x39 * ((1 : Int) + (x.ins % 3))) + x58))) <|
    some (ix x.edges ((x39 * ((1 : Int) + (x.ins % 3))) + x58))) else (
    some 0)) fun o72 =>
    gd ((true && (x.part == true)) = true → okR o72 4) <|
    bif x.part && (decide ((o72 % 4) = 3)) then (
    gd (fits 16 x57 ([(⟨(-1), (-1)⟩ : Edge)] : List Edge)) <|
    some (x57 ++ ([(⟨(-1), (-1)⟩ : Edge)] : List Edge))) else (
    gd (okQ o72 4) <|
    gd (okR (o72 / 4) ((1 : Int) + (x.states % 6))) <|
    gd (okQ o72 4) <|
    gd (okQ (o72 / 4) ((1 : Int) + (x.states % 6))) <|
    gd (okR ((o72 / 4) / ((1 : Int) + (x.states % 6))) ((1 : Int) + (x.outs % 3))) <|
    gd (fits 16 x57 ([(⟨(o72 / 4) % ((1 : Int) + (x.states % 6)), ((o72 / 4) / ((1 : Int) + (x.states % 6))) % ((1 : Int) + (x.outs % 3))⟩ : Edge)] : List Edge)) <|
    some (x57 ++ ([(⟨(o72 / 4) % ((1 : Int) + (x.states % 6)), ((o72 / 4) / ((1 : Int) + (x.states % 6))) % ((1 : Int) + (x.outs % 3))⟩ : Edge)] : List Edge)))) fun o66 =>
    gd (in64 (x58 + 1)) <|
    gauntletlaw04_M_Of_L2 N x x39 F56 o66 (x58 + 1)) else (
    some x57)
def gauntletlaw04_M_Of_L1 (N : Nat) (x : MDat) : Nat → Int → (List (List Edge)) → Option (List (List Edge))
  | 0, _, _ => none
  | F38 + 1, x39, x40 =>
    bif decide (x39 < ((1 : Int) + (x.states % 6))) then (
    bd (
    gauntletlaw04_M_Of_L2 N x x39 N ([] : List Edge) 0) fun o48 =>
    gd (fits 24 x40 ([o48] : List (List Edge))) <|
    gd (in64 (x39 + 1)) <|
    gauntletlaw04_M_Of_L1 N x F38 (x39 + 1) (x40 ++ ([o48] : List (List Edge)))) else (
    some x40)
def gauntletlaw04_M_Of (N : Nat) (x : MDat) : Option Mach :=
    gd (okR x.states 6) <|
    gd (in64 (x.states % 6)) <|
    gd (in64 ((1 : Int) + (x.states % 6))) <|
    gd (okR x.ins 3) <|
    gd (in64 (x.ins % 3)) <|
    gd (in64 ((1 : Int) + (x.ins % 3))) <|
    gd (okR x.outs 3) <|
    gd (in64 (x.outs % 3)) <|
    gd (in64 ((1 : Int) + (x.outs % 3))) <|
    bd (
    gauntletlaw04_M_Of_L1 N x N 0 ([] : List (List Edge))) fun o30 =>
    some (⟨(1 : Int) + (x.ins % 3), (1 : Int) + (x.outs % 3), o30⟩ : Mach)
/-- slices.IndexFunc[[]gauntlet/api.Edge,gauntlet/api.Edge] -/
def slices_IndexFunc_api_Edge_L1 (N : Nat) (s : (List Edge)) (f : Edge → Option Bool) : Nat → Int → Option (Ex (Unit) (Int))
  | 0, _ => none
  | F5 + 1, x6 =>
    bif decide (x6 < (↑s.length : Int)) then (
    gd (okI s x6) <|
    bd (f (ix s x6)) fun y15 =>
    bif y15 then (
    some (Ex.rt x6)) else (
    gd (in64 (x6 + 1)) <|
    slices_IndexFunc_api_Edge_L1 N s f F5 (x6 + 1))) else (
    some (Ex.go ()))
def slices_IndexFunc_api_Edge (N : Nat) (s : (List Edge)) (f : Edge → Option Bool) : Option Int :=
    bd (
    slices_IndexFunc_api_Edge_L1 N s f N 0) fun q2 =>
    Ex.on q2 (fun o1 =>
    some (-1)) some
/-- slices.ContainsFunc[[]gauntlet/api.Edge,gauntlet/api.Edge] -/
def slices_ContainsFunc_api_Edge (N : Nat) (s : (List Edge)) (f : Edge → Option Bool) : Option Bool :=
    bd (slices_IndexFunc_api_Edge N s f) fun y1 =>
    some (decide (0 ≤ y1))
/-- gauntlet/machines.none -/
def machines_none (N : Nat) : Option Edge :=
    some (⟨(-1), (-1)⟩ : Edge)
/-- gauntlet/machines.fits -/
def machines_fits (N : Nat) (m : Mach) (x : Edge) : Option Bool :=
    bd (machines_none N) fun y9 =>
    some ((decide (x.to = y9.to ∧ x.out = y9.out)) || ((((decide (0 ≤ x.to)) && (decide (x.to < (↑m.rows.length : Int)))) && (decide (0 ≤ x.out))) && (decide (x.out < m.outputs))))
/-- gauntlet/machines.Check$1 -/
def machines_Check_1 (N : Nat) (x : Edge) (p0_ : Mach) : Option Bool :=
    bd (machines_fits N p0_ x) fun y9 =>
    some (!y9)
/-- gauntlet/machines.Check -/
def machines_Check_L1 (N : Nat) (m : Mach) : Nat → Int → Option (Ex (Unit) (Int))
  | 0, _ => none
  | F75 + 1, x76 =>
    bif decide (x76 < (↑m.rows.length : Int)) then (
    gd (okI m.rows x76) <|
    bd (gop (true && ((decide ((↑(ix m.rows x76).length : Int) ≠ m.inputs)) == false)) (slices_ContainsFunc_api_Edge N (ix m.rows x76) (fun z0 => machines_Check_1 N z0 m))) fun y85 =>
    bif (decide ((↑(ix m.rows x76).length : Int) ≠ m.inputs)) || (y85.getD default) then (
    some (Ex.rt 1)) else (
    gd (in64 (x76 + 1)) <|
    machines_Check_L1 N m F75 (x76 + 1))) else (
    some (Ex.go ()))
def machines_Check (N : Nat) (m : Mach) : Option Int :=
    bif ((decide (16 < m.inputs)) || (decide (16 < m.outputs))) || (decide (64 < (↑m.rows.length : Int))) then (
    some 3) else (
    bif ((decide (m.inputs < 1)) || (decide (m.outputs < 1))) || (decide ((↑m.rows.length : Int) < 1)) then (
    some 1) else (
    bd (
    machines_Check_L1 N m N 0) fun q68 =>
    Ex.on q68 (fun o67 =>
    some 0) some))
/-- gauntlet/machines.edges -/
def machines_edges (N : Nat) (m : Mach) : Option Mach :=
    some m
/-- gauntlet/machines.edges$1 -/
def machines_edges_1_L2 (N : Nat) (σ : Type) (B : ((Int × Int) × Edge) → σ → Option (Bool × σ)) (p0_ : Mach) (x7 : Int) : Nat → σ → Int → Option (Ex (σ) (σ))
  | 0, _, _ => none
  | F24 + 1, x25, x26 =>
    bif decide (x26 < (↑(ix p0_.rows x7).length : Int)) then (
    gd (okI (ix p0_.rows x7) x26) <|
    bd (B (((x7, x26) : (Int × Int)), (⟨(ix (ix p0_.rows x7) x26).to, (ix (ix p0_.rows x7) x26).out⟩ : Edge)) x25) fun y39 =>
    bif !y39.1 then (
    some (Ex.rt y39.2)) else (
    gd (in64 (x26 + 1)) <|
    machines_edges_1_L2 N σ B p0_ x7 F24 y39.2 (x26 + 1))) else (
    some (Ex.go x25))
def machines_edges_1_L1 (N : Nat) (σ : Type) (B : ((Int × Int) × Edge) → σ → Option (Bool × σ)) (p0_ : Mach) : Nat → σ → Int → Option σ
  | 0, _, _ => none
  | F5 + 1, x6, x7 =>
    bif decide (x7 < (↑p0_.rows.length : Int)) then (
    bd (
    gd (okI p0_.rows x7) <|
    machines_edges_1_L2 N σ B p0_ x7 N x6 0) fun q14 =>
    Ex.on q14 (fun o13 =>
    gd (in64 (x7 + 1)) <|
    machines_edges_1_L1 N σ B p0_ F5 o13 (x7 + 1)) some) else (
    some x6)
def machines_edges_1 (N : Nat) (p0_ : Mach) (σ : Type) (B : ((Int × Int) × Edge) → σ → Option (Bool × σ)) (s0 : σ) : Option σ :=
    machines_edges_1_L1 N σ B p0_ N s0 0
/-- slices.Clip[[][2]int,[2]int] -/
def slices_Clip__2_int (N : Nat) (s : (List (Int × Int))) : Option (List (Int × Int)) :=
    gd (okS s 0 (↑s.length : Int)) <|
    some (cut s 0 (↑s.length : Int))
/-- gauntlet/machines.undefined -/
def machines_undefined (N : Nat) (m : Mach) : Option (List (Int × Int)) :=
    bd (machines_edges N m) fun y9 =>
    bd (machines_edges_1 N y9 (List (Int × Int)) (fun y20 x21 =>
    bd (machines_none N) fun y44 =>
    bif decide (y20.2.to = y44.to ∧ y20.2.out = y44.out) then (
    gd (fits 16 x21 ([((y20.1.1, y20.1.2) : (Int × Int))] : List (Int × Int))) <|
    some (true, (x21 ++ ([((y20.1.1, y20.1.2) : (Int × Int))] : List (Int × Int))))) else (
    some (true, x21))) ([] : List (Int × Int))) fun o18 =>
    bd (slices_Clip__2_int N o18) fun y80 =>
    some y80
/-- gauntlet/machines.Complete -/
def machines_Complete (N : Nat) (m : Mach) : Option (Bool × Int) :=
    bd (machines_Check N m) fun y7 =>
    bif decide (y7 ≠ 0) then (
    some (false, y7)) else (
    bd (machines_undefined N m) fun y16 =>
    some ((decide ((↑y16.length : Int) = 0)), 0))
/-- gauntlet/machines.Connected$1 -/
def machines_Connected_1_L1 (N : Nat) (self : Int → List Bool → Mach → Option (List Bool)) (s : Int) (p1_ : Mach) : Nat → Int → (List Bool) → Option (List Bool)
  | 0, _, _ => none
  | F35 + 1, x36, x37 =>
    bif decide (x36 < (↑(ix p1_.rows s).length : Int)) then (
    gd (okI (ix p1_.rows s) x36) <|
    bd (self ((ix (ix p1_.rows s) x36).to) x37 p1_) fun y51 =>
    gd (in64 (x36 + 1)) <|
    machines_Connected_1_L1 N self s p1_ F35 (x36 + 1) y51) else (
    some x37)
def machines_Connected_1 (N : Nat) : Nat → Int → List Bool → Mach → Option (List Bool)
  | 0, _, _, _ => none
  | F + 1, s, p0_, p1_ =>
    gd ((true && ((decide (s = (-1))) == false)) = true → okI p0_ s) <|
    bif (decide (s = (-1))) || (ix p0_ s) then (
    some p0_) else (
    gd (okI p0_ s) <|
    gd (okI p1_.rows s) <|
    machines_Connected_1_L1 N (machines_Connected_1 N F) s p1_ N 0 (up p0_ s true))
/-- slices.Index[[]bool,bool] -/
def slices_Index_bool_L1 (N : Nat) (s : (List Bool)) (v_ : Bool) : Nat → Int → Option (Ex (Unit) (Int))
  | 0, _ => none
  | F5 + 1, x6 =>
    bif decide (x6 < (↑s.length : Int)) then (
    gd (okI s x6) <|
    bif decide (v_ = (ix s x6)) then (
    some (Ex.rt x6)) else (
    gd (in64 (x6 + 1)) <|
    slices_Index_bool_L1 N s v_ F5 (x6 + 1))) else (
    some (Ex.go ()))
def slices_Index_bool (N : Nat) (s : (List Bool)) (v_ : Bool) : Option Int :=
    bd (
    slices_Index_bool_L1 N s v_ N 0) fun q2 =>
    Ex.on q2 (fun o1 =>
    some (-1)) some
/-- slices.Contains[[]bool,bool] -/
def slices_Contains_bool (N : Nat) (s : (List Bool)) (v_ : Bool) : Option Bool :=
    bd (slices_Index_bool N s v_) fun y1 =>
    some (decide (0 ≤ y1))
/-- gauntlet/machines.Connected -/
def machines_Connected (N : Nat) (m : Mach) : Option (Bool × Int) :=
    bd (machines_Check N m) fun y7 =>
    bif decide (y7 ≠ 0) then (
    some (false, y7)) else (
    gd (okM 1 (↑m.rows.length : Int)) <|
    bd (machines_Connected_1 N N 0 (mk (↑m.rows.length : Int) false) m) fun y28 =>
    bd (slices_Contains_bool N y28 false) fun y41 =>
    some ((!y41), 0))
/-- gauntlet/machines.Transitions -/
def machines_Transitions (N : Nat) (m : Mach) : Option (Int × Int) :=
    bd (machines_Check N m) fun y7 =>
    bif decide (y7 ≠ 0) then (
    some (0, y7)) else (
    gd (in64 ((↑m.rows.length : Int) * m.inputs)) <|
    bd (machines_undefined N m) fun y15 =>
    gd (in64 (((↑m.rows.length : Int) * m.inputs) - (↑y15.length : Int))) <|
    some ((((↑m.rows.length : Int) * m.inputs) - (↑y15.length : Int)), 0))
/-- gauntlet/machines.Undefined -/
def machines_Undefined (N : Nat) (m : Mach) : Option ((List (Int × Int)) × Int) :=
    bd (machines_Check N m) fun y7 =>
    bif decide (y7 ≠ 0) then (
    some (([] : (List (Int × Int))), y7)) else (
    bd (machines_undefined N m) fun y16 =>
    some (y16, 0))
/-- gauntlet/gauntletref04.Defined -/
def gauntletref04_Defined_L2 (N : Nat) (m : Mach) (x10 : Int) : Nat → Int → Int → Option Int
  | 0, _, _ => none
  | F21 + 1, x22, x23 =>
    bif decide (x23 < m.inputs) then (
    bd (
    gd (okI m.rows x10) <|
    gd (okI (ix m.rows x10) x23) <|
    bif decide (0 ≤ ((ix (ix m.rows x10) x23).to)) then (
    gd (in64 (x22 + 1)) <|
    some (x22 + 1)) else (
    some x22)) fun o31 =>
    gd (in64 (x23 + 1)) <|
    gauntletref04_Defined_L2 N m x10 F21 o31 (x23 + 1)) else (
    some x22)
def gauntletref04_Defined_L1 (N : Nat) (m : Mach) : Nat → Int → Int → Option Int
  | 0, _, _ => none
  | F8 + 1, x9, x10 =>
    bif decide (x10 < (↑m.rows.length : Int)) then (
    bd (
    gauntletref04_Defined_L2 N m x10 N x9 0) fun o18 =>
    gd (in64 (x10 + 1)) <|
    gauntletref04_Defined_L1 N m F8 o18 (x10 + 1)) else (
    some x9)
def gauntletref04_Defined (N : Nat) (m : Mach) : Option Int :=
    bd (
    gauntletref04_Defined_L1 N m N 0 0) fun o5 =>
    some o5
/-- gauntlet/gauntletref04.Complete -/
def gauntletref04_Complete (N : Nat) (m : Mach) : Option Bool :=
    bd (gauntletref04_Defined N m) fun y5 =>
    gd (in64 ((↑m.rows.length : Int) * m.inputs)) <|
    some (decide (y5 = ((↑m.rows.length : Int) * m.inputs)))
/-- gauntlet/gauntletref04.Reached -/
def gauntletref04_Reached_L3 (N : Nat) (m : Mach) (x46 : Int) : Nat → Int → (List Bool) → Option (List Bool)
  | 0, _, _ => none
  | F64 + 1, x65, x66 =>
    bif decide (x65 < m.inputs) then (
    bd (
    gd (okI m.rows x46) <|
    gd (okI (ix m.rows x46) x65) <|
    gd (okI x66 x46) <|
    bif (ix x66 x46) && (decide (0 ≤ ((ix (ix m.rows x46) x65).to))) then (
    gd (okI x66 ((ix (ix m.rows x46) x65).to)) <|
    some (up x66 ((ix (ix m.rows x46) x65).to) true)) else (
    some x66)) fun o77 =>
    gd (in64 (x65 + 1)) <|
    gauntletref04_Reached_L3 N m x46 F64 (x65 + 1) o77) else (
    some x66)
def gauntletref04_Reached_L2 (N : Nat) (m : Mach) : Nat → Int → (List Bool) → Option (List Bool)
  | 0, _, _ => none
  | F45 + 1, x46, x47 =>
    bif decide (x46 < (↑m.rows.length : Int)) then (
    bd (
    gauntletref04_Reached_L3 N m x46 N 0 x47) fun o58 =>
    gd (in64 (x46 + 1)) <|
    gauntletref04_Reached_L2 N m F45 (x46 + 1) o58) else (
    some x47)
def gauntletref04_Reached_L1 (N : Nat) (m : Mach) : Nat → Int → (List Bool) → Option (List Bool)
  | 0, _, _ => none
  | F26 + 1, x27, x28 =>
    bif decide (x27 < (↑m.rows.length : Int)) then (
    bd (
    gauntletref04_Reached_L2 N m N 0 x28) fun o39 =>
    gd (in64 (x27 + 1)) <|
    gauntletref04_Reached_L1 N m F26 (x27 + 1) o39) else (
    some x28)
def gauntletref04_Reached (N : Nat) (m : Mach) (from_ : Int) : Option (List Bool) :=
    gd (okM 1 (↑m.rows.length : Int)) <|
    gd (okI (mk (↑m.rows.length : Int) false) from_) <|
    bd (
    gauntletref04_Reached_L1 N m N 0 (up (mk (↑m.rows.length : Int) false) from_ true)) fun o20 =>
    some o20
/-- gauntlet/gauntletref04.Connected -/
def gauntletref04_Connected_L1 (N : Nat) (y7 : (List Bool)) : Nat → Int → Option (Ex (Unit) (Bool))
  | 0, _ => none
  | F17 + 1, x18 =>
    bif decide (x18 < (↑y7.length : Int)) then (
    gd (okI y7 x18) <|
    bif !(ix y7 x18) then (
    some (Ex.rt false)) else (
    gd (in64 (x18 + 1)) <|
    gauntletref04_Connected_L1 N y7 F17 (x18 + 1))) else (
    some (Ex.go ()))
def gauntletref04_Connected (N : Nat) (m : Mach) : Option Bool :=
    bd (gauntletref04_Reached N m 0) fun y7 =>
    bd (
    gauntletref04_Connected_L1 N y7 N 0) fun q14 =>
    Ex.on q14 (fun o13 =>
    some true) some
/-- gauntlet/gauntletlaw04.edge -/
def gauntletlaw04_edge (N : Nat) (to_ : Int) (out : Int) : Option Edge :=
    some (⟨to_, out⟩ : Edge)
/-- gauntlet/machines.state -/
def machines_state (N : Nat) (m : Mach) (s : Int) : Option Int :=
    bd (machines_Check N m) fun y7 =>
    bif decide (y7 ≠ 0) then (
    some y7) else (
    bif (decide (s < 0)) || (decide ((↑m.rows.length : Int) ≤ s)) then (
    some 1) else (
    some 0))
/-- slices.IndexFunc[[]int,int] -/
def slices_IndexFunc_int_L1 (N : Nat) (s : (List Int)) (f : Int → Option Bool) : Nat → Int → Option (Ex (Unit) (Int))
  | 0, _ => none
  | F5 + 1, x6 =>
    bif decide (x6 < (↑s.length : Int)) then (
    gd (okI s x6) <|
    bd (f (ix s x6)) fun y15 =>
    bif y15 then (
    some (Ex.rt x6)) else (
    gd (in64 (x6 + 1)) <|
    slices_IndexFunc_int_L1 N s f F5 (x6 + 1))) else (
    some (Ex.go ()))
def slices_IndexFunc_int (N : Nat) (s : (List Int)) (f : Int → Option Bool) : Option Int :=
    bd (
    slices_IndexFunc_int_L1 N s f N 0) fun q2 =>
    Ex.on q2 (fun o1 =>
    some (-1)) some
/-- slices.ContainsFunc[[]int,int] -/
def slices_ContainsFunc_int (N : Nat) (s : (List Int)) (f : Int → Option Bool) : Option Bool :=
    bd (slices_IndexFunc_int N s f) fun y1 =>
    some (decide (0 ≤ y1))
/-- gauntlet/words.Check$1 -/
def words_Check_1 (N : Nat) (c : Int) (p0_ : Int) : Option Bool :=
    some ((decide (c < 0)) || (decide (p0_ ≤ c)))
/-- gauntlet/words.Check -/
def words_Check (N : Nat) (w_ : (List Int)) (inputs : Int) : Option Int :=
    bif (decide (16 < inputs)) || (decide (256 < (↑w_.length : Int))) then (
    some 3) else (
    bd (gop (true && ((decide (inputs < 1)) == false)) (slices_ContainsFunc_int N w_ (fun z0 => words_Check_1 N z0 inputs))) fun y22 =>
    bif (decide (inputs < 1)) || (y22.getD default) then (
    some 1) else (
    some 0))
/-- gauntlet/machines.run -/
def machines_run_L1 (N : Nat) (m : Mach) (w_ : (List Int)) : Nat → Int → Int → (List Int) → Option (Int × List Int)
  | 0, _, _, _ => none
  | F17 + 1, x18, x19, x20 =>
    bif decide (x19 < (↑w_.length : Int)) then (
    gd (okI w_ x19) <|
    bd (machines_none N) fun y32 =>
    bd (
    bif decide (x18 ≠ (-1)) then (
    gd (okI m.rows x18) <|
    gd (okI (ix m.rows x18) (ix w_ x19)) <|
    some ((ix (ix m.rows x18) (ix w_ x19)).to, (ix (ix m.rows x18) (ix w_ x19)).out)) else (
    some (y32.to, y32.out))) fun o40 =>
    gd (okI x20 x19) <|
    gd (in64 (x19 + 1)) <|
    machines_run_L1 N m w_ F17 o40.1 (x19 + 1) (up x20 x19 o40.2)) else (
    some (x18, x20))
def machines_run (N : Nat) (m : Mach) (s : Int) (w_ : (List Int)) : Option ((List Int) × Int) :=
    gd (okM 8 (↑w_.length : Int)) <|
    bd (
    machines_run_L1 N m w_ N s 0 (mk (↑w_.length : Int) (0 : Int))) fun o11 =>
    some (o11.2, o11.1)
/-- gauntlet/machines.Run -/
def machines_Run (N : Nat) (m : Mach) (s : Int) (w_ : (List Int)) : Option ((List Int) × Int) :=
    bd (machines_state N m s) fun y7 =>
    bif decide (y7 ≠ 0) then (
    some (([] : (List Int)), y7)) else (
    bd (words_Check N w_ m.inputs) fun y18 =>
    bif decide (y18 ≠ 0) then (
    some (([] : (List Int)), y18)) else (
    bd (machines_run N m s w_) fun y27 =>
    some (y27.1, 0)))
/-- gauntlet/machines.After -/
def machines_After (N : Nat) (m : Mach) (s : Int) (w_ : (List Int)) : Option (Int × Int) :=
    bd (machines_state N m s) fun y7 =>
    bif decide (y7 ≠ 0) then (
    some (0, y7)) else (
    bd (words_Check N w_ m.inputs) fun y18 =>
    bif decide (y18 ≠ 0) then (
    some (0, y18)) else (
    bd (machines_run N m s w_) fun y27 =>
    some (y27.2, 0)))
/-- gauntlet/machines.Step -/
def machines_Step (N : Nat) (m : Mach) (s : Int) (i : Int) : Option (Edge × Int) :=
    bd (machines_state N m s) fun y9 =>
    bif decide (y9 ≠ 0) then (
    some ((⟨0, 0⟩ : Edge), y9)) else (
    bif (decide (i < 0)) || (decide (m.inputs ≤ i)) then (
    some ((⟨0, 0⟩ : Edge), 1)) else (
    gd (okI m.rows s) <|
    gd (okI (ix m.rows s) i) <|
    some ((⟨(ix (ix m.rows s) i).to, (ix (ix m.rows s) i).out⟩ : Edge), 0)))
/-- slices.Clone[[]gauntlet/api.Edge,gauntlet/api.Edge] -/
def slices_Clone_api_Edge (N : Nat) (s : (List Edge)) : Option (List Edge) :=
    gd (fits 16 ([] : List Edge) s) <|
    some (([] : List Edge) ++ s)
/-- slices.Clip[[]gauntlet/api.Edge,gauntlet/api.Edge] -/
def slices_Clip_api_Edge (N : Nat) (s : (List Edge)) : Option (List Edge) :=
    gd (okS s 0 (↑s.length : Int)) <|
    some (cut s 0 (↑s.length : Int))
/-- slices.Clip[[]gauntlet/api.Edge,gauntlet/api.Edge] -/
def slices_Clip_api_Edge_o (N : Nat) (s : List Edge) : Option (List Edge) :=
    gd (okS s 0 (↑s.length : Int)) <|
    some (cut s 0 (↑s.length : Int))
/-- slices.Clone[[]gauntlet/api.Edge,gauntlet/api.Edge] -/
def slices_Clone_api_Edge_o (N : Nat) (s : (List Edge)) : Option (List Edge) :=
    gd (fits 16 ([] : List Edge) s) <|
    some (([] : List Edge) ++ s)
/-- gauntlet/machines.With -/
def machines_With_L1 (N : Nat) (m : Mach) : Nat → Int → (List (List Edge)) → Option (List (List Edge))
  | 0, _, _ => none
  | F94 + 1, x95, x96 =>
    bif decide (x95 < (↑m.rows.length : Int)) then (
    gd (okI m.rows x95) <|
    bd (slices_Clone_api_Edge_o N (ix m.rows x95)) fun y109 =>
    bd (slices_Clip_api_Edge_o N y109) fun y112 =>
    gd (okI x96 x95) <|
    gd (in64 (x95 + 1)) <|
    machines_With_L1 N m F94 (x95 + 1) (up x96 x95 y112)) else (
    some x96)
def machines_With (N : Nat) (m : Mach) (s : Int) (i : Int) (x : Edge) : Option (Mach × Int) :=
    bd (machines_state N m s) fun y13 =>
    bif decide (y13 ≠ 0) then (
    some ((⟨0, 0, []⟩ : Mach), y13)) else (
    bd (gop (true && (((decide (i < 0)) || (decide (m.inputs ≤ i))) == false)) (machines_fits N m x)) fun y20 =>
    bif ((decide (i < 0)) || (decide (m.inputs ≤ i))) || (!(y20.getD default)) then (
    some ((⟨0, 0, []⟩ : Mach), 1)) else (
    gd (okM 24 (↑m.rows.length : Int)) <|
    bd (
    machines_With_L1 N m N 0 (mk (↑m.rows.length : Int) ([] : List Edge))) fun o83 =>
    gd (okI o83 s) <|
    gd (okI (ix o83 s) i) <|
    some ((⟨m.inputs, m.outputs, (up o83 s (up (ix o83 s) i x))⟩ : Mach), 0)))
/-- gauntlet/gauntletref01.Compare -/
def gauntletref01_Compare_L1 (N : Nat) (a : (List Int)) (b : (List Int)) : Nat → Int → Option (Ex (Unit) (Int))
  | 0, _ => none
  | F7 + 1, x8 =>
    bif decide (x8 < (↑a.length : Int)) then (
    gd (okI a x8) <|
    gd (okI b x8) <|
    bif decide ((ix a x8) < (ix b x8)) then (
    some (Ex.rt (-1))) else (
    gd (okI a x8) <|
    gd (okI b x8) <|
    bif decide ((ix b x8) < (ix a x8)) then (
    some (Ex.rt 1)) else (
    gd (in64 (x8 + 1)) <|
    gauntletref01_Compare_L1 N a b F7 (x8 + 1)))) else (
    some (Ex.go ()))
def gauntletref01_Compare (N : Nat) (a : (List Int)) (b : (List Int)) : Option Int :=
    bif decide ((↑a.length : Int) < (↑b.length : Int)) then (
    some (-1)) else (
    bif decide ((↑b.length : Int) < (↑a.length : Int)) then (
    some 1) else (
    bd (
    gauntletref01_Compare_L1 N a b N 0) fun q4 =>
    Ex.on q4 (fun o3 =>
    some 0) some))
/-- gauntlet/gauntletref01.Same -/
def gauntletref01_Same (N : Nat) (a : (List Int)) (b : (List Int)) : Option Bool :=
    bd (gauntletref01_Compare N a b) fun y1 =>
    some (decide (y1 = 0))
/-- gauntlet/gauntletlaw04.list -/
def gauntletlaw04_list (N : Nat) (l_ : (List Int)) (e : Int) (want : (List Int)) (f : Int) : Option Bool :=
    bd (gop (true && ((decide (e = f)) == true)) (gauntletref01_Same N l_ want)) fun y1 =>
    some (((decide (e = f)) && (y1.getD default)) && (decide ((↑l_.length : Int) = (↑l_.length : Int))))
/-- gauntlet/gauntletlaw04.lives -/
def gauntletlaw04_lives (N : Nat) : Option Bool :=
    bd (gauntletlaw04_edge N 1 0) fun y1 =>
    bd (gauntletlaw04_edge N 0 1) fun y7 =>
    bd (gauntletlaw04_edge N (-1) (-1)) fun y18 =>
    bd (gauntletlaw04_edge N 0 0) fun y24 =>
    bd (machines_Complete N (⟨2, 2, ([([(⟨y1.to, y1.out⟩ : Edge), (⟨y7.to, y7.out⟩ : Edge)] : List Edge), ([(⟨y18.to, y18.out⟩ : Edge), (⟨y24.to, y24.out⟩ : Edge)] : List Edge)] : List (List Edge))⟩ : Mach)) fun y53 =>
    bd (machines_Connected N (⟨2, 2, ([([(⟨y1.to, y1.out⟩ : Edge), (⟨y7.to, y7.out⟩ : Edge)] : List Edge), ([(⟨y18.to, y18.out⟩ : Edge), (⟨y24.to, y24.out⟩ : Edge)] : List Edge)] : List (List Edge))⟩ : Mach)) fun y60 =>
    bd (machines_Transitions N (⟨2, 2, ([([(⟨y1.to, y1.out⟩ : Edge), (⟨y7.to, y7.out⟩ : Edge)] : List Edge), ([(⟨y18.to, y18.out⟩ : Edge), (⟨y24.to, y24.out⟩ : Edge)] : List Edge)] : List (List Edge))⟩ : Mach)) fun y67 =>
    bd (machines_Undefined N (⟨2, 2, ([([(⟨y1.to, y1.out⟩ : Edge), (⟨y7.to, y7.out⟩ : Edge)] : List Edge), ([(⟨y18.to, y18.out⟩ : Edge), (⟨y24.to, y24.out⟩ : Edge)] : List Edge)] : List (List Edge))⟩ : Mach)) fun y75 =>
    bd (machines_Check N (⟨2, 2, ([([(⟨y1.to, y1.out⟩ : Edge), (⟨y7.to, y7.out⟩ : Edge)] : List Edge), ([(⟨y18.to, y18.out⟩ : Edge), (⟨y24.to, y24.out⟩ : Edge)] : List Edge)] : List (List Edge))⟩ : Mach)) fun y83 =>
    gd ((true && ((((((((((decide (y83 ≠ 0)) || y53.1) || (decide (y53.2 ≠ 0))) || (!y60.1)) || (decide (y60.2 ≠ 0))) || (decide (y67.1 ≠ 3))) || (decide (y67.2 ≠ 0))) || (decide (y75.2 ≠ 0))) || (decide ((↑y75.1.length : Int) ≠ 1))) == false)) = true → okI y75.1 0) <|
    bif (((((((((decide (y83 ≠ 0)) || y53.1) || (decide (y53.2 ≠ 0))) || (!y60.1)) || (decide (y60.2 ≠ 0))) || (decide (y67.1 ≠ 3))) || (decide (y67.2 ≠ 0))) || (decide (y75.2 ≠ 0))) || (decide ((↑y75.1.length : Int) ≠ 1))) || (decide (¬ (((ix y75.1 0).1) = (1 : Int) ∧ ((ix y75.1 0).2) = (0 : Int)))) then (
    some false) else (
    bd (machines_Run N (⟨2, 2, ([([(⟨y1.to, y1.out⟩ : Edge), (⟨y7.to, y7.out⟩ : Edge)] : List Edge), ([(⟨y18.to, y18.out⟩ : Edge), (⟨y24.to, y24.out⟩ : Edge)] : List Edge)] : List (List Edge))⟩ : Mach) 0 ([1, 0, 1, 1] : List Int)) fun y182 =>
    bd (machines_After N (⟨2, 2, ([([(⟨y1.to, y1.out⟩ : Edge), (⟨y7.to, y7.out⟩ : Edge)] : List Edge), ([(⟨y18.to, y18.out⟩ : Edge), (⟨y24.to, y24.out⟩ : Edge)] : List Edge)] : List (List Edge))⟩ : Mach) 0 ([1, 0, 1, 1] : List Int)) fun y198 =>
    bd (machines_Run N (⟨2, 2, ([([(⟨y1.to, y1.out⟩ : Edge), (⟨y7.to, y7.out⟩ : Edge)] : List Edge), ([(⟨y18.to, y18.out⟩ : Edge), (⟨y24.to, y24.out⟩ : Edge)] : List Edge)] : List (List Edge))⟩ : Mach) 0 ([0, 0, 1] : List Int)) fun y211 =>
    bd (machines_After N (⟨2, 2, ([([(⟨y1.to, y1.out⟩ : Edge), (⟨y7.to, y7.out⟩ : Edge)] : List Edge), ([(⟨y18.to, y18.out⟩ : Edge), (⟨y24.to, y24.out⟩ : Edge)] : List Edge)] : List (List Edge))⟩ : Mach) 0 ([0, 0, 1] : List Int)) fun y227 =>
    bd (machines_Step N (⟨2, 2, ([([(⟨y1.to, y1.out⟩ : Edge), (⟨y7.to, y7.out⟩ : Edge)] : List Edge), ([(⟨y18.to, y18.out⟩ : Edge), (⟨y24.to, y24.out⟩ : Edge)] : List Edge)] : List (List Edge))⟩ : Mach) 1 0) fun y231 =>
    bd (machines_Step N (⟨2, 2, ([([(⟨y1.to, y1.out⟩ : Edge), (⟨y7.to, y7.out⟩ : Edge)] : List Edge), ([(⟨y18.to, y18.out⟩ : Edge), (⟨y24.to, y24.out⟩ : Edge)] : List Edge)] : List (List Edge))⟩ : Mach) 2 0) fun y239 =>
    bd (machines_Step N (⟨2, 2, ([([(⟨y1.to, y1.out⟩ : Edge), (⟨y7.to, y7.out⟩ : Edge)] : List Edge), ([(⟨y18.to, y18.out⟩ : Edge), (⟨y24.to, y24.out⟩ : Edge)] : List Edge)] : List (List Edge))⟩ : Mach) 0 2) fun y247 =>
    bd (gauntletlaw04_edge N 1 1) fun y255 =>
    bd (machines_With N (⟨2, 2, ([([(⟨y1.to, y1.out⟩ : Edge), (⟨y7.to, y7.out⟩ : Edge)] : List Edge), ([(⟨y18.to, y18.out⟩ : Edge), (⟨y24.to, y24.out⟩ : Edge)] : List Edge)] : List (List Edge))⟩ : Mach) 1 0 y255) fun y257 =>
    bd (machines_Complete N (⟨y257.1.inputs, y257.1.outputs, y257.1.rows⟩ : Mach)) fun y285 =>
    bd (gauntletlaw04_edge N 2 0) fun y291 =>
    bd (machines_With N (⟨2, 2, ([([(⟨y1.to, y1.out⟩ : Edge), (⟨y7.to, y7.out⟩ : Edge)] : List Edge), ([(⟨y18.to, y18.out⟩ : Edge), (⟨y24.to, y24.out⟩ : Edge)] : List Edge)] : List (List Edge))⟩ : Mach) 1 0 y291) fun y293 =>
    bd (gauntletlaw04_edge N (-1) 0) fun y321 =>
    bd (machines_With N (⟨2, 2, ([([(⟨y1.to, y1.out⟩ : Edge), (⟨y7.to, y7.out⟩ : Edge)] : List Edge), ([(⟨y18.to, y18.out⟩ : Edge), (⟨y24.to, y24.out⟩ : Edge)] : List Edge)] : List (List Edge))⟩ : Mach) 1 0 y321) fun y323 =>
    bd (gauntletlaw04_list N y182.1 y182.2 ([1, 0, 0, 1] : List Int) 0) fun y351 =>
    bd (gop (true && (((y351 && (decide (y198.1 = 0))) && (decide (y198.2 = 0))) == true)) (gauntletlaw04_list N y211.1 y211.2 ([0, (-1), (-1)] : List Int) 0)) fun y353 =>
    bd (gop (true && ((((((y351 && (decide (y198.1 = 0))) && (decide (y198.2 = 0))) && (y353.getD default)) && (decide (y227.1 = (-1)))) && (decide (y227.2 = 0))) == true)) (gauntletlaw04_edge N (-1) (-1))) fun y355 =>
    some ((((((((((((((y351 && (decide (y198.1 = 0))) && (decide (y198.2 = 0))) && (y353.getD default)) && (decide (y227.1 = (-1)))) && (decide (y227.2 = 0))) && (decide (y231.1.to = ((y355.getD default).to) ∧ y231.1.out = ((y355.getD default).out)))) && (decide (y231.2 = 0))) && (decide (y239.2 = 1))) && (decide (y247.2 = 1))) && (decide (y257.2 = 0))) && y285.1) && (decide (y285.2 = 0))) && (decide (y293.2 = 1))) && (decide (y323.2 = 1))))
/-- gauntlet/gauntletlaw04.MachinesShape -/
def gauntletlaw04_MachinesShape_L1 (N : Nat) (y7 : Mach) (y35 : (List (Int × Int)) × Int) : Nat → Int → Option (Ex (Unit) (Bool))
  | 0, _ => none
  | F162 + 1, x163 =>
    bif decide (x163 < (↑y35.1.length : Int)) then (
    gd (okI y35.1 x163) <|
    gd (okI y7.rows ((ix y35.1 x163).1)) <|
    gd (okI y35.1 x163) <|
    gd (okI (ix y7.rows ((ix y35.1 x163).1)) ((ix y35.1 x163).2)) <|
    bd (gauntletlaw04_edge N (-1) (-1)) fun y171 =>
    gd (((true && ((decide (¬ (((ix (ix y7.rows ((ix y35.1 x163).1)) ((ix y35.1 x163).2)).to) = y171.to ∧ ((ix (ix y7.rows ((ix y35.1 x163).1)) ((ix y35.1 x163).2)).out) = y171.out))) == false)) && ((decide (0 < x163)) == true)) = true → okI y35.1 x163) <|
    gd (((true && ((decide (¬ (((ix (ix y7.rows ((ix y35.1 x163).1)) ((ix y35.1 x163).2)).to) = y171.to ∧ ((ix (ix y7.rows ((ix y35.1 x163).1)) ((ix y35.1 x163).2)).out) = y171.out))) == false)) && ((decide (0 < x163)) == true)) = true → in64 (((ix y35.1 x163).1) * 100)) <|
    gd (((true && ((decide (¬ (((ix (ix y7.rows ((ix y35.1 x163).1)) ((ix y35.1 x163).2)).to) = y171.to ∧ ((ix (ix y7.rows ((ix y35.1 x163).1)) ((ix y35.1 x163).2)).out) = y171.out))) == false)) && ((decide (0 < x163)) == true)) = true → okI y35.1 x163) <|
    gd (((true && ((decide (¬ (((ix (ix y7.rows ((ix y35.1 x163).1)) ((ix y35.1 x163).2)).to) = y171.to ∧ ((ix (ix y7.rows ((ix y35.1 x163).1)) ((ix y35.1 x163).2)).out) = y171.out))) == false)) && ((decide (0 < x163)) == true)) = true → in64 ((((ix y35.1 x163).1) * 100) + ((ix y35.1 x163).2))) <|
    gd (((true && ((decide (¬ (((ix (ix y7.rows ((ix y35.1 x163).1)) ((ix y35.1 x163).2)).to) = y171.to ∧ ((ix (ix y7.rows ((ix y35.1 x163).1)) ((ix y35.1 x163).2)).out) = y171.out))) == false)) && ((decide (0 < x163)) == true)) = true → in64 (x163 - 1)) <|
    gd (((true && ((decide (¬ (((ix (ix y7.rows ((ix y35.1 x163).1)) ((ix y35.1 x163).2)).to) = y171.to ∧ ((ix (ix y7.rows ((ix y35.1 x163).1)) ((ix y35.1 x163).2)).out) = y171.out))) == false)) && ((decide (0 < x163)) == true)) = true → okI y35.1 (x163 - 1)) <|
    gd (((true && ((decide (¬ (((ix (ix y7.rows ((ix y35.1 x163).1)) ((ix y35.1 x163).2)).to) = y171.to ∧ ((ix (ix y7.rows ((ix y35.1 x163).1)) ((ix y35.1 x163).2)).out) = y171.out))) == false)) && ((decide (0 < x163)) == true)) = true → in64 (((ix y35.1 (x163 - 1)).1) * 100)) <|
    gd (((true && ((decide (¬ (((ix (ix y7.rows ((ix y35.1 x163).1)) ((ix y35.1 x163).2)).to) = y171.to ∧ ((ix (ix y7.rows ((ix y35.1 x163).1)) ((ix y35.1 x163).2)).out) = y171.out))) == false)) && ((decide (0 < x163)) == true)) = true → in64 (x163 - 1)) <|
    gd (((true && ((decide (¬ (((ix (ix y7.rows ((ix y35.1 x163).1)) ((ix y35.1 x163).2)).to) = y171.to ∧ ((ix (ix y7.rows ((ix y35.1 x163).1)) ((ix y35.1 x163).2)).out) = y171.out))) == false)) && ((decide (0 < x163)) == true)) = true → okI y35.1 (x163 - 1)) <|
    gd (((true && ((decide (¬ (((ix (ix y7.rows ((ix y35.1 x163).1)) ((ix y35.1 x163).2)).to) = y171.to ∧ ((ix (ix y7.rows ((ix y35.1 x163).1)) ((ix y35.1 x163).2)).out) = y171.out))) == false)) && ((decide (0 < x163)) == true)) = true → in64 ((((ix y35.1 (x163 - 1)).1) * 100) + ((ix y35.1 (x163 - 1)).2))) <|
    bif (decide (¬ (((ix (ix y7.rows ((ix y35.1 x163).1)) ((ix y35.1 x163).2)).to) = y171.to ∧ ((ix (ix y7.rows ((ix y35.1 x163).1)) ((ix y35.1 x163).2)).out) = y171.out))) || ((decide (0 < x163)) && (decide (((((ix y35.1 x163).1) * 100) + ((ix y35.1 x163).2)) ≤ ((((ix y35.1 (x163 - 1)).1) * 100) + ((ix y35.1 (x163 - 1)).2))))) then (
    some (Ex.rt false)) else (
    gd (in64 (x163 + 1)) <|
    gauntletlaw04_MachinesShape_L1 N y7 y35 F162 (x163 + 1))) else (
    some (Ex.go ()))
def gauntletlaw04_MachinesShape (N : Nat) (x : MDat) : Option Bool :=
    bd (gauntletlaw04_M_Of N x) fun y7 =>
    bd (machines_Complete N (⟨y7.inputs, y7.outputs, y7.rows⟩ : Mach)) fun y17 =>
    bd (machines_Connected N (⟨y7.inputs, y7.outputs, y7.rows⟩ : Mach)) fun y23 =>
    bd (machines_Transitions N (⟨y7.inputs, y7.outputs, y7.rows⟩ : Mach)) fun y29 =>
    bd (machines_Undefined N (⟨y7.inputs, y7.outputs, y7.rows⟩ : Mach)) fun y35 =>
    bd (gop (true && (((((decide (y17.2 ≠ 0)) || (decide (y23.2 ≠ 0))) || (decide (y29.2 ≠ 0))) || (decide (y35.2 ≠ 0))) == false)) (gauntletref04_Complete N (⟨y7.inputs, y7.outputs, y7.rows⟩ : Mach))) fun y43 =>
    bd (gop (true && ((((((decide (y17.2 ≠ 0)) || (decide (y23.2 ≠ 0))) || (decide (y29.2 ≠ 0))) || (decide (y35.2 ≠ 0))) || (decide (y17.1 ≠ (y43.getD default)))) == false)) (gauntletref04_Connected N (⟨y7.inputs, y7.outputs, y7.rows⟩ : Mach))) fun y45 =>
    bd (gop (true && (((((((decide (y17.2 ≠ 0)) || (decide (y23.2 ≠ 0))) || (decide (y29.2 ≠ 0))) || (decide (y35.2 ≠ 0))) || (decide (y17.1 ≠ (y43.getD default)))) || (decide (y23.1 ≠ (y45.getD default)))) == false)) (gauntletref04_Defined N (⟨y7.inputs, y7.outputs, y7.rows⟩ : Mach))) fun y47 =>
    gd ((true && ((((((((decide (y17.2 ≠ 0)) || (decide (y23.2 ≠ 0))) || (decide (y29.2 ≠ 0))) || (decide (y35.2 ≠ 0))) || (decide (y17.1 ≠ (y43.getD default)))) || (decide (y23.1 ≠ (y45.getD default)))) || (decide (y29.1 ≠ (y47.getD default)))) == false)) = true → in64 (y29.1 + (↑y35.1.length : Int))) <|
    gd ((true && ((((((((decide (y17.2 ≠ 0)) || (decide (y23.2 ≠ 0))) || (decide (y29.2 ≠ 0))) || (decide (y35.2 ≠ 0))) || (decide (y17.1 ≠ (y43.getD default)))) || (decide (y23.1 ≠ (y45.getD default)))) || (decide (y29.1 ≠ (y47.getD default)))) == false)) = true → in64 ((↑y7.rows.length : Int) * y7.inputs)) <|
    bif ((((((((decide (y17.2 ≠ 0)) || (decide (y23.2 ≠ 0))) || (decide (y29.2 ≠ 0))) || (decide (y35.2 ≠ 0))) || (decide (y17.1 ≠ (y43.getD default)))) || (decide (y23.1 ≠ (y45.getD default)))) || (decide (y29.1 ≠ (y47.getD default)))) || (decide ((y29.1 + (↑y35.1.length : Int)) ≠ ((↑y7.rows.length : Int) * y7.inputs)))) || (decide ((↑y35.1.length : Int) ≠ (↑y35.1.length : Int))) then (
    some false) else (
    bd (
    gauntletlaw04_MachinesShape_L1 N y7 y35 N 0) fun q159 =>
    Ex.on q159 (fun o158 =>
    bd (gauntletlaw04_lives N) fun y295 =>
    some y295) some)
/-- (gauntlet/gauntletlaw01.W).Of -/
def gauntletlaw01_W_Of_L1 (N : Nat) (x : WDat) (inputs : Int) : Nat → (List Int) → Int → Option (List Int)
  | 0, _, _ => none
  | F13 + 1, x14, x15 =>
    bif (decide (x15 < (↑x.syms.length : Int))) && (decide (x15 < 12)) then (
    gd (okI x.syms x15) <|
    gd (in64 (ix x.syms x15)) <|
    gd (okR (ix x.syms x15) inputs) <|
    gd (fits 8 x14 ([(ix x.syms x15) % inputs] : List Int)) <|
    gd (in64 (x15 + 1)) <|
    gauntletlaw01_W_Of_L1 N x inputs F13 (x14 ++ ([(ix x.syms x15) % inputs] : List Int)) (x15 + 1)) else (
    some x14)
def gauntletlaw01_W_Of (N : Nat) (x : WDat) (inputs : Int) : Option (List Int) :=
    bd (
    gauntletlaw01_W_Of_L1 N x inputs N ([] : List Int) 0) fun o5 =>
    some o5
/-- gauntlet/gauntletref04.Next -/
def gauntletref04_Next (N : Nat) (m : Mach) (s : Int) (i : Int) : Option Edge :=
    bif decide (s < 0) then (
    some (⟨(-1), (-1)⟩ : Edge)) else (
    gd (okI m.rows s) <|
    gd (okI (ix m.rows s) i) <|
    some (⟨(ix (ix m.rows s) i).to, (ix (ix m.rows s) i).out⟩ : Edge))
/-- gauntlet/gauntletref04.Run -/
def gauntletref04_Run_L1 (N : Nat) (m : Mach) (w_ : (List Int)) : Nat → Int → (List Int) → Int → Option (List Int)
  | 0, _, _, _ => none
  | F13 + 1, x14, x15, x16 =>
    bif decide (x16 < (↑w_.length : Int)) then (
    gd (okI w_ x16) <|
    bd (gauntletref04_Next N m x14 (ix w_ x16)) fun y25 =>
    gd (fits 8 x15 ([y25.out] : List Int)) <|
    gd (in64 (x16 + 1)) <|
    gauntletref04_Run_L1 N m w_ F13 y25.to (x15 ++ ([y25.out] : List Int)) (x16 + 1)) else (
    some x15)
def gauntletref04_Run (N : Nat) (m : Mach) (s : Int) (w_ : (List Int)) : Option (List Int) :=
    bd (
    gauntletref04_Run_L1 N m w_ N s ([] : List Int) 0) fun o5 =>
    some o5
/-- gauntlet/gauntletref04.After -/
def gauntletref04_After (N : Nat) : Nat → Mach → Int → (List Int) → Option Int
  | 0, _, _, _ => none
  | F + 1, m, s, w_ =>
    bif decide ((↑w_.length : Int) = 0) then (
    some s) else (
    gd (okI w_ 0) <|
    bd (gauntletref04_Next N m s (ix w_ 0)) fun y7 =>
    gd (okS w_ 1 (↑w_.length : Int)) <|
    bd ((gauntletref04_After N F) m y7.to (cut w_ 1 (↑w_.length : Int))) fun y10 =>
    some y10)
/-- gauntlet/gauntletlaw04.MachinesRun -/
def gauntletlaw04_MachinesRun_L1 (N : Nat) (y11 : Mach) (y23 : (List Int)) (y31 : (List Int) × Int) : Nat → Int → Int → Option (Ex (Int) (Bool))
  | 0, _, _ => none
  | F98 + 1, x99, x100 =>
    bif decide (x100 < (↑y23.length : Int)) then (
    bd (gauntletlaw04_edge N (-1) (-1)) fun y104 =>
    bd (
    bif decide (0 ≤ x99) then (
    gd (okI y23 x100) <|
    bd (machines_Step N (⟨y11.inputs, y11.outputs, y11.rows⟩ : Mach) x99 (ix y23 x100)) fun y118 =>
    bif decide (y118.2 ≠ 0) then (
    some (Ex.rt (Ex.rt false))) else (
    some (Ex.go (y118.1.to, y118.1.out)))) else (
    some (Ex.go (y104.to, y104.out)))) fun q113 =>
    Ex.on q113 (fun o112 =>
    gd (okI y31.1 x100) <|
    gd ((true && ((decide ((ix y31.1 x100) ≠ o112.2)) == false)) = true → okI y31.1 x100) <|
    bd (gop ((true && ((decide ((ix y31.1 x100) ≠ o112.2)) == false)) && ((decide ((ix y31.1 x100) < 0)) == true)) (gauntletref04_Complete N (⟨y11.inputs, y11.outputs, y11.rows⟩ : Mach))) fun y155 =>
    bif (decide ((ix y31.1 x100) ≠ o112.2)) || ((decide ((ix y31.1 x100) < 0)) && (y155.getD default)) then (
    some (Ex.rt false)) else (
    gd (in64 (x100 + 1)) <|
    gauntletlaw04_MachinesRun_L1 N y11 y23 y31 F98 o112.1 (x100 + 1))) some) else (
    some (Ex.go x99))
def gauntletlaw04_MachinesRun (N : Nat) (x : MDat) (y : WDat) (from_ : Int) : Option Bool :=
    bd (gauntletlaw04_M_Of N x) fun y11 =>
    bd (gauntletlaw01_W_Of N y y11.inputs) fun y23 =>
    gd (in64 from_) <|
    gd (okR from_ (↑y11.rows.length : Int)) <|
    bd (machines_Run N (⟨y11.inputs, y11.outputs, y11.rows⟩ : Mach) (from_ % (↑y11.rows.length : Int)) y23) fun y31 =>
    bd (machines_After N (⟨y11.inputs, y11.outputs, y11.rows⟩ : Mach) (from_ % (↑y11.rows.length : Int)) y23) fun y39 =>
    bd (gop (true && ((decide (y39.2 ≠ 0)) == false)) (gauntletref04_Run N (⟨y11.inputs, y11.outputs, y11.rows⟩ : Mach) (from_ % (↑y11.rows.length : Int)) y23)) fun y45 =>
    bd (gop (true && ((decide (y39.2 ≠ 0)) == false)) (gauntletlaw04_list N y31.1 y31.2 (y45.getD default) 0)) fun y47 =>
    bd (gop (true && (((decide (y39.2 ≠ 0)) || (!(y47.getD default))) == false)) (gauntletref04_After N N (⟨y11.inputs, y11.outputs, y11.rows⟩ : Mach) (from_ % (↑y11.rows.length : Int)) y23)) fun y49 =>
    bif ((decide (y39.2 ≠ 0)) || (!(y47.getD default))) || (decide (y39.1 ≠ (y49.getD default))) then (
    some false) else (
    bd (
    gauntletlaw04_MachinesRun_L1 N y11 y23 y31 N (from_ % (↑y11.rows.length : Int)) 0) fun q95 =>
    Ex.on q95 (fun o94 =>
    bd (gop (true && ((decide (o94 = y39.1)) == true)) (gauntletlaw04_lives N)) fun y203 =>
    some ((decide (o94 = y39.1)) && (y203.getD default))) some)
/-- gauntlet/gauntletref01.Join -/
def gauntletref01_Join_L1 (N : Nat) (a : (List Int)) : Nat → (List Int) → Int → Option (List Int)
  | 0, _, _ => none
  | F9 + 1, x10, x11 =>
    bif decide (x11 < (↑a.length : Int)) then (
    gd (okI a x11) <|
    gd (fits 8 x10 ([(ix a x11)] : List Int)) <|
    gd (in64 (x11 + 1)) <|
    gauntletref01_Join_L1 N a F9 (x10 ++ ([(ix a x11)] : List Int)) (x11 + 1)) else (
    some x10)
def gauntletref01_Join_L2 (N : Nat) (b : (List Int)) : Nat → Int → (List Int) → Option (List Int)
  | 0, _, _ => none
  | F50 + 1, x51, x52 =>
    bif decide (x51 < (↑b.length : Int)) then (
    gd (okI b x51) <|
    gd (fits 8 x52 ([(ix b x51)] : List Int)) <|
    gd (in64 (x51 + 1)) <|
    gauntletref01_Join_L2 N b F50 (x51 + 1) (x52 ++ ([(ix b x51)] : List Int))) else (
    some x52)
def gauntletref01_Join (N : Nat) (a : (List Int)) (b : (List Int)) : Option (List Int) :=
    bd (
    gauntletref01_Join_L1 N a N ([] : List Int) 0) fun o1 =>
    bd (
    gauntletref01_Join_L2 N b N 0 o1) fun o44 =>
    some o44
/-- gauntlet/gauntletlaw04.MachinesSplit -/
def gauntletlaw04_MachinesSplit_L1 (N : Nat) (y55 : (List Int) × Int) : Nat → Int → Option (Ex (Unit) (Bool))
  | 0, _ => none
  | F205 + 1, x206 =>
    bif decide (x206 < (↑y55.1.length : Int)) then (
    gd (okI y55.1 x206) <|
    bif decide ((ix y55.1 x206) ≠ (-1)) then (
    some (Ex.rt false)) else (
    gd (in64 (x206 + 1)) <|
    gauntletlaw04_MachinesSplit_L1 N y55 F205 (x206 + 1))) else (
    some (Ex.go ()))
def gauntletlaw04_MachinesSplit (N : Nat) (x : MDat) (y : (WDat × WDat)) (from_ : Int) : Option Bool :=
    bd (gauntletlaw04_M_Of N x) fun y11 =>
    bd (gauntletlaw01_W_Of N y.1 y11.inputs) fun y21 =>
    bd (gauntletlaw01_W_Of N y.2 y11.inputs) fun y23 =>
    gd (in64 from_) <|
    gd (okR from_ (↑y11.rows.length : Int)) <|
    bd (gauntletref01_Join N y21 y23) fun y53 =>
    bd (machines_Run N (⟨y11.inputs, y11.outputs, y11.rows⟩ : Mach) (from_ % (↑y11.rows.length : Int)) y53) fun y55 =>
    bd (machines_Run N (⟨y11.inputs, y11.outputs, y11.rows⟩ : Mach) (from_ % (↑y11.rows.length : Int)) y21) fun y85 =>
    bd (machines_After N (⟨y11.inputs, y11.outputs, y11.rows⟩ : Mach) (from_ % (↑y11.rows.length : Int)) y21) fun y93 =>
    bd (gauntletref01_Join N y21 y23) fun y99 =>
    bd (machines_After N (⟨y11.inputs, y11.outputs, y11.rows⟩ : Mach) (from_ % (↑y11.rows.length : Int)) y99) fun y101 =>
    gd ((true && (((((decide (y55.2 ≠ 0)) || (decide (y85.2 ≠ 0))) || (decide (y93.2 ≠ 0))) || (decide (y101.2 ≠ 0))) == false)) = true → in64 ((↑y21.length : Int) + (↑y23.length : Int))) <|
    gd ((true && ((((((decide (y55.2 ≠ 0)) || (decide (y85.2 ≠ 0))) || (decide (y93.2 ≠ 0))) || (decide (y101.2 ≠ 0))) || (decide ((↑y55.1.length : Int) ≠ ((↑y21.length : Int) + (↑y23.length : Int))))) == false)) = true → okS y55.1 0 (↑y21.length : Int)) <|
    bd (gop (true && ((((((decide (y55.2 ≠ 0)) || (decide (y85.2 ≠ 0))) || (decide (y93.2 ≠ 0))) || (decide (y101.2 ≠ 0))) || (decide ((↑y55.1.length : Int) ≠ ((↑y21.length : Int) + (↑y23.length : Int))))) == false)) (gauntletref01_Same N (cut y55.1 0 (↑y21.length : Int)) y85.1)) fun y129 =>
    bif (((((decide (y55.2 ≠ 0)) || (decide (y85.2 ≠ 0))) || (decide (y93.2 ≠ 0))) || (decide (y101.2 ≠ 0))) || (decide ((↑y55.1.length : Int) ≠ ((↑y21.length : Int) + (↑y23.length : Int))))) || (!(y129.getD default)) then (
    some false) else (
    bif decide (y93.1 = (-1)) then (
    bd (
    gauntletlaw04_MachinesSplit_L1 N y55 N (↑y21.length : Int)) fun q202 =>
    Ex.on q202 (fun o201 =>
    bd (gop (true && ((decide (y101.1 = (-1))) == true)) (gauntletlaw04_lives N)) fun y223 =>
    some ((decide (y101.1 = (-1))) && (y223.getD default))) some) else (
    bd (machines_Run N (⟨y11.inputs, y11.outputs, y11.rows⟩ : Mach) y93.1 y23) fun y239 =>
    bd (machines_After N (⟨y11.inputs, y11.outputs, y11.rows⟩ : Mach) y93.1 y23) fun y247 =>
    gd ((true && (((decide (y239.2 = 0)) && (decide (y247.2 = 0))) == true)) = true → okS y55.1 (↑y21.length : Int) (↑y55.1.length : Int)) <|
    bd (gop (true && (((decide (y239.2 = 0)) && (decide (y247.2 = 0))) == true)) (gauntletref01_Same N (cut y55.1 (↑y21.length : Int) (↑y55.1.length : Int)) y239.1)) fun y254 =>
    bd (gop (true && (((((decide (y239.2 = 0)) && (decide (y247.2 = 0))) && (y254.getD default)) && (decide (y101.1 = y247.1))) == true)) (gauntletlaw04_lives N)) fun y256 =>
    some (((((decide (y239.2 = 0)) && (decide (y247.2 = 0))) && (y254.getD default)) && (decide (y101.1 = y247.1))) && (y256.getD default))))
/-- gauntlet/gauntletlaw04.great -/
def gauntletlaw04_great_L1 (N : Nat) (m : Mach) : Nat → Int → Option (Ex (Unit) (Int))
  | 0, _ => none
  | F14 + 1, x15 =>
    bif decide (x15 < (↑m.rows.length : Int)) then (
    gd (okI m.rows x15) <|
    bif decide (20 < (↑(ix m.rows x15).length : Int)) then (
    some (Ex.rt 1)) else (
    gd (in64 (x15 + 1)) <|
    gauntletlaw04_great_L1 N m F14 (x15 + 1))) else (
    some (Ex.go ()))
def gauntletlaw04_great (N : Nat) (m : Mach) : Option Int :=
    bif decide (70 < (↑m.rows.length : Int)) then (
    some 1) else (
    bd (
    gauntletlaw04_great_L1 N m N 0) fun q11 =>
    Ex.on q11 (fun o10 =>
    some 0) some)
/-- gauntlet/gauntletref04.Check -/
def gauntletref04_Check_L2 (N : Nat) (m : Mach) (x72 : Int) : Nat → Int → Option (Ex (Unit) (Ex (Unit) (Int)))
  | 0, _ => none
  | F106 + 1, x107 =>
    bif decide (x107 < m.inputs) then (
    bd (
    gd (okI m.rows x72) <|
    gd (okI (ix m.rows x72) x107) <|
    bif (decide (((ix (ix m.rows x72) x107).to) = (-1))) && (decide (((ix (ix m.rows x72) x107).out) = (-1))) then (
    some (Ex.go ())) else (
    bif (((decide (((ix (ix m.rows x72) x107).to) < 0)) || (decide ((↑m.rows.length : Int) ≤ ((ix (ix m.rows x72) x107).to)))) || (decide (((ix (ix m.rows x72) x107).out) < 0))) || (decide (m.outputs ≤ ((ix (ix m.rows x72) x107).out))) then (
    some (Ex.rt (Ex.rt (Ex.rt 1)))) else (
    some (Ex.go ())))) fun q116 =>
    Ex.on q116 (fun o115 =>
    gd (in64 (x107 + 1)) <|
    gauntletref04_Check_L2 N m x72 F106 (x107 + 1)) some) else (
    some (Ex.go ()))
def gauntletref04_Check_L1 (N : Nat) (m : Mach) : Nat → Int → Option (Ex (Unit) (Int))
  | 0, _ => none
  | F71 + 1, x72 =>
    bif decide (x72 < (↑m.rows.length : Int)) then (
    bd (
    gd (okI m.rows x72) <|
    bif decide ((↑(ix m.rows x72).length : Int) ≠ m.inputs) then (
    some (Ex.rt (Ex.rt 1))) else (
    gauntletref04_Check_L2 N m x72 N 0)) fun q81 =>
    Ex.on q81 (fun o80 =>
    gd (in64 (x72 + 1)) <|
    gauntletref04_Check_L1 N m F71 (x72 + 1)) some) else (
    some (Ex.go ()))
def gauntletref04_Check (N : Nat) (m : Mach) : Option Int :=
    bif ((decide (16 < m.inputs)) || (decide (16 < m.outputs))) || (decide (64 < (↑m.rows.length : Int))) then (
    some 3) else (
    bif ((decide (m.inputs < 1)) || (decide (m.outputs < 1))) || (decide ((↑m.rows.length : Int) = 0)) then (
    some 1) else (
    bd (
    gauntletref04_Check_L1 N m N 0) fun q68 =>
    Ex.on q68 (fun o67 =>
    some 0) some))
/-- slices.EqualFunc[[][]gauntlet/api.Edge,[][]gauntlet/api.Edge,[]gauntlet/api.Edge,[]gauntlet/api.Edge] -/
def slices_EqualFunc__api_Edge_L1 (N : Nat) (s1_ : (List (List Edge))) (s2_ : (List (List Edge))) (eq : (List Edge) → (List Edge) → Option Bool) : Nat → Int → Option (Ex (Unit) (Bool))
  | 0, _ => none
  | F6 + 1, x7 =>
    bif decide (x7 < (↑s1_.length : Int)) then (
    gd (okI s1_ x7) <|
    gd (okI s2_ x7) <|
    bd (eq (ix s1_ x7) (ix s2_ x7)) fun y21 =>
    bif !y21 then (
    some (Ex.rt false)) else (
    gd (in64 (x7 + 1)) <|
    slices_EqualFunc__api_Edge_L1 N s1_ s2_ eq F6 (x7 + 1))) else (
    some (Ex.go ()))
def slices_EqualFunc__api_Edge (N : Nat) (s1_ : (List (List Edge))) (s2_ : (List (List Edge))) (eq : (List Edge) → (List Edge) → Option Bool) : Option Bool :=
    bif decide ((↑s1_.length : Int) ≠ (↑s2_.length : Int)) then (
    some false) else (
    bd (
    slices_EqualFunc__api_Edge_L1 N s1_ s2_ eq N 0) fun q3 =>
    Ex.on q3 (fun o2 =>
    some true) some)
/-- slices.Equal[[]gauntlet/api.Edge,gauntlet/api.Edge] -/
def slices_Equal_api_Edge_L1 (N : Nat) (s1_ : (List Edge)) (s2_ : (List Edge)) : Nat → Int → Option (Ex (Unit) (Bool))
  | 0, _ => none
  | F6 + 1, x7 =>
    bif decide (x7 < (↑s1_.length : Int)) then (
    gd (okI s1_ x7) <|
    gd (okI s2_ x7) <|
    bif decide (¬ (((ix s1_ x7).to) = ((ix s2_ x7).to) ∧ ((ix s1_ x7).out) = ((ix s2_ x7).out))) then (
    some (Ex.rt false)) else (
    gd (in64 (x7 + 1)) <|
    slices_Equal_api_Edge_L1 N s1_ s2_ F6 (x7 + 1))) else (
    some (Ex.go ()))
def slices_Equal_api_Edge (N : Nat) (s1_ : (List Edge)) (s2_ : (List Edge)) : Option Bool :=
    bif decide ((↑s1_.length : Int) ≠ (↑s2_.length : Int)) then (
    some false) else (
    bd (
    slices_Equal_api_Edge_L1 N s1_ s2_ N 0) fun q3 =>
    Ex.on q3 (fun o2 =>
    some true) some)
/-- gauntlet/machines.Same -/
def machines_Same (N : Nat) (a : Mach) (b : Mach) : Option Bool :=
    bd (machines_Check N a) fun y9 =>
    bd (gop (true && ((decide (y9 = 0)) == true)) (machines_Check N b)) fun y11 =>
    bd (gop (true && (((((decide (y9 = 0)) && (decide ((y11.getD default) = 0))) && (decide (a.inputs = b.inputs))) && (decide (a.outputs = b.outputs))) == true)) (slices_EqualFunc__api_Edge N a.rows b.rows (fun z0 z1 => slices_Equal_api_Edge N z0 z1))) fun y13 =>
    some (((((decide (y9 = 0)) && (decide ((y11.getD default) = 0))) && (decide (a.inputs = b.inputs))) && (decide (a.outputs = b.outputs))) && (y13.getD default))
/-- gauntlet/gauntletref01.Check -/
def gauntletref01_Check_L1 (N : Nat) (w_ : (List Int)) (inputs : Int) : Nat → Int → Option (Ex (Unit) (Int))
  | 0, _ => none
  | F23 + 1, x24 =>
    bif decide (x24 < (↑w_.length : Int)) then (
    gd (okI w_ x24) <|
    gd ((true && ((decide ((ix w_ x24) < 0)) == false)) = true → okI w_ x24) <|
    bif (decide ((ix w_ x24) < 0)) || (decide (inputs ≤ (ix w_ x24))) then (
    some (Ex.rt 1)) else (
    gd (in64 (x24 + 1)) <|
    gauntletref01_Check_L1 N w_ inputs F23 (x24 + 1))) else (
    some (Ex.go ()))
def gauntletref01_Check (N : Nat) (w_ : (List Int)) (inputs : Int) : Option Int :=
    bif (decide (16 < inputs)) || (decide (256 < (↑w_.length : Int))) then (
    some 3) else (
    bif decide (inputs < 1) then (
    some 1) else (
    bd (
    gauntletref01_Check_L1 N w_ inputs N 0) fun q20 =>
    Ex.on q20 (fun o19 =>
    some 0) some))
/-- gauntlet/gauntletlaw04.MachinesCheck -/
def gauntletlaw04_MachinesCheck (N : Nat) (m : Mach) (place : (Int × Int)) (w_ : (List Int)) : Option Bool :=
    bd (gauntletlaw04_great N m) fun y9 =>
    bif (decide (y9 = 1)) || (decide (300 < (↑w_.length : Int))) then (
    some true) else (
    bd (gauntletref04_Check N m) fun y32 =>
    bd (machines_Complete N m) fun y40 =>
    bd (machines_Connected N m) fun y48 =>
    bd (machines_Transitions N m) fun y56 =>
    bd (machines_Undefined N m) fun y64 =>
    bd (machines_Check N m) fun y72 =>
    bd (gop (true && (((((((decide (y72 ≠ y32)) || (decide (y40.2 ≠ y32))) || (decide (y48.2 ≠ y32))) || (decide (y56.2 ≠ y32))) || (decide (y64.2 ≠ y32))) || ((decide (y32 ≠ 0)) && (((y40.1 || y48.1) || (decide (y56.1 ≠ 0))) || (decide ((↑y64.1.length : Int) ≠ 0))))) == false)) (machines_Same N m m)) fun y74 =>
    bif ((((((decide (y72 ≠ y32)) || (decide (y40.2 ≠ y32))) || (decide (y48.2 ≠ y32))) || (decide (y56.2 ≠ y32))) || (decide (y64.2 ≠ y32))) || ((decide (y32 ≠ 0)) && (((y40.1 || y48.1) || (decide (y56.1 ≠ 0))) || (decide ((↑y64.1.length : Int) ≠ 0))))) || (decide ((y74.getD default) ≠ (decide (y32 = 0)))) then (
    some false) else (
    bd (
    bif (decide (y32 = 0)) && ((decide (place.1 < 0)) || (decide ((↑m.rows.length : Int) ≤ place.1))) then (
    some 1) else (
    some y32)) fun o195 =>
    bd (machines_Step N m place.1 place.2) fun y232 =>
    bd (gauntletlaw04_edge N 0 0) fun y240 =>
    bd (machines_With N m place.1 place.2 y240) fun y242 =>
    bd (
    bif (decide (o195 = 0)) && ((decide (place.2 < 0)) || (decide (m.inputs ≤ place.2))) then (
    some 1) else (
    some o195)) fun o274 =>
    bd (gop ((true && (((decide (y232.2 ≠ o274)) || (decide (y242.2 ≠ o274))) == false)) && ((decide (o274 ≠ 0)) == true)) (gauntletlaw04_edge N 0 0)) fun y307 =>
    gd (((true && ((((decide (y232.2 ≠ o274)) || (decide (y242.2 ≠ o274))) || ((decide (o274 ≠ 0)) && (((decide (¬ (y232.1.to = ((y307.getD default).to) ∧ y232.1.out = ((y307.getD default).out)))) || (decide (y242.1.inputs ≠ 0))) || (decide ((↑y242.1.rows.length : Int) ≠ 0))))) == false)) && ((decide (o274 = 0)) == true)) = true → okI m.rows place.1) <|
    gd (((true && ((((decide (y232.2 ≠ o274)) || (decide (y242.2 ≠ o274))) || ((decide (o274 ≠ 0)) && (((decide (¬ (y232.1.to = ((y307.getD default).to) ∧ y232.1.out = ((y307.getD default).out)))) || (decide (y242.1.inputs ≠ 0))) || (decide ((↑y242.1.rows.length : Int) ≠ 0))))) == false)) && ((decide (o274 = 0)) == true)) = true → okI (ix m.rows place.1) place.2) <|
    bif (((decide (y232.2 ≠ o274)) || (decide (y242.2 ≠ o274))) || ((decide (o274 ≠ 0)) && (((decide (¬ (y232.1.to = ((y307.getD default).to) ∧ y232.1.out = ((y307.getD default).out)))) || (decide (y242.1.inputs ≠ 0))) || (decide ((↑y242.1.rows.length : Int) ≠ 0))))) || ((decide (o274 = 0)) && (decide (¬ (y232.1.to = ((ix (ix m.rows place.1) place.2).to) ∧ y232.1.out = ((ix (ix m.rows place.1) place.2).out))))) then (
    some false) else (
    bd (
    bif decide (o195 = 0) then (
    bd (gauntletref01_Check N w_ m.inputs) fun y410 =>
    some y410) else (
    some o195)) fun o402 =>
    bd (machines_Run N m place.1 w_) fun y421 =>
    bd (machines_After N m place.1 w_) fun y431 =>
    bif decide (o402 ≠ 0) then (
    bd (gauntletlaw04_list N y421.1 y421.2 ([] : (List Int)) o402) fun y438 =>
    bd (gop (true && (((y438 && (decide (y431.1 = 0))) && (decide (y431.2 = o402))) == true)) (gauntletlaw04_lives N)) fun y440 =>
    some (((y438 && (decide (y431.1 = 0))) && (decide (y431.2 = o402))) && (y440.getD default))) else (
    bd (gauntletref04_Run N m place.1 w_) fun y478 =>
    bd (gauntletlaw04_list N y421.1 y421.2 y478 0) fun y480 =>
    bd (gop (true && ((y480 && (decide (y431.2 = 0))) == true)) (gauntletref04_After N N m place.1 w_)) fun y482 =>
    bd (gop (true && (((y480 && (decide (y431.2 = 0))) && (decide (y431.1 = (y482.getD default)))) == true)) (gauntletlaw04_lives N)) fun y484 =>
    some (((y480 && (decide (y431.2 = 0))) && (decide (y431.1 = (y482.getD default)))) && (y484.getD default))))))
/-- gauntlet/gauntletref04.Copy -/
def gauntletref04_Copy_L1 (N : Nat) (m : Mach) : Nat → Int → (List (List Edge)) → Option (List (List Edge))
  | 0, _, _ => none
  | F25 + 1, x26, x27 =>
    bif decide (x26 < (↑m.rows.length : Int)) then (
    gd (okI m.rows x26) <|
    gd (fits 16 ([] : List Edge) (ix m.rows x26)) <|
    gd (fits 24 x27 ([(([] : List Edge) ++ (ix m.rows x26))] : List (List Edge))) <|
    gd (in64 (x26 + 1)) <|
    gauntletref04_Copy_L1 N m F25 (x26 + 1) (x27 ++ ([(([] : List Edge) ++ (ix m.rows x26))] : List (List Edge)))) else (
    some x27)
def gauntletref04_Copy (N : Nat) (m : Mach) : Option Mach :=
    bd (
    gauntletref04_Copy_L1 N m N 0 ([] : List (List Edge))) fun o17 =>
    some (⟨m.inputs, m.outputs, o17⟩ : Mach)
/-- gauntlet/gauntletref04.Copy -/
def gauntletref04_Copy_o_L1 (N : Nat) (m : Mach) : Nat → Int → (List (List Edge)) → Option (List (List Edge))
  | 0, _, _ => none
  | F26 + 1, x27, x28 =>
    bif decide (x27 < (↑m.rows.length : Int)) then (
    gd (okI m.rows x27) <|
    gd (fits 16 ([] : List Edge) (ix m.rows x27)) <|
    gd (fits 24 x28 [(([] : List Edge) ++ (ix m.rows x27))]) <|
    gd (in64 (x27 + 1)) <|
    gauntletref04_Copy_o_L1 N m F26 (x27 + 1) (x28 ++ [(([] : List Edge) ++ (ix m.rows x27))])) else (
    some x28)
def gauntletref04_Copy_o (N : Nat) (m : Mach) : Option Mach :=
    bd (
    gauntletref04_Copy_o_L1 N m N 0 ([] : List (List Edge))) fun o17 =>
    some (⟨m.inputs, m.outputs, o17⟩ : Mach)
/-- gauntlet/gauntletref04.Same -/
def gauntletref04_Same_L2 (N : Nat) (a : Mach) (b : Mach) (x59 : Int) : Nat → Int → Option (Ex (Unit) (Ex (Unit) (Bool)))
  | 0, _ => none
  | F102 + 1, x103 =>
    gd (okI a.rows x59) <|
    bif decide (x103 < (↑(ix a.rows x59).length : Int)) then (
    gd (okI a.rows x59) <|
    gd (okI (ix a.rows x59) x103) <|
    gd (okI b.rows x59) <|
    gd (okI (ix b.rows x59) x103) <|
    bif decide (¬ (((ix (ix a.rows x59) x103).to) = ((ix (ix b.rows x59) x103).to) ∧ ((ix (ix a.rows x59) x103).out) = ((ix (ix b.rows x59) x103).out))) then (
    some (Ex.rt (Ex.rt false))) else (
    gd (in64 (x103 + 1)) <|
    gauntletref04_Same_L2 N a b x59 F102 (x103 + 1))) else (
    some (Ex.go ()))
def gauntletref04_Same_L1 (N : Nat) (a : Mach) (b : Mach) : Nat → Int → Option (Ex (Unit) (Bool))
  | 0, _ => none
  | F58 + 1, x59 =>
    bif decide (x59 < (↑a.rows.length : Int)) then (
    bd (
    gd (okI a.rows x59) <|
    gd (okI b.rows x59) <|
    bif decide ((↑(ix a.rows x59).length : Int) ≠ (↑(ix b.rows x59).length : Int)) then (
    some (Ex.rt (Ex.rt false))) else (
    gauntletref04_Same_L2 N a b x59 N 0)) fun q68 =>
    Ex.on q68 (fun o67 =>
    gd (in64 (x59 + 1)) <|
    gauntletref04_Same_L1 N a b F58 (x59 + 1)) some) else (
    some (Ex.go ()))
def gauntletref04_Same (N : Nat) (a : Mach) (b : Mach) : Option Bool :=
    bif ((decide (a.inputs ≠ b.inputs)) || (decide (a.outputs ≠ b.outputs))) || (decide ((↑a.rows.length : Int) ≠ (↑b.rows.length : Int))) then (
    some false) else (
    bd (
    gauntletref04_Same_L1 N a b N 0) fun q55 =>
    Ex.on q55 (fun o54 =>
    some true) some)
/-- gauntlet/machines.With -/
def machines_With_o_L1 (N : Nat) (m : Mach) : Nat → Int → (List (List Edge)) → Option (List (List Edge))
  | 0, _, _ => none
  | F96 + 1, x97, x98 =>
    bif decide (x97 < (↑m.rows.length : Int)) then (
    gd (okI m.rows x97) <|
    bd (slices_Clone_api_Edge_o N (ix m.rows x97)) fun y111 =>
    bd (slices_Clip_api_Edge_o N y111) fun y114 =>
    gd (okI x98 x97) <|
    gd (in64 (x97 + 1)) <|
    machines_With_o_L1 N m F96 (x97 + 1) (up x98 x97 y114)) else (
    some x98)
def machines_With_o (N : Nat) (m : Mach) (s : Int) (i : Int) (x : Edge) : Option (Mach × Int) :=
    bd (machines_state N m s) fun y13 =>
    bif decide (y13 ≠ 0) then (
    some ((⟨0, 0, ([] : List (List Edge))⟩ : Mach), y13)) else (
    bd (gop (true && (((decide (i < 0)) || (decide (m.inputs ≤ i))) == false)) (machines_fits N m x)) fun y21 =>
    bif ((decide (i < 0)) || (decide (m.inputs ≤ i))) || (!(y21.getD default)) then (
    some ((⟨0, 0, ([] : List (List Edge))⟩ : Mach), 1)) else (
    gd (okM 24 (↑m.rows.length : Int)) <|
    bd (
    machines_With_o_L1 N m N 0 (mk (↑m.rows.length : Int) ([] : List Edge))) fun o85 =>
    gd (okI o85 s) <|
    gd (okI (ix o85 s) i) <|
    some ((⟨m.inputs, m.outputs, (up o85 s (up (ix o85 s) i x))⟩ : Mach), 0)))
/-- gauntlet/gauntletlaw04.MachinesWith -/
def gauntletlaw04_MachinesWith_L1 (N : Nat) : Nat → Int → (List (List Edge)) → Option Unit
  | 0, _, _ => none
  | F303 + 1, x304, x305 =>
    bif decide (x304 < (↑x305.length : Int)) then (
    gd (okI x305 x304) <|
    bd (gauntletlaw04_edge N 0 0) fun y318 =>
    gd (okI (ix x305 x304) 0) <|
    gd (in64 (x304 + 1)) <|
    gauntletlaw04_MachinesWith_L1 N F303 (x304 + 1) (up x305 x304 (up (ix x305 x304) 0 y318))) else (
    some ())
def gauntletlaw04_MachinesWith (N : Nat) (x : MDat) (place : (Int × Int)) (to_ : Edge) : Option Bool :=
    bd (gauntletlaw04_M_Of N x) fun y15 =>
    bd (gauntletref04_Copy N (⟨y15.inputs, y15.outputs, y15.rows⟩ : Mach)) fun y25 =>
    gd (in64 place.1) <|
    gd (okR place.1 (↑y15.rows.length : Int)) <|
    gd (in64 place.2) <|
    gd (okR place.2 y15.inputs) <|
    bd (machines_With_o N (⟨y15.inputs, y15.outputs, y15.rows⟩ : Mach) (place.1 % (↑y15.rows.length : Int)) (place.2 % y15.inputs) to_) fun y73 =>
    bd (gauntletref04_Copy_o N (⟨y15.inputs, y15.outputs, y15.rows⟩ : Mach)) fun y88 =>
    gd (okI y88.rows (place.1 % (↑y15.rows.length : Int))) <|
    gd (okI (ix y88.rows (place.1 % (↑y15.rows.length : Int))) (place.2 % y15.inputs)) <|
    bd (gauntletref04_Same N (⟨y15.inputs, y15.outputs, y15.rows⟩ : Mach) (⟨y25.inputs, y25.outputs, y25.rows⟩ : Mach)) fun y129 =>
    bd (gop (true && ((!y129) == false)) (gauntletref04_Check N (⟨y88.inputs, y88.outputs, (up y88.rows (place.1 % (↑y15.rows.length : Int)) (up (ix y88.rows (place.1 % (↑y15.rows.length : Int))) (place.2 % y15.inputs) to_))⟩ : Mach))) fun y131 =>
    bif (!y129) || (decide (y73.2 ≠ (y131.getD default))) then (
    some false) else (
    bif decide (y73.2 ≠ 0) then (
    bd (gop (true && ((((decide ((↑y73.1.rows.length : Int) = 0)) && (decide (y73.1.inputs = 0))) && (decide (y73.1.outputs = 0))) == true)) (gauntletlaw04_lives N)) fun y157 =>
    some ((((decide ((↑y73.1.rows.length : Int) = 0)) && (decide (y73.1.inputs = 0))) && (decide (y73.1.outputs = 0))) && (y157.getD default))) else (
    bd (gauntletref04_Same N (⟨y73.1.inputs, y73.1.outputs, y73.1.rows⟩ : Mach) (⟨y88.inputs, y88.outputs, (up y88.rows (place.1 % (↑y15.rows.length : Int)) (up (ix y88.rows (place.1 % (↑y15.rows.length : Int))) (place.2 % y15.inputs) to_))⟩ : Mach)) fun y197 =>
    bd (gop (true && (((!y197) || (decide ((↑y73.1.rows.length : Int) ≠ (↑y73.1.rows.length : Int)))) == false)) (machines_Same N (⟨y73.1.inputs, y73.1.outputs, y73.1.rows⟩ : Mach) (⟨y15.inputs, y15.outputs, y15.rows⟩ : Mach))) fun y199 =>
    gd ((true && (((!y197) || (decide ((↑y73.1.rows.length : Int) ≠ (↑y73.1.rows.length : Int)))) == false)) = true → okI y15.rows (place.1 % (↑y15.rows.length : Int))) <|
    gd ((true && (((!y197) || (decide ((↑y73.1.rows.length : Int) ≠ (↑y73.1.rows.length : Int)))) == false)) = true → okI (ix y15.rows (place.1 % (↑y15.rows.length : Int))) (place.2 % y15.inputs)) <|
    bd (gop (true && ((((!y197) || (decide ((↑y73.1.rows.length : Int) ≠ (↑y73.1.rows.length : Int)))) || (decide ((y199.getD default) ≠ (decide (((ix (ix y15.rows (place.1 % (↑y15.rows.length : Int))) (place.2 % y15.inputs)).to) = to_.to ∧ ((ix (ix y15.rows (place.1 % (↑y15.rows.length : Int))) (place.2 % y15.inputs)).out) = to_.out))))) == false)) (machines_Same N (⟨y15.inputs, y15.outputs, y15.rows⟩ : Mach) (⟨y73.1.inputs, y73.1.outputs, y73.1.rows⟩ : Mach))) fun y203 =>
    gd ((true && ((((!y197) || (decide ((↑y73.1.rows.length : Int) ≠ (↑y73.1.rows.length : Int)))) || (decide ((y199.getD default) ≠ (decide (((ix (ix y15.rows (place.1 % (↑y15.rows.length : Int))) (place.2 % y15.inputs)).to) = to_.to ∧ ((ix (ix y15.rows (place.1 % (↑y15.rows.length : Int))) (place.2 % y15.inputs)).out) = to_.out))))) == false)) = true → okI y15.rows (place.1 % (↑y15.rows.length : Int))) <|
    gd ((true && ((((!y197) || (decide ((↑y73.1.rows.length : Int) ≠ (↑y73.1.rows.length : Int)))) || (decide ((y199.getD default) ≠ (decide (((ix (ix y15.rows (place.1 % (↑y15.rows.length : Int))) (place.2 % y15.inputs)).to) = to_.to ∧ ((ix (ix y15.rows (place.1 % (↑y15.rows.length : Int))) (place.2 % y15.inputs)).out) = to_.out))))) == false)) = true → okI (ix y15.rows (place.1 % (↑y15.rows.length : Int))) (place.2 % y15.inputs)) <|
    bif (((!y197) || (decide ((↑y73.1.rows.length : Int) ≠ (↑y73.1.rows.length : Int)))) || (decide ((y199.getD default) ≠ (decide (((ix (ix y15.rows (place.1 % (↑y15.rows.length : Int))) (place.2 % y15.inputs)).to) = to_.to ∧ ((ix (ix y15.rows (place.1 % (↑y15.rows.length : Int))) (place.2 % y15.inputs)).out) = to_.out))))) || (decide ((y203.getD default) ≠ (decide (((ix (ix y15.rows (place.1 % (↑y15.rows.length : Int))) (place.2 % y15.inputs)).to) = to_.to ∧ ((ix (ix y15.rows (place.1 % (↑y15.rows.length : Int))) (place.2 % y15.inputs)).out) = to_.out)))) then (
    some false) else (
    bd (
    gauntletlaw04_MachinesWith_L1 N N 0 y73.1.rows) fun o300 =>
    bd (gauntletref04_Same N (⟨y15.inputs, y15.outputs, y15.rows⟩ : Mach) (⟨y25.inputs, y25.outputs, y25.rows⟩ : Mach)) fun y351 =>
    bd (gop (true && (y351 == true)) (gauntletlaw04_lives N)) fun y353 =>
    some (y351 && (y353.getD default)))))
/-- gauntlet/gauntletlaw04.MachinesSame -/
def gauntletlaw04_MachinesSame (N : Nat) (x : MDat) (y : MDat) (raw : Mach) : Option Bool :=
    bd (gauntletlaw04_great N raw) fun y15 =>
    bif decide (y15 = 1) then (
    some true) else (
    bd (gauntletlaw04_M_Of N x) fun y22 =>
    bd (gauntletlaw04_M_Of N y) fun y24 =>
    bd (machines_Same N (⟨y22.inputs, y22.outputs, y22.rows⟩ : Mach) (⟨y24.inputs, y24.outputs, y24.rows⟩ : Mach)) fun y48 =>
    bd (gauntletref04_Same N (⟨y22.inputs, y22.outputs, y22.rows⟩ : Mach) (⟨y24.inputs, y24.outputs, y24.rows⟩ : Mach)) fun y50 =>
    bd (gop (true && ((decide (y48 ≠ y50)) == false)) (machines_Same N (⟨y24.inputs, y24.outputs, y24.rows⟩ : Mach) (⟨y22.inputs, y22.outputs, y22.rows⟩ : Mach))) fun y52 =>
    bd (gop (true && ((decide (y48 ≠ y50)) == false)) (gauntletref04_Same N (⟨y22.inputs, y22.outputs, y22.rows⟩ : Mach) (⟨y24.inputs, y24.outputs, y24.rows⟩ : Mach))) fun y54 =>
    bd (gop (true && (((decide (y48 ≠ y50)) || (decide ((y52.getD default) ≠ (y54.getD default)))) == false)) (machines_Same N (⟨y22.inputs, y22.outputs, y22.rows⟩ : Mach) (⟨y22.inputs, y22.outputs, y22.rows⟩ : Mach))) fun y56 =>
    bif ((decide (y48 ≠ y50)) || (decide ((y52.getD default) ≠ (y54.getD default)))) || (!(y56.getD default)) then (
    some false) else (
    gd (in64 (y22.outputs + 1)) <|
    bd (machines_Same N (⟨y22.inputs, y22.outputs, y22.rows⟩ : Mach) (⟨y22.inputs, y22.outputs + 1, y22.rows⟩ : Mach)) fun y108 =>
    bd (gop (true && ((!y108) == true)) (machines_Same N (⟨y22.inputs, y22.outputs, y22.rows⟩ : Mach) raw)) fun y110 =>
    bd (gop (true && ((!y108) == true)) (gauntletref04_Same N (⟨y22.inputs, y22.outputs, y22.rows⟩ : Mach) raw)) fun y112 =>
    bd (gop (true && (((!y108) && (decide ((y110.getD default) = (y112.getD default)))) == true)) (gauntletref04_Check N raw)) fun y114 =>
    bd (gop ((true && (((!y108) && (decide ((y110.getD default) = (y112.getD default)))) == true)) && ((decide ((y114.getD default) = 0)) == false)) (machines_Same N raw raw)) fun y116 =>
    bd (gop (true && ((((!y108) && (decide ((y110.getD default) = (y112.getD default)))) && ((decide ((y114.getD default) = 0)) || (!(y116.getD default)))) == true)) (gauntletlaw04_lives N)) fun y118 =>
    some ((((!y108) && (decide ((y110.getD default) = (y112.getD default)))) && ((decide ((y114.getD default) = 0)) || (!(y116.getD default)))) && (y118.getD default))))
/-- gauntlet/gauntletlaw04.ring -/
def gauntletlaw04_ring_L2 (N : Nat) (n : Int) (inputs : Int) (x14 : Int) : Nat → (List Edge) → Int → Option (List Edge)
  | 0, _, _ => none
  | F31 + 1, x32, x33 =>
    bif decide (x33 < inputs) then (
    gd (in64 (x14 + 1)) <|
    gd (okR (x14 + 1) n) <|
    gd (in64 (x14 + x33)) <|
    gd (okR (x14 + x33) 16) <|
    bd (gauntletlaw04_edge N ((x14 + 1) % n) ((x14 + x33) % 16)) fun y45 =>
    gd (fits 16 x32 ([(⟨y45.to, y45.out⟩ : Edge)] : List Edge)) <|
    gd (in64 (x33 + 1)) <|
    gauntletlaw04_ring_L2 N n inputs x14 F31 (x32 ++ ([(⟨y45.to, y45.out⟩ : Edge)] : List Edge)) (x33 + 1)) else (
    some x32)
def gauntletlaw04_ring_L1 (N : Nat) (n : Int) (inputs : Int) : Nat → Int → (List (List Edge)) → Option (List (List Edge))
  | 0, _, _ => none
  | F13 + 1, x14, x15 =>
    bif decide (x14 < n) then (
    bd (
    gauntletlaw04_ring_L2 N n inputs x14 N ([] : List Edge) 0) fun o23 =>
    gd (fits 24 x15 ([o23] : List (List Edge))) <|
    gd (in64 (x14 + 1)) <|
    gauntletlaw04_ring_L1 N n inputs F13 (x14 + 1) (x15 ++ ([o23] : List (List Edge)))) else (
    some x15)
def gauntletlaw04_ring (N : Nat) (n : Int) (inputs : Int) : Option Mach :=
    bd (
    gauntletlaw04_ring_L1 N n inputs N 0 ([] : List (List Edge))) fun o5 =>
    some (⟨inputs, 16, o5⟩ : Mach)
end GV
end Go.Proofs.Ytohjnbajgbdhhaa
