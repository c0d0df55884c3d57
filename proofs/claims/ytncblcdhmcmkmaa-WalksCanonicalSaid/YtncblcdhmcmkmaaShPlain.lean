/- The functions as plain programs; printed. -/
import Derived.Test.YtncblcdhmcmkmaaShTypes
namespace Go.Proofs.Ytncblcdhmcmkmaa
namespace GV
set_option linter.unusedVariables false
set_option maxRecDepth 100000
/-- (gauntlet/gauntletlaw04.M).Of -/
def gauntletlaw04_M_Of_L2 (N : Nat) (x : MDat) (x39 : Int) : Nat → (List Edge) → Int → Option (List Edge)
  | 0, _, _ => none
  | F56 + 1, x57, x58 =>
    bif decide (x58 < ((1 : Int) + (x.ins % 3))) then (
    bd (
    bd (
    gd (in64 (x39 * ((1 : Int) + (x.ins % 3)))) <|
    gd (in64 ((x39 * ((1 : Int) + (x.ins % 3))) + x58)) <|
    bif decide (((x39 * ((1 : Int) + (x.ins % 3))) + x58) < (↑x.edges.length : Int)) then (
    gd (okI x.edges ((x39 * ((1 : Int) + (x.ins % 3))) + x58)) <|
    gd (in64 (ix x.edges ((x39 * ((1 : Int) + (x.ins % 3))) + x58))) <|
    some (ix x.edges ((x39 * ((1 : Int) + (x.ins % 3))) + x58))) else (
    some 0)) fun o72 =>
    gd ((true && (x.part == true)) = true → okR o72 4) <|
    bif x.part && (decide ((o72 % 4) = 3)) then (
    gd (fits 16 x57 ([(⟨(-1), (-1)⟩ : Edge)] : List Edge)) <|
    some (x57 ++ ([(⟨(-1), (-1)⟩ : Edge)] : List Edge))) else (
    gd (okQ o72 4) <|
    gd (okR (o72 / 4) ((1 : Int) + (x.states % 6))) <|
    gd (okQ o72 4) <|
    gd (okQ (o72 / 4) ((1 : Int) + (x.states % 6))) <|
    gd (okR ((o72 / 4) / ((1 : Int) + (x.states % 6))) ((1 : Int) + (x.outs % 3))) <|
    gd (fits 16 x57 ([(⟨(o72 / 4) % ((1 : Int) + (x.states % 6)), ((o72 / 4) / ((1 : Int) + (x.states % 6))) % ((1 : Int) + (x.outs % 3))⟩ : Edge)] : List Edge)) <|
    some (x57 ++ ([(⟨(o72 / 4) % ((1 : Int) + (x.states % 6)), ((o72 / 4) / ((1 : Int) + (x.states % 6))) % ((1 : Int) + (x.outs % 3))⟩ : Edge)] : List Edge)))) fun o66 =>
    gd (in64 (x58 + 1)) <|
    gauntletlaw04_M_Of_L2 N x x39 F56 o66 (x58 + 1)) else (
    some x57)
def gauntletlaw04_M_Of_L1 (N : Nat) (x : MDat) : Nat → Int → (List (List Edge)) → Option (List (List Edge))
  | 0, _, _ => none
  | F38 + 1, x39, x40 =>
    bif decide (x39 < ((1 : Int) + (x.states % 6))) then (
    bd (
    gauntletlaw04_M_Of_L2 N x x39 N ([] : List Edge) 0) fun o48 =>
    gd (fits 24 x40 ([o48] : List (List Edge))) <|
    gd (in64 (x39 + 1)) <|
    gauntletlaw04_M_Of_L1 N x F38 (x39 + 1) (x40 ++ ([o48] : List (List Edge)))) else (
    some x40)
def gauntletlaw04_M_Of (N : Nat) (x : MDat) : Option Mach :=
    gd (okR x.states 6) <|
    gd (in64 (x.states % 6)) <|
    gd (in64 ((1 : Int) + (x.states % 6))) <|
    gd (okR x.ins 3) <|
    gd (in64 (x.ins % 3)) <|
    gd (in64 ((1 : Int) + (x.ins % 3))) <|
    gd (okR x.outs 3) <|
    gd (in64 (x.outs % 3)) <|
    gd (in64 ((1 : Int) + (x.outs % 3))) <|
    bd (
    gauntletlaw04_M_Of_L1 N x N 0 ([] : List (List Edge))) fun o30 =>
    some (⟨(1 : Int) + (x.ins % 3), (1 : Int) + (x.outs % 3), o30⟩ : Mach)
/-- slices.IndexFunc[[]gauntlet/api.Edge,gauntlet/api.Edge] -/
def slices_IndexFunc_api_Edge_L1 (N : Nat) (s : (List Edge)) (f : Edge → Option Bool) : Nat → Int → Option (Ex (Unit) (Int))
  | 0, _ => none
  | F5 + 1, x6 =>
    bif decide (x6 < (↑s.length : Int)) then (
    gd (okI s x6) <|
    bd (f (ix s x6)) fun y15 =>
    bif y15 then (
    some (Ex.rt x6)) else (
    gd (in64 (x6 + 1)) <|
    slices_IndexFunc_api_Edge_L1 N s f F5 (x6 + 1))) else (
    some (Ex.go ()))
def slices_IndexFunc_api_Edge (N : Nat) (s : (List Edge)) (f : Edge → Option Bool) : Option Int :=
    bd (
    slices_IndexFunc_api_Edge_L1 N s f N 0) fun q2 =>
    Ex.on q2 (fun o1 =>
    some (-1)) some
/-- slices.ContainsFunc[[]gauntlet/api.Edge,gauntlet/api.Edge] -/
def slices_ContainsFunc_api_Edge (N : Nat) (s : (List Edge)) (f : Edge → Option Bool) : Option Bool :=
    bd (slices_IndexFunc_api_Edge N s f) fun y1 =>
    some (decide (0 ≤ y1))
/-- gauntlet/machines.none -/
def machines_none (N : Nat) : Option Edge :=
    some (⟨(-1), (-1)⟩ : Edge)
/-- gauntlet/machines.fits -/
def machines_fits (N : Nat) (m : Mach) (x : Edge) : Option Bool :=
    bd (machines_none N) fun y9 =>
    some ((decide (x.to = y9.to ∧ x.out = y9.out)) || ((((decide (0 ≤ x.to)) && (decide (x.to < (↑m.rows.length : Int)))) && (decide (0 ≤ x.out))) && (decide (x.out < m.outputs))))
/-- gauntlet/machines.Check$1 -/
def machines_Check_1 (N : Nat) (x : Edge) (p0_ : Mach) : Option Bool :=
    bd (machines_fits N p0_ x) fun y9 =>
    some (!y9)
/-- gauntlet/machines.Check -/
def machines_Check_L1 (N : Nat) (m : Mach) : Nat → Int → Option (Ex (Unit) (Int))
  | 0, _ => none
  | F75 + 1, x76 =>
    bif decide (x76 < (↑m.rows.length : Int)) then (
    gd (okI m.rows x76) <|
    bd (gop (true && ((decide ((↑(ix m.rows x76).length : Int) ≠ m.inputs)) == false)) (slices_ContainsFunc_api_Edge N (ix m.rows x76) (fun z0 => machines_Check_1 N z0 m))) fun y85 =>
    bif (decide ((↑(ix m.rows x76).length : Int) ≠ m.inputs)) || (y85.getD default) then (
    some (Ex.rt 1)) else (
    gd (in64 (x76 + 1)) <|
    machines_Check_L1 N m F75 (x76 + 1))) else (
    some (Ex.go ()))
def machines_Check (N : Nat) (m : Mach) : Option Int :=
    bif ((decide (16 < m.inputs)) || (decide (16 < m.outputs))) || (decide (64 < (↑m.rows.length : Int))) then (
    some 3) else (
    bif ((decide (m.inputs < 1)) || (decide (m.outputs < 1))) || (decide ((↑m.rows.length : Int) < 1)) then (
    some 1) else (
    bd (
    machines_Check_L1 N m N 0) fun q68 =>
    Ex.on q68 (fun o67 =>
    some 0) some))
/-- gauntlet/walks.arrivals -/
def walks_arrivals (N : Nat) (m : Mach) (from_ : Int) : Option (Mach × Int) :=
    some (m, from_)
/-- gauntlet/walks.arrivals$1 -/
def walks_arrivals_1_L2 (N : Nat) (σ : Type) (p0_ : Mach) (x28 : List Swalks_arrival) : Nat → σ → Int → (List Bool) → (List Swalks_arrival) → Option (Ex (σ × List Bool × List Swalks_arrival) (σ))
  | 0, _, _, _, _ => none
  | F79 + 1, x80, x81, x82, x83 =>
    bif decide (x81 < (↑(ix p0_.rows ((ix x28 0).f_state)).length : Int)) then (
    bd (
    gd (okI (ix p0_.rows ((ix x28 0).f_state)) x81) <|
    gd ((true && ((decide (((ix (ix p0_.rows ((ix x28 0).f_state)) x81).to) ≠ (-1))) == true)) = true → okI x82 ((ix (ix p0_.rows ((ix x28 0).f_state)) x81).to)) <|
    bif (decide (((ix (ix p0_.rows ((ix x28 0).f_state)) x81).to) ≠ (-1))) && (!(ix x82 ((ix (ix p0_.rows ((ix x28 0).f_state)) x81).to))) then (
    gd (okI x82 ((ix (ix p0_.rows ((ix x28 0).f_state)) x81).to)) <|
    gd (fits 24 x83 ([(⟨(ix (ix p0_.rows ((ix x28 0).f_state)) x81).to, (ix x28 0).f_state, x81⟩ : Swalks_arrival)] : List Swalks_arrival)) <|
    some (x80, (up x82 ((ix (ix p0_.rows ((ix x28 0).f_state)) x81).to) true), (x83 ++ ([(⟨(ix (ix p0_.rows ((ix x28 0).f_state)) x81).to, (ix x28 0).f_state, x81⟩ : Swalks_arrival)] : List Swalks_arrival)))) else (
    some (x80, x82, x83))) fun o95 =>
    gd (in64 (x81 + 1)) <|
    walks_arrivals_1_L2 N σ p0_ x28 F79 o95.1 (x81 + 1) o95.2.1 o95.2.2) else (
    some (Ex.go (x80, x82, x83)))
def walks_arrivals_1_L1 (N : Nat) (σ : Type) (B : Swalks_arrival → σ → Option (Bool × σ)) (p0_ : Mach) : Nat → σ → (List Bool) → (List Swalks_arrival) → Option σ
  | 0, _, _, _ => none
  | F25 + 1, x26, x27, x28 =>
    bd (
    bif decide (0 < (↑x28.length : Int)) then (
    gd (okI x28 0) <|
    gd (okS x28 1 (↑x28.length : Int)) <|
    bd (B (⟨(ix x28 0).f_state, (ix x28 0).f_from, (ix x28 0).f_input⟩ : Swalks_arrival) x26) fun y63 =>
    bif !y63.1 then (
    some (Ex.rt y63.2)) else (
    gd (okI p0_.rows ((ix x28 0).f_state)) <|
    walks_arrivals_1_L2 N σ p0_ x28 N y63.2 0 x27 (cut x28 1 (↑x28.length : Int)))) else (
    some (Ex.rt x26))) fun q40 =>
    Ex.on q40 (fun o39 =>
    walks_arrivals_1_L1 N σ B p0_ F25 o39.1 o39.2.1 o39.2.2) some
def walks_arrivals_1 (N : Nat) (p0_ : Mach) (p1_ : Int) (σ : Type) (B : Swalks_arrival → σ → Option (Bool × σ)) (s0 : σ) : Option σ :=
    gd (okM 1 (↑p0_.rows.length : Int)) <|
    gd (okI (mk (↑p0_.rows.length : Int) false) p1_) <|
    walks_arrivals_1_L1 N σ B p0_ N s0 (up (mk (↑p0_.rows.length : Int) false) p1_ true) ([(⟨p1_, (-1), (-1)⟩ : Swalks_arrival)] : List Swalks_arrival)
/-- slices.Clip[[]int,int] -/
def slices_Clip_int (N : Nat) (s : (List Int)) : Option (List Int) :=
    gd (okS s 0 (↑s.length : Int)) <|
    some (cut s 0 (↑s.length : Int))
/-- slices.Clone[[]int,int] -/
def slices_Clone_int_o (N : Nat) (s : (List Int)) : Option (List Int) :=
    gd (fits 8 ([] : List Int) s) <|
    some (([] : List Int) ++ s)
/-- gauntlet/walks.paths -/
def walks_paths (N : Nat) (m : Mach) (from_ : Int) : Option ((List (List Int)) × (List Bool)) :=
    gd (okM 24 (↑m.rows.length : Int)) <|
    gd (okM 1 (↑m.rows.length : Int)) <|
    bd (walks_arrivals N m from_) fun y44 =>
    bd (walks_arrivals_1 N y44.1 y44.2 (List (List Int) × List Bool) (fun y56 x57 =>
    gd (okI x57.2 y56.f_state) <|
    bif decide (y56.f_from ≠ (-1)) then (
    gd (okI x57.1 y56.f_from) <|
    bd (slices_Clone_int_o N (ix x57.1 y56.f_from)) fun y87 =>
    gd (fits 8 y87 ([y56.f_input] : List Int)) <|
    bd (slices_Clip_int N (y87 ++ ([y56.f_input] : List Int))) fun y91 =>
    gd (okI x57.1 y56.f_state) <|
    some (true, ((up x57.1 y56.f_state y91), (up x57.2 y56.f_state true)))) else (
    some (true, (x57.1, (up x57.2 y56.f_state true))))) ((mk (↑m.rows.length : Int) ([] : List Int)), (mk (↑m.rows.length : Int) false))) fun o54 =>
    some (o54.1, o54.2)
/-- gauntlet/walks.Access -/
def walks_Access (N : Nat) (m : Mach) : Option ((List (List Int)) × (List Bool) × Int) :=
    bd (machines_Check N m) fun y7 =>
    bif decide (y7 ≠ 0) then (
    some (([] : (List (List Int))), ([] : (List Bool)), y7)) else (
    bd (walks_paths N m 0) fun y16 =>
    some (y16.1, y16.2, 0))
/-- gauntlet/gauntletref04.Next -/
def gauntletref04_Next (N : Nat) (m : Mach) (s : Int) (i : Int) : Option Edge :=
    bif decide (s < 0) then (
    some (⟨(-1), (-1)⟩ : Edge)) else (
    gd (okI m.rows s) <|
    gd (okI (ix m.rows s) i) <|
    some (⟨(ix (ix m.rows s) i).to, (ix (ix m.rows s) i).out⟩ : Edge))
/-- gauntlet/gauntletref04.After -/
def gauntletref04_After (N : Nat) : Nat → Mach → Int → (List Int) → Option Int
  | 0, _, _, _ => none
  | F + 1, m, s, w_ =>
    bif decide ((↑w_.length : Int) = 0) then (
    some s) else (
    gd (okI w_ 0) <|
    bd (gauntletref04_Next N m s (ix w_ 0)) fun y7 =>
    gd (okS w_ 1 (↑w_.length : Int)) <|
    bd ((gauntletref04_After N F) m y7.to (cut w_ 1 (↑w_.length : Int))) fun y10 =>
    some y10)
/-- gauntlet/gauntletref06.next -/
def gauntletref06_next_L1 (N : Nat) (inputs : Int) : Nat → Int → (List Int) → Option (Ex (List Int) ((List Int)))
  | 0, _, _ => none
  | F17 + 1, x18, x19 =>
    bif decide (0 ≤ x18) then (
    gd (okI x19 x18) <|
    gd (in64 ((ix x19 x18) + 1)) <|
    bif decide (((ix x19 x18) + 1) < inputs) then (
    gd (okI x19 x18) <|
    gd (in64 ((ix x19 x18) + 1)) <|
    gd (okI x19 x18) <|
    some (Ex.rt (up x19 x18 ((ix x19 x18) + 1)))) else (
    gd (okI x19 x18) <|
    gd (in64 (x18 - 1)) <|
    gauntletref06_next_L1 N inputs F17 (x18 - 1) (up x19 x18 0))) else (
    some (Ex.go x19))
def gauntletref06_next (N : Nat) (w_ : (List Int)) (inputs : Int) : Option (List Int) :=
    gd (fits 8 ([] : List Int) w_) <|
    bd (
    gd (in64 ((↑(([] : List Int) ++ w_).length : Int) - 1)) <|
    gauntletref06_next_L1 N inputs N ((↑(([] : List Int) ++ w_).length : Int) - 1) (([] : List Int) ++ w_)) fun q11 =>
    Ex.on q11 (fun o10 =>
    gd (fits 8 o10 ([0] : List Int)) <|
    some (o10 ++ ([0] : List Int))) some
/-- gauntlet/gauntletref06.Paths -/
def gauntletref06_Paths_L1 (N : Nat) (m : Mach) (from_ : Int) : Nat → (List Int) → (List (List Int)) → (List Bool) → Option (List (List Int) × List Bool)
  | 0, _, _, _ => none
  | F43 + 1, x44, x45, x46 =>
    bif decide ((↑x44.length : Int) < (↑m.rows.length : Int)) then (
    bd (
    bd (gauntletref04_After N N m from_ x44) fun y73 =>
    gd ((true && ((decide (0 ≤ y73)) == true)) = true → okI x46 y73) <|
    bif (decide (0 ≤ y73)) && (!(ix x46 y73)) then (
    gd (okI x46 y73) <|
    gd (okI x45 y73) <|
    some ((up x45 y73 x44), (up x46 y73 true))) else (
    some (x45, x46))) fun o62 =>
    bd (gauntletref06_next N x44 m.inputs) fun y118 =>
    gauntletref06_Paths_L1 N m from_ F43 y118 o62.1 o62.2) else (
    some (x45, x46))
def gauntletref06_Paths (N : Nat) (m : Mach) (from_ : Int) : Option ((List (List Int)) × (List Bool)) :=
    gd (okM 24 (↑m.rows.length : Int)) <|
    gd (okM 1 (↑m.rows.length : Int)) <|
    bd (
    gauntletref06_Paths_L1 N m from_ N ([] : List Int) (mk (↑m.rows.length : Int) ([] : List Int)) (mk (↑m.rows.length : Int) false)) fun o25 =>
    some (o25.1, o25.2)
/-- gauntlet/gauntletref06.Access -/
def gauntletref06_Access (N : Nat) (m : Mach) : Option ((List (List Int)) × (List Bool)) :=
    bd (gauntletref06_Paths N m 0) fun y7 =>
    some (y7.1, y7.2)
/-- gauntlet/gauntletref01.Compare -/
def gauntletref01_Compare_L1 (N : Nat) (a : (List Int)) (b : (List Int)) : Nat → Int → Option (Ex (Unit) (Int))
  | 0, _ => none
  | F7 + 1, x8 =>
    bif decide (x8 < (↑a.length : Int)) then (
    gd (okI a x8) <|
    gd (okI b x8) <|
    bif decide ((ix a x8) < (ix b x8)) then (
    some (Ex.rt (-1))) else (
    gd (okI a x8) <|
    gd (okI b x8) <|
    bif decide ((ix b x8) < (ix a x8)) then (
    some (Ex.rt 1)) else (
    gd (in64 (x8 + 1)) <|
    gauntletref01_Compare_L1 N a b F7 (x8 + 1)))) else (
    some (Ex.go ()))
def gauntletref01_Compare (N : Nat) (a : (List Int)) (b : (List Int)) : Option Int :=
    bif decide ((↑a.length : Int) < (↑b.length : Int)) then (
    some (-1)) else (
    bif decide ((↑b.length : Int) < (↑a.length : Int)) then (
    some 1) else (
    bd (
    gauntletref01_Compare_L1 N a b N 0) fun q4 =>
    Ex.on q4 (fun o3 =>
    some 0) some))
/-- gauntlet/gauntletref01.Same -/
def gauntletref01_Same (N : Nat) (a : (List Int)) (b : (List Int)) : Option Bool :=
    bd (gauntletref01_Compare N a b) fun y1 =>
    some (decide (y1 = 0))
/-- gauntlet/gauntletlaw06.list -/
def gauntletlaw06_list (N : Nat) (l_ : (List Int)) (e : Int) (want : (List Int)) (f : Int) : Option Bool :=
    bd (gop (true && ((decide (e = f)) == true)) (gauntletref01_Same N l_ want)) fun y1 =>
    some (((decide (e = f)) && (y1.getD default)) && (decide ((↑l_.length : Int) = (↑l_.length : Int))))
/-- gauntlet/walks.reached -/
def walks_reached (N : Nat) (m : Mach) : Option (List Int) :=
    bd (walks_arrivals N m 0) fun y9 =>
    bd (walks_arrivals_1 N y9.1 y9.2 (List Int) (fun y22 x23 =>
    gd (fits 8 x23 ([y22.f_state] : List Int)) <|
    some (true, (x23 ++ ([y22.f_state] : List Int)))) ([] : List Int)) fun o20 =>
    some o20
/-- slices.Values[[]int,int] -/
def slices_Values_int (N : Nat) (s : (List Int)) : Option (List Int) :=
    some s
/-- slices.Values[[]int,int]$1 -/
def slices_Values_int_1_L1 (N : Nat) (σ : Type) (B : Int → σ → Option (Bool × σ)) (p0_ : (List Int)) : Nat → σ → Int → Option σ
  | 0, _, _ => none
  | F3 + 1, x4, x5 =>
    bif decide (x5 < (↑p0_.length : Int)) then (
    gd (okI p0_ x5) <|
    bd (B (ix p0_ x5) x4) fun y16 =>
    bif !y16.1 then (
    some y16.2) else (
    gd (in64 (x5 + 1)) <|
    slices_Values_int_1_L1 N σ B p0_ F3 y16.2 (x5 + 1))) else (
    some x4)
def slices_Values_int_1 (N : Nat) (p0_ : (List Int)) (σ : Type) (B : Int → σ → Option (Bool × σ)) (s0 : σ) : Option σ :=
    slices_Values_int_1_L1 N σ B p0_ N s0 0
/-- slices.Sort[[]int,int] -/
def slices_Sort_int (N : Nat) (x : List Int) : Option (List Int) :=
    gd (0 < x.length ∧ x.length < 4611686018427387904) (some (sortI x))
/-- slices.AppendSeq[[]int,int] -/
def slices_AppendSeq_int_o (N : Nat) (s : List Int) (seq_0_ : (List Int)) : Option (List Int) :=
    bd (slices_Values_int_1 N seq_0_ (List Int) (fun y5 x6 =>
    gd (fits 8 x6 ([y5] : List Int)) <|
    some (true, (x6 ++ ([y5] : List Int)))) s) fun o3 =>
    some o3
/-- slices.Collect[int] -/
def slices_Collect_int_o (N : Nat) (seq_0_ : (List Int)) : Option (List Int) :=
    bd (slices_AppendSeq_int_o N ([] : List Int) seq_0_) fun y2 =>
    some y2
/-- slices.Sorted[int] -/
def slices_Sorted_int (N : Nat) (seq_0_ : (List Int)) : Option (List Int) :=
    bd (slices_Collect_int_o N seq_0_) fun y1 =>
    bd (slices_Sort_int N y1) fun y12 =>
    some y12
/-- gauntlet/walks.Reach -/
def walks_Reach (N : Nat) (m : Mach) : Option ((List Int) × Int) :=
    bd (machines_Check N m) fun y7 =>
    bif decide (y7 ≠ 0) then (
    some (([] : (List Int)), y7)) else (
    bd (walks_reached N m) fun y16 =>
    bd (slices_Values_int N y16) fun y22 =>
    bd (slices_Sorted_int N y22) fun y30 =>
    bd (slices_Clip_int N y30) fun y36 =>
    some (y36, 0))
/-- gauntlet/gauntletlaw06.edge -/
def gauntletlaw06_edge (N : Nat) (to_ : Int) (out : Int) : Option Edge :=
    some (⟨to_, out⟩ : Edge)
/-- slices.IndexFunc[[]int,int] -/
def slices_IndexFunc_int_L1 (N : Nat) (s : (List Int)) (f : Int → Option Bool) : Nat → Int → Option (Ex (Unit) (Int))
  | 0, _ => none
  | F5 + 1, x6 =>
    bif decide (x6 < (↑s.length : Int)) then (
    gd (okI s x6) <|
    bd (f (ix s x6)) fun y15 =>
    bif y15 then (
    some (Ex.rt x6)) else (
    gd (in64 (x6 + 1)) <|
    slices_IndexFunc_int_L1 N s f F5 (x6 + 1))) else (
    some (Ex.go ()))
def slices_IndexFunc_int (N : Nat) (s : (List Int)) (f : Int → Option Bool) : Option Int :=
    bd (
    slices_IndexFunc_int_L1 N s f N 0) fun q2 =>
    Ex.on q2 (fun o1 =>
    some (-1)) some
/-- slices.ContainsFunc[[]int,int] -/
def slices_ContainsFunc_int (N : Nat) (s : (List Int)) (f : Int → Option Bool) : Option Bool :=
    bd (slices_IndexFunc_int N s f) fun y1 =>
    some (decide (0 ≤ y1))
/-- gauntlet/walks.state$1 -/
def walks_state_1 (N : Nat) (s : Int) (p0_ : Mach) : Option Bool :=
    some ((decide (s < 0)) || (decide ((↑p0_.rows.length : Int) ≤ s)))
/-- gauntlet/walks.state -/
def walks_state (N : Nat) (m : Mach) (l_ : (List Int)) : Option Int :=
    bd (machines_Check N m) fun y7 =>
    bif decide (y7 ≠ 0) then (
    some y7) else (
    bd (slices_ContainsFunc_int N l_ (fun z0 => walks_state_1 N z0 m)) fun y14 =>
    bif y14 then (
    some 1) else (
    some 0))
/-- gauntlet/walks.Path -/
def walks_Path (N : Nat) (m : Mach) (s : Int) (t : Int) : Option ((List Int) × Bool × Int) :=
    bd (walks_state N m ([s, t] : List Int)) fun y15 =>
    bif decide (y15 ≠ 0) then (
    some (([] : (List Int)), false, y15)) else (
    bd (walks_paths N m s) fun y22 =>
    gd (okI y22.1 t) <|
    gd (okI y22.2 t) <|
    some ((ix y22.1 t), (ix y22.2 t), 0))
/-- gauntlet/walks.Distances -/
def walks_Distances_L1 (N : Nat) (y22 : (List (List Int)) × (List Bool)) : Nat → Int → (List Int) → Option (List Int)
  | 0, _, _ => none
  | F44 + 1, x45, x46 =>
    bif decide (x45 < (↑y22.1.length : Int)) then (
    bd (
    gd (okI y22.1 x45) <|
    gd (okI x46 x45) <|
    gd (okI y22.2 x45) <|
    bif (ix y22.2 x45) then (
    gd (okI (up x46 x45 (-1)) x45) <|
    some (up (up x46 x45 (-1)) x45 (↑(ix y22.1 x45).length : Int))) else (
    some (up x46 x45 (-1)))) fun o53 =>
    gd (in64 (x45 + 1)) <|
    walks_Distances_L1 N y22 F44 (x45 + 1) o53) else (
    some x46)
def walks_Distances (N : Nat) (m : Mach) (s : Int) : Option ((List Int) × Int) :=
    bd (walks_state N m ([s] : List Int)) fun y15 =>
    bif decide (y15 ≠ 0) then (
    some (([] : (List Int)), y15)) else (
    bd (walks_paths N m s) fun y22 =>
    gd (okM 8 (↑y22.1.length : Int)) <|
    bd (
    walks_Distances_L1 N y22 N 0 (mk (↑y22.1.length : Int) (0 : Int))) fun o38 =>
    some (o38, 0))
/-- gauntlet/walks.part$1 -/
def walks_part_1 (N : Nat) (x : Edge) (p0_ : (List (Int × Int))) : Option Edge :=
    some (⟨(mget (0 : Int) p0_ x.to), x.out⟩ : Edge)
/-- gauntlet/walks.part -/
def walks_part_L1 (N : Nat) (l_ : (List Int)) : Nat → Int → (List (Int × Int)) → Option (List (Int × Int))
  | 0, _, _ => none
  | F20 + 1, x21, x22 =>
    bif decide (x21 < (↑l_.length : Int)) then (
    gd (okI l_ x21) <|
    gd (in64 (x21 + 1)) <|
    walks_part_L1 N l_ F20 (x21 + 1) (mput x22 (ix l_ x21) x21)) else (
    some x22)
def walks_part_L3 (N : Nat) (m : Mach) (l_ : (List Int)) (o15 : List (Int × Int)) (x78 : Int) : Nat → Int → (List (List Edge)) → Option (List (List Edge))
  | 0, _, _ => none
  | F131 + 1, x132, x133 =>
    bif decide (x132 < (↑(ix m.rows (ix l_ x78)).length : Int)) then (
    gd (okI (ix m.rows (ix l_ x78)) x132) <|
    gd (okI x133 x78) <|
    bd (walks_part_1 N (⟨(ix (ix m.rows (ix l_ x78)) x132).to, (ix (ix m.rows (ix l_ x78)) x132).out⟩ : Edge) o15) fun y149 =>
    gd (okI (ix x133 x78) x132) <|
    gd (in64 (x132 + 1)) <|
    walks_part_L3 N m l_ o15 x78 F131 (x132 + 1) (up x133 x78 (up (ix x133 x78) x132 y149))) else (
    some x133)
def walks_part_L2 (N : Nat) (m : Mach) (l_ : (List Int)) (o15 : List (Int × Int)) : Nat → Int → (List (List Edge)) → Option (List (List Edge))
  | 0, _, _ => none
  | F77 + 1, x78, x79 =>
    bif decide (x78 < (↑l_.length : Int)) then (
    bd (
    gd (okI l_ x78) <|
    gd (okM 16 m.inputs) <|
    gd (okI x79 x78) <|
    gd (okI m.rows (ix l_ x78)) <|
    walks_part_L3 N m l_ o15 x78 N 0 (up x79 x78 (mk m.inputs (⟨(0 : Int), (0 : Int)⟩ : Edge)))) fun o87 =>
    gd (in64 (x78 + 1)) <|
    walks_part_L2 N m l_ o15 F77 (x78 + 1) o87) else (
    some x79)
def walks_part (N : Nat) (m : Mach) (l_ : (List Int)) : Option Mach :=
    bd (
    walks_part_L1 N l_ N 0 (mput ([] : List (Int × Int)) (-1) (-1))) fun o15 =>
    gd (okM 24 (↑l_.length : Int)) <|
    bd (
    walks_part_L2 N m l_ o15 N 0 (mk (↑l_.length : Int) ([] : List Edge))) fun o70 =>
    some (⟨m.inputs, m.outputs, o70⟩ : Mach)
/-- gauntlet/walks.Trim -/
def walks_Trim (N : Nat) (m : Mach) : Option (Mach × (List Int) × Int) :=
    bd (walks_Reach N m) fun y9 =>
    bif decide (y9.2 ≠ 0) then (
    some ((⟨0, 0, []⟩ : Mach), ([] : (List Int)), y9.2)) else (
    bd (walks_part N m y9.1) fun y20 =>
    some ((⟨y20.inputs, y20.outputs, y20.rows⟩ : Mach), y9.1, 0))
/-- gauntlet/walks.Canonical -/
def walks_Canonical (N : Nat) (m : Mach) : Option (Mach × Int) :=
    bd (machines_Check N m) fun y9 =>
    bif decide (y9 ≠ 0) then (
    some ((⟨0, 0, []⟩ : Mach), y9)) else (
    bd (walks_reached N m) fun y16 =>
    bd (walks_part N m y16) fun y18 =>
    some ((⟨y18.inputs, y18.outputs, y18.rows⟩ : Mach), 0))
/-- slices.EqualFunc[[][]gauntlet/api.Edge,[][]gauntlet/api.Edge,[]gauntlet/api.Edge,[]gauntlet/api.Edge] -/
def slices_EqualFunc__api_Edge_L1 (N : Nat) (s1_ : (List (List Edge))) (s2_ : (List (List Edge))) (eq : (List Edge) → (List Edge) → Option Bool) : Nat → Int → Option (Ex (Unit) (Bool))
  | 0, _ => none
  | F6 + 1, x7 =>
    bif decide (x7 < (↑s1_.length : Int)) then (
    gd (okI s1_ x7) <|
    gd (okI s2_ x7) <|
    bd (eq (ix s1_ x7) (ix s2_ x7)) fun y21 =>
    bif !y21 then (
    some (Ex.rt false)) else (
    gd (in64 (x7 + 1)) <|
    slices_EqualFunc__api_Edge_L1 N s1_ s2_ eq F6 (x7 + 1))) else (
    some (Ex.go ()))
def slices_EqualFunc__api_Edge (N : Nat) (s1_ : (List (List Edge))) (s2_ : (List (List Edge))) (eq : (List Edge) → (List Edge) → Option Bool) : Option Bool :=
    bif decide ((↑s1_.length : Int) ≠ (↑s2_.length : Int)) then (
    some false) else (
    bd (
    slices_EqualFunc__api_Edge_L1 N s1_ s2_ eq N 0) fun q3 =>
    Ex.on q3 (fun o2 =>
    some true) some)
/-- slices.Equal[[]gauntlet/api.Edge,gauntlet/api.Edge] -/
def slices_Equal_api_Edge_L1 (N : Nat) (s1_ : (List Edge)) (s2_ : (List Edge)) : Nat → Int → Option (Ex (Unit) (Bool))
  | 0, _ => none
  | F6 + 1, x7 =>
    bif decide (x7 < (↑s1_.length : Int)) then (
    gd (okI s1_ x7) <|
    gd (okI s2_ x7) <|
    bif decide (¬ (((ix s1_ x7).to) = ((ix s2_ x7).to) ∧ ((ix s1_ x7).out) = ((ix s2_ x7).out))) then (
    some (Ex.rt false)) else (
    gd (in64 (x7 + 1)) <|
    slices_Equal_api_Edge_L1 N s1_ s2_ F6 (x7 + 1))) else (
    some (Ex.go ()))
def slices_Equal_api_Edge (N : Nat) (s1_ : (List Edge)) (s2_ : (List Edge)) : Option Bool :=
    bif decide ((↑s1_.length : Int) ≠ (↑s2_.length : Int)) then (
    some false) else (
    bd (
    slices_Equal_api_Edge_L1 N s1_ s2_ N 0) fun q3 =>
    Ex.on q3 (fun o2 =>
    some true) some)
/-- gauntlet/machines.Same -/
def machines_Same (N : Nat) (a : Mach) (b : Mach) : Option Bool :=
    bd (machines_Check N a) fun y9 =>
    bd (gop (true && ((decide (y9 = 0)) == true)) (machines_Check N b)) fun y11 =>
    bd (gop (true && (((((decide (y9 = 0)) && (decide ((y11.getD default) = 0))) && (decide (a.inputs = b.inputs))) && (decide (a.outputs = b.outputs))) == true)) (slices_EqualFunc__api_Edge N a.rows b.rows (fun z0 z1 => slices_Equal_api_Edge N z0 z1))) fun y13 =>
    some (((((decide (y9 = 0)) && (decide ((y11.getD default) = 0))) && (decide (a.inputs = b.inputs))) && (decide (a.outputs = b.outputs))) && (y13.getD default))
/-- gauntlet/walks.IsCanonical -/
def walks_IsCanonical (N : Nat) (m : Mach) : Option (Bool × Int) :=
    bd (walks_Canonical N m) fun y7 =>
    bd (gop (true && ((decide (y7.2 = 0)) == true)) (machines_Same N (⟨y7.1.inputs, y7.1.outputs, y7.1.rows⟩ : Mach) m)) fun y19 =>
    some (((decide (y7.2 = 0)) && (y19.getD default)), y7.2)
/-- cmp.Or[gauntlet/api.Errno] -/
def cmp_Or_api_Errno_L1 (N : Nat) (vals : (List Int)) : Nat → Int → Option (Ex (Unit) (Int))
  | 0, _ => none
  | F5 + 1, x6 =>
    bif decide (x6 < (↑vals.length : Int)) then (
    gd (okI vals x6) <|
    bif decide ((ix vals x6) ≠ 0) then (
    some (Ex.rt (ix vals x6))) else (
    gd (in64 (x6 + 1)) <|
    cmp_Or_api_Errno_L1 N vals F5 (x6 + 1))) else (
    some (Ex.go ()))
def cmp_Or_api_Errno (N : Nat) (vals : (List Int)) : Option Int :=
    bd (
    cmp_Or_api_Errno_L1 N vals N 0) fun q2 =>
    Ex.on q2 (fun o1 =>
    some 0) some
/-- math/bits.Mul -/
def math_bits_Mul (N : Nat) (x y : Int) : Option (Int × Int) :=
    gd ((0 ≤ x ∧ x < 18446744073709551616) ∧ 0 ≤ y ∧ y < 18446744073709551616) (some (x * y / 18446744073709551616, x * y % 18446744073709551616))
/-- slices.Repeat[[]int,int] -/
def slices_Repeat_int_o_L1 (N : Nat) : Nat → Int → (List Int) → Option (List Int)
  | 0, _, _ => none
  | F42 + 1, x43, x44 =>
    bif decide (x43 < (↑x44.length : Int)) then (
    gd (okS x44 x43 (↑x44.length : Int)) <|
    gd (okS x44 0 x43) <|
    gd (in64 (x43 + (↑(min (x43.toNat - 0) (x44.length - x43.toNat)) : Int))) <|
    slices_Repeat_int_o_L1 N F42 (x43 + (↑(min (x43.toNat - 0) (x44.length - x43.toNat)) : Int)) (copyL x44 x43.toNat ((x44.drop 0).take (min (x43.toNat - 0) (x44.length - x43.toNat))))) else (
    some x44)
def slices_Repeat_int_o (N : Nat) (x : (List Int)) (count : Int) : Option (List Int) :=
    bif decide (count < 0) then (
    none) else (
    bd (math_bits_Mul N (IntKind.u64.wrap (↑x.length : Int)) (IntKind.u64.wrap count)) fun y2 =>
    bif (decide (0 < y2.1)) || (decide (9223372036854775807 < y2.2)) then (
    none) else (
    gd (in64 y2.2) <|
    gd (okM 8 y2.2) <|
    bd (
    slices_Repeat_int_o_L1 N N (↑(min x.length (mk y2.2 (0 : Int)).length) : Int) (copyL (mk y2.2 (0 : Int)) 0 (x.take (min x.length (mk y2.2 (0 : Int)).length)))) fun o37 =>
    some o37))
/-- gauntlet/walks.Isomorphic -/
def walks_Isomorphic_L1 (N : Nat) (y32 : (List Int)) (y34 : (List Int)) : Nat → Int → (List Int) → Option (List Int)
  | 0, _, _ => none
  | F104 + 1, x105, x106 =>
    bif decide (x105 < (↑y32.length : Int)) then (
    gd (okI y32 x105) <|
    gd (okI y34 x105) <|
    gd (okI x106 (ix y32 x105)) <|
    gd (in64 (x105 + 1)) <|
    walks_Isomorphic_L1 N y32 y34 F104 (x105 + 1) (up x106 (ix y32 x105) (ix y34 x105))) else (
    some x106)
def walks_Isomorphic (N : Nat) (a : Mach) (b : Mach) : Option ((List Int) × Bool × Int) :=
    bd (machines_Check N a) fun y9 =>
    bd (machines_Check N b) fun y11 =>
    bd (cmp_Or_api_Errno N ([y9, y11] : List Int)) fun y13 =>
    bif decide (y13 ≠ 0) then (
    some (([] : (List Int)), false, y13)) else (
    bd (walks_reached N a) fun y32 =>
    bd (walks_reached N b) fun y34 =>
    bd (walks_part N a y32) fun y50 =>
    bd (walks_part N b y34) fun y52 =>
    bd (machines_Same N y50 y52) fun y54 =>
    bif !y54 then (
    some (([] : (List Int)), false, 0)) else (
    bd (slices_Repeat_int_o N ([(-1)] : List Int) (↑a.rows.length : Int)) fun y88 =>
    bd (
    walks_Isomorphic_L1 N y32 y34 N 0 y88) fun o99 =>
    bd (slices_Clip_int N o99) fun y138 =>
    some (y138, true, 0)))
/-- gauntlet/gauntletref04.Same -/
def gauntletref04_Same_L2 (N : Nat) (a : Mach) (b : Mach) (x59 : Int) : Nat → Int → Option (Ex (Unit) (Ex (Unit) (Bool)))
  | 0, _ => none
  | F102 + 1, x103 =>
    gd (okI a.rows x59) <|
    bif decide (x103 < (↑(ix a.rows x59).length : Int)) then (
    gd (okI a.rows x59) <|
    gd (okI (ix a.rows x59) x103) <|
    gd (okI b.rows x59) <|
    gd (okI (ix b.rows x59) x103) <|
    bif decide (¬ (((ix (ix a.rows x59) x103).to) = ((ix (ix b.rows x59) x103).to) ∧ ((ix (ix a.rows x59) x103).out) = ((ix (ix b.rows x59) x103).out))) then (
    some (Ex.rt (Ex.rt false))) else (
    gd (in64 (x103 + 1)) <|
    gauntletref04_Same_L2 N a b x59 F102 (x103 + 1))) else (
    some (Ex.go ()))
def gauntletref04_Same_L1 (N : Nat) (a : Mach) (b : Mach) : Nat → Int → Option (Ex (Unit) (Bool))
  | 0, _ => none
  | F58 + 1, x59 =>
    bif decide (x59 < (↑a.rows.length : Int)) then (
    bd (
    gd (okI a.rows x59) <|
    gd (okI b.rows x59) <|
    bif decide ((↑(ix a.rows x59).length : Int) ≠ (↑(ix b.rows x59).length : Int)) then (
    some (Ex.rt (Ex.rt false))) else (
    gauntletref04_Same_L2 N a b x59 N 0)) fun q68 =>
    Ex.on q68 (fun o67 =>
    gd (in64 (x59 + 1)) <|
    gauntletref04_Same_L1 N a b F58 (x59 + 1)) some) else (
    some (Ex.go ()))
def gauntletref04_Same (N : Nat) (a : Mach) (b : Mach) : Option Bool :=
    bif ((decide (a.inputs ≠ b.inputs)) || (decide (a.outputs ≠ b.outputs))) || (decide ((↑a.rows.length : Int) ≠ (↑b.rows.length : Int))) then (
    some false) else (
    bd (
    gauntletref04_Same_L1 N a b N 0) fun q55 =>
    Ex.on q55 (fun o54 =>
    some true) some)
/-- gauntlet/gauntletlaw06.machine -/
def gauntletlaw06_machine_L1 (N : Nat) (m : Mach) : Nat → Int → Option (Ex (Unit) (Bool))
  | 0, _ => none
  | F52 + 1, x53 =>
    bif decide (x53 < (↑m.rows.length : Int)) then (
    gd (okI m.rows x53) <|
    gd (okI m.rows x53) <|
    bif decide ((↑(ix m.rows x53).length : Int) ≠ (↑(ix m.rows x53).length : Int)) then (
    some (Ex.rt false)) else (
    gd (in64 (x53 + 1)) <|
    gauntletlaw06_machine_L1 N m F52 (x53 + 1))) else (
    some (Ex.go ()))
def gauntletlaw06_machine (N : Nat) (m : Mach) (e : Int) (want : Mach) : Option Bool :=
    bd (gop (true && ((decide (e ≠ 0)) == false)) (gauntletref04_Same N m want)) fun y9 =>
    bif ((decide (e ≠ 0)) || (!(y9.getD default))) || (decide ((↑m.rows.length : Int) ≠ (↑m.rows.length : Int))) then (
    some false) else (
    bd (
    gauntletlaw06_machine_L1 N m N 0) fun q49 =>
    Ex.on q49 (fun o48 =>
    some true) some)
/-- gauntlet/gauntletlaw06.lives -/
def gauntletlaw06_lives (N : Nat) : Option Bool :=
    bd (gauntletlaw06_edge N 2 0) fun y1 =>
    bd (gauntletlaw06_edge N 0 1) fun y7 =>
    bd (gauntletlaw06_edge N 1 0) fun y18 =>
    bd (gauntletlaw06_edge N 2 0) fun y24 =>
    bd (gauntletlaw06_edge N (-1) (-1)) fun y35 =>
    bd (gauntletlaw06_edge N 3 1) fun y41 =>
    bd (gauntletlaw06_edge N 2 0) fun y52 =>
    bd (gauntletlaw06_edge N 0 0) fun y58 =>
    bd (gauntletlaw06_edge N 1 0) fun y92 =>
    bd (gauntletlaw06_edge N 0 1) fun y98 =>
    bd (gauntletlaw06_edge N (-1) (-1)) fun y109 =>
    bd (gauntletlaw06_edge N 2 1) fun y115 =>
    bd (gauntletlaw06_edge N 1 0) fun y126 =>
    bd (gauntletlaw06_edge N 0 0) fun y132 =>
    bd (walks_Reach N (⟨2, 2, ([([(⟨y1.to, y1.out⟩ : Edge), (⟨y7.to, y7.out⟩ : Edge)] : List Edge), ([(⟨y18.to, y18.out⟩ : Edge), (⟨y24.to, y24.out⟩ : Edge)] : List Edge), ([(⟨y35.to, y35.out⟩ : Edge), (⟨y41.to, y41.out⟩ : Edge)] : List Edge), ([(⟨y52.to, y52.out⟩ : Edge), (⟨y58.to, y58.out⟩ : Edge)] : List Edge)] : List (List Edge))⟩ : Mach)) fun y166 =>
    bd (walks_Access N (⟨2, 2, ([([(⟨y1.to, y1.out⟩ : Edge), (⟨y7.to, y7.out⟩ : Edge)] : List Edge), ([(⟨y18.to, y18.out⟩ : Edge), (⟨y24.to, y24.out⟩ : Edge)] : List Edge), ([(⟨y35.to, y35.out⟩ : Edge), (⟨y41.to, y41.out⟩ : Edge)] : List Edge), ([(⟨y52.to, y52.out⟩ : Edge), (⟨y58.to, y58.out⟩ : Edge)] : List Edge)] : List (List Edge))⟩ : Mach)) fun y174 =>
    bd (gauntletlaw06_list N y166.1 y166.2 ([0, 2, 3] : List Int) 0) fun y184 =>
    gd ((true && (((((!y184) || (decide (y174.2.2 ≠ 0))) || (decide ((↑y174.1.length : Int) ≠ 4))) || (decide ((↑y174.2.1.length : Int) ≠ 4))) == false)) = true → okI y174.2.1 0) <|
    gd ((true && ((((((!y184) || (decide (y174.2.2 ≠ 0))) || (decide ((↑y174.1.length : Int) ≠ 4))) || (decide ((↑y174.2.1.length : Int) ≠ 4))) || (!(ix y174.2.1 0))) == false)) = true → okI y174.2.1 1) <|
    gd ((true && (((((((!y184) || (decide (y174.2.2 ≠ 0))) || (decide ((↑y174.1.length : Int) ≠ 4))) || (decide ((↑y174.2.1.length : Int) ≠ 4))) || (!(ix y174.2.1 0))) || (ix y174.2.1 1)) == false)) = true → okI y174.2.1 2) <|
    gd ((true && ((((((((!y184) || (decide (y174.2.2 ≠ 0))) || (decide ((↑y174.1.length : Int) ≠ 4))) || (decide ((↑y174.2.1.length : Int) ≠ 4))) || (!(ix y174.2.1 0))) || (ix y174.2.1 1)) || (!(ix y174.2.1 2))) == false)) = true → okI y174.2.1 3) <|
    gd ((true && (((((((((!y184) || (decide (y174.2.2 ≠ 0))) || (decide ((↑y174.1.length : Int) ≠ 4))) || (decide ((↑y174.2.1.length : Int) ≠ 4))) || (!(ix y174.2.1 0))) || (ix y174.2.1 1)) || (!(ix y174.2.1 2))) || (!(ix y174.2.1 3))) == false)) = true → okI y174.1 0) <|
    bd (gop (true && (((((((((!y184) || (decide (y174.2.2 ≠ 0))) || (decide ((↑y174.1.length : Int) ≠ 4))) || (decide ((↑y174.2.1.length : Int) ≠ 4))) || (!(ix y174.2.1 0))) || (ix y174.2.1 1)) || (!(ix y174.2.1 2))) || (!(ix y174.2.1 3))) == false)) (gauntletlaw06_list N (ix y174.1 0) 0 ([] : (List Int)) 0)) fun y191 =>
    gd ((true && ((((((((((!y184) || (decide (y174.2.2 ≠ 0))) || (decide ((↑y174.1.length : Int) ≠ 4))) || (decide ((↑y174.2.1.length : Int) ≠ 4))) || (!(ix y174.2.1 0))) || (ix y174.2.1 1)) || (!(ix y174.2.1 2))) || (!(ix y174.2.1 3))) || (!(y191.getD default))) == false)) = true → okI y174.1 1) <|
    bd (gop (true && ((((((((((!y184) || (decide (y174.2.2 ≠ 0))) || (decide ((↑y174.1.length : Int) ≠ 4))) || (decide ((↑y174.2.1.length : Int) ≠ 4))) || (!(ix y174.2.1 0))) || (ix y174.2.1 1)) || (!(ix y174.2.1 2))) || (!(ix y174.2.1 3))) || (!(y191.getD default))) == false)) (gauntletlaw06_list N (ix y174.1 1) 0 ([] : (List Int)) 0)) fun y194 =>
    gd ((true && (((((((((((!y184) || (decide (y174.2.2 ≠ 0))) || (decide ((↑y174.1.length : Int) ≠ 4))) || (decide ((↑y174.2.1.length : Int) ≠ 4))) || (!(ix y174.2.1 0))) || (ix y174.2.1 1)) || (!(ix y174.2.1 2))) || (!(ix y174.2.1 3))) || (!(y191.getD default))) || (!(y194.getD default))) == false)) = true → okI y174.1 2) <|
    bd (gop (true && (((((((((((!y184) || (decide (y174.2.2 ≠ 0))) || (decide ((↑y174.1.length : Int) ≠ 4))) || (decide ((↑y174.2.1.length : Int) ≠ 4))) || (!(ix y174.2.1 0))) || (ix y174.2.1 1)) || (!(ix y174.2.1 2))) || (!(ix y174.2.1 3))) || (!(y191.getD default))) || (!(y194.getD default))) == false)) (gauntletlaw06_list N (ix y174.1 2) 0 ([0] : List Int) 0)) fun y197 =>
    gd ((true && ((((((((((((!y184) || (decide (y174.2.2 ≠ 0))) || (decide ((↑y174.1.length : Int) ≠ 4))) || (decide ((↑y174.2.1.length : Int) ≠ 4))) || (!(ix y174.2.1 0))) || (ix y174.2.1 1)) || (!(ix y174.2.1 2))) || (!(ix y174.2.1 3))) || (!(y191.getD default))) || (!(y194.getD default))) || (!(y197.getD default))) == false)) = true → okI y174.1 3) <|
    bd (gop (true && ((((((((((((!y184) || (decide (y174.2.2 ≠ 0))) || (decide ((↑y174.1.length : Int) ≠ 4))) || (decide ((↑y174.2.1.length : Int) ≠ 4))) || (!(ix y174.2.1 0))) || (ix y174.2.1 1)) || (!(ix y174.2.1 2))) || (!(ix y174.2.1 3))) || (!(y191.getD default))) || (!(y194.getD default))) || (!(y197.getD default))) == false)) (gauntletlaw06_list N (ix y174.1 3) 0 ([0, 1] : List Int) 0)) fun y200 =>
    bif (((((((((((!y184) || (decide (y174.2.2 ≠ 0))) || (decide ((↑y174.1.length : Int) ≠ 4))) || (decide ((↑y174.2.1.length : Int) ≠ 4))) || (!(ix y174.2.1 0))) || (ix y174.2.1 1)) || (!(ix y174.2.1 2))) || (!(ix y174.2.1 3))) || (!(y191.getD default))) || (!(y194.getD default))) || (!(y197.getD default))) || (!(y200.getD default)) then (
    some false) else (
    bd (walks_Path N (⟨2, 2, ([([(⟨y1.to, y1.out⟩ : Edge), (⟨y7.to, y7.out⟩ : Edge)] : List Edge), ([(⟨y18.to, y18.out⟩ : Edge), (⟨y24.to, y24.out⟩ : Edge)] : List Edge), ([(⟨y35.to, y35.out⟩ : Edge), (⟨y41.to, y41.out⟩ : Edge)] : List Edge), ([(⟨y52.to, y52.out⟩ : Edge), (⟨y58.to, y58.out⟩ : Edge)] : List Edge)] : List (List Edge))⟩ : Mach) 3 2) fun y349 =>
    bd (walks_Path N (⟨2, 2, ([([(⟨y1.to, y1.out⟩ : Edge), (⟨y7.to, y7.out⟩ : Edge)] : List Edge), ([(⟨y18.to, y18.out⟩ : Edge), (⟨y24.to, y24.out⟩ : Edge)] : List Edge), ([(⟨y35.to, y35.out⟩ : Edge), (⟨y41.to, y41.out⟩ : Edge)] : List Edge), ([(⟨y52.to, y52.out⟩ : Edge), (⟨y58.to, y58.out⟩ : Edge)] : List Edge)] : List (List Edge))⟩ : Mach) 2 2) fun y357 =>
    bd (walks_Path N (⟨2, 2, ([([(⟨y1.to, y1.out⟩ : Edge), (⟨y7.to, y7.out⟩ : Edge)] : List Edge), ([(⟨y18.to, y18.out⟩ : Edge), (⟨y24.to, y24.out⟩ : Edge)] : List Edge), ([(⟨y35.to, y35.out⟩ : Edge), (⟨y41.to, y41.out⟩ : Edge)] : List Edge), ([(⟨y52.to, y52.out⟩ : Edge), (⟨y58.to, y58.out⟩ : Edge)] : List Edge)] : List (List Edge))⟩ : Mach) 2 0) fun y365 =>
    bd (walks_Path N (⟨2, 2, ([([(⟨y1.to, y1.out⟩ : Edge), (⟨y7.to, y7.out⟩ : Edge)] : List Edge), ([(⟨y18.to, y18.out⟩ : Edge), (⟨y24.to, y24.out⟩ : Edge)] : List Edge), ([(⟨y35.to, y35.out⟩ : Edge), (⟨y41.to, y41.out⟩ : Edge)] : List Edge), ([(⟨y52.to, y52.out⟩ : Edge), (⟨y58.to, y58.out⟩ : Edge)] : List Edge)] : List (List Edge))⟩ : Mach) 0 1) fun y373 =>
    bd (walks_Distances N (⟨2, 2, ([([(⟨y1.to, y1.out⟩ : Edge), (⟨y7.to, y7.out⟩ : Edge)] : List Edge), ([(⟨y18.to, y18.out⟩ : Edge), (⟨y24.to, y24.out⟩ : Edge)] : List Edge), ([(⟨y35.to, y35.out⟩ : Edge), (⟨y41.to, y41.out⟩ : Edge)] : List Edge), ([(⟨y52.to, y52.out⟩ : Edge), (⟨y58.to, y58.out⟩ : Edge)] : List Edge)] : List (List Edge))⟩ : Mach) 2) fun y381 =>
    bd (walks_Trim N (⟨2, 2, ([([(⟨y1.to, y1.out⟩ : Edge), (⟨y7.to, y7.out⟩ : Edge)] : List Edge), ([(⟨y18.to, y18.out⟩ : Edge), (⟨y24.to, y24.out⟩ : Edge)] : List Edge), ([(⟨y35.to, y35.out⟩ : Edge), (⟨y41.to, y41.out⟩ : Edge)] : List Edge), ([(⟨y52.to, y52.out⟩ : Edge), (⟨y58.to, y58.out⟩ : Edge)] : List Edge)] : List (List Edge))⟩ : Mach)) fun y389 =>
    bd (walks_Canonical N (⟨2, 2, ([([(⟨y1.to, y1.out⟩ : Edge), (⟨y7.to, y7.out⟩ : Edge)] : List Edge), ([(⟨y18.to, y18.out⟩ : Edge), (⟨y24.to, y24.out⟩ : Edge)] : List Edge), ([(⟨y35.to, y35.out⟩ : Edge), (⟨y41.to, y41.out⟩ : Edge)] : List Edge), ([(⟨y52.to, y52.out⟩ : Edge), (⟨y58.to, y58.out⟩ : Edge)] : List Edge)] : List (List Edge))⟩ : Mach)) fun y403 =>
    bd (walks_IsCanonical N (⟨2, 2, ([([(⟨y1.to, y1.out⟩ : Edge), (⟨y7.to, y7.out⟩ : Edge)] : List Edge), ([(⟨y18.to, y18.out⟩ : Edge), (⟨y24.to, y24.out⟩ : Edge)] : List Edge), ([(⟨y35.to, y35.out⟩ : Edge), (⟨y41.to, y41.out⟩ : Edge)] : List Edge), ([(⟨y52.to, y52.out⟩ : Edge), (⟨y58.to, y58.out⟩ : Edge)] : List Edge)] : List (List Edge))⟩ : Mach)) fun y415 =>
    bd (walks_Isomorphic N (⟨2, 2, ([([(⟨y1.to, y1.out⟩ : Edge), (⟨y7.to, y7.out⟩ : Edge)] : List Edge), ([(⟨y18.to, y18.out⟩ : Edge), (⟨y24.to, y24.out⟩ : Edge)] : List Edge), ([(⟨y35.to, y35.out⟩ : Edge), (⟨y41.to, y41.out⟩ : Edge)] : List Edge), ([(⟨y52.to, y52.out⟩ : Edge), (⟨y58.to, y58.out⟩ : Edge)] : List Edge)] : List (List Edge))⟩ : Mach) (⟨2, 2, ([([(⟨y92.to, y92.out⟩ : Edge), (⟨y98.to, y98.out⟩ : Edge)] : List Edge), ([(⟨y109.to, y109.out⟩ : Edge), (⟨y115.to, y115.out⟩ : Edge)] : List Edge), ([(⟨y126.to, y126.out⟩ : Edge), (⟨y132.to, y132.out⟩ : Edge)] : List Edge)] : List (List Edge))⟩ : Mach)) fun y425 =>
    bd (gauntletlaw06_list N y349.1 y349.2.2 ([0] : List Int) 0) fun y433 =>
    bd (gop (true && ((y433 && y349.2.1) == true)) (gauntletlaw06_list N y357.1 y357.2.2 ([] : (List Int)) 0)) fun y435 =>
    bd (gop (true && ((((y433 && y349.2.1) && (y435.getD default)) && y357.2.1) == true)) (gauntletlaw06_list N y365.1 y365.2.2 ([1, 1] : List Int) 0)) fun y437 =>
    bd (gop (true && ((((((y433 && y349.2.1) && (y435.getD default)) && y357.2.1) && (y437.getD default)) && y365.2.1) == true)) (gauntletlaw06_list N y373.1 y373.2.2 ([] : (List Int)) 0)) fun y439 =>
    bd (gop (true && ((((((((y433 && y349.2.1) && (y435.getD default)) && y357.2.1) && (y437.getD default)) && y365.2.1) && (y439.getD default)) && (!y373.2.1)) == true)) (gauntletlaw06_list N y381.1 y381.2 ([2, (-1), 0, 1] : List Int) 0)) fun y441 =>
    bd (gop (true && (((((((((y433 && y349.2.1) && (y435.getD default)) && y357.2.1) && (y437.getD default)) && y365.2.1) && (y439.getD default)) && (!y373.2.1)) && (y441.getD default)) == true)) (gauntletlaw06_machine N (⟨y389.1.inputs, y389.1.outputs, y389.1.rows⟩ : Mach) y389.2.2 (⟨2, 2, ([([(⟨y92.to, y92.out⟩ : Edge), (⟨y98.to, y98.out⟩ : Edge)] : List Edge), ([(⟨y109.to, y109.out⟩ : Edge), (⟨y115.to, y115.out⟩ : Edge)] : List Edge), ([(⟨y126.to, y126.out⟩ : Edge), (⟨y132.to, y132.out⟩ : Edge)] : List Edge)] : List (List Edge))⟩ : Mach))) fun y443 =>
    bd (gop (true && ((((((((((y433 && y349.2.1) && (y435.getD default)) && y357.2.1) && (y437.getD default)) && y365.2.1) && (y439.getD default)) && (!y373.2.1)) && (y441.getD default)) && (y443.getD default)) == true)) (gauntletlaw06_list N y389.2.1 y389.2.2 ([0, 2, 3] : List Int) 0)) fun y445 =>
    bd (gop (true && (((((((((((y433 && y349.2.1) && (y435.getD default)) && y357.2.1) && (y437.getD default)) && y365.2.1) && (y439.getD default)) && (!y373.2.1)) && (y441.getD default)) && (y443.getD default)) && (y445.getD default)) == true)) (gauntletlaw06_machine N (⟨y403.1.inputs, y403.1.outputs, y403.1.rows⟩ : Mach) y403.2 (⟨2, 2, ([([(⟨y92.to, y92.out⟩ : Edge), (⟨y98.to, y98.out⟩ : Edge)] : List Edge), ([(⟨y109.to, y109.out⟩ : Edge), (⟨y115.to, y115.out⟩ : Edge)] : List Edge), ([(⟨y126.to, y126.out⟩ : Edge), (⟨y132.to, y132.out⟩ : Edge)] : List Edge)] : List (List Edge))⟩ : Mach))) fun y447 =>
    bd (gop (true && ((((((((((((((y433 && y349.2.1) && (y435.getD default)) && y357.2.1) && (y437.getD default)) && y365.2.1) && (y439.getD default)) && (!y373.2.1)) && (y441.getD default)) && (y443.getD default)) && (y445.getD default)) && (y447.getD default)) && (!y415.1)) && (decide (y415.2 = 0))) == true)) (gauntletlaw06_list N y425.1 y425.2.2 ([0, (-1), 1, 2] : List Int) 0)) fun y449 =>
    some (((((((((((((((y433 && y349.2.1) && (y435.getD default)) && y357.2.1) && (y437.getD default)) && y365.2.1) && (y439.getD default)) && (!y373.2.1)) && (y441.getD default)) && (y443.getD default)) && (y445.getD default)) && (y447.getD default)) && (!y415.1)) && (decide (y415.2 = 0))) && (y449.getD default)) && y425.2.1))
/-- (gauntlet/gauntletlaw01.W).Of -/
def gauntletlaw01_W_Of_L1 (N : Nat) (x : WDat) (inputs : Int) : Nat → (List Int) → Int → Option (List Int)
  | 0, _, _ => none
  | F13 + 1, x14, x15 =>
    bif (decide (x15 < (↑x.syms.length : Int))) && (decide (x15 < 12)) then (
    gd (okI x.syms x15) <|
    gd (in64 (ix x.syms x15)) <|
    gd (okR (ix x.syms x15) inputs) <|
    gd (fits 8 x14 ([(ix x.syms x15) % inputs] : List Int)) <|
    gd (in64 (x15 + 1)) <|
    gauntletlaw01_W_Of_L1 N x inputs F13 (x14 ++ ([(ix x.syms x15) % inputs] : List Int)) (x15 + 1)) else (
    some x14)
def gauntletlaw01_W_Of (N : Nat) (x : WDat) (inputs : Int) : Option (List Int) :=
    bd (
    gauntletlaw01_W_Of_L1 N x inputs N ([] : List Int) 0) fun o5 =>
    some o5
/-- gauntlet/gauntletref06.Part -/
def gauntletref06_Part_L3 (N : Nat) (m : Mach) (l_ : (List Int)) (x26 : Int) (x45 : Int) : Nat → Int → Int → Option Int
  | 0, _, _ => none
  | F91 + 1, x92, x93 =>
    bif decide (x93 < (↑l_.length : Int)) then (
    bd (
    gd (okI l_ x93) <|
    bif decide ((ix l_ x93) = ((ix (ix m.rows (ix l_ x26)) x45).to)) then (
    some x93) else (
    some x92)) fun o97 =>
    gd (in64 (x93 + 1)) <|
    gauntletref06_Part_L3 N m l_ x26 x45 F91 o97 (x93 + 1)) else (
    some x92)
def gauntletref06_Part_L2 (N : Nat) (m : Mach) (l_ : (List Int)) (x26 : Int) : Nat → (List Edge) → Int → Option (List Edge)
  | 0, _, _ => none
  | F43 + 1, x44, x45 =>
    bif decide (x45 < m.inputs) then (
    gd (okI l_ x26) <|
    gd (okI m.rows (ix l_ x26)) <|
    gd (okI (ix m.rows (ix l_ x26)) x45) <|
    bd (
    gauntletref06_Part_L3 N m l_ x26 x45 N (-1) 0) fun o88 =>
    gd (fits 16 x44 ([(⟨o88, (ix (ix m.rows (ix l_ x26)) x45).out⟩ : Edge)] : List Edge)) <|
    gd (in64 (x45 + 1)) <|
    gauntletref06_Part_L2 N m l_ x26 F43 (x44 ++ ([(⟨o88, (ix (ix m.rows (ix l_ x26)) x45).out⟩ : Edge)] : List Edge)) (x45 + 1)) else (
    some x44)
def gauntletref06_Part_L1 (N : Nat) (m : Mach) (l_ : (List Int)) : Nat → Int → (List (List Edge)) → Option (List (List Edge))
  | 0, _, _ => none
  | F25 + 1, x26, x27 =>
    bif decide (x26 < (↑l_.length : Int)) then (
    bd (
    gauntletref06_Part_L2 N m l_ x26 N ([] : List Edge) 0) fun o35 =>
    gd (fits 24 x27 ([o35] : List (List Edge))) <|
    gd (in64 (x26 + 1)) <|
    gauntletref06_Part_L1 N m l_ F25 (x26 + 1) (x27 ++ ([o35] : List (List Edge)))) else (
    some x27)
def gauntletref06_Part (N : Nat) (m : Mach) (l_ : (List Int)) : Option Mach :=
    bd (
    gauntletref06_Part_L1 N m l_ N 0 ([] : List (List Edge))) fun o17 =>
    some (⟨m.inputs, m.outputs, o17⟩ : Mach)
/-- gauntlet/gauntletref04.Run -/
def gauntletref04_Run_L1 (N : Nat) (m : Mach) (w_ : (List Int)) : Nat → Int → (List Int) → Int → Option (List Int)
  | 0, _, _, _ => none
  | F13 + 1, x14, x15, x16 =>
    bif decide (x16 < (↑w_.length : Int)) then (
    gd (okI w_ x16) <|
    bd (gauntletref04_Next N m x14 (ix w_ x16)) fun y25 =>
    gd (fits 8 x15 ([y25.out] : List Int)) <|
    gd (in64 (x16 + 1)) <|
    gauntletref04_Run_L1 N m w_ F13 y25.to (x15 ++ ([y25.out] : List Int)) (x16 + 1)) else (
    some x15)
def gauntletref04_Run (N : Nat) (m : Mach) (s : Int) (w_ : (List Int)) : Option (List Int) :=
    bd (
    gauntletref04_Run_L1 N m w_ N s ([] : List Int) 0) fun o5 =>
    some o5
/-- gauntlet/gauntletref06.less -/
def gauntletref06_less_L1 (N : Nat) (a : (List Int)) (b : (List Int)) : Nat → Int → Option (Ex (Unit) (Int))
  | 0, _ => none
  | F7 + 1, x8 =>
    bif decide (x8 < (↑a.length : Int)) then (
    gd (okI a x8) <|
    gd (okI b x8) <|
    bif decide ((ix a x8) ≠ (ix b x8)) then (
    gd (okI a x8) <|
    gd (okI b x8) <|
    bif decide ((ix a x8) < (ix b x8)) then (
    some (Ex.rt 1)) else (
    some (Ex.rt 0))) else (
    gd (in64 (x8 + 1)) <|
    gauntletref06_less_L1 N a b F7 (x8 + 1))) else (
    some (Ex.go ()))
def gauntletref06_less (N : Nat) (a : (List Int)) (b : (List Int)) : Option Int :=
    bif decide ((↑a.length : Int) ≠ (↑b.length : Int)) then (
    bif decide ((↑a.length : Int) < (↑b.length : Int)) then (
    some 1) else (
    some 0)) else (
    bd (
    gauntletref06_less_L1 N a b N 0) fun q4 =>
    Ex.on q4 (fun o3 =>
    some 0) some)
/-- gauntlet/gauntletref06.Order -/
def gauntletref06_Order_L2 (N : Nat) (y7 : (List (List Int)) × (List Bool)) (x26 : List Int) (x27 : Int) : Nat → Int → Option Int
  | 0, _ => none
  | F51 + 1, x52 =>
    gd ((true && ((decide (x52 < (↑x26.length : Int))) == true)) = true → okI x26 x52) <|
    gd ((true && ((decide (x52 < (↑x26.length : Int))) == true)) = true → okI y7.1 (ix x26 x52)) <|
    gd ((true && ((decide (x52 < (↑x26.length : Int))) == true)) = true → okI y7.1 x27) <|
    bd (gop (true && ((decide (x52 < (↑x26.length : Int))) == true)) (gauntletref06_less N (ix y7.1 (ix x26 x52)) (ix y7.1 x27))) fun y58 =>
    bif (decide (x52 < (↑x26.length : Int))) && (decide ((y58.getD default) = 1)) then (
    gd (in64 (x52 + 1)) <|
    gauntletref06_Order_L2 N y7 x26 x27 F51 (x52 + 1)) else (
    some x52)
def gauntletref06_Order_L1 (N : Nat) (y7 : (List (List Int)) × (List Bool)) : Nat → (List Int) → Int → Option (List Int)
  | 0, _, _ => none
  | F25 + 1, x26, x27 =>
    bif decide (x27 < (↑y7.1.length : Int)) then (
    bd (
    gd (okI y7.2 x27) <|
    bif !(ix y7.2 x27) then (
    some x26) else (
    bd (
    gauntletref06_Order_L2 N y7 x26 x27 N 0) fun o48 =>
    gd (okS x26 0 o48) <|
    gd (fits 8 ([] : List Int) (cut x26 0 o48)) <|
    gd (fits 8 (([] : List Int) ++ (cut x26 0 o48)) ([x27] : List Int)) <|
    gd (okS x26 o48 (↑x26.length : Int)) <|
    gd (fits 8 ((([] : List Int) ++ (cut x26 0 o48)) ++ ([x27] : List Int)) (cut x26 o48 (↑x26.length : Int))) <|
    some (((([] : List Int) ++ (cut x26 0 o48)) ++ ([x27] : List Int)) ++ (cut x26 o48 (↑x26.length : Int))))) fun o35 =>
    gd (in64 (x27 + 1)) <|
    gauntletref06_Order_L1 N y7 F25 o35 (x27 + 1)) else (
    some x26)
def gauntletref06_Order (N : Nat) (m : Mach) : Option (List Int) :=
    bd (gauntletref06_Access N m) fun y7 =>
    bd (
    gauntletref06_Order_L1 N y7 N ([] : List Int) 0) fun o17 =>
    some o17
/-- gauntlet/gauntletref06.Canonical -/
def gauntletref06_Canonical (N : Nat) (m : Mach) : Option Mach :=
    bd (gauntletref06_Order N m) fun y7 =>
    bd (gauntletref06_Part N m y7) fun y9 =>
    some (⟨y9.inputs, y9.outputs, y9.rows⟩ : Mach)
/-- gauntlet/gauntletlaw06.WalksCanonical -/
def gauntletlaw06_WalksCanonical_L1 (N : Nat) (y11 : Mach) : Nat → (List Int) → Int → Option (List Int)
  | 0, _, _ => none
  | F173 + 1, x174, x175 =>
    bif decide (x175 < (↑y11.rows.length : Int)) then (
    gd (fits 8 x174 ([x175] : List Int)) <|
    gd (in64 (x175 + 1)) <|
    gauntletlaw06_WalksCanonical_L1 N y11 F173 (x174 ++ ([x175] : List Int)) (x175 + 1)) else (
    some x174)
def gauntletlaw06_WalksCanonical_L2 (N : Nat) (swaps : (List Int)) (y11 : Mach) : Nat → Int → (List Int) → Option (List Int)
  | 0, _, _ => none
  | F208 + 1, x209, x210 =>
    gd (in64 (x209 + 1)) <|
    bif ((decide ((x209 + 1) < (↑swaps.length : Int))) && (decide (x209 < 20))) && (decide (1 < (↑y11.rows.length : Int))) then (
    gd (okI swaps x209) <|
    gd (in64 (ix swaps x209)) <|
    gd (in64 ((↑y11.rows.length : Int) - 1)) <|
    gd (okR (ix swaps x209) ((↑y11.rows.length : Int) - 1)) <|
    gd (in64 ((1 : Int) + ((ix swaps x209) % ((↑y11.rows.length : Int) - 1)))) <|
    gd (in64 (x209 + 1)) <|
    gd (okI swaps (x209 + 1)) <|
    gd (in64 (ix swaps (x209 + 1))) <|
    gd (in64 ((↑y11.rows.length : Int) - 1)) <|
    gd (okR (ix swaps (x209 + 1)) ((↑y11.rows.length : Int) - 1)) <|
    gd (in64 ((1 : Int) + ((ix swaps (x209 + 1)) % ((↑y11.rows.length : Int) - 1)))) <|
    gd (okI x210 ((1 : Int) + ((ix swaps (x209 + 1)) % ((↑y11.rows.length : Int) - 1)))) <|
    gd (okI x210 ((1 : Int) + ((ix swaps x209) % ((↑y11.rows.length : Int) - 1)))) <|
    gd (okI x210 ((1 : Int) + ((ix swaps x209) % ((↑y11.rows.length : Int) - 1)))) <|
    gd (okI x210 ((1 : Int) + ((ix swaps (x209 + 1)) % ((↑y11.rows.length : Int) - 1)))) <|
    gd (in64 (x209 + 2)) <|
    gauntletlaw06_WalksCanonical_L2 N swaps y11 F208 (x209 + 2) (up (up x210 ((1 : Int) + ((ix swaps x209) % ((↑y11.rows.length : Int) - 1))) (ix x210 ((1 : Int) + ((ix swaps (x209 + 1)) % ((↑y11.rows.length : Int) - 1))))) ((1 : Int) + ((ix swaps (x209 + 1)) % ((↑y11.rows.length : Int) - 1))) (ix x210 ((1 : Int) + ((ix swaps x209) % ((↑y11.rows.length : Int) - 1)))))) else (
    some x210)
def gauntletlaw06_WalksCanonical (N : Nat) (x : MDat) (y : WDat) (swaps : (List Int)) : Option Bool :=
    bd (gauntletlaw04_M_Of N x) fun y11 =>
    bd (gauntletlaw01_W_Of N y y11.inputs) fun y23 =>
    bd (walks_Canonical N (⟨y11.inputs, y11.outputs, y11.rows⟩ : Mach)) fun y29 =>
    bd (gauntletref06_Canonical N (⟨y11.inputs, y11.outputs, y11.rows⟩ : Mach)) fun y41 =>
    bd (gauntletlaw06_machine N (⟨y29.1.inputs, y29.1.outputs, y29.1.rows⟩ : Mach) y29.2 y41) fun y43 =>
    bd (gop (true && ((!y43) == false)) (gauntletref04_Run N (⟨y29.1.inputs, y29.1.outputs, y29.1.rows⟩ : Mach) 0 y23)) fun y45 =>
    bd (gop (true && ((!y43) == false)) (gauntletref04_Run N (⟨y11.inputs, y11.outputs, y11.rows⟩ : Mach) 0 y23)) fun y47 =>
    bd (gop (true && ((!y43) == false)) (gauntletref01_Same N (y45.getD default) (y47.getD default))) fun y49 =>
    bif (!y43) || (!(y49.getD default)) then (
    some false) else (
    bd (walks_Canonical N (⟨y29.1.inputs, y29.1.outputs, y29.1.rows⟩ : Mach)) fun y86 =>
    bd (walks_IsCanonical N (⟨y11.inputs, y11.outputs, y11.rows⟩ : Mach)) fun y98 =>
    bd (walks_IsCanonical N (⟨y29.1.inputs, y29.1.outputs, y29.1.rows⟩ : Mach)) fun y104 =>
    bd (gauntletlaw06_machine N (⟨y86.1.inputs, y86.1.outputs, y86.1.rows⟩ : Mach) y86.2 (⟨y29.1.inputs, y29.1.outputs, y29.1.rows⟩ : Mach)) fun y110 =>
    bd (gop (true && (((!y110) || (decide (y98.2 ≠ 0))) == false)) (gauntletref04_Same N (⟨y11.inputs, y11.outputs, y11.rows⟩ : Mach) (⟨y29.1.inputs, y29.1.outputs, y29.1.rows⟩ : Mach))) fun y112 =>
    bif ((((!y110) || (decide (y98.2 ≠ 0))) || (decide (y98.1 ≠ (y112.getD default)))) || (decide (y104.2 ≠ 0))) || (!y104.1) then (
    some false) else (
    bd (
    gauntletlaw06_WalksCanonical_L1 N y11 N ([] : List Int) 0) fun o165 =>
    bd (
    gauntletlaw06_WalksCanonical_L2 N swaps y11 N 0 o165) fun o203 =>
    bd (gauntletref06_Part N (⟨y11.inputs, y11.outputs, y11.rows⟩ : Mach) o203) fun y349 =>
    bd (walks_Canonical N (⟨y349.inputs, y349.outputs, y349.rows⟩ : Mach)) fun y359 =>
    bd (gauntletlaw06_machine N (⟨y359.1.inputs, y359.1.outputs, y359.1.rows⟩ : Mach) y359.2 (⟨y29.1.inputs, y29.1.outputs, y29.1.rows⟩ : Mach)) fun y369 =>
    bd (gop (true && (y369 == true)) (gauntletlaw06_lives N)) fun y371 =>
    some (y369 && (y371.getD default))))
/-- gauntlet/gauntletlaw06.WalksIsomorphic -/
def gauntletlaw06_WalksIsomorphic_L1 (N : Nat) (y13 : Mach) : Nat → (List Int) → Int → Option (List Int)
  | 0, _, _ => none
  | F76 + 1, x77, x78 =>
    bif decide (x78 < (↑y13.rows.length : Int)) then (
    gd (fits 8 x77 ([x78] : List Int)) <|
    gd (in64 (x78 + 1)) <|
    gauntletlaw06_WalksIsomorphic_L1 N y13 F76 (x77 ++ ([x78] : List Int)) (x78 + 1)) else (
    some x77)
def gauntletlaw06_WalksIsomorphic_L2 (N : Nat) (o39 : Int × Int × (List (List Edge))) (y205 : (List Int) × Bool × Int) (y269 : (List (List Int)) × (List Bool)) : Nat → Int → Option (Ex (Unit) (Bool))
  | 0, _ => none
  | F310 + 1, x311 =>
    bif decide (x311 < (↑y205.1.length : Int)) then (
    bd (
    gd (okI y269.2 x311) <|
    bif (ix y269.2 x311) then (
    gd (okI y269.1 x311) <|
    bd (gauntletref04_After N N (⟨o39.1, o39.2.1, o39.2.2⟩ : Mach) 0 (ix y269.1 x311)) fun y325 =>
    some y325) else (
    some (-1))) fun o315 =>
    gd (okI y205.1 x311) <|
    bif decide ((ix y205.1 x311) ≠ o315) then (
    some (Ex.rt false)) else (
    gd (in64 (x311 + 1)) <|
    gauntletlaw06_WalksIsomorphic_L2 N o39 y205 y269 F310 (x311 + 1))) else (
    some (Ex.go ()))
def gauntletlaw06_WalksIsomorphic (N : Nat) (x : MDat) (y : MDat) (swap : (Int × Int)) : Option Bool :=
    bd (gauntletlaw04_M_Of N x) fun y13 =>
    bd (gauntletlaw04_M_Of N y) fun y15 =>
    bd (
    gd (okR swap.1 2) <|
    bif (decide ((swap.1 % 2) = 0)) && (decide (1 < (↑y13.rows.length : Int))) then (
    bd (
    gauntletlaw06_WalksIsomorphic_L1 N y13 N ([] : List Int) 0) fun o68 =>
    gd (in64 swap.1) <|
    gd (in64 ((↑o68.length : Int) - 1)) <|
    gd (okR swap.1 ((↑o68.length : Int) - 1)) <|
    gd (in64 ((1 : Int) + (swap.1 % ((↑o68.length : Int) - 1)))) <|
    gd (in64 swap.2) <|
    gd (in64 ((↑o68.length : Int) - 1)) <|
    gd (okR swap.2 ((↑o68.length : Int) - 1)) <|
    gd (in64 ((1 : Int) + (swap.2 % ((↑o68.length : Int) - 1)))) <|
    gd (okI o68 ((1 : Int) + (swap.2 % ((↑o68.length : Int) - 1)))) <|
    gd (okI o68 ((1 : Int) + (swap.1 % ((↑o68.length : Int) - 1)))) <|
    gd (okI o68 ((1 : Int) + (swap.1 % ((↑o68.length : Int) - 1)))) <|
    gd (okI o68 ((1 : Int) + (swap.2 % ((↑o68.length : Int) - 1)))) <|
    bd (gauntletref06_Part N (⟨y13.inputs, y13.outputs, y13.rows⟩ : Mach) (up (up o68 ((1 : Int) + (swap.1 % ((↑o68.length : Int) - 1))) (ix o68 ((1 : Int) + (swap.2 % ((↑o68.length : Int) - 1))))) ((1 : Int) + (swap.2 % ((↑o68.length : Int) - 1))) (ix o68 ((1 : Int) + (swap.1 % ((↑o68.length : Int) - 1)))))) fun y194 =>
    some (y194.inputs, y194.outputs, y194.rows)) else (
    some (y15.inputs, y15.outputs, y15.rows))) fun o39 =>
    bd (walks_Isomorphic N (⟨y13.inputs, y13.outputs, y13.rows⟩ : Mach) (⟨o39.1, o39.2.1, o39.2.2⟩ : Mach)) fun y205 =>
    bd (gauntletref06_Canonical N (⟨y13.inputs, y13.outputs, y13.rows⟩ : Mach)) fun y213 =>
    bd (gauntletref06_Canonical N (⟨o39.1, o39.2.1, o39.2.2⟩ : Mach)) fun y215 =>
    bd (gauntletref04_Same N y213 y215) fun y217 =>
    bif (decide (y205.2.2 ≠ 0)) || (decide (y205.2.1 ≠ y217)) then (
    some false) else (
    bif !y217 then (
    bd (gop (true && ((decide ((↑y205.1.length : Int) = 0)) == true)) (gauntletlaw06_lives N)) fun y251 =>
    some ((decide ((↑y205.1.length : Int) = 0)) && (y251.getD default))) else (
    bd (gauntletref06_Access N (⟨y13.inputs, y13.outputs, y13.rows⟩ : Mach)) fun y269 =>
    bif (decide ((↑y205.1.length : Int) ≠ (↑y269.1.length : Int))) || (decide ((↑y205.1.length : Int) ≠ (↑y205.1.length : Int))) then (
    some false) else (
    bd (
    gauntletlaw06_WalksIsomorphic_L2 N o39 y205 y269 N 0) fun q307 =>
    Ex.on q307 (fun o306 =>
    bd (gauntletlaw06_lives N) fun y359 =>
    some y359) some)))
/-- gauntlet/gauntletref04.Check -/
def gauntletref04_Check_L2 (N : Nat) (m : Mach) (x72 : Int) : Nat → Int → Option (Ex (Unit) (Ex (Unit) (Int)))
  | 0, _ => none
  | F106 + 1, x107 =>
    bif decide (x107 < m.inputs) then (
    bd (
    gd (okI m.rows x72) <|
    gd (okI (ix m.rows x72) x107) <|
    bif (decide (((ix (ix m.rows x72) x107).to) = (-1))) && (decide (((ix (ix m.rows x72) x107).out) = (-1))) then (
    some (Ex.go ())) else (
    bif (((decide (((ix (ix m.rows x72) x107).to) < 0)) || (decide ((↑m.rows.length : Int) ≤ ((ix (ix m.rows x72) x107).to)))) || (decide (((ix (ix m.rows x72) x107).out) < 0))) || (decide (m.outputs ≤ ((ix (ix m.rows x72) x107).out))) then (
    some (Ex.rt (Ex.rt (Ex.rt 1)))) else (
    some (Ex.go ())))) fun q116 =>
    Ex.on q116 (fun o115 =>
    gd (in64 (x107 + 1)) <|
    gauntletref04_Check_L2 N m x72 F106 (x107 + 1)) some) else (
    some (Ex.go ()))
def gauntletref04_Check_L1 (N : Nat) (m : Mach) : Nat → Int → Option (Ex (Unit) (Int))
  | 0, _ => none
  | F71 + 1, x72 =>
    bif decide (x72 < (↑m.rows.length : Int)) then (
    bd (
    gd (okI m.rows x72) <|
    bif decide ((↑(ix m.rows x72).length : Int) ≠ m.inputs) then (
    some (Ex.rt (Ex.rt 1))) else (
    gauntletref04_Check_L2 N m x72 N 0)) fun q81 =>
    Ex.on q81 (fun o80 =>
    gd (in64 (x72 + 1)) <|
    gauntletref04_Check_L1 N m F71 (x72 + 1)) some) else (
    some (Ex.go ()))
def gauntletref04_Check (N : Nat) (m : Mach) : Option Int :=
    bif ((decide (16 < m.inputs)) || (decide (16 < m.outputs))) || (decide (64 < (↑m.rows.length : Int))) then (
    some 3) else (
    bif ((decide (m.inputs < 1)) || (decide (m.outputs < 1))) || (decide ((↑m.rows.length : Int) = 0)) then (
    some 1) else (
    bd (
    gauntletref04_Check_L1 N m N 0) fun q68 =>
    Ex.on q68 (fun o67 =>
    some 0) some))
/-- gauntlet/gauntletlaw06.WalksErrors -/
def gauntletlaw06_WalksErrors_L1 (N : Nat) (m : Mach) : Nat → Int → Option (Ex (Unit) (Bool))
  | 0, _ => none
  | F22 + 1, x23 =>
    bif decide (x23 < (↑m.rows.length : Int)) then (
    gd (okI m.rows x23) <|
    bif decide (20 < (↑(ix m.rows x23).length : Int)) then (
    some (Ex.rt true)) else (
    gd (in64 (x23 + 1)) <|
    gauntletlaw06_WalksErrors_L1 N m F22 (x23 + 1))) else (
    some (Ex.go ()))
def gauntletlaw06_WalksErrors (N : Nat) (m : Mach) (x : MDat) (z : (Int × Int)) : Option Bool :=
    bif decide (70 < (↑m.rows.length : Int)) then (
    some true) else (
    bd (
    gauntletlaw06_WalksErrors_L1 N m N 0) fun q19 =>
    Ex.on q19 (fun o18 =>
    bd (gauntletref04_Check N m) fun y50 =>
    bd (
    bif (decide (y50 = 0)) && ((decide (z.1 < 0)) || (decide ((↑m.rows.length : Int) ≤ z.1))) then (
    some 1) else (
    some y50)) fun o56 =>
    bd (walks_Distances N m z.1) fun y101 =>
    bif (decide (y101.2 ≠ o56)) || ((decide (o56 ≠ 0)) && (decide ((↑y101.1.length : Int) ≠ 0))) then (
    some false) else (
    bd (
    bif (decide (o56 = 0)) && ((decide (z.2 < 0)) || (decide ((↑m.rows.length : Int) ≤ z.2))) then (
    some 1) else (
    some o56)) fun o136 =>
    bd (walks_Path N m z.1 z.2) fun y185 =>
    bif (decide (y185.2.2 ≠ o136)) || ((decide (o136 ≠ 0)) && ((decide ((↑y185.1.length : Int) ≠ 0)) || y185.2.1)) then (
    some false) else (
    bd (walks_Access N m) fun y228 =>
    bd (walks_Reach N m) fun y240 =>
    bd (walks_Trim N m) fun y250 =>
    bd (walks_Canonical N m) fun y266 =>
    bd (walks_IsCanonical N m) fun y280 =>
    bd (gauntletlaw04_M_Of N x) fun y286 =>
    bd (walks_Isomorphic N y286 m) fun y288 =>
    bif (((((decide (y228.2.2 ≠ y50)) || (decide (y240.2 ≠ y50))) || (decide (y250.2.2 ≠ y50))) || (decide (y266.2 ≠ y50))) || (decide (y280.2 ≠ y50))) || (decide (y288.2.2 ≠ y50)) then (
    some false) else (
    gd ((true && ((decide (y50 = 0)) == false)) = true → in64 ((↑y228.1.length : Int) + (↑y228.2.1.length : Int))) <|
    gd ((true && ((decide (y50 = 0)) == false)) = true → in64 (((↑y228.1.length : Int) + (↑y228.2.1.length : Int)) + (↑y240.1.length : Int))) <|
    gd ((true && ((decide (y50 = 0)) == false)) = true → in64 ((((↑y228.1.length : Int) + (↑y228.2.1.length : Int)) + (↑y240.1.length : Int)) + (↑y250.1.rows.length : Int))) <|
    gd ((true && ((decide (y50 = 0)) == false)) = true → in64 (((((↑y228.1.length : Int) + (↑y228.2.1.length : Int)) + (↑y240.1.length : Int)) + (↑y250.1.rows.length : Int)) + (↑y250.2.1.length : Int))) <|
    gd ((true && ((decide (y50 = 0)) == false)) = true → in64 ((((((↑y228.1.length : Int) + (↑y228.2.1.length : Int)) + (↑y240.1.length : Int)) + (↑y250.1.rows.length : Int)) + (↑y250.2.1.length : Int)) + (↑y266.1.rows.length : Int))) <|
    gd ((true && ((decide (y50 = 0)) == false)) = true → in64 (((((((↑y228.1.length : Int) + (↑y228.2.1.length : Int)) + (↑y240.1.length : Int)) + (↑y250.1.rows.length : Int)) + (↑y250.2.1.length : Int)) + (↑y266.1.rows.length : Int)) + (↑y288.1.length : Int))) <|
    bd (gop (true && (((decide (y50 = 0)) || (((decide ((((((((↑y228.1.length : Int) + (↑y228.2.1.length : Int)) + (↑y240.1.length : Int)) + (↑y250.1.rows.length : Int)) + (↑y250.2.1.length : Int)) + (↑y266.1.rows.length : Int)) + (↑y288.1.length : Int)) = 0)) && (!y280.1)) && (!y288.2.1))) == true)) (gauntletlaw06_lives N)) fun y383 =>
    some (((decide (y50 = 0)) || (((decide ((((((((↑y228.1.length : Int) + (↑y228.2.1.length : Int)) + (↑y240.1.length : Int)) + (↑y250.1.rows.length : Int)) + (↑y250.2.1.length : Int)) + (↑y266.1.rows.length : Int)) + (↑y288.1.length : Int)) = 0)) && (!y280.1)) && (!y288.2.1))) && (y383.getD default)))))) some)
/-- gauntlet/gauntletlaw06.number -/
def gauntletlaw06_number (N : Nat) (l_ : (List Int)) (k : Int) : Option Int :=
    bif decide (k < (↑l_.length : Int)) then (
    gd (okI l_ k) <|
    gd (in64 (ix l_ k)) <|
    some (ix l_ k)) else (
    some 0)
/-- (gauntlet/gauntletlaw06.C).Of -/
def gauntletlaw06_C_Of_L2 (N : Nat) (x : Sgauntletlaw06_C) (x40 : Int) : Nat → (List Edge) → Int → Option (List Edge)
  | 0, _, _ => none
  | F58 + 1, x59, x60 =>
    bif decide (x60 < ((1 : Int) + (x.f_Inputs % 3))) then (
    gd (in64 (x40 * ((1 : Int) + (x.f_Inputs % 3)))) <|
    gd (in64 ((x40 * ((1 : Int) + (x.f_Inputs % 3))) + x60)) <|
    bd (gauntletlaw06_number N x.f_Edges ((x40 * ((1 : Int) + (x.f_Inputs % 3))) + x60)) fun y74 =>
    gd (okQ y74 ((1 : Int) + (x.f_States % 6))) <|
    gd (okR (y74 / ((1 : Int) + (x.f_States % 6))) ((1 : Int) + (x.f_Outputs % 3))) <|
    gd (fits 16 x59 ([(⟨(-1), (y74 / ((1 : Int) + (x.f_States % 6))) % ((1 : Int) + (x.f_Outputs % 3))⟩ : Edge)] : List Edge)) <|
    gd (in64 (x60 + 1)) <|
    gauntletlaw06_C_Of_L2 N x x40 F58 (x59 ++ ([(⟨(-1), (y74 / ((1 : Int) + (x.f_States % 6))) % ((1 : Int) + (x.f_Outputs % 3))⟩ : Edge)] : List Edge)) (x60 + 1)) else (
    some x59)
def gauntletlaw06_C_Of_L1 (N : Nat) (x : Sgauntletlaw06_C) : Nat → Int → (List (List Edge)) → Option (List (List Edge))
  | 0, _, _ => none
  | F39 + 1, x40, x41 =>
    bif decide (x40 < ((1 : Int) + (x.f_States % 6))) then (
    bd (
    gauntletlaw06_C_Of_L2 N x x40 N ([] : List Edge) 0) fun o50 =>
    gd (fits 24 x41 [o50]) <|
    gd (in64 (x40 + 1)) <|
    gauntletlaw06_C_Of_L1 N x F39 (x40 + 1) (x41 ++ [o50])) else (
    some x41)
def gauntletlaw06_C_Of_L4 (N : Nat) (x : Sgauntletlaw06_C) (x139 : Int) (x140 : List (List Edge)) : Nat → (List Int) → Int → Option (List Int)
  | 0, _, _ => none
  | F155 + 1, x156, x157 =>
    gd (in64 (x139 * ((1 : Int) + (x.f_Inputs % 3)))) <|
    bif decide (x157 < (x139 * ((1 : Int) + (x.f_Inputs % 3)))) then (
    bd (
    gd (okQ x157 ((1 : Int) + (x.f_Inputs % 3))) <|
    gd (okI x140 (x157 / ((1 : Int) + (x.f_Inputs % 3)))) <|
    gd (okR x157 ((1 : Int) + (x.f_Inputs % 3))) <|
    gd (okI (ix x140 (x157 / ((1 : Int) + (x.f_Inputs % 3)))) (x157 % ((1 : Int) + (x.f_Inputs % 3)))) <|
    bif decide (((ix (ix x140 (x157 / ((1 : Int) + (x.f_Inputs % 3)))) (x157 % ((1 : Int) + (x.f_Inputs % 3)))).to) < 0) then (
    gd (fits 8 x156 ([x157] : List Int)) <|
    some (x156 ++ ([x157] : List Int))) else (
    some x156)) fun o166 =>
    gd (in64 (x157 + 1)) <|
    gauntletlaw06_C_Of_L4 N x x139 x140 F155 o166 (x157 + 1)) else (
    some x156)
def gauntletlaw06_C_Of_L3 (N : Nat) (x : Sgauntletlaw06_C) : Nat → Int → (List (List Edge)) → Option (List (List Edge))
  | 0, _, _ => none
  | F138 + 1, x139, x140 =>
    bif decide (x139 < ((1 : Int) + (x.f_States % 6))) then (
    bd (
    gauntletlaw06_C_Of_L4 N x x139 x140 N ([] : List Int) 0) fun o147 =>
    gd (okI o147 0) <|
    bd (
    gd (in64 (x139 - 1)) <|
    bif decide ((x139 - 1) < (↑x.f_Tree.length : Int)) then (
    gd (in64 (x139 - 1)) <|
    gd (okI x.f_Tree (x139 - 1)) <|
    gd (in64 (ix x.f_Tree (x139 - 1))) <|
    gd (okR (ix x.f_Tree (x139 - 1)) (↑o147.length : Int)) <|
    gd (okI o147 ((ix x.f_Tree (x139 - 1)) % (↑o147.length : Int))) <|
    some (ix o147 ((ix x.f_Tree (x139 - 1)) % (↑o147.length : Int)))) else (
    some (ix o147 0))) fun o239 =>
    gd (okQ o239 ((1 : Int) + (x.f_Inputs % 3))) <|
    gd (okI x140 (o239 / ((1 : Int) + (x.f_Inputs % 3)))) <|
    gd (okR o239 ((1 : Int) + (x.f_Inputs % 3))) <|
    gd (okI (ix x140 (o239 / ((1 : Int) + (x.f_Inputs % 3)))) (o239 % ((1 : Int) + (x.f_Inputs % 3)))) <|
    gd (in64 (x139 + 1)) <|
    gauntletlaw06_C_Of_L3 N x F138 (x139 + 1) (up x140 (o239 / ((1 : Int) + (x.f_Inputs % 3))) (up (ix x140 (o239 / ((1 : Int) + (x.f_Inputs % 3)))) (o239 % ((1 : Int) + (x.f_Inputs % 3))) (⟨x139, (ix (ix x140 (o239 / ((1 : Int) + (x.f_Inputs % 3)))) (o239 % ((1 : Int) + (x.f_Inputs % 3)))).out⟩ : Edge)))) else (
    some x140)
def gauntletlaw06_C_Of_L6 (N : Nat) (x : Sgauntletlaw06_C) (x325 : Int) : Nat → Int → (List (List Edge)) → Option (List (List Edge))
  | 0, _, _ => none
  | F339 + 1, x340, x341 =>
    bif decide (x340 < ((1 : Int) + (x.f_Inputs % 3))) then (
    bd (
    gd (okI x341 x325) <|
    gd (okI (ix x341 x325) x340) <|
    bif decide (((ix (ix x341 x325) x340).to) < 0) then (
    gd (okI x341 x325) <|
    gd (in64 (x325 * ((1 : Int) + (x.f_Inputs % 3)))) <|
    gd (in64 ((x325 * ((1 : Int) + (x.f_Inputs % 3))) + x340)) <|
    bd (gauntletlaw06_number N x.f_Edges ((x325 * ((1 : Int) + (x.f_Inputs % 3))) + x340)) fun y380 =>
    gd (okR y380 ((1 : Int) + (x.f_States % 6))) <|
    gd (okI (ix x341 x325) x340) <|
    some (up x341 x325 (up (ix x341 x325) x340 (⟨y380 % ((1 : Int) + (x.f_States % 6)), (ix (ix x341 x325) x340).out⟩ : Edge)))) else (
    some x341)) fun o348 =>
    gd (in64 (x340 + 1)) <|
    gauntletlaw06_C_Of_L6 N x x325 F339 (x340 + 1) o348) else (
    some x341)
def gauntletlaw06_C_Of_L5 (N : Nat) (x : Sgauntletlaw06_C) : Nat → Int → (List (List Edge)) → Option (List (List Edge))
  | 0, _, _ => none
  | F324 + 1, x325, x326 =>
    bif decide (x325 < ((1 : Int) + (x.f_States % 6))) then (
    bd (
    gauntletlaw06_C_Of_L6 N x x325 N 0 x326) fun o333 =>
    gd (in64 (x325 + 1)) <|
    gauntletlaw06_C_Of_L5 N x F324 (x325 + 1) o333) else (
    some x326)
def gauntletlaw06_C_Of (N : Nat) (x : Sgauntletlaw06_C) : Option Mach :=
    gd (okR x.f_States 6) <|
    gd (in64 (x.f_States % 6)) <|
    gd (in64 ((1 : Int) + (x.f_States % 6))) <|
    gd (okR x.f_Inputs 3) <|
    gd (in64 (x.f_Inputs % 3)) <|
    gd (in64 ((1 : Int) + (x.f_Inputs % 3))) <|
    gd (okR x.f_Outputs 3) <|
    gd (in64 (x.f_Outputs % 3)) <|
    gd (in64 ((1 : Int) + (x.f_Outputs % 3))) <|
    bd (
    gauntletlaw06_C_Of_L1 N x N 0 ([] : List (List Edge))) fun o30 =>
    bd (
    gauntletlaw06_C_Of_L3 N x N 1 o30) fun o132 =>
    bd (
    gauntletlaw06_C_Of_L5 N x N 0 o132) fun o318 =>
    some (⟨(1 : Int) + (x.f_Inputs % 3), (1 : Int) + (x.f_Outputs % 3), o318⟩ : Mach)
/-- gauntlet/gauntletref04.Defined -/
def gauntletref04_Defined_L2 (N : Nat) (m : Mach) (x10 : Int) : Nat → Int → Int → Option Int
  | 0, _, _ => none
  | F21 + 1, x22, x23 =>
    bif decide (x23 < m.inputs) then (
    bd (
    gd (okI m.rows x10) <|
    gd (okI (ix m.rows x10) x23) <|
    bif decide (0 ≤ ((ix (ix m.rows x10) x23).to)) then (
    gd (in64 (x22 + 1)) <|
    some (x22 + 1)) else (
    some x22)) fun o31 =>
    gd (in64 (x23 + 1)) <|
    gauntletref04_Defined_L2 N m x10 F21 o31 (x23 + 1)) else (
    some x22)
def gauntletref04_Defined_L1 (N : Nat) (m : Mach) : Nat → Int → Int → Option Int
  | 0, _, _ => none
  | F8 + 1, x9, x10 =>
    bif decide (x10 < (↑m.rows.length : Int)) then (
    bd (
    gauntletref04_Defined_L2 N m x10 N x9 0) fun o18 =>
    gd (in64 (x10 + 1)) <|
    gauntletref04_Defined_L1 N m F8 o18 (x10 + 1)) else (
    some x9)
def gauntletref04_Defined (N : Nat) (m : Mach) : Option Int :=
    bd (
    gauntletref04_Defined_L1 N m N 0 0) fun o5 =>
    some o5
/-- gauntlet/gauntletref04.Complete -/
def gauntletref04_Complete (N : Nat) (m : Mach) : Option Bool :=
    bd (gauntletref04_Defined N m) fun y5 =>
    gd (in64 ((↑m.rows.length : Int) * m.inputs)) <|
    some (decide (y5 = ((↑m.rows.length : Int) * m.inputs)))
/-- gauntlet/gauntletlaw06.WalksC -/
def gauntletlaw06_WalksC (N : Nat) (x : Sgauntletlaw06_C) : Option Bool :=
    bd (gauntletlaw06_C_Of N x) fun y7 =>
    bd (walks_Reach N (⟨y7.inputs, y7.outputs, y7.rows⟩ : Mach)) fun y17 =>
    bd (gauntletref04_Check N (⟨y7.inputs, y7.outputs, y7.rows⟩ : Mach)) fun y25 =>
    bd (gop (true && ((decide (y25 = 0)) == true)) (gauntletref04_Complete N (⟨y7.inputs, y7.outputs, y7.rows⟩ : Mach))) fun y27 =>
    bd (gop (true && (((((decide (y25 = 0)) && (y27.getD default)) && (decide (y17.2 = 0))) && (decide ((↑y17.1.length : Int) = (↑y7.rows.length : Int)))) == true)) (gauntletlaw06_lives N)) fun y29 =>
    some (((((decide (y25 = 0)) && (y27.getD default)) && (decide (y17.2 = 0))) && (decide ((↑y17.1.length : Int) = (↑y7.rows.length : Int)))) && (y29.getD default))
end GV
end Go.Proofs.Ytncblcdhmcmkmaa
