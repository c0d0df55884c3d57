import Derived.Test.YtkcccdcloealfaaShTypes
set_option linter.unusedVariables false
set_option linter.unusedSimpArgs false
namespace Go.Proofs.Ytkcccdcloealfaa
namespace GV
set_option maxRecDepth 100000
def yl (N : Nat) (x : MDat) (x39 : Int) : Nat → (List Edge) → Int → Option (List Edge)
  | 0, _, _ => none
  | F56 + 1, x57, x58 =>
    bif decide (x58 < ((1 : Int) + (x.ins % 3))) then (
    bd (
    bd (
    gd (in64 (x39 * ((1 : Int) + (x.ins % 3)))) <|
    gd (in64 ((x39 * ((1 : Int) + (x.ins % 3))) + x58)) <|
    bif decide (((x39 * ((1 : Int) + (x.ins % 3))) + x58) < (↑x.edges.length : Int)) then (
    gd (okI x.edges ((x39 * ((1 : Int) + (x.ins % 3))) + x58)) <|
    gd (in64 (ix x.edges ((x39 * ((1 : Int) + (x.ins % 3))) + x58))) <|
    some (ix x.edges ((x39 * ((1 : Int) + (x.ins % 3))) + x58))) else (
    some 0)) fun o72 =>
    gd ((true && (x.part == true)) = true → okR o72 4) <|
    bif x.part && (decide ((o72 % 4) = 3)) then (
    gd (fits 16 x57 ([(⟨(-1), (-1)⟩ : Edge)] : List Edge)) <|
    some (x57 ++ ([(⟨(-1), (-1)⟩ : Edge)] : List Edge))) else (
    gd (okQ o72 4) <|
    gd (okR (o72 / 4) ((1 : Int) + (x.states % 6))) <|
    gd (okQ o72 4) <|
    gd (okQ (o72 / 4) ((1 : Int) + (x.states % 6))) <|
    gd (okR ((o72 / 4) / ((1 : Int) + (x.states % 6))) ((1 : Int) + (x.outs % 3))) <|
    gd (fits 16 x57 ([(⟨(o72 / 4) % ((1 : Int) + (x.states % 6)), ((o72 / 4) / ((1 : Int) + (x.states % 6))) % ((1 : Int) + (x.outs % 3))⟩ : Edge)] : List Edge)) <|
    some (x57 ++ ([(⟨(o72 / 4) % ((1 : Int) + (x.states % 6)), ((o72 / 4) / ((1 : Int) + (x.states % 6))) % ((1 : Int) + (x.outs % 3))⟩ : Edge)] : List Edge)))) fun o66 =>
    gd (in64 (x58 + 1)) <|
    yl N x x39 F56 o66 (x58 + 1)) else (
    some x57)
def xe (N : Nat) (x : MDat) : Nat → Int → (List (List Edge)) → Option (List (List Edge))
  | 0, _, _ => none
  | F38 + 1, x39, x40 =>
    bif decide (x39 < ((1 : Int) + (x.states % 6))) then (
    bd (
    yl N x x39 N ([] : List Edge) 0) fun o48 =>
    gd (fits 24 x40 ([o48] : List (List Edge))) <|
    gd (in64 (x39 + 1)) <|
    xe N x F38 (x39 + 1) (x40 ++ ([o48] : List (List Edge)))) else (
    some x40)
def dx (N : Nat) (x : MDat) : Option Mach :=
    gd (okR x.states 6) <|
    gd (in64 (x.states % 6)) <|
    gd (in64 ((1 : Int) + (x.states % 6))) <|
    gd (okR x.ins 3) <|
    gd (in64 (x.ins % 3)) <|
    gd (in64 ((1 : Int) + (x.ins % 3))) <|
    gd (okR x.outs 3) <|
    gd (in64 (x.outs % 3)) <|
    gd (in64 ((1 : Int) + (x.outs % 3))) <|
    bd (
    xe N x N 0 ([] : List (List Edge))) fun o30 =>
    some (⟨(1 : Int) + (x.ins % 3), (1 : Int) + (x.outs % 3), o30⟩ : Mach)
def uf (N : Nat) (s : (List Edge)) (f : Edge → Option Bool) : Nat → Int → Option (Ex (Unit) (Int))
  | 0, _ => none
  | F5 + 1, x6 =>
    bif decide (x6 < (↑s.length : Int)) then (
    gd (okI s x6) <|
    bd (f (ix s x6)) fun y15 =>
    bif y15 then (
    some (Ex.rt x6)) else (
    gd (in64 (x6 + 1)) <|
    uf N s f F5 (x6 + 1))) else (
    some (Ex.go ()))
def pg (N : Nat) (s : (List Edge)) (f : Edge → Option Bool) : Option Int :=
    bd (
    uf N s f N 0) fun q2 =>
    Ex.on q2 (fun o1 =>
    some (-1)) some
def gq (N : Nat) (s : (List Edge)) (f : Edge → Option Bool) : Option Bool :=
    bd (pg N s f) fun y1 =>
    some (decide (0 ≤ y1))
def z2v (N : Nat) : Option Edge :=
    some (⟨(-1), (-1)⟩ : Edge)
def z5u (N : Nat) (m : Mach) (x : Edge) : Option Bool :=
    bd (z2v N) fun y9 =>
    some ((decide (x.to = y9.to ∧ x.out = y9.out)) || ((((decide (0 ≤ x.to)) && (decide (x.to < (↑m.rows.length : Int)))) && (decide (0 ≤ x.out))) && (decide (x.out < m.outputs))))
def z2s (N : Nat) (x : Edge) (p0_ : Mach) : Option Bool :=
    bd (z5u N p0_ x) fun y9 =>
    some (!y9)
def bi (N : Nat) (m : Mach) : Nat → Int → Option (Ex (Unit) (Int))
  | 0, _ => none
  | F75 + 1, x76 =>
    bif decide (x76 < (↑m.rows.length : Int)) then (
    gd (okI m.rows x76) <|
    bd (gop (true && ((decide ((↑(ix m.rows x76).length : Int) ≠ m.inputs)) == false)) (gq N (ix m.rows x76) (fun z0 => z2s N z0 m))) fun y85 =>
    bif (decide ((↑(ix m.rows x76).length : Int) ≠ m.inputs)) || (y85.getD default) then (
    some (Ex.rt 1)) else (
    gd (in64 (x76 + 1)) <|
    bi N m F75 (x76 + 1))) else (
    some (Ex.go ()))
def uw (N : Nat) (m : Mach) : Option Int :=
    bif ((decide (16 < m.inputs)) || (decide (16 < m.outputs))) || (decide (64 < (↑m.rows.length : Int))) then (
    some 3) else (
    bif ((decide (m.inputs < 1)) || (decide (m.outputs < 1))) || (decide ((↑m.rows.length : Int) < 1)) then (
    some 1) else (
    bd (
    bi N m N 0) fun q68 =>
    Ex.on q68 (fun o67 =>
    some 0) some))
def z1x (N : Nat) (m : Mach) : Option Mach :=
    some m
def gp (N : Nat) (m : Mach) (p : (List Int)) (s : Int) : Nat → Int → (Arr 16 (Int × Int)) → Option (Arr 16 (Int × Int))
  | 0, _, _ => none
  | F21 + 1, x22, x23 =>
    bif decide (x22 < (↑(ix m.rows s).length : Int)) then (
    bd (
    gd (okI (ix m.rows s) x22) <|
    gd (okI x23.1 x22) <|
    bif decide (((ix (ix m.rows s) x22).to) ≠ (-1)) then (
    gd (okI p ((ix (ix m.rows s) x22).to)) <|
    gd (okI (z04 x23 x22 (((ix (ix m.rows s) x22).out, (-1)) : (Int × Int))).1 x22) <|
    some (z04 (z04 x23 x22 (((ix (ix m.rows s) x22).out, (-1)) : (Int × Int))) x22 (((ix (z04 x23 x22 (((ix (ix m.rows s) x22).out, (-1)) : (Int × Int))).1 x22).1, (ix p ((ix (ix m.rows s) x22).to))) : (Int × Int)))) else (
    some (z04 x23 x22 (((ix (ix m.rows s) x22).out, (-1)) : (Int × Int))))) fun o27 =>
    gd (in64 (x22 + 1)) <|
    gp N m p s F21 (x22 + 1) o27) else (
    some x23)
def z1z (N : Nat) (m : Mach) (p : (List Int)) (s : Int) : Option (Arr 16 (Int × Int)) :=
    bd (
    gd (okI m.rows s) <|
    gp N m p s N 0 (z5j 16 (List.replicate 16 (((0 : Int), (0 : Int)) : (Int × Int))))) fun o9 =>
    some o9
def xz (N : Nat) (m : Mach) (p : (List Int)) : Nat → Int → (List (Srefines_key × Int)) → (List Int) → Option (List Int)
  | 0, _, _, _ => none
  | F21 + 1, x22, x23, x24 =>
    bif decide (x22 < (↑p.length : Int)) then (
    gd (okI p x22) <|
    bd (z1z N m p x22) fun y40 =>
    bd (
    bif !(z0x x23 (⟨(ix p x22), y40⟩ : Srefines_key)) then (
    some (z2l x23 (⟨(ix p x22), y40⟩ : Srefines_key) (↑x23.length : Int))) else (
    some x23)) fun o48 =>
    gd (okI x24 x22) <|
    gd (in64 (x22 + 1)) <|
    xz N m p F21 (x22 + 1) o48 (up x24 x22 (lm (0 : Int) o48 (⟨(ix p x22), y40⟩ : Srefines_key)))) else (
    some x24)
def z07 (N : Nat) (m : Mach) (p : (List Int)) : Option (List Int) :=
    gd (okM 8 (↑p.length : Int)) <|
    bd (
    xz N m p N 0 ([] : List (Srefines_key × Int)) (mk (↑p.length : Int) (0 : Int))) fun o15 =>
    some o15
def xu (N : Nat) (s1_ : (List Int)) (s2_ : (List Int)) : Nat → Int → Option (Ex (Unit) (Bool))
  | 0, _ => none
  | F6 + 1, x7 =>
    bif decide (x7 < (↑s1_.length : Int)) then (
    gd (okI s1_ x7) <|
    gd (okI s2_ x7) <|
    bif decide ((ix s1_ x7) ≠ (ix s2_ x7)) then (
    some (Ex.rt false)) else (
    gd (in64 (x7 + 1)) <|
    xu N s1_ s2_ F6 (x7 + 1))) else (
    some (Ex.go ()))
def slices_Equal_int (N : Nat) (s1_ : (List Int)) (s2_ : (List Int)) : Option Bool :=
    bif decide ((↑s1_.length : Int) ≠ (↑s2_.length : Int)) then (
    some false) else (
    bd (
    xu N s1_ s2_ N 0) fun q3 =>
    Ex.on q3 (fun o2 =>
    some true) some)
def pz (N : Nat) (σ : Type) (B : (List Int) → σ → Option (Bool × σ)) (p0_ : Mach) : Nat → σ → (List Int) → Option σ
  | 0, _, _ => none
  | F15 + 1, x16, x17 =>
    bd (B x17 x16) fun y24 =>
    bif y24.1 then (
    bd (z07 N p0_ x17) fun y33 =>
    bd (slices_Equal_int N x17 y33) fun y39 =>
    bif y39 then (
    some y24.2) else (
    pz N σ B p0_ F15 y24.2 y33)) else (
    some y24.2)
def z0v (N : Nat) (p0_ : Mach) (σ : Type) (B : (List Int) → σ → Option (Bool × σ)) (s0 : σ) : Option σ :=
    gd (okM 8 (↑p0_.rows.length : Int)) <|
    pz N σ B p0_ N s0 (mk (↑p0_.rows.length : Int) (0 : Int))
def sj (N : Nat) (m : Mach) : Option ((List Int) × Int × Int) :=
    bd (uw N m) fun y11 =>
    bif decide (y11 ≠ 0) then (
    some (([] : (List Int)), 0, y11)) else (
    bd (z1x N m) fun y20 =>
    bd (z0v N y20 ((List Int) × Int) (fun y30 x31 =>
    gd (in64 (x31.2 + 1)) <|
    some (true, (y30, x31.2 + 1))) (([] : (List Int)), (-1))) fun o28 =>
    some (o28.1, o28.2, 0))
def y8 (N : Nat) (l_ : (List Int)) : Nat → (List Int) → Int → (List (Int × Int)) → (List Int) → Option (List Int × List Int)
  | 0, _, _, _, _ => none
  | F22 + 1, x23, x24, x25, x26 =>
    bif decide (x24 < (↑l_.length : Int)) then (
    gd (okI l_ x24) <|
    bd (
    bif !(z0x x25 (ix l_ x24)) then (
    gd (fits 8 x23 ([x24] : List Int)) <|
    some ((x23 ++ ([x24] : List Int)), (z2l x25 (ix l_ x24) (↑x23.length : Int)))) else (
    some (x23, x25))) fun o44 =>
    gd (okI x26 x24) <|
    gd (in64 (x24 + 1)) <|
    y8 N l_ F22 o44.1 (x24 + 1) o44.2 (up x26 x24 (lm (0 : Int) o44.2 (ix l_ x24)))) else (
    some (x23, x26))
def ae (N : Nat) (l_ : (List Int)) : Option ((List Int) × (List Int)) :=
    gd (okM 8 (↑l_.length : Int)) <|
    bd (
    y8 N l_ N ([] : List Int) 0 ([] : List (Int × Int)) (mk (↑l_.length : Int) (0 : Int))) fun o11 =>
    some (o11.1, o11.2)
def om (N : Nat) (s : (List Edge)) : Option (List Edge) :=
    gd (fits 16 ([] : List Edge) s) <|
    some (([] : List Edge) ++ s)
def ru (N : Nat) (s : (List Edge)) : Option (List Edge) :=
    gd (okS s 0 (↑s.length : Int)) <|
    some (cut s 0 (↑s.length : Int))
def xh (N : Nat) (y7 : (List Int) × (List Int)) (y59 : (List Edge)) : Nat → Int → (List Edge) → Option (List Edge)
  | 0, _, _ => none
  | F75 + 1, x76, x77 =>
    bif decide (x76 < (↑y59.length : Int)) then (
    bd (
    gd (okI x77 x76) <|
    bif decide (((ix x77 x76).to) ≠ (-1)) then (
    gd (okI y7.2 ((ix x77 x76).to)) <|
    gd (okI x77 x76) <|
    some (up x77 x76 (⟨(ix y7.2 ((ix x77 x76).to)), (ix x77 x76).out⟩ : Edge))) else (
    some x77)) fun o83 =>
    gd (in64 (x76 + 1)) <|
    xh N y7 y59 F75 (x76 + 1) o83) else (
    some x77)
def xn (N : Nat) (m : Mach) (y7 : (List Int) × (List Int)) : Nat → Int → (List (List Edge)) → Option (List (List Edge))
  | 0, _, _ => none
  | F35 + 1, x36, x37 =>
    bif decide (x36 < (↑y7.1.length : Int)) then (
    gd (okI y7.1 x36) <|
    gd (okI m.rows (ix y7.1 x36)) <|
    bd (om N (ix m.rows (ix y7.1 x36))) fun y59 =>
    bd (
    xh N y7 y59 N 0 y59) fun o70 =>
    bd (ru N o70) fun y129 =>
    gd (fits 24 x37 ([y129] : List (List Edge))) <|
    gd (in64 (x36 + 1)) <|
    xn N m y7 F35 (x36 + 1) (x37 ++ ([y129] : List (List Edge)))) else (
    some x37)
def lv (N : Nat) (m : Mach) (p : (List Int)) : Option (Mach × (List Int)) :=
    bd (ae N p) fun y7 =>
    bd (
    xn N m y7 N 0 ([] : List (List Edge))) fun o27 =>
    some ((⟨m.inputs, m.outputs, o27⟩ : Mach), y7.2)
def z1y (N : Nat) (m : Mach) (from_ : Int) : Option (Mach × Int) :=
    some (m, from_)
def xm (N : Nat) (σ : Type) (p0_ : Mach) (x28 : List Swalks_arrival) : Nat → σ → Int → (List Bool) → (List Swalks_arrival) → Option (Ex (σ × List Bool × List Swalks_arrival) (σ))
  | 0, _, _, _, _ => none
  | F79 + 1, x80, x81, x82, x83 =>
    bif decide (x81 < (↑(ix p0_.rows ((ix x28 0).f_state)).length : Int)) then (
    bd (
    gd (okI (ix p0_.rows ((ix x28 0).f_state)) x81) <|
    gd ((true && ((decide (((ix (ix p0_.rows ((ix x28 0).f_state)) x81).to) ≠ (-1))) == true)) = true → okI x82 ((ix (ix p0_.rows ((ix x28 0).f_state)) x81).to)) <|
    bif (decide (((ix (ix p0_.rows ((ix x28 0).f_state)) x81).to) ≠ (-1))) && (!(ix x82 ((ix (ix p0_.rows ((ix x28 0).f_state)) x81).to))) then (
    gd (okI x82 ((ix (ix p0_.rows ((ix x28 0).f_state)) x81).to)) <|
    gd (fits 24 x83 ([(⟨(ix (ix p0_.rows ((ix x28 0).f_state)) x81).to, (ix x28 0).f_state, x81⟩ : Swalks_arrival)] : List Swalks_arrival)) <|
    some (x80, (up x82 ((ix (ix p0_.rows ((ix x28 0).f_state)) x81).to) true), (x83 ++ ([(⟨(ix (ix p0_.rows ((ix x28 0).f_state)) x81).to, (ix x28 0).f_state, x81⟩ : Swalks_arrival)] : List Swalks_arrival)))) else (
    some (x80, x82, x83))) fun o95 =>
    gd (in64 (x81 + 1)) <|
    xm N σ p0_ x28 F79 o95.1 (x81 + 1) o95.2.1 o95.2.2) else (
    some (Ex.go (x80, x82, x83)))
def df (N : Nat) (σ : Type) (B : Swalks_arrival → σ → Option (Bool × σ)) (p0_ : Mach) : Nat → σ → (List Bool) → (List Swalks_arrival) → Option σ
  | 0, _, _, _ => none
  | F25 + 1, x26, x27, x28 =>
    bd (
    bif decide (0 < (↑x28.length : Int)) then (
    gd (okI x28 0) <|
    gd (okS x28 1 (↑x28.length : Int)) <|
    bd (B (⟨(ix x28 0).f_state, (ix x28 0).f_from, (ix x28 0).f_input⟩ : Swalks_arrival) x26) fun y63 =>
    bif !y63.1 then (
    some (Ex.rt y63.2)) else (
    gd (okI p0_.rows ((ix x28 0).f_state)) <|
    xm N σ p0_ x28 N y63.2 0 x27 (cut x28 1 (↑x28.length : Int)))) else (
    some (Ex.rt x26))) fun q40 =>
    Ex.on q40 (fun o39 =>
    df N σ B p0_ F25 o39.1 o39.2.1 o39.2.2) some
def av (N : Nat) (p0_ : Mach) (p1_ : Int) (σ : Type) (B : Swalks_arrival → σ → Option (Bool × σ)) (s0 : σ) : Option σ :=
    gd (okM 1 (↑p0_.rows.length : Int)) <|
    gd (okI (mk (↑p0_.rows.length : Int) false) p1_) <|
    df N σ B p0_ N s0 (up (mk (↑p0_.rows.length : Int) false) p1_ true) ([(⟨p1_, (-1), (-1)⟩ : Swalks_arrival)] : List Swalks_arrival)
def ai (N : Nat) (m : Mach) : Option (List Int) :=
    bd (z1y N m 0) fun y9 =>
    bd (av N y9.1 y9.2 (List Int) (fun y22 x23 =>
    gd (fits 8 x23 ([y22.f_state] : List Int)) <|
    some (true, (x23 ++ ([y22.f_state] : List Int)))) ([] : List Int)) fun o20 =>
    some o20
def z3y (N : Nat) (x : Edge) (p0_ : (List (Int × Int))) : Option Edge :=
    some (⟨(lm (0 : Int) p0_ x.to), x.out⟩ : Edge)
def mr (N : Nat) (l_ : (List Int)) : Nat → Int → (List (Int × Int)) → Option (List (Int × Int))
  | 0, _, _ => none
  | F20 + 1, x21, x22 =>
    bif decide (x21 < (↑l_.length : Int)) then (
    gd (okI l_ x21) <|
    gd (in64 (x21 + 1)) <|
    mr N l_ F20 (x21 + 1) (z2l x22 (ix l_ x21) x21)) else (
    some x22)
def tq (N : Nat) (m : Mach) (l_ : (List Int)) (o15 : List (Int × Int)) (x78 : Int) : Nat → Int → (List (List Edge)) → Option (List (List Edge))
  | 0, _, _ => none
  | F131 + 1, x132, x133 =>
    bif decide (x132 < (↑(ix m.rows (ix l_ x78)).length : Int)) then (
    gd (okI (ix m.rows (ix l_ x78)) x132) <|
    gd (okI x133 x78) <|
    bd (z3y N (⟨(ix (ix m.rows (ix l_ x78)) x132).to, (ix (ix m.rows (ix l_ x78)) x132).out⟩ : Edge) o15) fun y149 =>
    gd (okI (ix x133 x78) x132) <|
    gd (in64 (x132 + 1)) <|
    tq N m l_ o15 x78 F131 (x132 + 1) (up x133 x78 (up (ix x133 x78) x132 y149))) else (
    some x133)
def tu (N : Nat) (m : Mach) (l_ : (List Int)) (o15 : List (Int × Int)) : Nat → Int → (List (List Edge)) → Option (List (List Edge))
  | 0, _, _ => none
  | F77 + 1, x78, x79 =>
    bif decide (x78 < (↑l_.length : Int)) then (
    bd (
    gd (okI l_ x78) <|
    gd (okM 16 m.inputs) <|
    gd (okI x79 x78) <|
    gd (okI m.rows (ix l_ x78)) <|
    tq N m l_ o15 x78 N 0 (up x79 x78 (mk m.inputs (⟨(0 : Int), (0 : Int)⟩ : Edge)))) fun o87 =>
    gd (in64 (x78 + 1)) <|
    tu N m l_ o15 F77 (x78 + 1) o87) else (
    some x79)
def lc (N : Nat) (m : Mach) (l_ : (List Int)) : Option Mach :=
    bd (
    mr N l_ N 0 (z2l ([] : List (Int × Int)) (-1) (-1))) fun o15 =>
    gd (okM 24 (↑l_.length : Int)) <|
    bd (
    tu N m l_ o15 N 0 (mk (↑l_.length : Int) ([] : List Edge))) fun o70 =>
    some (⟨m.inputs, m.outputs, o70⟩ : Mach)
def su (N : Nat) (m : Mach) : Option (Mach × Int) :=
    bd (uw N m) fun y9 =>
    bif decide (y9 ≠ 0) then (
    some ((⟨0, 0, []⟩ : Mach), y9)) else (
    bd (ai N m) fun y16 =>
    bd (lc N m y16) fun y18 =>
    some ((⟨y18.inputs, y18.outputs, y18.rows⟩ : Mach), 0))
def xk (N : Nat) (vals : (List Int)) : Nat → Int → Option (Ex (Unit) (Int))
  | 0, _ => none
  | F5 + 1, x6 =>
    bif decide (x6 < (↑vals.length : Int)) then (
    gd (okI vals x6) <|
    bif decide ((ix vals x6) ≠ 0) then (
    some (Ex.rt (ix vals x6))) else (
    gd (in64 (x6 + 1)) <|
    xk N vals F5 (x6 + 1))) else (
    some (Ex.go ()))
def ax (N : Nat) (vals : (List Int)) : Option Int :=
    bd (
    xk N vals N 0) fun q2 =>
    Ex.on q2 (fun o1 =>
    some 0) some
def kz (N : Nat) (s1_ : (List (List Edge))) (s2_ : (List (List Edge))) (eq : (List Edge) → (List Edge) → Option Bool) : Nat → Int → Option (Ex (Unit) (Bool))
  | 0, _ => none
  | F6 + 1, x7 =>
    bif decide (x7 < (↑s1_.length : Int)) then (
    gd (okI s1_ x7) <|
    gd (okI s2_ x7) <|
    bd (eq (ix s1_ x7) (ix s2_ x7)) fun y21 =>
    bif !y21 then (
    some (Ex.rt false)) else (
    gd (in64 (x7 + 1)) <|
    kz N s1_ s2_ eq F6 (x7 + 1))) else (
    some (Ex.go ()))
def bv (N : Nat) (s1_ : (List (List Edge))) (s2_ : (List (List Edge))) (eq : (List Edge) → (List Edge) → Option Bool) : Option Bool :=
    bif decide ((↑s1_.length : Int) ≠ (↑s2_.length : Int)) then (
    some false) else (
    bd (
    kz N s1_ s2_ eq N 0) fun q3 =>
    Ex.on q3 (fun o2 =>
    some true) some)
def w9 (N : Nat) (s1_ : (List Edge)) (s2_ : (List Edge)) : Nat → Int → Option (Ex (Unit) (Bool))
  | 0, _ => none
  | F6 + 1, x7 =>
    bif decide (x7 < (↑s1_.length : Int)) then (
    gd (okI s1_ x7) <|
    gd (okI s2_ x7) <|
    bif decide (¬ (((ix s1_ x7).to) = ((ix s2_ x7).to) ∧ ((ix s1_ x7).out) = ((ix s2_ x7).out))) then (
    some (Ex.rt false)) else (
    gd (in64 (x7 + 1)) <|
    w9 N s1_ s2_ F6 (x7 + 1))) else (
    some (Ex.go ()))
def mh (N : Nat) (s1_ : (List Edge)) (s2_ : (List Edge)) : Option Bool :=
    bif decide ((↑s1_.length : Int) ≠ (↑s2_.length : Int)) then (
    some false) else (
    bd (
    w9 N s1_ s2_ N 0) fun q3 =>
    Ex.on q3 (fun o2 =>
    some true) some)
def z1c (N : Nat) (a : Mach) (b : Mach) : Option Bool :=
    bd (uw N a) fun y9 =>
    bd (gop (true && ((decide (y9 = 0)) == true)) (uw N b)) fun y11 =>
    bd (gop (true && (((((decide (y9 = 0)) && (decide ((y11.getD default) = 0))) && (decide (a.inputs = b.inputs))) && (decide (a.outputs = b.outputs))) == true)) (bv N a.rows b.rows (fun z0 z1 => mh N z0 z1))) fun y13 =>
    some (((((decide (y9 = 0)) && (decide ((y11.getD default) = 0))) && (decide (a.inputs = b.inputs))) && (decide (a.outputs = b.outputs))) && (y13.getD default))
def z19 (N : Nat) (x y : Int) : Option (Int × Int) :=
    gd ((0 ≤ x ∧ x < 18446744073709551616) ∧ 0 ≤ y ∧ y < 18446744073709551616) (some (x * y / 18446744073709551616, x * y % 18446744073709551616))
def yz (N : Nat) : Nat → Int → (List Int) → Option (List Int)
  | 0, _, _ => none
  | F42 + 1, x43, x44 =>
    bif decide (x43 < (↑x44.length : Int)) then (
    gd (okS x44 x43 (↑x44.length : Int)) <|
    gd (okS x44 0 x43) <|
    gd (in64 (x43 + (↑(min (x43.toNat - 0) (x44.length - x43.toNat)) : Int))) <|
    yz N F42 (x43 + (↑(min (x43.toNat - 0) (x44.length - x43.toNat)) : Int)) (z2j x44 x43.toNat ((x44.drop 0).take (min (x43.toNat - 0) (x44.length - x43.toNat))))) else (
    some x44)
def nz (N : Nat) (x : (List Int)) (count : Int) : Option (List Int) :=
    bif decide (count < 0) then (
    none) else (
    bd (z19 N (IntKind.u64.wrap (↑x.length : Int)) (IntKind.u64.wrap count)) fun y2 =>
    bif (decide (0 < y2.1)) || (decide (9223372036854775807 < y2.2)) then (
    none) else (
    gd (in64 y2.2) <|
    gd (okM 8 y2.2) <|
    bd (
    yz N N (↑(min x.length (mk y2.2 (0 : Int)).length) : Int) (z2j (mk y2.2 (0 : Int)) 0 (x.take (min x.length (mk y2.2 (0 : Int)).length)))) fun o37 =>
    some o37))
def ow (N : Nat) (s : (List Int)) : Option (List Int) :=
    gd (okS s 0 (↑s.length : Int)) <|
    some (cut s 0 (↑s.length : Int))
def xq (N : Nat) (y32 : (List Int)) (y34 : (List Int)) : Nat → Int → (List Int) → Option (List Int)
  | 0, _, _ => none
  | F104 + 1, x105, x106 =>
    bif decide (x105 < (↑y32.length : Int)) then (
    gd (okI y32 x105) <|
    gd (okI y34 x105) <|
    gd (okI x106 (ix y32 x105)) <|
    gd (in64 (x105 + 1)) <|
    xq N y32 y34 F104 (x105 + 1) (up x106 (ix y32 x105) (ix y34 x105))) else (
    some x106)
def ay (N : Nat) (a : Mach) (b : Mach) : Option ((List Int) × Bool × Int) :=
    bd (uw N a) fun y9 =>
    bd (uw N b) fun y11 =>
    bd (ax N ([y9, y11] : List Int)) fun y13 =>
    bif decide (y13 ≠ 0) then (
    some (([] : (List Int)), false, y13)) else (
    bd (ai N a) fun y32 =>
    bd (ai N b) fun y34 =>
    bd (lc N a y32) fun y50 =>
    bd (lc N b y34) fun y52 =>
    bd (z1c N y50 y52) fun y54 =>
    bif !y54 then (
    some (([] : (List Int)), false, 0)) else (
    bd (nz N ([(-1)] : List Int) (↑a.rows.length : Int)) fun y88 =>
    bd (
    xq N y32 y34 N 0 y88) fun o99 =>
    bd (ow N o99) fun y138 =>
    some (y138, true, 0)))
def z0g (N : Nat) (s : (List Int)) : Option (List Int) :=
    some s
def yu (N : Nat) (σ : Type) (B : Int → σ → Option (Bool × σ)) (p0_ : (List Int)) : Nat → σ → Int → Option σ
  | 0, _, _ => none
  | F3 + 1, x4, x5 =>
    bif decide (x5 < (↑p0_.length : Int)) then (
    gd (okI p0_ x5) <|
    bd (B (ix p0_ x5) x4) fun y16 =>
    bif !y16.1 then (
    some y16.2) else (
    gd (in64 (x5 + 1)) <|
    yu N σ B p0_ F3 y16.2 (x5 + 1))) else (
    some x4)
def oz (N : Nat) (p0_ : (List Int)) (σ : Type) (B : Int → σ → Option (Bool × σ)) (s0 : σ) : Option σ :=
    yu N σ B p0_ N s0 0
def slices_Sort_int (N : Nat) (x : List Int) : Option (List Int) :=
    gd (0 < x.length ∧ x.length < 4611686018427387904) (some (z10 x))
def p8 (N : Nat) (s : List Int) (seq_0_ : (List Int)) : Option (List Int) :=
    bd (oz N seq_0_ (List Int) (fun y5 x6 =>
    gd (fits 8 x6 ([y5] : List Int)) <|
    some (true, (x6 ++ ([y5] : List Int)))) s) fun o3 =>
    some o3
def l5 (N : Nat) (seq_0_ : (List Int)) : Option (List Int) :=
    bd (p8 N ([] : List Int) seq_0_) fun y2 =>
    some y2
def l6 (N : Nat) (seq_0_ : (List Int)) : Option (List Int) :=
    bd (l5 N seq_0_) fun y1 =>
    bd (slices_Sort_int N y1) fun y12 =>
    some y12
def z1r (N : Nat) (m : Mach) : Option ((List Int) × Int) :=
    bd (uw N m) fun y7 =>
    bif decide (y7 ≠ 0) then (
    some (([] : (List Int)), y7)) else (
    bd (ai N m) fun y16 =>
    bd (z0g N y16) fun y22 =>
    bd (l6 N y22) fun y30 =>
    bd (ow N y30) fun y36 =>
    some (y36, 0))
def bn (N : Nat) (y20 : Mach × (List Int)) (y47 : (List Int) × Bool × Int) (y82 : (List Int) × Int) : Nat → Int → (List Int) → Option (List Int)
  | 0, _, _ => none
  | F95 + 1, x96, x97 =>
    bif decide (x96 < (↑y82.1.length : Int)) then (
    gd (okI y82.1 x96) <|
    gd (okI y20.2 (ix y82.1 x96)) <|
    gd (okI y47.1 (ix y20.2 (ix y82.1 x96))) <|
    gd (okI x97 (ix y82.1 x96)) <|
    gd (in64 (x96 + 1)) <|
    bn N y20 y47 y82 F95 (x96 + 1) (up x97 (ix y82.1 x96) (ix y47.1 (ix y20.2 (ix y82.1 x96))))) else (
    some x97)
def lw (N : Nat) (m : Mach) : Option (Mach × (List Int) × Int) :=
    bd (sj N m) fun y9 =>
    bif decide (y9.2.2 ≠ 0) then (
    some ((⟨0, 0, []⟩ : Mach), ([] : (List Int)), y9.2.2)) else (
    bd (lv N m y9.1) fun y20 =>
    bd (su N (⟨y20.1.inputs, y20.1.outputs, y20.1.rows⟩ : Mach)) fun y34 =>
    bif decide (y34.2 ≠ 0) then (
    some ((⟨0, 0, []⟩ : Mach), ([] : (List Int)), y34.2)) else (
    bd (ay N (⟨y20.1.inputs, y20.1.outputs, y20.1.rows⟩ : Mach) (⟨y34.1.inputs, y34.1.outputs, y34.1.rows⟩ : Mach)) fun y47 =>
    bif decide (y47.2.2 ≠ 0) then (
    some ((⟨0, 0, []⟩ : Mach), ([] : (List Int)), y47.2.2)) else (
    bd (nz N ([(-1)] : List Int) (↑m.rows.length : Int)) fun y69 =>
    bd (z1r N m) fun y82 =>
    bd (
    bn N y20 y47 y82 N 0 y69) fun o90 =>
    bd (ow N o90) fun y134 =>
    some ((⟨y34.1.inputs, y34.1.outputs, y34.1.rows⟩ : Mach), y134, y82.2))))
def bg (N : Nat) (m : Mach) : Option (Mach × Int) :=
    bd (lw N m) fun y9 =>
    some ((⟨y9.1.inputs, y9.1.outputs, y9.1.rows⟩ : Mach), y9.2.2)
def z1h (N : Nat) (m : Mach) : Option (Mach × Mach × Mach) :=
    some (m, m, m)
def ym (N : Nat) (self : Int → List Bool → Mach → Option (List Bool)) (s : Int) (p1_ : Mach) : Nat → Int → (List Bool) → Option (List Bool)
  | 0, _, _ => none
  | F35 + 1, x36, x37 =>
    bif decide (x36 < (↑(ix p1_.rows s).length : Int)) then (
    gd (okI (ix p1_.rows s) x36) <|
    bd (self ((ix (ix p1_.rows s) x36).to) x37 p1_) fun y51 =>
    gd (in64 (x36 + 1)) <|
    ym N self s p1_ F35 (x36 + 1) y51) else (
    some x37)
def yc (N : Nat) : Nat → Int → List Bool → Mach → Option (List Bool)
  | 0, _, _, _ => none
  | F + 1, s, p0_, p1_ =>
    gd ((true && ((decide (s = (-1))) == false)) = true → okI p0_ s) <|
    bif (decide (s = (-1))) || (ix p0_ s) then (
    some p0_) else (
    gd (okI p0_ s) <|
    gd (okI p1_.rows s) <|
    ym N (yc N F) s p1_ N 0 (up p0_ s true))
def yx (N : Nat) (s : (List Bool)) (v_ : Bool) : Nat → Int → Option (Ex (Unit) (Int))
  | 0, _ => none
  | F5 + 1, x6 =>
    bif decide (x6 < (↑s.length : Int)) then (
    gd (okI s x6) <|
    bif decide (v_ = (ix s x6)) then (
    some (Ex.rt x6)) else (
    gd (in64 (x6 + 1)) <|
    yx N s v_ F5 (x6 + 1))) else (
    some (Ex.go ()))
def fw (N : Nat) (s : (List Bool)) (v_ : Bool) : Option Int :=
    bd (
    yx N s v_ N 0) fun q2 =>
    Ex.on q2 (fun o1 =>
    some (-1)) some
def o8 (N : Nat) (s : (List Bool)) (v_ : Bool) : Option Bool :=
    bd (fw N s v_) fun y1 =>
    some (decide (0 ≤ y1))
def iq (N : Nat) (m : Mach) : Option (Bool × Int) :=
    bd (uw N m) fun y7 =>
    bif decide (y7 ≠ 0) then (
    some (false, y7)) else (
    gd (okM 1 (↑m.rows.length : Int)) <|
    bd (yc N N 0 (mk (↑m.rows.length : Int) false) m) fun y28 =>
    bd (o8 N y28 false) fun y41 =>
    some ((!y41), 0))
def oo (N : Nat) (p0_ : Mach) : Option Bool :=
    bd (iq N p0_) fun y3 =>
    some y3.1
def bf (N : Nat) (x : (List Int)) : Nat → Int → Int → Option Int
  | 0, _, _ => none
  | F10 + 1, x11, x12 =>
    bif decide (x12 < (↑x.length : Int)) then (
    gd (okI x x12) <|
    gd (in64 (x12 + 1)) <|
    bf N x F10 (max x11 (ix x x12)) (x12 + 1)) else (
    some x11)
def slices_Max_int (N : Nat) (x : (List Int)) : Option Int :=
    bif decide ((↑x.length : Int) < 1) then (
    none) else (
    gd (okI x 0) <|
    bd (
    bf N x N (ix x 0) 1) fun o7 =>
    some o7)
def oq (N : Nat) (p0_ : Mach) : Option Bool :=
    bd (sj N p0_) fun y3 =>
    bd (slices_Max_int N y3.1) fun y11 =>
    gd (in64 ((↑y3.1.length : Int) - 1)) <|
    some (decide (y11 = ((↑y3.1.length : Int) - 1)))
def gz (N : Nat) (m : Mach) : Option (Bool × Int) :=
    bd (uw N m) fun y7 =>
    bif decide (y7 ≠ 0) then (
    some (false, y7)) else (
    bd (z1h N m) fun y16 =>
    bd (oo N y16.2.1) fun y30 =>
    bd (gop (true && (y30 == true)) (oq N y16.2.2)) fun y32 =>
    some ((y30 && (y32.getD default)), 0))
def vv (N : Nat) (a : Mach) (b : Mach) (x59 : Int) : Nat → Int → Option (Ex (Unit) (Ex (Unit) (Bool)))
  | 0, _ => none
  | F102 + 1, x103 =>
    gd (okI a.rows x59) <|
    bif decide (x103 < (↑(ix a.rows x59).length : Int)) then (
    gd (okI a.rows x59) <|
    gd (okI (ix a.rows x59) x103) <|
    gd (okI b.rows x59) <|
    gd (okI (ix b.rows x59) x103) <|
    bif decide (¬ (((ix (ix a.rows x59) x103).to) = ((ix (ix b.rows x59) x103).to) ∧ ((ix (ix a.rows x59) x103).out) = ((ix (ix b.rows x59) x103).out))) then (
    some (Ex.rt (Ex.rt false))) else (
    gd (in64 (x103 + 1)) <|
    vv N a b x59 F102 (x103 + 1))) else (
    some (Ex.go ()))
def uu (N : Nat) (a : Mach) (b : Mach) : Nat → Int → Option (Ex (Unit) (Bool))
  | 0, _ => none
  | F58 + 1, x59 =>
    bif decide (x59 < (↑a.rows.length : Int)) then (
    bd (
    gd (okI a.rows x59) <|
    gd (okI b.rows x59) <|
    bif decide ((↑(ix a.rows x59).length : Int) ≠ (↑(ix b.rows x59).length : Int)) then (
    some (Ex.rt (Ex.rt false))) else (
    vv N a b x59 N 0)) fun q68 =>
    Ex.on q68 (fun o67 =>
    gd (in64 (x59 + 1)) <|
    uu N a b F58 (x59 + 1)) some) else (
    some (Ex.go ()))
def dz (N : Nat) (a : Mach) (b : Mach) : Option Bool :=
    bif ((decide (a.inputs ≠ b.inputs)) || (decide (a.outputs ≠ b.outputs))) || (decide ((↑a.rows.length : Int) ≠ (↑b.rows.length : Int))) then (
    some false) else (
    bd (
    uu N a b N 0) fun q55 =>
    Ex.on q55 (fun o54 =>
    some true) some)
def wz (N : Nat) (s : (List Int)) (f : Int → Option Bool) : Nat → Int → Option (Ex (Unit) (Int))
  | 0, _ => none
  | F5 + 1, x6 =>
    bif decide (x6 < (↑s.length : Int)) then (
    gd (okI s x6) <|
    bd (f (ix s x6)) fun y15 =>
    bif y15 then (
    some (Ex.rt x6)) else (
    gd (in64 (x6 + 1)) <|
    wz N s f F5 (x6 + 1))) else (
    some (Ex.go ()))
def og (N : Nat) (s : (List Int)) (f : Int → Option Bool) : Option Int :=
    bd (
    wz N s f N 0) fun q2 =>
    Ex.on q2 (fun o1 =>
    some (-1)) some
def cu (N : Nat) (s : (List Int)) (f : Int → Option Bool) : Option Bool :=
    bd (og N s f) fun y1 =>
    some (decide (0 ≤ y1))
def z01 (N : Nat) (t : Int) (p0_ : Mach) : Option Bool :=
    some ((decide (t < 0)) || (decide ((↑p0_.rows.length : Int) ≤ t)))
def uz (N : Nat) (a : Mach) (b : Mach) (f : (List Int)) (x67 : Int) : Nat → Bool → Int → Option Bool
  | 0, _, _ => none
  | F79 + 1, x80, x81 =>
    bif decide (x81 < (↑(ix a.rows x67).length : Int)) then (
    gd (okI (ix a.rows x67) x81) <|
    bd (
    bif decide (((ix (ix a.rows x67) x81).to) ≠ (-1)) then (
    gd (okI f ((ix (ix a.rows x67) x81).to)) <|
    some (ix f ((ix (ix a.rows x67) x81).to))) else (
    some ((ix (ix a.rows x67) x81).to))) fun o92 =>
    gd ((true && (x80 == true)) = true → okI f x67) <|
    gd ((true && (x80 == true)) = true → okI b.rows (ix f x67)) <|
    gd ((true && (x80 == true)) = true → okI (ix b.rows (ix f x67)) x81) <|
    gd (in64 (x81 + 1)) <|
    uz N a b f x67 F79 (x80 && (decide (o92 = ((ix (ix b.rows (ix f x67)) x81).to) ∧ ((ix (ix a.rows x67) x81).out) = ((ix (ix b.rows (ix f x67)) x81).out)))) (x81 + 1)) else (
    some x80)
def wm (N : Nat) (a : Mach) (b : Mach) (f : (List Int)) : Nat → Bool → Int → Option Bool
  | 0, _, _ => none
  | F65 + 1, x66, x67 =>
    bif decide (x67 < (↑a.rows.length : Int)) then (
    bd (
    gd (okI a.rows x67) <|
    uz N a b f x67 N x66 0) fun o71 =>
    gd (in64 (x67 + 1)) <|
    wm N a b f F65 o71 (x67 + 1)) else (
    some x66)
def u6 (N : Nat) (a : Mach) (b : Mach) (f : (List Int)) : Option (Bool × Int) :=
    bd (uw N a) fun y9 =>
    bd (uw N b) fun y11 =>
    bd (ax N ([y9, y11] : List Int)) fun y13 =>
    bif decide (y13 ≠ 0) then (
    some (false, y13)) else (
    bif decide (a.inputs ≠ b.inputs) then (
    some (false, 5)) else (
    bif decide ((↑f.length : Int) ≠ (↑a.rows.length : Int)) then (
    some (false, 16)) else (
    bd (cu N f (fun z0 => z01 N z0 b)) fun y46 =>
    bif y46 then (
    some (false, 1)) else (
    gd (okI f 0) <|
    bd (
    wm N a b f N (decide ((ix f 0) = 0)) 0) fun o58 =>
    some (o58, 0)))))
def ku (N : Nat) (to_ : Int) (out : Int) : Option Edge :=
    some (⟨to_, out⟩ : Edge)
def z5v (N : Nat) (m : Mach) : Option ((List Int) × Int) :=
    bd (lw N m) fun y7 =>
    some (y7.2.1, y7.2.2)
def di (N : Nat) (m : Mach) : Nat → Int → Option (Ex (Unit) (Bool))
  | 0, _ => none
  | F52 + 1, x53 =>
    bif decide (x53 < (↑m.rows.length : Int)) then (
    gd (okI m.rows x53) <|
    gd (okI m.rows x53) <|
    bif decide ((↑(ix m.rows x53).length : Int) ≠ (↑(ix m.rows x53).length : Int)) then (
    some (Ex.rt false)) else (
    gd (in64 (x53 + 1)) <|
    di N m F52 (x53 + 1))) else (
    some (Ex.go ()))
def z0c (N : Nat) (m : Mach) (e : Int) (want : Mach) : Option Bool :=
    bd (gop (true && ((decide (e ≠ 0)) == false)) (dz N m want)) fun y9 =>
    bif ((decide (e ≠ 0)) || (!(y9.getD default))) || (decide ((↑m.rows.length : Int) ≠ (↑m.rows.length : Int))) then (
    some false) else (
    bd (
    di N m N 0) fun q49 =>
    Ex.on q49 (fun o48 =>
    some true) some)
def wh (N : Nat) (a : (List Int)) (b : (List Int)) : Nat → Int → Option (Ex (Unit) (Int))
  | 0, _ => none
  | F7 + 1, x8 =>
    bif decide (x8 < (↑a.length : Int)) then (
    gd (okI a x8) <|
    gd (okI b x8) <|
    bif decide ((ix a x8) < (ix b x8)) then (
    some (Ex.rt (-1))) else (
    gd (okI a x8) <|
    gd (okI b x8) <|
    bif decide ((ix b x8) < (ix a x8)) then (
    some (Ex.rt 1)) else (
    gd (in64 (x8 + 1)) <|
    wh N a b F7 (x8 + 1)))) else (
    some (Ex.go ()))
def mg (N : Nat) (a : (List Int)) (b : (List Int)) : Option Int :=
    bif decide ((↑a.length : Int) < (↑b.length : Int)) then (
    some (-1)) else (
    bif decide ((↑b.length : Int) < (↑a.length : Int)) then (
    some 1) else (
    bd (
    wh N a b N 0) fun q4 =>
    Ex.on q4 (fun o3 =>
    some 0) some))
def mo (N : Nat) (a : (List Int)) (b : (List Int)) : Option Bool :=
    bd (mg N a b) fun y1 =>
    some (decide (y1 = 0))
def z1j (N : Nat) (l_ : (List Int)) (e : Int) (want : (List Int)) (f : Int) : Option Bool :=
    bd (gop (true && ((decide (e = f)) == true)) (mo N l_ want)) fun y1 =>
    some (((decide (e = f)) && (y1.getD default)) && (decide ((↑l_.length : Int) = (↑l_.length : Int))))
def z4l (N : Nat) (m : Mach) : Option Mach :=
    some m
def aa (N : Nat) (σ : Type) (B : ((Int × Int) × Edge) → σ → Option (Bool × σ)) (p0_ : Mach) (x7 : Int) : Nat → σ → Int → Option (Ex (σ) (σ))
  | 0, _, _ => none
  | F24 + 1, x25, x26 =>
    bif decide (x26 < (↑(ix p0_.rows x7).length : Int)) then (
    gd (okI (ix p0_.rows x7) x26) <|
    bd (B (((x7, x26) : (Int × Int)), (⟨(ix (ix p0_.rows x7) x26).to, (ix (ix p0_.rows x7) x26).out⟩ : Edge)) x25) fun y39 =>
    bif !y39.1 then (
    some (Ex.rt y39.2)) else (
    gd (in64 (x26 + 1)) <|
    aa N σ B p0_ x7 F24 y39.2 (x26 + 1))) else (
    some (Ex.go x25))
def af (N : Nat) (σ : Type) (B : ((Int × Int) × Edge) → σ → Option (Bool × σ)) (p0_ : Mach) : Nat → σ → Int → Option σ
  | 0, _, _ => none
  | F5 + 1, x6, x7 =>
    bif decide (x7 < (↑p0_.rows.length : Int)) then (
    bd (
    gd (okI p0_.rows x7) <|
    aa N σ B p0_ x7 N x6 0) fun q14 =>
    Ex.on q14 (fun o13 =>
    gd (in64 (x7 + 1)) <|
    af N σ B p0_ F5 o13 (x7 + 1)) some) else (
    some x6)
def z2o (N : Nat) (p0_ : Mach) (σ : Type) (B : ((Int × Int) × Edge) → σ → Option (Bool × σ)) (s0 : σ) : Option σ :=
    af N σ B p0_ N s0 0
def z1k (N : Nat) (s : (List (Int × Int))) : Option (List (Int × Int)) :=
    gd (okS s 0 (↑s.length : Int)) <|
    some (cut s 0 (↑s.length : Int))
def z1l (N : Nat) (m : Mach) : Option (List (Int × Int)) :=
    bd (z4l N m) fun y9 =>
    bd (z2o N y9 (List (Int × Int)) (fun y20 x21 =>
    bd (z2v N) fun y44 =>
    bif decide (y20.2.to = y44.to ∧ y20.2.out = y44.out) then (
    gd (fits 16 x21 ([((y20.1.1, y20.1.2) : (Int × Int))] : List (Int × Int))) <|
    some (true, (x21 ++ ([((y20.1.1, y20.1.2) : (Int × Int))] : List (Int × Int))))) else (
    some (true, x21))) ([] : List (Int × Int))) fun o18 =>
    bd (z1k N o18) fun y80 =>
    some y80
def z1w (N : Nat) (m : Mach) : Option (Bool × Int) :=
    bd (uw N m) fun y7 =>
    bif decide (y7 ≠ 0) then (
    some (false, y7)) else (
    bd (z1l N m) fun y16 =>
    some ((decide ((↑y16.length : Int) = 0)), 0))
def z2a (N : Nat) (p0_ : Mach) : Option Bool :=
    bd (z1w N p0_) fun y3 =>
    some y3.1
def z0u (N : Nat) (m : Mach) : Option Int :=
    bd (uw N m) fun y7 =>
    bif decide (y7 ≠ 0) then (
    some y7) else (
    bd (z1h N m) fun y16 =>
    bd (z2a N y16.1) fun y31 =>
    bif !y31 then (
    some 9) else (
    bd (oo N y16.2.1) fun y41 =>
    bif !y41 then (
    some 11) else (
    bd (oq N y16.2.2) fun y51 =>
    bif !y51 then (
    some 12) else (
    some 0))))
def ma (N : Nat) : Option Bool :=
    bd (ku N 1 0) fun y1 =>
    bd (ku N 2 0) fun y7 =>
    bd (ku N 3 0) fun y18 =>
    bd (ku N 2 0) fun y24 =>
    bd (ku N 2 0) fun y35 =>
    bd (ku N 0 1) fun y41 =>
    bd (ku N 1 0) fun y52 =>
    bd (ku N 2 0) fun y58 =>
    bd (ku N 4 0) fun y69 =>
    bd (ku N 4 0) fun y75 =>
    bd (ku N 0 0) fun y113 =>
    bd (ku N 1 0) fun y119 =>
    bd (ku N 1 0) fun y130 =>
    bd (ku N 0 1) fun y136 =>
    bd (bg N (⟨2, 2, ([([(⟨y1.to, y1.out⟩ : Edge), (⟨y7.to, y7.out⟩ : Edge)] : List Edge), ([(⟨y18.to, y18.out⟩ : Edge), (⟨y24.to, y24.out⟩ : Edge)] : List Edge), ([(⟨y35.to, y35.out⟩ : Edge), (⟨y41.to, y41.out⟩ : Edge)] : List Edge), ([(⟨y52.to, y52.out⟩ : Edge), (⟨y58.to, y58.out⟩ : Edge)] : List Edge), ([(⟨y69.to, y69.out⟩ : Edge), (⟨y75.to, y75.out⟩ : Edge)] : List Edge)] : List (List Edge))⟩ : Mach)) fun y166 =>
    bd (z5v N (⟨2, 2, ([([(⟨y1.to, y1.out⟩ : Edge), (⟨y7.to, y7.out⟩ : Edge)] : List Edge), ([(⟨y18.to, y18.out⟩ : Edge), (⟨y24.to, y24.out⟩ : Edge)] : List Edge), ([(⟨y35.to, y35.out⟩ : Edge), (⟨y41.to, y41.out⟩ : Edge)] : List Edge), ([(⟨y52.to, y52.out⟩ : Edge), (⟨y58.to, y58.out⟩ : Edge)] : List Edge), ([(⟨y69.to, y69.out⟩ : Edge), (⟨y75.to, y75.out⟩ : Edge)] : List Edge)] : List (List Edge))⟩ : Mach)) fun y178 =>
    bd (gz N (⟨2, 2, ([([(⟨y1.to, y1.out⟩ : Edge), (⟨y7.to, y7.out⟩ : Edge)] : List Edge), ([(⟨y18.to, y18.out⟩ : Edge), (⟨y24.to, y24.out⟩ : Edge)] : List Edge), ([(⟨y35.to, y35.out⟩ : Edge), (⟨y41.to, y41.out⟩ : Edge)] : List Edge), ([(⟨y52.to, y52.out⟩ : Edge), (⟨y58.to, y58.out⟩ : Edge)] : List Edge), ([(⟨y69.to, y69.out⟩ : Edge), (⟨y75.to, y75.out⟩ : Edge)] : List Edge)] : List (List Edge))⟩ : Mach)) fun y186 =>
    bd (gz N (⟨2, 2, ([([(⟨y113.to, y113.out⟩ : Edge), (⟨y119.to, y119.out⟩ : Edge)] : List Edge), ([(⟨y130.to, y130.out⟩ : Edge), (⟨y136.to, y136.out⟩ : Edge)] : List Edge)] : List (List Edge))⟩ : Mach)) fun y195 =>
    bd (u6 N (⟨2, 2, ([([(⟨y1.to, y1.out⟩ : Edge), (⟨y7.to, y7.out⟩ : Edge)] : List Edge), ([(⟨y18.to, y18.out⟩ : Edge), (⟨y24.to, y24.out⟩ : Edge)] : List Edge), ([(⟨y35.to, y35.out⟩ : Edge), (⟨y41.to, y41.out⟩ : Edge)] : List Edge), ([(⟨y52.to, y52.out⟩ : Edge), (⟨y58.to, y58.out⟩ : Edge)] : List Edge), ([(⟨y69.to, y69.out⟩ : Edge), (⟨y75.to, y75.out⟩ : Edge)] : List Edge)] : List (List Edge))⟩ : Mach) (⟨2, 2, ([([(⟨y113.to, y113.out⟩ : Edge), (⟨y119.to, y119.out⟩ : Edge)] : List Edge), ([(⟨y130.to, y130.out⟩ : Edge), (⟨y136.to, y136.out⟩ : Edge)] : List Edge)] : List (List Edge))⟩ : Mach) ([0, 0, 1, 0, 0] : List Int)) fun y207 =>
    bd (u6 N (⟨2, 2, ([([(⟨y113.to, y113.out⟩ : Edge), (⟨y119.to, y119.out⟩ : Edge)] : List Edge), ([(⟨y130.to, y130.out⟩ : Edge), (⟨y136.to, y136.out⟩ : Edge)] : List Edge)] : List (List Edge))⟩ : Mach) (⟨2, 2, ([([(⟨y113.to, y113.out⟩ : Edge), (⟨y119.to, y119.out⟩ : Edge)] : List Edge), ([(⟨y130.to, y130.out⟩ : Edge), (⟨y136.to, y136.out⟩ : Edge)] : List Edge)] : List (List Edge))⟩ : Mach) ([0, 1] : List Int)) fun y219 =>
    bd (u6 N (⟨2, 2, ([([(⟨y1.to, y1.out⟩ : Edge), (⟨y7.to, y7.out⟩ : Edge)] : List Edge), ([(⟨y18.to, y18.out⟩ : Edge), (⟨y24.to, y24.out⟩ : Edge)] : List Edge), ([(⟨y35.to, y35.out⟩ : Edge), (⟨y41.to, y41.out⟩ : Edge)] : List Edge), ([(⟨y52.to, y52.out⟩ : Edge), (⟨y58.to, y58.out⟩ : Edge)] : List Edge), ([(⟨y69.to, y69.out⟩ : Edge), (⟨y75.to, y75.out⟩ : Edge)] : List Edge)] : List (List Edge))⟩ : Mach) (⟨2, 2, ([([(⟨y113.to, y113.out⟩ : Edge), (⟨y119.to, y119.out⟩ : Edge)] : List Edge), ([(⟨y130.to, y130.out⟩ : Edge), (⟨y136.to, y136.out⟩ : Edge)] : List Edge)] : List (List Edge))⟩ : Mach) ([0, 0, 1] : List Int)) fun y231 =>
    bd (z0c N (⟨y166.1.inputs, y166.1.outputs, y166.1.rows⟩ : Mach) y166.2 (⟨2, 2, ([([(⟨y113.to, y113.out⟩ : Edge), (⟨y119.to, y119.out⟩ : Edge)] : List Edge), ([(⟨y130.to, y130.out⟩ : Edge), (⟨y136.to, y136.out⟩ : Edge)] : List Edge)] : List (List Edge))⟩ : Mach)) fun y235 =>
    bd (gop (true && (y235 == true)) (z1j N y178.1 y178.2 ([0, 0, 1, 0, (-1)] : List Int) 0)) fun y237 =>
    bd (gop (true && ((((((y235 && (y237.getD default)) && (!y186.1)) && (decide (y186.2 = 0))) && y195.1) && (decide (y195.2 = 0))) == true)) (z0u N (⟨2, 2, ([([(⟨y1.to, y1.out⟩ : Edge), (⟨y7.to, y7.out⟩ : Edge)] : List Edge), ([(⟨y18.to, y18.out⟩ : Edge), (⟨y24.to, y24.out⟩ : Edge)] : List Edge), ([(⟨y35.to, y35.out⟩ : Edge), (⟨y41.to, y41.out⟩ : Edge)] : List Edge), ([(⟨y52.to, y52.out⟩ : Edge), (⟨y58.to, y58.out⟩ : Edge)] : List Edge), ([(⟨y69.to, y69.out⟩ : Edge), (⟨y75.to, y75.out⟩ : Edge)] : List Edge)] : List (List Edge))⟩ : Mach))) fun y239 =>
    bd (gop (true && (((((((y235 && (y237.getD default)) && (!y186.1)) && (decide (y186.2 = 0))) && y195.1) && (decide (y195.2 = 0))) && (decide ((y239.getD default) = 11))) == true)) (z0u N (⟨2, 2, ([([(⟨y113.to, y113.out⟩ : Edge), (⟨y119.to, y119.out⟩ : Edge)] : List Edge), ([(⟨y130.to, y130.out⟩ : Edge), (⟨y136.to, y136.out⟩ : Edge)] : List Edge)] : List (List Edge))⟩ : Mach))) fun y241 =>
    some ((((((((((((y235 && (y237.getD default)) && (!y186.1)) && (decide (y186.2 = 0))) && y195.1) && (decide (y195.2 = 0))) && (decide ((y239.getD default) = 11))) && (decide ((y241.getD default) = 0))) && (!y207.1)) && (decide (y207.2 = 0))) && y219.1) && (decide (y219.2 = 0))) && (decide (y231.2 = 16)))
def jr (N : Nat) (to_ : (List Int)) (y7 : Mach) (x28 : Int) : Nat → (List Edge) → Int → Option (List Edge)
  | 0, _, _ => none
  | F46 + 1, x47, x48 =>
    bif decide (x48 < y7.inputs) then (
    gd (okR x28 (↑y7.rows.length : Int)) <|
    gd (okI y7.rows (x28 % (↑y7.rows.length : Int))) <|
    gd (okI (ix y7.rows (x28 % (↑y7.rows.length : Int))) x48) <|
    bd (
    gd (in64 (x28 * y7.inputs)) <|
    gd (in64 ((x28 * y7.inputs) + x48)) <|
    gd ((true && (((decide (0 ≤ ((ix (ix y7.rows (x28 % (↑y7.rows.length : Int))) x48).to))) && (decide (((x28 * y7.inputs) + x48) < (↑to_.length : Int)))) == true)) = true → okI to_ ((x28 * y7.inputs) + x48)) <|
    gd ((true && (((decide (0 ≤ ((ix (ix y7.rows (x28 % (↑y7.rows.length : Int))) x48).to))) && (decide (((x28 * y7.inputs) + x48) < (↑to_.length : Int)))) == true)) = true → okR (ix to_ ((x28 * y7.inputs) + x48)) 2) <|
    bif ((decide (0 ≤ ((ix (ix y7.rows (x28 % (↑y7.rows.length : Int))) x48).to))) && (decide (((x28 * y7.inputs) + x48) < (↑to_.length : Int)))) && (decide (((ix to_ ((x28 * y7.inputs) + x48)) % 2) = 1)) then (
    gd (in64 (((ix (ix y7.rows (x28 % (↑y7.rows.length : Int))) x48).to) + (↑y7.rows.length : Int))) <|
    some (((ix (ix y7.rows (x28 % (↑y7.rows.length : Int))) x48).to) + (↑y7.rows.length : Int))) else (
    some ((ix (ix y7.rows (x28 % (↑y7.rows.length : Int))) x48).to))) fun o85 =>
    gd (fits 16 x47 ([(⟨o85, (ix (ix y7.rows (x28 % (↑y7.rows.length : Int))) x48).out⟩ : Edge)] : List Edge)) <|
    gd (in64 (x48 + 1)) <|
    jr N to_ y7 x28 F46 (x47 ++ ([(⟨o85, (ix (ix y7.rows (x28 % (↑y7.rows.length : Int))) x48).out⟩ : Edge)] : List Edge)) (x48 + 1)) else (
    some x47)
def jq (N : Nat) (to_ : (List Int)) (y7 : Mach) : Nat → Int → (List (List Edge)) → Option (List (List Edge))
  | 0, _, _ => none
  | F27 + 1, x28, x29 =>
    gd (in64 ((2 : Int) * (↑y7.rows.length : Int))) <|
    bif decide (x28 < ((2 : Int) * (↑y7.rows.length : Int))) then (
    bd (
    jr N to_ y7 x28 N ([] : List Edge) 0) fun o38 =>
    gd (fits 24 x29 ([o38] : List (List Edge))) <|
    gd (in64 (x28 + 1)) <|
    jq N to_ y7 F27 (x28 + 1) (x29 ++ ([o38] : List (List Edge)))) else (
    some x29)
def jo (N : Nat) (y7 : Mach) : Nat → (List Int) → Int → Option (List Int)
  | 0, _, _ => none
  | F288 + 1, x289, x290 =>
    gd (in64 ((2 : Int) * (↑y7.rows.length : Int))) <|
    bif decide (x290 < ((2 : Int) * (↑y7.rows.length : Int))) then (
    gd (okR x290 (↑y7.rows.length : Int)) <|
    gd (fits 8 x289 ([x290 % (↑y7.rows.length : Int)] : List Int)) <|
    gd (in64 (x290 + 1)) <|
    jo N y7 F288 (x289 ++ ([x290 % (↑y7.rows.length : Int)] : List Int)) (x290 + 1)) else (
    some x289)
def xx (N : Nat) (x : MDat) (to_ : (List Int)) : Option Bool :=
    bd (dx N x) fun y7 =>
    bd (
    jq N to_ y7 N 0 ([] : List (List Edge))) fun o19 =>
    bd (bg N (⟨y7.inputs, y7.outputs, y7.rows⟩ : Mach)) fun y177 =>
    bd (bg N (⟨y7.inputs, y7.outputs, o19⟩ : Mach)) fun y193 =>
    bd (gz N (⟨y7.inputs, y7.outputs, y7.rows⟩ : Mach)) fun y205 =>
    bd (gop (true && ((((decide (y177.2 ≠ 0)) || (decide (y193.2 ≠ 0))) || (decide (y205.2 ≠ 0))) == false)) (dz N (⟨y177.1.inputs, y177.1.outputs, y177.1.rows⟩ : Mach) (⟨y193.1.inputs, y193.1.outputs, y193.1.rows⟩ : Mach))) fun y211 =>
    bif (((((decide (y177.2 ≠ 0)) || (decide (y193.2 ≠ 0))) || (decide (y205.2 ≠ 0))) || (!(y211.getD default))) || (decide ((↑y7.rows.length : Int) < (↑y177.1.rows.length : Int)))) || (decide (y205.1 ≠ (decide ((↑y177.1.rows.length : Int) = (↑y7.rows.length : Int))))) then (
    some false) else (
    bd (
    jo N y7 N ([] : List Int) 0) fun o280 =>
    bd (u6 N (⟨y7.inputs, y7.outputs, o19⟩ : Mach) (⟨y7.inputs, y7.outputs, y7.rows⟩ : Mach) o280) fun y323 =>
    bd (gop (true && ((y323.1 && (decide (y323.2 = 0))) == true)) (ma N)) fun y327 =>
    some ((y323.1 && (decide (y323.2 = 0))) && (y327.getD default)))
def uh (N : Nat) (a : Mach) (b : Mach) (f : (List Int)) (x20 : Int) : Nat → Int → Option (Ex (Unit) (Ex (Unit) (Int)))
  | 0, _ => none
  | F32 + 1, x33 =>
    bif decide (x33 < a.inputs) then (
    gd (okI a.rows x20) <|
    gd (okI (ix a.rows x20) x33) <|
    gd (okI f x20) <|
    gd (okI b.rows (ix f x20)) <|
    gd (okI (ix b.rows (ix f x20)) x33) <|
    gd (((true && ((decide (((ix (ix a.rows x20) x33).out) ≠ ((ix (ix b.rows (ix f x20)) x33).out))) == false)) && ((decide (0 ≤ ((ix (ix a.rows x20) x33).to))) == true)) = true → okI f ((ix (ix a.rows x20) x33).to)) <|
    bif (decide (((ix (ix a.rows x20) x33).out) ≠ ((ix (ix b.rows (ix f x20)) x33).out))) || ((decide (0 ≤ ((ix (ix a.rows x20) x33).to))) && (decide ((ix f ((ix (ix a.rows x20) x33).to)) ≠ ((ix (ix b.rows (ix f x20)) x33).to)))) then (
    some (Ex.rt (Ex.rt 0))) else (
    gd (in64 (x33 + 1)) <|
    uh N a b f x20 F32 (x33 + 1))) else (
    some (Ex.go ()))
def ug (N : Nat) (a : Mach) (b : Mach) (f : (List Int)) : Nat → Int → Option (Ex (Unit) (Int))
  | 0, _ => none
  | F19 + 1, x20 =>
    bif decide (x20 < (↑a.rows.length : Int)) then (
    bd (
    uh N a b f x20 N 0) fun q29 =>
    Ex.on q29 (fun o28 =>
    gd (in64 (x20 + 1)) <|
    ug N a b f F19 (x20 + 1)) some) else (
    some (Ex.go ()))
def pq (N : Nat) (a : Mach) (b : Mach) (f : (List Int)) : Option Int :=
    gd (okI f 0) <|
    bif decide ((ix f 0) ≠ 0) then (
    some 0) else (
    bd (
    ug N a b f N 0) fun q16 =>
    Ex.on q16 (fun o15 =>
    some 1) some)
def xg (N : Nat) (x : WDat) (inputs : Int) : Nat → (List Int) → Int → Option (List Int)
  | 0, _, _ => none
  | F13 + 1, x14, x15 =>
    bif (decide (x15 < (↑x.syms.length : Int))) && (decide (x15 < 12)) then (
    gd (okI x.syms x15) <|
    gd (in64 (ix x.syms x15)) <|
    gd (okR (ix x.syms x15) inputs) <|
    gd (fits 8 x14 ([(ix x.syms x15) % inputs] : List Int)) <|
    gd (in64 (x15 + 1)) <|
    xg N x inputs F13 (x14 ++ ([(ix x.syms x15) % inputs] : List Int)) (x15 + 1)) else (
    some x14)
def ic (N : Nat) (x : WDat) (inputs : Int) : Option (List Int) :=
    bd (
    xg N x inputs N ([] : List Int) 0) fun o5 =>
    some o5
def ig (N : Nat) (m : Mach) (s : Int) (i : Int) : Option Edge :=
    bif decide (s < 0) then (
    some (⟨(-1), (-1)⟩ : Edge)) else (
    gd (okI m.rows s) <|
    gd (okI (ix m.rows s) i) <|
    some (⟨(ix (ix m.rows s) i).to, (ix (ix m.rows s) i).out⟩ : Edge))
def xy (N : Nat) (m : Mach) (w_ : (List Int)) : Nat → Int → (List Int) → Int → Option (List Int)
  | 0, _, _, _ => none
  | F13 + 1, x14, x15, x16 =>
    bif decide (x16 < (↑w_.length : Int)) then (
    gd (okI w_ x16) <|
    bd (ig N m x14 (ix w_ x16)) fun y25 =>
    gd (fits 8 x15 ([y25.out] : List Int)) <|
    gd (in64 (x16 + 1)) <|
    xy N m w_ F13 y25.to (x15 ++ ([y25.out] : List Int)) (x16 + 1)) else (
    some x15)
def dh (N : Nat) (m : Mach) (s : Int) (w_ : (List Int)) : Option (List Int) :=
    bd (
    xy N m w_ N s ([] : List Int) 0) fun o5 =>
    some o5
def qx (N : Nat) (f : (List Int)) (y12 : Mach) : Nat → Int → Int → Option Int
  | 0, _, _ => none
  | F57 + 1, x58, x59 =>
    bif (decide (x59 < (↑f.length : Int))) && (decide (x58 = 0)) then (
    bd (
    gd (okI f x59) <|
    gd ((true && ((decide ((ix f x59) < 0)) == false)) = true → okI f x59) <|
    bif (decide ((ix f x59) < 0)) || (decide ((↑y12.rows.length : Int) ≤ (ix f x59))) then (
    some 1) else (
    some x58)) fun o81 =>
    gd (in64 (x59 + 1)) <|
    qx N f y12 F57 o81 (x59 + 1)) else (
    some x58)
def qw (N : Nat) (f : (List Int)) (y10 : Mach) (y12 : Mach) (y40 : Bool × Int) (y185 : (List Int)) : Nat → Int → Option (Ex (Unit) (Bool))
  | 0, _ => none
  | F195 + 1, x196 =>
    bif (decide (x196 < (↑f.length : Int))) && y40.1 then (
    bd (dh N (⟨y10.inputs, y10.outputs, y10.rows⟩ : Mach) x196 y185) fun y216 =>
    gd (okI f x196) <|
    bd (dh N (⟨y12.inputs, y12.outputs, y12.rows⟩ : Mach) (ix f x196) y185) fun y219 =>
    bd (mo N y216 y219) fun y221 =>
    bif !y221 then (
    some (Ex.rt false)) else (
    gd (in64 (x196 + 1)) <|
    qw N f y10 y12 y40 y185 F195 (x196 + 1))) else (
    some (Ex.go ()))
def yj (N : Nat) (x : (MDat × MDat)) (f : (List Int)) (y : WDat) : Option Bool :=
    bif decide (80 < (↑f.length : Int)) then (
    some true) else (
    bd (dx N x.1) fun y10 =>
    bd (dx N x.2) fun y12 =>
    bd (u6 N (⟨y10.inputs, y10.outputs, y10.rows⟩ : Mach) (⟨y12.inputs, y12.outputs, y12.rows⟩ : Mach) f) fun y40 =>
    bd (
    bif decide (y10.inputs ≠ y12.inputs) then (
    some 5) else (
    bif decide ((↑f.length : Int) ≠ (↑y10.rows.length : Int)) then (
    some 16) else (
    some 0))) fun o46 =>
    bd (
    qx N f y12 N o46 0) fun o54 =>
    bif decide (o54 ≠ 0) then (
    bd (gop (true && (((!y40.1) && (decide (y40.2 = o54))) == true)) (ma N)) fun y130 =>
    some (((!y40.1) && (decide (y40.2 = o54))) && (y130.getD default))) else (
    bd (gop (true && ((decide (y40.2 ≠ 0)) == false)) (pq N (⟨y10.inputs, y10.outputs, y10.rows⟩ : Mach) (⟨y12.inputs, y12.outputs, y12.rows⟩ : Mach) f)) fun y156 =>
    bif (decide (y40.2 ≠ 0)) || (decide (y40.1 ≠ (decide ((y156.getD default) = 1)))) then (
    some false) else (
    bd (ic N y y10.inputs) fun y185 =>
    bd (
    qw N f y10 y12 y40 y185 N 0) fun q192 =>
    Ex.on q192 (fun o191 =>
    bd (ma N) fun y259 =>
    some y259) some)))
end GV
end Go.Proofs.Ytkcccdcloealfaa
