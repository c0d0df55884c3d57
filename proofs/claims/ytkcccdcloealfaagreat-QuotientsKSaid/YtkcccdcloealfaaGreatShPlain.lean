import Derived.Test.YtkcccdcloealfaaGreatShTypes
set_option linter.unusedVariables false
set_option linter.unusedSimpArgs false
namespace Go.Proofs.YtkcccdcloealfaaGreat
namespace GV
set_option maxRecDepth 100000
def w9 (N : Nat) (s : (List Edge)) (f : Edge → Option Bool) : Nat → Int → Option (Ex (Unit) (Int))
  | 0, _ => none
  | F5 + 1, x6 =>
    bif decide (x6 < (↑s.length : Int)) then (
    gd (okI s x6) <|
    bd (f (ix s x6)) fun y15 =>
    bif y15 then (
    some (Ex.rt x6)) else (
    gd (in64 (x6 + 1)) <|
    w9 N s f F5 (x6 + 1))) else (
    some (Ex.go ()))
def l8 (N : Nat) (s : (List Edge)) (f : Edge → Option Bool) : Option Int :=
    bd (
    w9 N s f N 0) fun q2 =>
    Ex.on q2 (fun o1 =>
    some (-1)) some
def au (N : Nat) (s : (List Edge)) (f : Edge → Option Bool) : Option Bool :=
    bd (l8 N s f) fun y1 =>
    some (decide (0 ≤ y1))
def z4d (N : Nat) : Option Edge :=
    some (⟨(-1), (-1)⟩ : Edge)
def zaz (N : Nat) (m : Mach) (x : Edge) : Option Bool :=
    bd (z4d N) fun y9 =>
    some ((decide (x.to = y9.to ∧ x.out = y9.out)) || ((((decide (0 ≤ x.to)) && (decide (x.to < (↑m.rows.length : Int)))) && (decide (0 ≤ x.out))) && (decide (x.out < m.outputs))))
def z7z (N : Nat) (x : Edge) (p0_ : Mach) : Option Bool :=
    bd (zaz N p0_ x) fun y9 =>
    some (!y9)
def ik (N : Nat) (m : Mach) : Nat → Int → Option (Ex (Unit) (Int))
  | 0, _ => none
  | F75 + 1, x76 =>
    bif decide (x76 < (↑m.rows.length : Int)) then (
    gd (okI m.rows x76) <|
    bd (gop (true && ((decide ((↑(ix m.rows x76).length : Int) ≠ m.inputs)) == false)) (au N (ix m.rows x76) (fun z0 => z7z N z0 m))) fun y85 =>
    bif (decide ((↑(ix m.rows x76).length : Int) ≠ m.inputs)) || (y85.getD default) then (
    some (Ex.rt 1)) else (
    gd (in64 (x76 + 1)) <|
    ik N m F75 (x76 + 1))) else (
    some (Ex.go ()))
def yc (N : Nat) (m : Mach) : Option Int :=
    bif ((decide (16 < m.inputs)) || (decide (16 < m.outputs))) || (decide (64 < (↑m.rows.length : Int))) then (
    some 3) else (
    bif ((decide (m.inputs < 1)) || (decide (m.outputs < 1))) || (decide ((↑m.rows.length : Int) < 1)) then (
    some 1) else (
    bd (
    ik N m N 0) fun q68 =>
    Ex.on q68 (fun o67 =>
    some 0) some))
def z6u (N : Nat) (m : Mach) : Option Mach :=
    some m
def ak (N : Nat) (m : Mach) (p : (List Int)) (s : Int) : Nat → Int → (Arr 16 (Int × Int)) → Option (Arr 16 (Int × Int))
  | 0, _, _ => none
  | F21 + 1, x22, x23 =>
    bif decide (x22 < (↑(ix m.rows s).length : Int)) then (
    bd (
    gd (okI (ix m.rows s) x22) <|
    gd (okI x23.1 x22) <|
    bif decide (((ix (ix m.rows s) x22).to) ≠ (-1)) then (
    gd (okI p ((ix (ix m.rows s) x22).to)) <|
    gd (okI (z3u x23 x22 (((ix (ix m.rows s) x22).out, (-1)) : (Int × Int))).1 x22) <|
    some (z3u (z3u x23 x22 (((ix (ix m.rows s) x22).out, (-1)) : (Int × Int))) x22 (((ix (z3u x23 x22 (((ix (ix m.rows s) x22).out, (-1)) : (Int × Int))).1 x22).1, (ix p ((ix (ix m.rows s) x22).to))) : (Int × Int)))) else (
    some (z3u x23 x22 (((ix (ix m.rows s) x22).out, (-1)) : (Int × Int))))) fun o27 =>
    gd (in64 (x22 + 1)) <|
    ak N m p s F21 (x22 + 1) o27) else (
    some x23)
def z6k (N : Nat) (m : Mach) (p : (List Int)) (s : Int) : Option (Arr 16 (Int × Int)) :=
    bd (
    gd (okI m.rows s) <|
    ak N m p s N 0 (zar 16 (List.replicate 16 (((0 : Int), (0 : Int)) : (Int × Int))))) fun o9 =>
    some o9
def ah (N : Nat) (m : Mach) (p : (List Int)) : Nat → Int → (List (Srefines_key × Int)) → (List Int) → Option (List Int)
  | 0, _, _, _ => none
  | F21 + 1, x22, x23, x24 =>
    bif decide (x22 < (↑p.length : Int)) then (
    gd (okI p x22) <|
    bd (z6k N m p x22) fun y40 =>
    bd (
    bif !(z4z x23 (⟨(ix p x22), y40⟩ : Srefines_key)) then (
    some (z7v x23 (⟨(ix p x22), y40⟩ : Srefines_key) (↑x23.length : Int))) else (
    some x23)) fun o48 =>
    gd (okI x24 x22) <|
    gd (in64 (x22 + 1)) <|
    ah N m p F21 (x22 + 1) o48 (up x24 x22 (z3j (0 : Int) o48 (⟨(ix p x22), y40⟩ : Srefines_key)))) else (
    some x24)
def z4b (N : Nat) (m : Mach) (p : (List Int)) : Option (List Int) :=
    gd (okM 8 (↑p.length : Int)) <|
    bd (
    ah N m p N 0 ([] : List (Srefines_key × Int)) (mk (↑p.length : Int) (0 : Int))) fun o15 =>
    some o15
def o6 (N : Nat) (s1_ : (List Int)) (s2_ : (List Int)) : Nat → Int → Option (Ex (Unit) (Bool))
  | 0, _ => none
  | F6 + 1, x7 =>
    bif decide (x7 < (↑s1_.length : Int)) then (
    gd (okI s1_ x7) <|
    gd (okI s2_ x7) <|
    bif decide ((ix s1_ x7) ≠ (ix s2_ x7)) then (
    some (Ex.rt false)) else (
    gd (in64 (x7 + 1)) <|
    o6 N s1_ s2_ F6 (x7 + 1))) else (
    some (Ex.go ()))
def slices_Equal_int (N : Nat) (s1_ : (List Int)) (s2_ : (List Int)) : Option Bool :=
    bif decide ((↑s1_.length : Int) ≠ (↑s2_.length : Int)) then (
    some false) else (
    bd (
    o6 N s1_ s2_ N 0) fun q3 =>
    Ex.on q3 (fun o2 =>
    some true) some)
def ll (N : Nat) (σ : Type) (B : (List Int) → σ → Option (Bool × σ)) (p0_ : Mach) : Nat → σ → (List Int) → Option σ
  | 0, _, _ => none
  | F15 + 1, x16, x17 =>
    bd (B x17 x16) fun y24 =>
    bif y24.1 then (
    bd (z4b N p0_ x17) fun y33 =>
    bd (slices_Equal_int N x17 y33) fun y39 =>
    bif y39 then (
    some y24.2) else (
    ll N σ B p0_ F15 y24.2 y33)) else (
    some y24.2)
def z4t (N : Nat) (p0_ : Mach) (σ : Type) (B : (List Int) → σ → Option (Bool × σ)) (s0 : σ) : Option σ :=
    gd (okM 8 (↑p0_.rows.length : Int)) <|
    ll N σ B p0_ N s0 (mk (↑p0_.rows.length : Int) (0 : Int))
def z0p (N : Nat) (m : Mach) : Option ((List Int) × Int × Int) :=
    bd (yc N m) fun y11 =>
    bif decide (y11 ≠ 0) then (
    some (([] : (List Int)), 0, y11)) else (
    bd (z6u N m) fun y20 =>
    bd (z4t N y20 ((List Int) × Int) (fun y30 x31 =>
    gd (in64 (x31.2 + 1)) <|
    some (true, (y30, x31.2 + 1))) (([] : (List Int)), (-1))) fun o28 =>
    some (o28.1, o28.2, 0))
def bv (N : Nat) (l_ : (List Int)) : Nat → (List Int) → Int → (List (Int × Int)) → (List Int) → Option (List Int × List Int)
  | 0, _, _, _, _ => none
  | F22 + 1, x23, x24, x25, x26 =>
    bif decide (x24 < (↑l_.length : Int)) then (
    gd (okI l_ x24) <|
    bd (
    bif !(z4z x25 (ix l_ x24)) then (
    gd (fits 8 x23 ([x24] : List Int)) <|
    some ((x23 ++ ([x24] : List Int)), (z7v x25 (ix l_ x24) (↑x23.length : Int)))) else (
    some (x23, x25))) fun o44 =>
    gd (okI x26 x24) <|
    gd (in64 (x24 + 1)) <|
    bv N l_ F22 o44.1 (x24 + 1) o44.2 (up x26 x24 (z3j (0 : Int) o44.2 (ix l_ x24)))) else (
    some (x23, x26))
def z1x (N : Nat) (l_ : (List Int)) : Option ((List Int) × (List Int)) :=
    gd (okM 8 (↑l_.length : Int)) <|
    bd (
    bv N l_ N ([] : List Int) 0 ([] : List (Int × Int)) (mk (↑l_.length : Int) (0 : Int))) fun o11 =>
    some (o11.1, o11.2)
def z1i (N : Nat) (s : (List Edge)) : Option (List Edge) :=
    gd (fits 16 ([] : List Edge) s) <|
    some (([] : List Edge) ++ s)
def z2x (N : Nat) (s : (List Edge)) : Option (List Edge) :=
    gd (okS s 0 (↑s.length : Int)) <|
    some (cut s 0 (↑s.length : Int))
def oh (N : Nat) (y7 : (List Int) × (List Int)) (y59 : (List Edge)) : Nat → Int → (List Edge) → Option (List Edge)
  | 0, _, _ => none
  | F75 + 1, x76, x77 =>
    bif decide (x76 < (↑y59.length : Int)) then (
    bd (
    gd (okI x77 x76) <|
    bif decide (((ix x77 x76).to) ≠ (-1)) then (
    gd (okI y7.2 ((ix x77 x76).to)) <|
    gd (okI x77 x76) <|
    some (up x77 x76 (⟨(ix y7.2 ((ix x77 x76).to)), (ix x77 x76).out⟩ : Edge))) else (
    some x77)) fun o83 =>
    gd (in64 (x76 + 1)) <|
    oh N y7 y59 F75 (x76 + 1) o83) else (
    some x77)
def tu (N : Nat) (m : Mach) (y7 : (List Int) × (List Int)) : Nat → Int → (List (List Edge)) → Option (List (List Edge))
  | 0, _, _ => none
  | F35 + 1, x36, x37 =>
    bif decide (x36 < (↑y7.1.length : Int)) then (
    gd (okI y7.1 x36) <|
    gd (okI m.rows (ix y7.1 x36)) <|
    bd (z1i N (ix m.rows (ix y7.1 x36))) fun y59 =>
    bd (
    oh N y7 y59 N 0 y59) fun o70 =>
    bd (z2x N o70) fun y129 =>
    gd (fits 24 x37 ([y129] : List (List Edge))) <|
    gd (in64 (x36 + 1)) <|
    tu N m y7 F35 (x36 + 1) (x37 ++ ([y129] : List (List Edge)))) else (
    some x37)
def z3q (N : Nat) (m : Mach) (p : (List Int)) : Option (Mach × (List Int)) :=
    bd (z1x N p) fun y7 =>
    bd (
    tu N m y7 N 0 ([] : List (List Edge))) fun o27 =>
    some ((⟨m.inputs, m.outputs, o27⟩ : Mach), y7.2)
def z6v (N : Nat) (m : Mach) (from_ : Int) : Option (Mach × Int) :=
    some (m, from_)
def tq (N : Nat) (σ : Type) (p0_ : Mach) (x28 : List Swalks_arrival) : Nat → σ → Int → (List Bool) → (List Swalks_arrival) → Option (Ex (σ × List Bool × List Swalks_arrival) (σ))
  | 0, _, _, _, _ => none
  | F79 + 1, x80, x81, x82, x83 =>
    bif decide (x81 < (↑(ix p0_.rows ((ix x28 0).f_state)).length : Int)) then (
    bd (
    gd (okI (ix p0_.rows ((ix x28 0).f_state)) x81) <|
    gd ((true && ((decide (((ix (ix p0_.rows ((ix x28 0).f_state)) x81).to) ≠ (-1))) == true)) = true → okI x82 ((ix (ix p0_.rows ((ix x28 0).f_state)) x81).to)) <|
    bif (decide (((ix (ix p0_.rows ((ix x28 0).f_state)) x81).to) ≠ (-1))) && (!(ix x82 ((ix (ix p0_.rows ((ix x28 0).f_state)) x81).to))) then (
    gd (okI x82 ((ix (ix p0_.rows ((ix x28 0).f_state)) x81).to)) <|
    gd (fits 24 x83 ([(⟨(ix (ix p0_.rows ((ix x28 0).f_state)) x81).to, (ix x28 0).f_state, x81⟩ : Swalks_arrival)] : List Swalks_arrival)) <|
    some (x80, (up x82 ((ix (ix p0_.rows ((ix x28 0).f_state)) x81).to) true), (x83 ++ ([(⟨(ix (ix p0_.rows ((ix x28 0).f_state)) x81).to, (ix x28 0).f_state, x81⟩ : Swalks_arrival)] : List Swalks_arrival)))) else (
    some (x80, x82, x83))) fun o95 =>
    gd (in64 (x81 + 1)) <|
    tq N σ p0_ x28 F79 o95.1 (x81 + 1) o95.2.1 o95.2.2) else (
    some (Ex.go (x80, x82, x83)))
def lh (N : Nat) (σ : Type) (B : Swalks_arrival → σ → Option (Bool × σ)) (p0_ : Mach) : Nat → σ → (List Bool) → (List Swalks_arrival) → Option σ
  | 0, _, _, _ => none
  | F25 + 1, x26, x27, x28 =>
    bd (
    bif decide (0 < (↑x28.length : Int)) then (
    gd (okI x28 0) <|
    gd (okS x28 1 (↑x28.length : Int)) <|
    bd (B (⟨(ix x28 0).f_state, (ix x28 0).f_from, (ix x28 0).f_input⟩ : Swalks_arrival) x26) fun y63 =>
    bif !y63.1 then (
    some (Ex.rt y63.2)) else (
    gd (okI p0_.rows ((ix x28 0).f_state)) <|
    tq N σ p0_ x28 N y63.2 0 x27 (cut x28 1 (↑x28.length : Int)))) else (
    some (Ex.rt x26))) fun q40 =>
    Ex.on q40 (fun o39 =>
    lh N σ B p0_ F25 o39.1 o39.2.1 o39.2.2) some
def z2j (N : Nat) (p0_ : Mach) (p1_ : Int) (σ : Type) (B : Swalks_arrival → σ → Option (Bool × σ)) (s0 : σ) : Option σ :=
    gd (okM 1 (↑p0_.rows.length : Int)) <|
    gd (okI (mk (↑p0_.rows.length : Int) false) p1_) <|
    lh N σ B p0_ N s0 (up (mk (↑p0_.rows.length : Int) false) p1_ true) ([(⟨p1_, (-1), (-1)⟩ : Swalks_arrival)] : List Swalks_arrival)
def z2g (N : Nat) (m : Mach) : Option (List Int) :=
    bd (z6v N m 0) fun y9 =>
    bd (z2j N y9.1 y9.2 (List Int) (fun y22 x23 =>
    gd (fits 8 x23 ([y22.f_state] : List Int)) <|
    some (true, (x23 ++ ([y22.f_state] : List Int)))) ([] : List Int)) fun o20 =>
    some o20
def z92 (N : Nat) (x : Edge) (p0_ : (List (Int × Int))) : Option Edge :=
    some (⟨(z3j (0 : Int) p0_ x.to), x.out⟩ : Edge)
def z16 (N : Nat) (l_ : (List Int)) : Nat → Int → (List (Int × Int)) → Option (List (Int × Int))
  | 0, _, _ => none
  | F20 + 1, x21, x22 =>
    bif decide (x21 < (↑l_.length : Int)) then (
    gd (okI l_ x21) <|
    gd (in64 (x21 + 1)) <|
    z16 N l_ F20 (x21 + 1) (z7v x22 (ix l_ x21) x21)) else (
    some x22)
def z19 (N : Nat) (m : Mach) (l_ : (List Int)) (o15 : List (Int × Int)) (x78 : Int) : Nat → Int → (List (List Edge)) → Option (List (List Edge))
  | 0, _, _ => none
  | F131 + 1, x132, x133 =>
    bif decide (x132 < (↑(ix m.rows (ix l_ x78)).length : Int)) then (
    gd (okI (ix m.rows (ix l_ x78)) x132) <|
    gd (okI x133 x78) <|
    bd (z92 N (⟨(ix (ix m.rows (ix l_ x78)) x132).to, (ix (ix m.rows (ix l_ x78)) x132).out⟩ : Edge) o15) fun y149 =>
    gd (okI (ix x133 x78) x132) <|
    gd (in64 (x132 + 1)) <|
    z19 N m l_ o15 x78 F131 (x132 + 1) (up x133 x78 (up (ix x133 x78) x132 y149))) else (
    some x133)
def z14 (N : Nat) (m : Mach) (l_ : (List Int)) (o15 : List (Int × Int)) : Nat → Int → (List (List Edge)) → Option (List (List Edge))
  | 0, _, _ => none
  | F77 + 1, x78, x79 =>
    bif decide (x78 < (↑l_.length : Int)) then (
    bd (
    gd (okI l_ x78) <|
    gd (okM 16 m.inputs) <|
    gd (okI x79 x78) <|
    gd (okI m.rows (ix l_ x78)) <|
    z19 N m l_ o15 x78 N 0 (up x79 x78 (mk m.inputs (⟨(0 : Int), (0 : Int)⟩ : Edge)))) fun o87 =>
    gd (in64 (x78 + 1)) <|
    z14 N m l_ o15 F77 (x78 + 1) o87) else (
    some x79)
def z3h (N : Nat) (m : Mach) (l_ : (List Int)) : Option Mach :=
    bd (
    z16 N l_ N 0 (z7v ([] : List (Int × Int)) (-1) (-1))) fun o15 =>
    gd (okM 24 (↑l_.length : Int)) <|
    bd (
    z14 N m l_ o15 N 0 (mk (↑l_.length : Int) ([] : List Edge))) fun o70 =>
    some (⟨m.inputs, m.outputs, o70⟩ : Mach)
def z2w (N : Nat) (m : Mach) : Option (Mach × Int) :=
    bd (yc N m) fun y9 =>
    bif decide (y9 ≠ 0) then (
    some ((⟨0, 0, []⟩ : Mach), y9)) else (
    bd (z2g N m) fun y16 =>
    bd (z3h N m y16) fun y18 =>
    some ((⟨y18.inputs, y18.outputs, y18.rows⟩ : Mach), 0))
def bu (N : Nat) (vals : (List Int)) : Nat → Int → Option (Ex (Unit) (Int))
  | 0, _ => none
  | F5 + 1, x6 =>
    bif decide (x6 < (↑vals.length : Int)) then (
    gd (okI vals x6) <|
    bif decide ((ix vals x6) ≠ 0) then (
    some (Ex.rt (ix vals x6))) else (
    gd (in64 (x6 + 1)) <|
    bu N vals F5 (x6 + 1))) else (
    some (Ex.go ()))
def z0b (N : Nat) (vals : (List Int)) : Option Int :=
    bd (
    bu N vals N 0) fun q2 =>
    Ex.on q2 (fun o1 =>
    some 0) some
def ut (N : Nat) (s1_ : (List (List Edge))) (s2_ : (List (List Edge))) (eq : (List Edge) → (List Edge) → Option Bool) : Nat → Int → Option (Ex (Unit) (Bool))
  | 0, _ => none
  | F6 + 1, x7 =>
    bif decide (x7 < (↑s1_.length : Int)) then (
    gd (okI s1_ x7) <|
    gd (okI s2_ x7) <|
    bd (eq (ix s1_ x7) (ix s2_ x7)) fun y21 =>
    bif !y21 then (
    some (Ex.rt false)) else (
    gd (in64 (x7 + 1)) <|
    ut N s1_ s2_ eq F6 (x7 + 1))) else (
    some (Ex.go ()))
def rz (N : Nat) (s1_ : (List (List Edge))) (s2_ : (List (List Edge))) (eq : (List Edge) → (List Edge) → Option Bool) : Option Bool :=
    bif decide ((↑s1_.length : Int) ≠ (↑s2_.length : Int)) then (
    some false) else (
    bd (
    ut N s1_ s2_ eq N 0) fun q3 =>
    Ex.on q3 (fun o2 =>
    some true) some)
def xq (N : Nat) (s1_ : (List Edge)) (s2_ : (List Edge)) : Nat → Int → Option (Ex (Unit) (Bool))
  | 0, _ => none
  | F6 + 1, x7 =>
    bif decide (x7 < (↑s1_.length : Int)) then (
    gd (okI s1_ x7) <|
    gd (okI s2_ x7) <|
    bif decide (¬ (((ix s1_ x7).to) = ((ix s2_ x7).to) ∧ ((ix s1_ x7).out) = ((ix s2_ x7).out))) then (
    some (Ex.rt false)) else (
    gd (in64 (x7 + 1)) <|
    xq N s1_ s2_ F6 (x7 + 1))) else (
    some (Ex.go ()))
def z0t (N : Nat) (s1_ : (List Edge)) (s2_ : (List Edge)) : Option Bool :=
    bif decide ((↑s1_.length : Int) ≠ (↑s2_.length : Int)) then (
    some false) else (
    bd (
    xq N s1_ s2_ N 0) fun q3 =>
    Ex.on q3 (fun o2 =>
    some true) some)
def z5j (N : Nat) (a : Mach) (b : Mach) : Option Bool :=
    bd (yc N a) fun y9 =>
    bd (gop (true && ((decide (y9 = 0)) == true)) (yc N b)) fun y11 =>
    bd (gop (true && (((((decide (y9 = 0)) && (decide ((y11.getD default) = 0))) && (decide (a.inputs = b.inputs))) && (decide (a.outputs = b.outputs))) == true)) (rz N a.rows b.rows (fun z0 z1 => z0t N z0 z1))) fun y13 =>
    some (((((decide (y9 = 0)) && (decide ((y11.getD default) = 0))) && (decide (a.inputs = b.inputs))) && (decide (a.outputs = b.outputs))) && (y13.getD default))
def z5n (N : Nat) (x y : Int) : Option (Int × Int) :=
    gd ((0 ≤ x ∧ x < 18446744073709551616) ∧ 0 ≤ y ∧ y < 18446744073709551616) (some (x * y / 18446744073709551616, x * y % 18446744073709551616))
def nz (N : Nat) : Nat → Int → (List Int) → Option (List Int)
  | 0, _, _ => none
  | F42 + 1, x43, x44 =>
    bif decide (x43 < (↑x44.length : Int)) then (
    gd (okS x44 x43 (↑x44.length : Int)) <|
    gd (okS x44 0 x43) <|
    gd (in64 (x43 + (↑(min (x43.toNat - 0) (x44.length - x43.toNat)) : Int))) <|
    nz N F42 (x43 + (↑(min (x43.toNat - 0) (x44.length - x43.toNat)) : Int)) (z7d x44 x43.toNat ((x44.drop 0).take (min (x43.toNat - 0) (x44.length - x43.toNat))))) else (
    some x44)
def z0l (N : Nat) (x : (List Int)) (count : Int) : Option (List Int) :=
    bif decide (count < 0) then (
    none) else (
    bd (z5n N (IntKind.u64.wrap (↑x.length : Int)) (IntKind.u64.wrap count)) fun y2 =>
    bif (decide (0 < y2.1)) || (decide (9223372036854775807 < y2.2)) then (
    none) else (
    gd (in64 y2.2) <|
    gd (okM 8 y2.2) <|
    bd (
    nz N N (↑(min x.length (mk y2.2 (0 : Int)).length) : Int) (z7d (mk y2.2 (0 : Int)) 0 (x.take (min x.length (mk y2.2 (0 : Int)).length)))) fun o37 =>
    some o37))
def z1o (N : Nat) (s : (List Int)) : Option (List Int) :=
    gd (okS s 0 (↑s.length : Int)) <|
    some (cut s 0 (↑s.length : Int))
def o8 (N : Nat) (y32 : (List Int)) (y34 : (List Int)) : Nat → Int → (List Int) → Option (List Int)
  | 0, _, _ => none
  | F104 + 1, x105, x106 =>
    bif decide (x105 < (↑y32.length : Int)) then (
    gd (okI y32 x105) <|
    gd (okI y34 x105) <|
    gd (okI x106 (ix y32 x105)) <|
    gd (in64 (x105 + 1)) <|
    o8 N y32 y34 F104 (x105 + 1) (up x106 (ix y32 x105) (ix y34 x105))) else (
    some x106)
def z2i (N : Nat) (a : Mach) (b : Mach) : Option ((List Int) × Bool × Int) :=
    bd (yc N a) fun y9 =>
    bd (yc N b) fun y11 =>
    bd (z0b N ([y9, y11] : List Int)) fun y13 =>
    bif decide (y13 ≠ 0) then (
    some (([] : (List Int)), false, y13)) else (
    bd (z2g N a) fun y32 =>
    bd (z2g N b) fun y34 =>
    bd (z3h N a y32) fun y50 =>
    bd (z3h N b y34) fun y52 =>
    bd (z5j N y50 y52) fun y54 =>
    bif !y54 then (
    some (([] : (List Int)), false, 0)) else (
    bd (z0l N ([(-1)] : List Int) (↑a.rows.length : Int)) fun y88 =>
    bd (
    o8 N y32 y34 N 0 y88) fun o99 =>
    bd (z1o N o99) fun y138 =>
    some (y138, true, 0)))
def z4g (N : Nat) (s : (List Int)) : Option (List Int) :=
    some s
def mg (N : Nat) (σ : Type) (B : Int → σ → Option (Bool × σ)) (p0_ : (List Int)) : Nat → σ → Int → Option σ
  | 0, _, _ => none
  | F3 + 1, x4, x5 =>
    bif decide (x5 < (↑p0_.length : Int)) then (
    gd (okI p0_ x5) <|
    bd (B (ix p0_ x5) x4) fun y16 =>
    bif !y16.1 then (
    some y16.2) else (
    gd (in64 (x5 + 1)) <|
    mg N σ B p0_ F3 y16.2 (x5 + 1))) else (
    some x4)
def z1u (N : Nat) (p0_ : (List Int)) (σ : Type) (B : Int → σ → Option (Bool × σ)) (s0 : σ) : Option σ :=
    mg N σ B p0_ N s0 0
def slices_Sort_int (N : Nat) (x : List Int) : Option (List Int) :=
    gd (0 < x.length ∧ x.length < 4611686018427387904) (some (z5d x))
def l5 (N : Nat) (s : List Int) (seq_0_ : (List Int)) : Option (List Int) :=
    bd (z1u N seq_0_ (List Int) (fun y5 x6 =>
    gd (fits 8 x6 ([y5] : List Int)) <|
    some (true, (x6 ++ ([y5] : List Int)))) s) fun o3 =>
    some o3
def z3e (N : Nat) (seq_0_ : (List Int)) : Option (List Int) :=
    bd (l5 N ([] : List Int) seq_0_) fun y2 =>
    some y2
def z3d (N : Nat) (seq_0_ : (List Int)) : Option (List Int) :=
    bd (z3e N seq_0_) fun y1 =>
    bd (slices_Sort_int N y1) fun y12 =>
    some y12
def z6c (N : Nat) (m : Mach) : Option ((List Int) × Int) :=
    bd (yc N m) fun y7 =>
    bif decide (y7 ≠ 0) then (
    some (([] : (List Int)), y7)) else (
    bd (z2g N m) fun y16 =>
    bd (z4g N y16) fun y22 =>
    bd (z3d N y22) fun y30 =>
    bd (z1o N y30) fun y36 =>
    some (y36, 0))
def iq (N : Nat) (y20 : Mach × (List Int)) (y47 : (List Int) × Bool × Int) (y82 : (List Int) × Int) : Nat → Int → (List Int) → Option (List Int)
  | 0, _, _ => none
  | F95 + 1, x96, x97 =>
    bif decide (x96 < (↑y82.1.length : Int)) then (
    gd (okI y82.1 x96) <|
    gd (okI y20.2 (ix y82.1 x96)) <|
    gd (okI y47.1 (ix y20.2 (ix y82.1 x96))) <|
    gd (okI x97 (ix y82.1 x96)) <|
    gd (in64 (x96 + 1)) <|
    iq N y20 y47 y82 F95 (x96 + 1) (up x97 (ix y82.1 x96) (ix y47.1 (ix y20.2 (ix y82.1 x96))))) else (
    some x97)
def z1b (N : Nat) (m : Mach) : Option (Mach × (List Int) × Int) :=
    bd (z0p N m) fun y9 =>
    bif decide (y9.2.2 ≠ 0) then (
    some ((⟨0, 0, []⟩ : Mach), ([] : (List Int)), y9.2.2)) else (
    bd (z3q N m y9.1) fun y20 =>
    bd (z2w N (⟨y20.1.inputs, y20.1.outputs, y20.1.rows⟩ : Mach)) fun y34 =>
    bif decide (y34.2 ≠ 0) then (
    some ((⟨0, 0, []⟩ : Mach), ([] : (List Int)), y34.2)) else (
    bd (z2i N (⟨y20.1.inputs, y20.1.outputs, y20.1.rows⟩ : Mach) (⟨y34.1.inputs, y34.1.outputs, y34.1.rows⟩ : Mach)) fun y47 =>
    bif decide (y47.2.2 ≠ 0) then (
    some ((⟨0, 0, []⟩ : Mach), ([] : (List Int)), y47.2.2)) else (
    bd (z0l N ([(-1)] : List Int) (↑m.rows.length : Int)) fun y69 =>
    bd (z6c N m) fun y82 =>
    bd (
    iq N y20 y47 y82 N 0 y69) fun o90 =>
    bd (z1o N o90) fun y134 =>
    some ((⟨y34.1.inputs, y34.1.outputs, y34.1.rows⟩ : Mach), y134, y82.2))))
def yl (N : Nat) (m : Mach) : Option (Mach × Int) :=
    bd (z1b N m) fun y9 =>
    some ((⟨y9.1.inputs, y9.1.outputs, y9.1.rows⟩ : Mach), y9.2.2)
def wz (N : Nat) (m : Mach) (marked : (List (List Bool))) (s : Int) (t : Int) : Nat → Int → Option (Ex (Unit) (Int))
  | 0, _ => none
  | F9 + 1, x10 =>
    bif decide (x10 < m.inputs) then (
    gd (okI m.rows s) <|
    gd (okI (ix m.rows s) x10) <|
    gd (okI m.rows t) <|
    gd (okI (ix m.rows t) x10) <|
    gd (((true && ((decide (((ix (ix m.rows s) x10).out) ≠ ((ix (ix m.rows t) x10).out))) == false)) && (((decide (0 ≤ ((ix (ix m.rows s) x10).to))) && (decide (0 ≤ ((ix (ix m.rows t) x10).to)))) == true)) = true → okI marked ((ix (ix m.rows s) x10).to)) <|
    gd (((true && ((decide (((ix (ix m.rows s) x10).out) ≠ ((ix (ix m.rows t) x10).out))) == false)) && (((decide (0 ≤ ((ix (ix m.rows s) x10).to))) && (decide (0 ≤ ((ix (ix m.rows t) x10).to)))) == true)) = true → okI (ix marked ((ix (ix m.rows s) x10).to)) ((ix (ix m.rows t) x10).to)) <|
    bif (decide (((ix (ix m.rows s) x10).out) ≠ ((ix (ix m.rows t) x10).out))) || (((decide (0 ≤ ((ix (ix m.rows s) x10).to))) && (decide (0 ≤ ((ix (ix m.rows t) x10).to)))) && (ix (ix marked ((ix (ix m.rows s) x10).to)) ((ix (ix m.rows t) x10).to))) then (
    some (Ex.rt 1)) else (
    gd (in64 (x10 + 1)) <|
    wz N m marked s t F9 (x10 + 1))) else (
    some (Ex.go ()))
def z1v (N : Nat) (m : Mach) (marked : (List (List Bool))) (s : Int) (t : Int) : Option Int :=
    bd (
    wz N m marked s t N 0) fun q6 =>
    Ex.on q6 (fun o5 =>
    some 0) some
def gm (N : Nat) (m : Mach) : Nat → (List (List Bool)) → Int → Option (List (List Bool))
  | 0, _, _ => none
  | F18 + 1, x19, x20 =>
    bif decide (x20 < (↑m.rows.length : Int)) then (
    gd (okM 1 (↑m.rows.length : Int)) <|
    gd (fits 24 x19 [(mk (↑m.rows.length : Int) false)]) <|
    gd (in64 (x20 + 1)) <|
    gm N m F18 (x19 ++ [(mk (↑m.rows.length : Int) false)]) (x20 + 1)) else (
    some x19)
def xy (N : Nat) (m : Mach) (x63 : List (List Bool)) (x84 : Int) : Nat → Int → (List (List Bool)) → Option (List (List Bool))
  | 0, _, _ => none
  | F118 + 1, x119, x120 =>
    bif decide (x119 < (↑m.rows.length : Int)) then (
    gd (okI x120 x84) <|
    gd (okI x63 x84) <|
    gd (okI (ix x63 x84) x119) <|
    bd (gop (true && ((ix (ix x63 x84) x119) == false)) (z1v N m x63 x84 x119)) fun y130 =>
    gd (okI (ix x120 x84) x119) <|
    gd (in64 (x119 + 1)) <|
    xy N m x63 x84 F118 (x119 + 1) (up x120 x84 (up (ix x120 x84) x119 ((ix (ix x63 x84) x119) || (decide ((y130.getD default) = 1)))))) else (
    some x120)
def gp (N : Nat) (m : Mach) (x63 : List (List Bool)) : Nat → (List (List Bool)) → Int → Option (List (List Bool))
  | 0, _, _ => none
  | F82 + 1, x83, x84 =>
    bif decide (x84 < (↑m.rows.length : Int)) then (
    bd (
    gd (okM 1 (↑m.rows.length : Int)) <|
    gd (fits 24 x83 [(mk (↑m.rows.length : Int) false)]) <|
    xy N m x63 x84 N 0 (x83 ++ [(mk (↑m.rows.length : Int) false)])) fun o93 =>
    gd (in64 (x84 + 1)) <|
    gp N m x63 F82 o93 (x84 + 1)) else (
    some x83)
def xx (N : Nat) (m : Mach) (k : Int) : Nat → (List (List Bool)) → Int → Option (List (List Bool))
  | 0, _, _ => none
  | F62 + 1, x63, x64 =>
    bif decide (x64 < k) then (
    bd (
    gp N m x63 N ([] : List (List Bool)) 0) fun o73 =>
    gd (in64 (x64 + 1)) <|
    xx N m k F62 o73 (x64 + 1)) else (
    some x63)
def z07 (N : Nat) (m : Mach) (k : Int) : Option (List (List Bool)) :=
    bd (
    gm N m N ([] : List (List Bool)) 0) fun o9 =>
    bd (
    xx N m k N o9 0) fun o54 =>
    some o54
def uj (N : Nat) (marked : (List (List Bool))) (x10 : List Int) (x12 : Int) : Nat → Int → Int → Option Int
  | 0, _, _ => none
  | F23 + 1, x24, x25 =>
    bif decide (x25 < x12) then (
    bd (
    gd (okI marked x12) <|
    gd (okI (ix marked x12) x25) <|
    bif !(ix (ix marked x12) x25) then (
    gd (okI x10 x25) <|
    some (ix x10 x25)) else (
    some x24)) fun o29 =>
    gd (in64 (x25 + 1)) <|
    uj N marked x10 x12 F23 o29 (x25 + 1)) else (
    some x24)
def wy (N : Nat) (marked : (List (List Bool))) : Nat → (List Int) → Int → Int → Option (List Int)
  | 0, _, _, _ => none
  | F9 + 1, x10, x11, x12 =>
    bif decide (x12 < (↑marked.length : Int)) then (
    bd (
    uj N marked x10 x12 N (-1) 0) fun o20 =>
    bd (
    bif decide (o20 < 0) then (
    gd (in64 (x11 + 1)) <|
    some (x11 + 1, x11)) else (
    some (x11, o20))) fun o58 =>
    gd (fits 8 x10 ([o58.2] : List Int)) <|
    gd (in64 (x12 + 1)) <|
    wy N marked F9 (x10 ++ ([o58.2] : List Int)) o58.1 (x12 + 1)) else (
    some x10)
def sj (N : Nat) (marked : (List (List Bool))) : Option (List Int) :=
    bd (
    wy N marked N ([] : List Int) 0 0) fun o1 =>
    some o1
def z3c (N : Nat) (m : Mach) (k : Int) : Option (List Int) :=
    bd (z07 N m k) fun y7 =>
    bd (sj N y7) fun y13 =>
    some y13
def dm (N : Nat) (m : Mach) : Option (List Int) :=
    bd (z3c N m (↑m.rows.length : Int)) fun y11 =>
    some y11
def z10 (N : Nat) (m : Mach) (s : Int) (i : Int) : Option Edge :=
    bif decide (s < 0) then (
    some (⟨(-1), (-1)⟩ : Edge)) else (
    gd (okI m.rows s) <|
    gd (okI (ix m.rows s) i) <|
    some (⟨(ix (ix m.rows s) i).to, (ix (ix m.rows s) i).out⟩ : Edge))
def ic (N : Nat) : Nat → Mach → Int → (List Int) → Option Int
  | 0, _, _, _ => none
  | F + 1, m, s, w_ =>
    bif decide ((↑w_.length : Int) = 0) then (
    some s) else (
    gd (okI w_ 0) <|
    bd (z10 N m s (ix w_ 0)) fun y7 =>
    gd (okS w_ 1 (↑w_.length : Int)) <|
    bd ((ic N F) m y7.to (cut w_ 1 (↑w_.length : Int))) fun y10 =>
    some y10)
def bf (N : Nat) (inputs : Int) : Nat → Int → (List Int) → Option (Ex (List Int) ((List Int)))
  | 0, _, _ => none
  | F17 + 1, x18, x19 =>
    bif decide (0 ≤ x18) then (
    gd (okI x19 x18) <|
    gd (in64 ((ix x19 x18) + 1)) <|
    bif decide (((ix x19 x18) + 1) < inputs) then (
    gd (okI x19 x18) <|
    gd (in64 ((ix x19 x18) + 1)) <|
    gd (okI x19 x18) <|
    some (Ex.rt (up x19 x18 ((ix x19 x18) + 1)))) else (
    gd (okI x19 x18) <|
    gd (in64 (x18 - 1)) <|
    bf N inputs F17 (x18 - 1) (up x19 x18 0))) else (
    some (Ex.go x19))
def z0x (N : Nat) (w_ : (List Int)) (inputs : Int) : Option (List Int) :=
    gd (fits 8 ([] : List Int) w_) <|
    bd (
    gd (in64 ((↑(([] : List Int) ++ w_).length : Int) - 1)) <|
    bf N inputs N ((↑(([] : List Int) ++ w_).length : Int) - 1) (([] : List Int) ++ w_)) fun q11 =>
    Ex.on q11 (fun o10 =>
    gd (fits 8 o10 ([0] : List Int)) <|
    some (o10 ++ ([0] : List Int))) some
def ww (N : Nat) (m : Mach) (from_ : Int) : Nat → (List Int) → (List (List Int)) → (List Bool) → Option (List (List Int) × List Bool)
  | 0, _, _, _ => none
  | F43 + 1, x44, x45, x46 =>
    bif decide ((↑x44.length : Int) < (↑m.rows.length : Int)) then (
    bd (
    bd (ic N N m from_ x44) fun y73 =>
    gd ((true && ((decide (0 ≤ y73)) == true)) = true → okI x46 y73) <|
    bif (decide (0 ≤ y73)) && (!(ix x46 y73)) then (
    gd (okI x46 y73) <|
    gd (okI x45 y73) <|
    some ((up x45 y73 x44), (up x46 y73 true))) else (
    some (x45, x46))) fun o62 =>
    bd (z0x N x44 m.inputs) fun y118 =>
    ww N m from_ F43 y118 o62.1 o62.2) else (
    some (x45, x46))
def z0m (N : Nat) (m : Mach) (from_ : Int) : Option ((List (List Int)) × (List Bool)) :=
    gd (okM 24 (↑m.rows.length : Int)) <|
    gd (okM 1 (↑m.rows.length : Int)) <|
    bd (
    ww N m from_ N ([] : List Int) (mk (↑m.rows.length : Int) ([] : List Int)) (mk (↑m.rows.length : Int) false)) fun o25 =>
    some (o25.1, o25.2)
def z1e (N : Nat) (m : Mach) : Option ((List (List Int)) × (List Bool)) :=
    bd (z0m N m 0) fun y7 =>
    some (y7.1, y7.2)
def dw (N : Nat) (a : (List Int)) (b : (List Int)) : Nat → Int → Option (Ex (Unit) (Int))
  | 0, _ => none
  | F7 + 1, x8 =>
    bif decide (x8 < (↑a.length : Int)) then (
    gd (okI a x8) <|
    gd (okI b x8) <|
    bif decide ((ix a x8) ≠ (ix b x8)) then (
    gd (okI a x8) <|
    gd (okI b x8) <|
    bif decide ((ix a x8) < (ix b x8)) then (
    some (Ex.rt 1)) else (
    some (Ex.rt 0))) else (
    gd (in64 (x8 + 1)) <|
    dw N a b F7 (x8 + 1))) else (
    some (Ex.go ()))
def z03 (N : Nat) (a : (List Int)) (b : (List Int)) : Option Int :=
    bif decide ((↑a.length : Int) ≠ (↑b.length : Int)) then (
    bif decide ((↑a.length : Int) < (↑b.length : Int)) then (
    some 1) else (
    some 0)) else (
    bd (
    dw N a b N 0) fun q4 =>
    Ex.on q4 (fun o3 =>
    some 0) some)
def p8 (N : Nat) (y7 : (List (List Int)) × (List Bool)) (x26 : List Int) (x27 : Int) : Nat → Int → Option Int
  | 0, _ => none
  | F51 + 1, x52 =>
    gd ((true && ((decide (x52 < (↑x26.length : Int))) == true)) = true → okI x26 x52) <|
    gd ((true && ((decide (x52 < (↑x26.length : Int))) == true)) = true → okI y7.1 (ix x26 x52)) <|
    gd ((true && ((decide (x52 < (↑x26.length : Int))) == true)) = true → okI y7.1 x27) <|
    bd (gop (true && ((decide (x52 < (↑x26.length : Int))) == true)) (z03 N (ix y7.1 (ix x26 x52)) (ix y7.1 x27))) fun y58 =>
    bif (decide (x52 < (↑x26.length : Int))) && (decide ((y58.getD default) = 1)) then (
    gd (in64 (x52 + 1)) <|
    p8 N y7 x26 x27 F51 (x52 + 1)) else (
    some x52)
def bz (N : Nat) (y7 : (List (List Int)) × (List Bool)) : Nat → (List Int) → Int → Option (List Int)
  | 0, _, _ => none
  | F25 + 1, x26, x27 =>
    bif decide (x27 < (↑y7.1.length : Int)) then (
    bd (
    gd (okI y7.2 x27) <|
    bif !(ix y7.2 x27) then (
    some x26) else (
    bd (
    p8 N y7 x26 x27 N 0) fun o48 =>
    gd (okS x26 0 o48) <|
    gd (fits 8 ([] : List Int) (cut x26 0 o48)) <|
    gd (fits 8 (([] : List Int) ++ (cut x26 0 o48)) ([x27] : List Int)) <|
    gd (okS x26 o48 (↑x26.length : Int)) <|
    gd (fits 8 ((([] : List Int) ++ (cut x26 0 o48)) ++ ([x27] : List Int)) (cut x26 o48 (↑x26.length : Int))) <|
    some (((([] : List Int) ++ (cut x26 0 o48)) ++ ([x27] : List Int)) ++ (cut x26 o48 (↑x26.length : Int))))) fun o35 =>
    gd (in64 (x27 + 1)) <|
    bz N y7 F25 o35 (x27 + 1)) else (
    some x26)
def z1y (N : Nat) (m : Mach) : Option (List Int) :=
    bd (z1e N m) fun y7 =>
    bd (
    bz N y7 N ([] : List Int) 0) fun o17 =>
    some o17
def gu (N : Nat) (y7 : (List Int)) (y15 : (List Int)) (x31 : Int) : Nat → Int → Int → Option Int
  | 0, _, _ => none
  | F48 + 1, x49, x50 =>
    bif decide (x50 < x31) then (
    bd (
    gd (okI y15 x50) <|
    gd (okI y7 (ix y15 x50)) <|
    gd (okI y15 x31) <|
    gd (okI y7 (ix y15 x31)) <|
    bif decide ((ix y7 (ix y15 x50)) = (ix y7 (ix y15 x31))) then (
    some 1) else (
    some x49)) fun o54 =>
    gd (in64 (x50 + 1)) <|
    gu N y7 y15 x31 F48 o54 (x50 + 1)) else (
    some x49)
def gz (N : Nat) (y7 : (List Int)) (y15 : (List Int)) : Nat → (List Int) → Int → Option (List Int)
  | 0, _, _ => none
  | F29 + 1, x30, x31 =>
    bif decide (x31 < (↑y15.length : Int)) then (
    bd (
    bd (
    gu N y7 y15 x31 N 0 0) fun o45 =>
    bif decide (o45 = 0) then (
    gd (okI y15 x31) <|
    gd (fits 8 x30 ([(ix y15 x31)] : List Int)) <|
    some (x30 ++ ([(ix y15 x31)] : List Int))) else (
    some x30)) fun o39 =>
    gd (in64 (x31 + 1)) <|
    gz N y7 y15 F29 o39 (x31 + 1)) else (
    some x30)
def z05 (N : Nat) (m : Mach) : Option (List Int) :=
    bd (dm N m) fun y7 =>
    bd (z1y N m) fun y15 =>
    bd (
    gz N y7 y15 N ([] : List Int) 0) fun o21 =>
    some o21
def yt (N : Nat) (m : Mach) (x46 : Int) : Nat → Int → (List Bool) → Option (List Bool)
  | 0, _, _ => none
  | F64 + 1, x65, x66 =>
    bif decide (x65 < m.inputs) then (
    bd (
    gd (okI m.rows x46) <|
    gd (okI (ix m.rows x46) x65) <|
    gd (okI x66 x46) <|
    bif (ix x66 x46) && (decide (0 ≤ ((ix (ix m.rows x46) x65).to))) then (
    gd (okI x66 ((ix (ix m.rows x46) x65).to)) <|
    some (up x66 ((ix (ix m.rows x46) x65).to) true)) else (
    some x66)) fun o77 =>
    gd (in64 (x65 + 1)) <|
    yt N m x46 F64 (x65 + 1) o77) else (
    some x66)
def yz (N : Nat) (m : Mach) : Nat → Int → (List Bool) → Option (List Bool)
  | 0, _, _ => none
  | F45 + 1, x46, x47 =>
    bif decide (x46 < (↑m.rows.length : Int)) then (
    bd (
    yt N m x46 N 0 x47) fun o58 =>
    gd (in64 (x46 + 1)) <|
    yz N m F45 (x46 + 1) o58) else (
    some x47)
def pq (N : Nat) (m : Mach) : Nat → Int → (List Bool) → Option (List Bool)
  | 0, _, _ => none
  | F26 + 1, x27, x28 =>
    bif decide (x27 < (↑m.rows.length : Int)) then (
    bd (
    yz N m N 0 x28) fun o39 =>
    gd (in64 (x27 + 1)) <|
    pq N m F26 (x27 + 1) o39) else (
    some x28)
def mq (N : Nat) (m : Mach) (from_ : Int) : Option (List Bool) :=
    gd (okM 1 (↑m.rows.length : Int)) <|
    gd (okI (mk (↑m.rows.length : Int) false) from_) <|
    bd (
    pq N m N 0 (up (mk (↑m.rows.length : Int) false) from_ true)) fun o20 =>
    some o20
def ma (N : Nat) (y7 : (List Int)) (y15 : (List Int)) (y23 : (List Bool)) (x39 : Int) : Nat → Int → Int → Option Int
  | 0, _, _ => none
  | F50 + 1, x51, x52 =>
    bif decide (x52 < (↑y15.length : Int)) then (
    bd (
    gd (okI y23 x39) <|
    gd ((true && ((ix y23 x39) == true)) = true → okI y15 x52) <|
    gd ((true && ((ix y23 x39) == true)) = true → okI y7 (ix y15 x52)) <|
    gd ((true && ((ix y23 x39) == true)) = true → okI y7 x39) <|
    bif (ix y23 x39) && (decide ((ix y7 (ix y15 x52)) = (ix y7 x39))) then (
    some x52) else (
    some x51)) fun o56 =>
    gd (in64 (x52 + 1)) <|
    ma N y7 y15 y23 x39 F50 o56 (x52 + 1)) else (
    some x51)
def ny (N : Nat) (y7 : (List Int)) (y15 : (List Int)) (y23 : (List Bool)) : Nat → (List Int) → Int → Option (List Int)
  | 0, _, _ => none
  | F37 + 1, x38, x39 =>
    bif decide (x39 < (↑y7.length : Int)) then (
    bd (
    ma N y7 y15 y23 x39 N (-1) 0) fun o47 =>
    gd (fits 8 x38 ([o47] : List Int)) <|
    gd (in64 (x39 + 1)) <|
    ny N y7 y15 y23 F37 (x38 ++ ([o47] : List Int)) (x39 + 1)) else (
    some x38)
def z0k (N : Nat) (m : Mach) : Option (List Int) :=
    bd (dm N m) fun y7 =>
    bd (z05 N m) fun y15 =>
    bd (mq N m 0) fun y23 =>
    bd (
    ny N y7 y15 y23 N ([] : List Int) 0) fun o29 =>
    some o29
def xn (N : Nat) (m : Mach) (y9 : (List Int)) (y17 : (List Int)) (x42 : Int) : Nat → (List Edge) → Int → Option (List Edge)
  | 0, _, _ => none
  | F59 + 1, x60, x61 =>
    bif decide (x61 < m.inputs) then (
    gd (okI y9 x42) <|
    gd (okI m.rows (ix y9 x42)) <|
    gd (okI (ix m.rows (ix y9 x42)) x61) <|
    bd (
    bif decide (0 ≤ ((ix (ix m.rows (ix y9 x42)) x61).to)) then (
    gd (okI y17 ((ix (ix m.rows (ix y9 x42)) x61).to)) <|
    some (ix y17 ((ix (ix m.rows (ix y9 x42)) x61).to))) else (
    some ((ix (ix m.rows (ix y9 x42)) x61).to))) fun o104 =>
    gd (fits 16 x60 ([(⟨o104, (ix (ix m.rows (ix y9 x42)) x61).out⟩ : Edge)] : List Edge)) <|
    gd (in64 (x61 + 1)) <|
    xn N m y9 y17 x42 F59 (x60 ++ ([(⟨o104, (ix (ix m.rows (ix y9 x42)) x61).out⟩ : Edge)] : List Edge)) (x61 + 1)) else (
    some x60)
def xh (N : Nat) (m : Mach) (y9 : (List Int)) (y17 : (List Int)) : Nat → Int → (List (List Edge)) → Option (List (List Edge))
  | 0, _, _ => none
  | F41 + 1, x42, x43 =>
    bif decide (x42 < (↑y9.length : Int)) then (
    bd (
    xn N m y9 y17 x42 N ([] : List Edge) 0) fun o51 =>
    gd (fits 24 x43 ([o51] : List (List Edge))) <|
    gd (in64 (x42 + 1)) <|
    xh N m y9 y17 F41 (x42 + 1) (x43 ++ ([o51] : List (List Edge)))) else (
    some x43)
def dn (N : Nat) (m : Mach) : Option Mach :=
    bd (z05 N m) fun y9 =>
    bd (z0k N m) fun y17 =>
    bd (
    xh N m y9 y17 N 0 ([] : List (List Edge))) fun o33 =>
    some (⟨m.inputs, m.outputs, o33⟩ : Mach)
def bg (N : Nat) (a : Mach) (b : Mach) (x59 : Int) : Nat → Int → Option (Ex (Unit) (Ex (Unit) (Bool)))
  | 0, _ => none
  | F102 + 1, x103 =>
    gd (okI a.rows x59) <|
    bif decide (x103 < (↑(ix a.rows x59).length : Int)) then (
    gd (okI a.rows x59) <|
    gd (okI (ix a.rows x59) x103) <|
    gd (okI b.rows x59) <|
    gd (okI (ix b.rows x59) x103) <|
    bif decide (¬ (((ix (ix a.rows x59) x103).to) = ((ix (ix b.rows x59) x103).to) ∧ ((ix (ix a.rows x59) x103).out) = ((ix (ix b.rows x59) x103).out))) then (
    some (Ex.rt (Ex.rt false))) else (
    gd (in64 (x103 + 1)) <|
    bg N a b x59 F102 (x103 + 1))) else (
    some (Ex.go ()))
def yg (N : Nat) (a : Mach) (b : Mach) : Nat → Int → Option (Ex (Unit) (Bool))
  | 0, _ => none
  | F58 + 1, x59 =>
    bif decide (x59 < (↑a.rows.length : Int)) then (
    bd (
    gd (okI a.rows x59) <|
    gd (okI b.rows x59) <|
    bif decide ((↑(ix a.rows x59).length : Int) ≠ (↑(ix b.rows x59).length : Int)) then (
    some (Ex.rt (Ex.rt false))) else (
    bg N a b x59 N 0)) fun q68 =>
    Ex.on q68 (fun o67 =>
    gd (in64 (x59 + 1)) <|
    yg N a b F58 (x59 + 1)) some) else (
    some (Ex.go ()))
def z2s (N : Nat) (a : Mach) (b : Mach) : Option Bool :=
    bif ((decide (a.inputs ≠ b.inputs)) || (decide (a.outputs ≠ b.outputs))) || (decide ((↑a.rows.length : Int) ≠ (↑b.rows.length : Int))) then (
    some false) else (
    bd (
    yg N a b N 0) fun q55 =>
    Ex.on q55 (fun o54 =>
    some true) some)
def xm (N : Nat) (m : Mach) : Nat → Int → Option (Ex (Unit) (Bool))
  | 0, _ => none
  | F52 + 1, x53 =>
    bif decide (x53 < (↑m.rows.length : Int)) then (
    gd (okI m.rows x53) <|
    gd (okI m.rows x53) <|
    bif decide ((↑(ix m.rows x53).length : Int) ≠ (↑(ix m.rows x53).length : Int)) then (
    some (Ex.rt false)) else (
    gd (in64 (x53 + 1)) <|
    xm N m F52 (x53 + 1))) else (
    some (Ex.go ()))
def y8 (N : Nat) (m : Mach) (e : Int) (want : Mach) : Option Bool :=
    bd (gop (true && ((decide (e ≠ 0)) == false)) (z2s N m want)) fun y9 =>
    bif ((decide (e ≠ 0)) || (!(y9.getD default))) || (decide ((↑m.rows.length : Int) ≠ (↑m.rows.length : Int))) then (
    some false) else (
    bd (
    xm N m N 0) fun q49 =>
    Ex.on q49 (fun o48 =>
    some true) some)
def yu (N : Nat) (a : (List Int)) (b : (List Int)) : Nat → Int → Option (Ex (Unit) (Int))
  | 0, _ => none
  | F7 + 1, x8 =>
    bif decide (x8 < (↑a.length : Int)) then (
    gd (okI a x8) <|
    gd (okI b x8) <|
    bif decide ((ix a x8) < (ix b x8)) then (
    some (Ex.rt (-1))) else (
    gd (okI a x8) <|
    gd (okI b x8) <|
    bif decide ((ix b x8) < (ix a x8)) then (
    some (Ex.rt 1)) else (
    gd (in64 (x8 + 1)) <|
    yu N a b F7 (x8 + 1)))) else (
    some (Ex.go ()))
def z0w (N : Nat) (a : (List Int)) (b : (List Int)) : Option Int :=
    bif decide ((↑a.length : Int) < (↑b.length : Int)) then (
    some (-1)) else (
    bif decide ((↑b.length : Int) < (↑a.length : Int)) then (
    some 1) else (
    bd (
    yu N a b N 0) fun q4 =>
    Ex.on q4 (fun o3 =>
    some 0) some))
def ai (N : Nat) (a : (List Int)) (b : (List Int)) : Option Bool :=
    bd (z0w N a b) fun y1 =>
    some (decide (y1 = 0))
def z5q (N : Nat) (m : Mach) : Option (Mach × Mach × Mach) :=
    some (m, m, m)
def cz (N : Nat) (self : Int → List Bool → Mach → Option (List Bool)) (s : Int) (p1_ : Mach) : Nat → Int → (List Bool) → Option (List Bool)
  | 0, _, _ => none
  | F35 + 1, x36, x37 =>
    bif decide (x36 < (↑(ix p1_.rows s).length : Int)) then (
    gd (okI (ix p1_.rows s) x36) <|
    bd (self ((ix (ix p1_.rows s) x36).to) x37 p1_) fun y51 =>
    gd (in64 (x36 + 1)) <|
    cz N self s p1_ F35 (x36 + 1) y51) else (
    some x37)
def pg (N : Nat) : Nat → Int → List Bool → Mach → Option (List Bool)
  | 0, _, _, _ => none
  | F + 1, s, p0_, p1_ =>
    gd ((true && ((decide (s = (-1))) == false)) = true → okI p0_ s) <|
    bif (decide (s = (-1))) || (ix p0_ s) then (
    some p0_) else (
    gd (okI p0_ s) <|
    gd (okI p1_.rows s) <|
    cz N (pg N F) s p1_ N 0 (up p0_ s true))
def mf (N : Nat) (s : (List Bool)) (v_ : Bool) : Nat → Int → Option (Ex (Unit) (Int))
  | 0, _ => none
  | F5 + 1, x6 =>
    bif decide (x6 < (↑s.length : Int)) then (
    gd (okI s x6) <|
    bif decide (v_ = (ix s x6)) then (
    some (Ex.rt x6)) else (
    gd (in64 (x6 + 1)) <|
    mf N s v_ F5 (x6 + 1))) else (
    some (Ex.go ()))
def z2z (N : Nat) (s : (List Bool)) (v_ : Bool) : Option Int :=
    bd (
    mf N s v_ N 0) fun q2 =>
    Ex.on q2 (fun o1 =>
    some (-1)) some
def z1d (N : Nat) (s : (List Bool)) (v_ : Bool) : Option Bool :=
    bd (z2z N s v_) fun y1 =>
    some (decide (0 ≤ y1))
def z2q (N : Nat) (m : Mach) : Option (Bool × Int) :=
    bd (yc N m) fun y7 =>
    bif decide (y7 ≠ 0) then (
    some (false, y7)) else (
    gd (okM 1 (↑m.rows.length : Int)) <|
    bd (pg N N 0 (mk (↑m.rows.length : Int) false) m) fun y28 =>
    bd (z1d N y28 false) fun y41 =>
    some ((!y41), 0))
def z1k (N : Nat) (p0_ : Mach) : Option Bool :=
    bd (z2q N p0_) fun y3 =>
    some y3.1
def il (N : Nat) (x : (List Int)) : Nat → Int → Int → Option Int
  | 0, _, _ => none
  | F10 + 1, x11, x12 =>
    bif decide (x12 < (↑x.length : Int)) then (
    gd (okI x x12) <|
    gd (in64 (x12 + 1)) <|
    il N x F10 (max x11 (ix x x12)) (x12 + 1)) else (
    some x11)
def slices_Max_int (N : Nat) (x : (List Int)) : Option Int :=
    bif decide ((↑x.length : Int) < 1) then (
    none) else (
    gd (okI x 0) <|
    bd (
    il N x N (ix x 0) 1) fun o7 =>
    some o7)
def z1m (N : Nat) (p0_ : Mach) : Option Bool :=
    bd (z0p N p0_) fun y3 =>
    bd (slices_Max_int N y3.1) fun y11 =>
    gd (in64 ((↑y3.1.length : Int) - 1)) <|
    some (decide (y11 = ((↑y3.1.length : Int) - 1)))
def vo (N : Nat) (m : Mach) : Option (Bool × Int) :=
    bd (yc N m) fun y7 =>
    bif decide (y7 ≠ 0) then (
    some (false, y7)) else (
    bd (z5q N m) fun y16 =>
    bd (z1k N y16.2.1) fun y30 =>
    bd (gop (true && (y30 == true)) (z1m N y16.2.2)) fun y32 =>
    some ((y30 && (y32.getD default)), 0))
def uq (N : Nat) (to_ : Int) (out : Int) : Option Edge :=
    some (⟨to_, out⟩ : Edge)
def z0e (N : Nat) (m : Mach) : Option ((List Int) × Int) :=
    bd (z1b N m) fun y7 =>
    some (y7.2.1, y7.2.2)
def gy (N : Nat) (s : (List Int)) (f : Int → Option Bool) : Nat → Int → Option (Ex (Unit) (Int))
  | 0, _ => none
  | F5 + 1, x6 =>
    bif decide (x6 < (↑s.length : Int)) then (
    gd (okI s x6) <|
    bd (f (ix s x6)) fun y15 =>
    bif y15 then (
    some (Ex.rt x6)) else (
    gd (in64 (x6 + 1)) <|
    gy N s f F5 (x6 + 1))) else (
    some (Ex.go ()))
def z1c (N : Nat) (s : (List Int)) (f : Int → Option Bool) : Option Int :=
    bd (
    gy N s f N 0) fun q2 =>
    Ex.on q2 (fun o1 =>
    some (-1)) some
def z0c (N : Nat) (s : (List Int)) (f : Int → Option Bool) : Option Bool :=
    bd (z1c N s f) fun y1 =>
    some (decide (0 ≤ y1))
def z3m (N : Nat) (t : Int) (p0_ : Mach) : Option Bool :=
    some ((decide (t < 0)) || (decide ((↑p0_.rows.length : Int) ≤ t)))
def xe (N : Nat) (a : Mach) (b : Mach) (f : (List Int)) (x67 : Int) : Nat → Bool → Int → Option Bool
  | 0, _, _ => none
  | F79 + 1, x80, x81 =>
    bif decide (x81 < (↑(ix a.rows x67).length : Int)) then (
    gd (okI (ix a.rows x67) x81) <|
    bd (
    bif decide (((ix (ix a.rows x67) x81).to) ≠ (-1)) then (
    gd (okI f ((ix (ix a.rows x67) x81).to)) <|
    some (ix f ((ix (ix a.rows x67) x81).to))) else (
    some ((ix (ix a.rows x67) x81).to))) fun o92 =>
    gd ((true && (x80 == true)) = true → okI f x67) <|
    gd ((true && (x80 == true)) = true → okI b.rows (ix f x67)) <|
    gd ((true && (x80 == true)) = true → okI (ix b.rows (ix f x67)) x81) <|
    gd (in64 (x81 + 1)) <|
    xe N a b f x67 F79 (x80 && (decide (o92 = ((ix (ix b.rows (ix f x67)) x81).to) ∧ ((ix (ix a.rows x67) x81).out) = ((ix (ix b.rows (ix f x67)) x81).out)))) (x81 + 1)) else (
    some x80)
def xk (N : Nat) (a : Mach) (b : Mach) (f : (List Int)) : Nat → Bool → Int → Option Bool
  | 0, _, _ => none
  | F65 + 1, x66, x67 =>
    bif decide (x67 < (↑a.rows.length : Int)) then (
    bd (
    gd (okI a.rows x67) <|
    xe N a b f x67 N x66 0) fun o71 =>
    gd (in64 (x67 + 1)) <|
    xk N a b f F65 o71 (x67 + 1)) else (
    some x66)
def kz (N : Nat) (a : Mach) (b : Mach) (f : (List Int)) : Option (Bool × Int) :=
    bd (yc N a) fun y9 =>
    bd (yc N b) fun y11 =>
    bd (z0b N ([y9, y11] : List Int)) fun y13 =>
    bif decide (y13 ≠ 0) then (
    some (false, y13)) else (
    bif decide (a.inputs ≠ b.inputs) then (
    some (false, 5)) else (
    bif decide ((↑f.length : Int) ≠ (↑a.rows.length : Int)) then (
    some (false, 16)) else (
    bd (z0c N f (fun z0 => z3m N z0 b)) fun y46 =>
    bif y46 then (
    some (false, 1)) else (
    gd (okI f 0) <|
    bd (
    xk N a b f N (decide ((ix f 0) = 0)) 0) fun o58 =>
    some (o58, 0)))))
def z04 (N : Nat) (l_ : (List Int)) (e : Int) (want : (List Int)) (f : Int) : Option Bool :=
    bd (gop (true && ((decide (e = f)) == true)) (ai N l_ want)) fun y1 =>
    some (((decide (e = f)) && (y1.getD default)) && (decide ((↑l_.length : Int) = (↑l_.length : Int))))
def z6q (N : Nat) (m : Mach) : Option Mach :=
    some m
def og (N : Nat) (σ : Type) (B : ((Int × Int) × Edge) → σ → Option (Bool × σ)) (p0_ : Mach) (x7 : Int) : Nat → σ → Int → Option (Ex (σ) (σ))
  | 0, _, _ => none
  | F24 + 1, x25, x26 =>
    bif decide (x26 < (↑(ix p0_.rows x7).length : Int)) then (
    gd (okI (ix p0_.rows x7) x26) <|
    bd (B (((x7, x26) : (Int × Int)), (⟨(ix (ix p0_.rows x7) x26).to, (ix (ix p0_.rows x7) x26).out⟩ : Edge)) x25) fun y39 =>
    bif !y39.1 then (
    some (Ex.rt y39.2)) else (
    gd (in64 (x26 + 1)) <|
    og N σ B p0_ x7 F24 y39.2 (x26 + 1))) else (
    some (Ex.go x25))
def ib (N : Nat) (σ : Type) (B : ((Int × Int) × Edge) → σ → Option (Bool × σ)) (p0_ : Mach) : Nat → σ → Int → Option σ
  | 0, _, _ => none
  | F5 + 1, x6, x7 =>
    bif decide (x7 < (↑p0_.rows.length : Int)) then (
    bd (
    gd (okI p0_.rows x7) <|
    og N σ B p0_ x7 N x6 0) fun q14 =>
    Ex.on q14 (fun o13 =>
    gd (in64 (x7 + 1)) <|
    ib N σ B p0_ F5 o13 (x7 + 1)) some) else (
    some x6)
def z3s (N : Nat) (p0_ : Mach) (σ : Type) (B : ((Int × Int) × Edge) → σ → Option (Bool × σ)) (s0 : σ) : Option σ :=
    ib N σ B p0_ N s0 0
def z3x (N : Nat) (s : (List (Int × Int))) : Option (List (Int × Int)) :=
    gd (okS s 0 (↑s.length : Int)) <|
    some (cut s 0 (↑s.length : Int))
def z2n (N : Nat) (m : Mach) : Option (List (Int × Int)) :=
    bd (z6q N m) fun y9 =>
    bd (z3s N y9 (List (Int × Int)) (fun y20 x21 =>
    bd (z4d N) fun y44 =>
    bif decide (y20.2.to = y44.to ∧ y20.2.out = y44.out) then (
    gd (fits 16 x21 ([((y20.1.1, y20.1.2) : (Int × Int))] : List (Int × Int))) <|
    some (true, (x21 ++ ([((y20.1.1, y20.1.2) : (Int × Int))] : List (Int × Int))))) else (
    some (true, x21))) ([] : List (Int × Int))) fun o18 =>
    bd (z3x N o18) fun y80 =>
    some y80
def z3f (N : Nat) (m : Mach) : Option (Bool × Int) :=
    bd (yc N m) fun y7 =>
    bif decide (y7 ≠ 0) then (
    some (false, y7)) else (
    bd (z2n N m) fun y16 =>
    some ((decide ((↑y16.length : Int) = 0)), 0))
def z3g (N : Nat) (p0_ : Mach) : Option Bool :=
    bd (z3f N p0_) fun y3 =>
    some y3.1
def wm (N : Nat) (m : Mach) : Option Int :=
    bd (yc N m) fun y7 =>
    bif decide (y7 ≠ 0) then (
    some y7) else (
    bd (z5q N m) fun y16 =>
    bd (z3g N y16.1) fun y31 =>
    bif !y31 then (
    some 9) else (
    bd (z1k N y16.2.1) fun y41 =>
    bif !y41 then (
    some 11) else (
    bd (z1m N y16.2.2) fun y51 =>
    bif !y51 then (
    some 12) else (
    some 0))))
def ng (N : Nat) : Option Bool :=
    bd (uq N 1 0) fun y1 =>
    bd (uq N 2 0) fun y7 =>
    bd (uq N 3 0) fun y18 =>
    bd (uq N 2 0) fun y24 =>
    bd (uq N 2 0) fun y35 =>
    bd (uq N 0 1) fun y41 =>
    bd (uq N 1 0) fun y52 =>
    bd (uq N 2 0) fun y58 =>
    bd (uq N 4 0) fun y69 =>
    bd (uq N 4 0) fun y75 =>
    bd (uq N 0 0) fun y113 =>
    bd (uq N 1 0) fun y119 =>
    bd (uq N 1 0) fun y130 =>
    bd (uq N 0 1) fun y136 =>
    bd (yl N (⟨2, 2, ([([(⟨y1.to, y1.out⟩ : Edge), (⟨y7.to, y7.out⟩ : Edge)] : List Edge), ([(⟨y18.to, y18.out⟩ : Edge), (⟨y24.to, y24.out⟩ : Edge)] : List Edge), ([(⟨y35.to, y35.out⟩ : Edge), (⟨y41.to, y41.out⟩ : Edge)] : List Edge), ([(⟨y52.to, y52.out⟩ : Edge), (⟨y58.to, y58.out⟩ : Edge)] : List Edge), ([(⟨y69.to, y69.out⟩ : Edge), (⟨y75.to, y75.out⟩ : Edge)] : List Edge)] : List (List Edge))⟩ : Mach)) fun y166 =>
    bd (z0e N (⟨2, 2, ([([(⟨y1.to, y1.out⟩ : Edge), (⟨y7.to, y7.out⟩ : Edge)] : List Edge), ([(⟨y18.to, y18.out⟩ : Edge), (⟨y24.to, y24.out⟩ : Edge)] : List Edge), ([(⟨y35.to, y35.out⟩ : Edge), (⟨y41.to, y41.out⟩ : Edge)] : List Edge), ([(⟨y52.to, y52.out⟩ : Edge), (⟨y58.to, y58.out⟩ : Edge)] : List Edge), ([(⟨y69.to, y69.out⟩ : Edge), (⟨y75.to, y75.out⟩ : Edge)] : List Edge)] : List (List Edge))⟩ : Mach)) fun y178 =>
    bd (vo N (⟨2, 2, ([([(⟨y1.to, y1.out⟩ : Edge), (⟨y7.to, y7.out⟩ : Edge)] : List Edge), ([(⟨y18.to, y18.out⟩ : Edge), (⟨y24.to, y24.out⟩ : Edge)] : List Edge), ([(⟨y35.to, y35.out⟩ : Edge), (⟨y41.to, y41.out⟩ : Edge)] : List Edge), ([(⟨y52.to, y52.out⟩ : Edge), (⟨y58.to, y58.out⟩ : Edge)] : List Edge), ([(⟨y69.to, y69.out⟩ : Edge), (⟨y75.to, y75.out⟩ : Edge)] : List Edge)] : List (List Edge))⟩ : Mach)) fun y186 =>
    bd (vo N (⟨2, 2, ([([(⟨y113.to, y113.out⟩ : Edge), (⟨y119.to, y119.out⟩ : Edge)] : List Edge), ([(⟨y130.to, y130.out⟩ : Edge), (⟨y136.to, y136.out⟩ : Edge)] : List Edge)] : List (List Edge))⟩ : Mach)) fun y195 =>
    bd (kz N (⟨2, 2, ([([(⟨y1.to, y1.out⟩ : Edge), (⟨y7.to, y7.out⟩ : Edge)] : List Edge), ([(⟨y18.to, y18.out⟩ : Edge), (⟨y24.to, y24.out⟩ : Edge)] : List Edge), ([(⟨y35.to, y35.out⟩ : Edge), (⟨y41.to, y41.out⟩ : Edge)] : List Edge), ([(⟨y52.to, y52.out⟩ : Edge), (⟨y58.to, y58.out⟩ : Edge)] : List Edge), ([(⟨y69.to, y69.out⟩ : Edge), (⟨y75.to, y75.out⟩ : Edge)] : List Edge)] : List (List Edge))⟩ : Mach) (⟨2, 2, ([([(⟨y113.to, y113.out⟩ : Edge), (⟨y119.to, y119.out⟩ : Edge)] : List Edge), ([(⟨y130.to, y130.out⟩ : Edge), (⟨y136.to, y136.out⟩ : Edge)] : List Edge)] : List (List Edge))⟩ : Mach) ([0, 0, 1, 0, 0] : List Int)) fun y207 =>
    bd (kz N (⟨2, 2, ([([(⟨y113.to, y113.out⟩ : Edge), (⟨y119.to, y119.out⟩ : Edge)] : List Edge), ([(⟨y130.to, y130.out⟩ : Edge), (⟨y136.to, y136.out⟩ : Edge)] : List Edge)] : List (List Edge))⟩ : Mach) (⟨2, 2, ([([(⟨y113.to, y113.out⟩ : Edge), (⟨y119.to, y119.out⟩ : Edge)] : List Edge), ([(⟨y130.to, y130.out⟩ : Edge), (⟨y136.to, y136.out⟩ : Edge)] : List Edge)] : List (List Edge))⟩ : Mach) ([0, 1] : List Int)) fun y219 =>
    bd (kz N (⟨2, 2, ([([(⟨y1.to, y1.out⟩ : Edge), (⟨y7.to, y7.out⟩ : Edge)] : List Edge), ([(⟨y18.to, y18.out⟩ : Edge), (⟨y24.to, y24.out⟩ : Edge)] : List Edge), ([(⟨y35.to, y35.out⟩ : Edge), (⟨y41.to, y41.out⟩ : Edge)] : List Edge), ([(⟨y52.to, y52.out⟩ : Edge), (⟨y58.to, y58.out⟩ : Edge)] : List Edge), ([(⟨y69.to, y69.out⟩ : Edge), (⟨y75.to, y75.out⟩ : Edge)] : List Edge)] : List (List Edge))⟩ : Mach) (⟨2, 2, ([([(⟨y113.to, y113.out⟩ : Edge), (⟨y119.to, y119.out⟩ : Edge)] : List Edge), ([(⟨y130.to, y130.out⟩ : Edge), (⟨y136.to, y136.out⟩ : Edge)] : List Edge)] : List (List Edge))⟩ : Mach) ([0, 0, 1] : List Int)) fun y231 =>
    bd (y8 N (⟨y166.1.inputs, y166.1.outputs, y166.1.rows⟩ : Mach) y166.2 (⟨2, 2, ([([(⟨y113.to, y113.out⟩ : Edge), (⟨y119.to, y119.out⟩ : Edge)] : List Edge), ([(⟨y130.to, y130.out⟩ : Edge), (⟨y136.to, y136.out⟩ : Edge)] : List Edge)] : List (List Edge))⟩ : Mach)) fun y235 =>
    bd (gop (true && (y235 == true)) (z04 N y178.1 y178.2 ([0, 0, 1, 0, (-1)] : List Int) 0)) fun y237 =>
    bd (gop (true && ((((((y235 && (y237.getD default)) && (!y186.1)) && (decide (y186.2 = 0))) && y195.1) && (decide (y195.2 = 0))) == true)) (wm N (⟨2, 2, ([([(⟨y1.to, y1.out⟩ : Edge), (⟨y7.to, y7.out⟩ : Edge)] : List Edge), ([(⟨y18.to, y18.out⟩ : Edge), (⟨y24.to, y24.out⟩ : Edge)] : List Edge), ([(⟨y35.to, y35.out⟩ : Edge), (⟨y41.to, y41.out⟩ : Edge)] : List Edge), ([(⟨y52.to, y52.out⟩ : Edge), (⟨y58.to, y58.out⟩ : Edge)] : List Edge), ([(⟨y69.to, y69.out⟩ : Edge), (⟨y75.to, y75.out⟩ : Edge)] : List Edge)] : List (List Edge))⟩ : Mach))) fun y239 =>
    bd (gop (true && (((((((y235 && (y237.getD default)) && (!y186.1)) && (decide (y186.2 = 0))) && y195.1) && (decide (y195.2 = 0))) && (decide ((y239.getD default) = 11))) == true)) (wm N (⟨2, 2, ([([(⟨y113.to, y113.out⟩ : Edge), (⟨y119.to, y119.out⟩ : Edge)] : List Edge), ([(⟨y130.to, y130.out⟩ : Edge), (⟨y136.to, y136.out⟩ : Edge)] : List Edge)] : List (List Edge))⟩ : Mach))) fun y241 =>
    some ((((((((((((y235 && (y237.getD default)) && (!y186.1)) && (decide (y186.2 = 0))) && y195.1) && (decide (y195.2 = 0))) && (decide ((y239.getD default) = 11))) && (decide ((y241.getD default) = 0))) && (!y207.1)) && (decide (y207.2 = 0))) && y219.1) && (decide (y219.2 = 0))) && (decide (y231.2 = 16)))
def vk (N : Nat) (y7 : (List Bool)) : Nat → Int → Option (Ex (Unit) (Bool))
  | 0, _ => none
  | F17 + 1, x18 =>
    bif decide (x18 < (↑y7.length : Int)) then (
    gd (okI y7 x18) <|
    bif !(ix y7 x18) then (
    some (Ex.rt false)) else (
    gd (in64 (x18 + 1)) <|
    vk N y7 F17 (x18 + 1))) else (
    some (Ex.go ()))
def xw (N : Nat) (m : Mach) : Option Bool :=
    bd (mq N m 0) fun y7 =>
    bd (
    vk N y7 N 0) fun q14 =>
    Ex.on q14 (fun o13 =>
    some true) some
def z0a (N : Nat) (l_ : (List Int)) (k : Int) : Option Int :=
    bif decide (k < (↑l_.length : Int)) then (
    gd (okI l_ k) <|
    gd (in64 (ix l_ k)) <|
    some (ix l_ k)) else (
    some 0)
def di (N : Nat) (x : Sgauntletlaw06_C) (x40 : Int) : Nat → (List Edge) → Int → Option (List Edge)
  | 0, _, _ => none
  | F58 + 1, x59, x60 =>
    bif decide (x60 < ((1 : Int) + (x.f_Inputs % 3))) then (
    gd (in64 (x40 * ((1 : Int) + (x.f_Inputs % 3)))) <|
    gd (in64 ((x40 * ((1 : Int) + (x.f_Inputs % 3))) + x60)) <|
    bd (z0a N x.f_Edges ((x40 * ((1 : Int) + (x.f_Inputs % 3))) + x60)) fun y74 =>
    gd (okQ y74 ((1 : Int) + (x.f_States % 6))) <|
    gd (okR (y74 / ((1 : Int) + (x.f_States % 6))) ((1 : Int) + (x.f_Outputs % 3))) <|
    gd (fits 16 x59 ([(⟨(-1), (y74 / ((1 : Int) + (x.f_States % 6))) % ((1 : Int) + (x.f_Outputs % 3))⟩ : Edge)] : List Edge)) <|
    gd (in64 (x60 + 1)) <|
    di N x x40 F58 (x59 ++ ([(⟨(-1), (y74 / ((1 : Int) + (x.f_States % 6))) % ((1 : Int) + (x.f_Outputs % 3))⟩ : Edge)] : List Edge)) (x60 + 1)) else (
    some x59)
def bi (N : Nat) (x : Sgauntletlaw06_C) : Nat → Int → (List (List Edge)) → Option (List (List Edge))
  | 0, _, _ => none
  | F39 + 1, x40, x41 =>
    bif decide (x40 < ((1 : Int) + (x.f_States % 6))) then (
    bd (
    di N x x40 N ([] : List Edge) 0) fun o50 =>
    gd (fits 24 x41 [o50]) <|
    gd (in64 (x40 + 1)) <|
    bi N x F39 (x40 + 1) (x41 ++ [o50])) else (
    some x41)
def yf (N : Nat) (x : Sgauntletlaw06_C) (x139 : Int) (x140 : List (List Edge)) : Nat → (List Int) → Int → Option (List Int)
  | 0, _, _ => none
  | F155 + 1, x156, x157 =>
    gd (in64 (x139 * ((1 : Int) + (x.f_Inputs % 3)))) <|
    bif decide (x157 < (x139 * ((1 : Int) + (x.f_Inputs % 3)))) then (
    bd (
    gd (okQ x157 ((1 : Int) + (x.f_Inputs % 3))) <|
    gd (okI x140 (x157 / ((1 : Int) + (x.f_Inputs % 3)))) <|
    gd (okR x157 ((1 : Int) + (x.f_Inputs % 3))) <|
    gd (okI (ix x140 (x157 / ((1 : Int) + (x.f_Inputs % 3)))) (x157 % ((1 : Int) + (x.f_Inputs % 3)))) <|
    bif decide (((ix (ix x140 (x157 / ((1 : Int) + (x.f_Inputs % 3)))) (x157 % ((1 : Int) + (x.f_Inputs % 3)))).to) < 0) then (
    gd (fits 8 x156 ([x157] : List Int)) <|
    some (x156 ++ ([x157] : List Int))) else (
    some x156)) fun o166 =>
    gd (in64 (x157 + 1)) <|
    yf N x x139 x140 F155 o166 (x157 + 1)) else (
    some x156)
def dh (N : Nat) (x : Sgauntletlaw06_C) : Nat → Int → (List (List Edge)) → Option (List (List Edge))
  | 0, _, _ => none
  | F138 + 1, x139, x140 =>
    bif decide (x139 < ((1 : Int) + (x.f_States % 6))) then (
    bd (
    yf N x x139 x140 N ([] : List Int) 0) fun o147 =>
    gd (okI o147 0) <|
    bd (
    gd (in64 (x139 - 1)) <|
    bif decide ((x139 - 1) < (↑x.f_Tree.length : Int)) then (
    gd (in64 (x139 - 1)) <|
    gd (okI x.f_Tree (x139 - 1)) <|
    gd (in64 (ix x.f_Tree (x139 - 1))) <|
    gd (okR (ix x.f_Tree (x139 - 1)) (↑o147.length : Int)) <|
    gd (okI o147 ((ix x.f_Tree (x139 - 1)) % (↑o147.length : Int))) <|
    some (ix o147 ((ix x.f_Tree (x139 - 1)) % (↑o147.length : Int)))) else (
    some (ix o147 0))) fun o239 =>
    gd (okQ o239 ((1 : Int) + (x.f_Inputs % 3))) <|
    gd (okI x140 (o239 / ((1 : Int) + (x.f_Inputs % 3)))) <|
    gd (okR o239 ((1 : Int) + (x.f_Inputs % 3))) <|
    gd (okI (ix x140 (o239 / ((1 : Int) + (x.f_Inputs % 3)))) (o239 % ((1 : Int) + (x.f_Inputs % 3)))) <|
    gd (in64 (x139 + 1)) <|
    dh N x F138 (x139 + 1) (up x140 (o239 / ((1 : Int) + (x.f_Inputs % 3))) (up (ix x140 (o239 / ((1 : Int) + (x.f_Inputs % 3)))) (o239 % ((1 : Int) + (x.f_Inputs % 3))) (⟨x139, (ix (ix x140 (o239 / ((1 : Int) + (x.f_Inputs % 3)))) (o239 % ((1 : Int) + (x.f_Inputs % 3)))).out⟩ : Edge)))) else (
    some x140)
def yh (N : Nat) (x : Sgauntletlaw06_C) (x325 : Int) : Nat → Int → (List (List Edge)) → Option (List (List Edge))
  | 0, _, _ => none
  | F339 + 1, x340, x341 =>
    bif decide (x340 < ((1 : Int) + (x.f_Inputs % 3))) then (
    bd (
    gd (okI x341 x325) <|
    gd (okI (ix x341 x325) x340) <|
    bif decide (((ix (ix x341 x325) x340).to) < 0) then (
    gd (okI x341 x325) <|
    gd (in64 (x325 * ((1 : Int) + (x.f_Inputs % 3)))) <|
    gd (in64 ((x325 * ((1 : Int) + (x.f_Inputs % 3))) + x340)) <|
    bd (z0a N x.f_Edges ((x325 * ((1 : Int) + (x.f_Inputs % 3))) + x340)) fun y380 =>
    gd (okR y380 ((1 : Int) + (x.f_States % 6))) <|
    gd (okI (ix x341 x325) x340) <|
    some (up x341 x325 (up (ix x341 x325) x340 (⟨y380 % ((1 : Int) + (x.f_States % 6)), (ix (ix x341 x325) x340).out⟩ : Edge)))) else (
    some x341)) fun o348 =>
    gd (in64 (x340 + 1)) <|
    yh N x x325 F339 (x340 + 1) o348) else (
    some x341)
def dx (N : Nat) (x : Sgauntletlaw06_C) : Nat → Int → (List (List Edge)) → Option (List (List Edge))
  | 0, _, _ => none
  | F324 + 1, x325, x326 =>
    bif decide (x325 < ((1 : Int) + (x.f_States % 6))) then (
    bd (
    yh N x x325 N 0 x326) fun o333 =>
    gd (in64 (x325 + 1)) <|
    dx N x F324 (x325 + 1) o333) else (
    some x326)
def z02 (N : Nat) (x : Sgauntletlaw06_C) : Option Mach :=
    gd (okR x.f_States 6) <|
    gd (in64 (x.f_States % 6)) <|
    gd (in64 ((1 : Int) + (x.f_States % 6))) <|
    gd (okR x.f_Inputs 3) <|
    gd (in64 (x.f_Inputs % 3)) <|
    gd (in64 ((1 : Int) + (x.f_Inputs % 3))) <|
    gd (okR x.f_Outputs 3) <|
    gd (in64 (x.f_Outputs % 3)) <|
    gd (in64 ((1 : Int) + (x.f_Outputs % 3))) <|
    bd (
    bi N x N 0 ([] : List (List Edge))) fun o30 =>
    bd (
    dh N x N 1 o30) fun o132 =>
    bd (
    dx N x N 0 o132) fun o318 =>
    some (⟨(1 : Int) + (x.f_Inputs % 3), (1 : Int) + (x.f_Outputs % 3), o318⟩ : Mach)
def yx (N : Nat) (m : Mach) (x72 : Int) : Nat → Int → Option (Ex (Unit) (Ex (Unit) (Int)))
  | 0, _ => none
  | F106 + 1, x107 =>
    bif decide (x107 < m.inputs) then (
    bd (
    gd (okI m.rows x72) <|
    gd (okI (ix m.rows x72) x107) <|
    bif (decide (((ix (ix m.rows x72) x107).to) = (-1))) && (decide (((ix (ix m.rows x72) x107).out) = (-1))) then (
    some (Ex.go ())) else (
    bif (((decide (((ix (ix m.rows x72) x107).to) < 0)) || (decide ((↑m.rows.length : Int) ≤ ((ix (ix m.rows x72) x107).to)))) || (decide (((ix (ix m.rows x72) x107).out) < 0))) || (decide (m.outputs ≤ ((ix (ix m.rows x72) x107).out))) then (
    some (Ex.rt (Ex.rt (Ex.rt 1)))) else (
    some (Ex.go ())))) fun q116 =>
    Ex.on q116 (fun o115 =>
    gd (in64 (x107 + 1)) <|
    yx N m x72 F106 (x107 + 1)) some) else (
    some (Ex.go ()))
def vg (N : Nat) (m : Mach) : Nat → Int → Option (Ex (Unit) (Int))
  | 0, _ => none
  | F71 + 1, x72 =>
    bif decide (x72 < (↑m.rows.length : Int)) then (
    bd (
    gd (okI m.rows x72) <|
    bif decide ((↑(ix m.rows x72).length : Int) ≠ m.inputs) then (
    some (Ex.rt (Ex.rt 1))) else (
    yx N m x72 N 0)) fun q81 =>
    Ex.on q81 (fun o80 =>
    gd (in64 (x72 + 1)) <|
    vg N m F71 (x72 + 1)) some) else (
    some (Ex.go ()))
def z0n (N : Nat) (m : Mach) : Option Int :=
    bif ((decide (16 < m.inputs)) || (decide (16 < m.outputs))) || (decide (64 < (↑m.rows.length : Int))) then (
    some 3) else (
    bif ((decide (m.inputs < 1)) || (decide (m.outputs < 1))) || (decide ((↑m.rows.length : Int) = 0)) then (
    some 1) else (
    bd (
    vg N m N 0) fun q68 =>
    Ex.on q68 (fun o67 =>
    some 0) some))
def xg (N : Nat) (m : Mach) (x10 : Int) : Nat → Int → Int → Option Int
  | 0, _, _ => none
  | F21 + 1, x22, x23 =>
    bif decide (x23 < m.inputs) then (
    bd (
    gd (okI m.rows x10) <|
    gd (okI (ix m.rows x10) x23) <|
    bif decide (0 ≤ ((ix (ix m.rows x10) x23).to)) then (
    gd (in64 (x22 + 1)) <|
    some (x22 + 1)) else (
    some x22)) fun o31 =>
    gd (in64 (x23 + 1)) <|
    xg N m x10 F21 o31 (x23 + 1)) else (
    some x22)
def pu (N : Nat) (m : Mach) : Nat → Int → Int → Option Int
  | 0, _, _ => none
  | F8 + 1, x9, x10 =>
    bif decide (x10 < (↑m.rows.length : Int)) then (
    bd (
    xg N m x10 N x9 0) fun o18 =>
    gd (in64 (x10 + 1)) <|
    pu N m F8 o18 (x10 + 1)) else (
    some x9)
def z0u (N : Nat) (m : Mach) : Option Int :=
    bd (
    pu N m N 0 0) fun o5 =>
    some o5
def z0f (N : Nat) (m : Mach) : Option Bool :=
    bd (z0u N m) fun y5 =>
    gd (in64 ((↑m.rows.length : Int) * m.inputs)) <|
    some (decide (y5 = ((↑m.rows.length : Int) * m.inputs)))
def xz (N : Nat) (y34 : (List Int)) (x45 : Int) : Nat → Int → Option (Ex (Unit) (Ex (Unit) (Int)))
  | 0, _ => none
  | F53 + 1, x54 =>
    bif decide (x54 < x45) then (
    gd (okI y34 x45) <|
    gd (okI y34 x54) <|
    bif decide ((ix y34 x45) = (ix y34 x54)) then (
    some (Ex.rt (Ex.rt 12))) else (
    gd (in64 (x54 + 1)) <|
    xz N y34 x45 F53 (x54 + 1))) else (
    some (Ex.go ()))
def gq (N : Nat) (y34 : (List Int)) : Nat → Int → Option (Ex (Unit) (Int))
  | 0, _ => none
  | F44 + 1, x45 =>
    bif decide (x45 < (↑y34.length : Int)) then (
    bd (
    xz N y34 x45 N 0) fun q50 =>
    Ex.on q50 (fun o49 =>
    gd (in64 (x45 + 1)) <|
    gq N y34 F44 (x45 + 1)) some) else (
    some (Ex.go ()))
def xu (N : Nat) (m : Mach) : Option Int :=
    bd (z0n N m) fun y7 =>
    bif decide (y7 ≠ 0) then (
    some y7) else (
    bd (z0f N m) fun y16 =>
    bif !y16 then (
    some 9) else (
    bd (xw N m) fun y25 =>
    bif !y25 then (
    some 11) else (
    bd (dm N m) fun y34 =>
    bd (
    gq N y34 N 0) fun q41 =>
    Ex.on q41 (fun o40 =>
    some 0) some)))
def z2r (N : Nat) (x : Sgauntletlaw09_K) : Option Mach :=
    gd (okR x.f_C.f_States 5) <|
    bd (z02 N (⟨x.f_C.f_States % 5, x.f_C.f_Inputs, x.f_C.f_Outputs, x.f_C.f_Tree, x.f_C.f_Edges⟩ : Sgauntletlaw06_C)) fun y10 =>
    bd (dn N y10) fun y16 =>
    some (⟨y16.inputs, y16.outputs, y16.rows⟩ : Mach)
def z00 (N : Nat) (x : Sgauntletlaw09_K) : Option Bool :=
    bd (z2r N x) fun y7 =>
    bd (yl N (⟨y7.inputs, y7.outputs, y7.rows⟩ : Mach)) fun y17 =>
    bd (wm N (⟨y7.inputs, y7.outputs, y7.rows⟩ : Mach)) fun y29 =>
    bd (gop (true && ((decide (y29 = 0)) == true)) (xu N (⟨y7.inputs, y7.outputs, y7.rows⟩ : Mach))) fun y31 =>
    bd (gop (true && ((((decide (y29 = 0)) && (decide ((y31.getD default) = 0))) && (decide ((↑y7.rows.length : Int) ≤ 5))) == true)) (y8 N (⟨y17.1.inputs, y17.1.outputs, y17.1.rows⟩ : Mach) y17.2 (⟨y7.inputs, y7.outputs, y7.rows⟩ : Mach))) fun y33 =>
    bd (gop (true && (((((decide (y29 = 0)) && (decide ((y31.getD default) = 0))) && (decide ((↑y7.rows.length : Int) ≤ 5))) && (y33.getD default)) == true)) (ng N)) fun y35 =>
    some (((((decide (y29 = 0)) && (decide ((y31.getD default) = 0))) && (decide ((↑y7.rows.length : Int) ≤ 5))) && (y33.getD default)) && (y35.getD default))
end GV
end Go.Proofs.YtkcccdcloealfaaGreat
