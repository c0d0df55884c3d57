import Derived.Test.YtplgbkaollfmkaaShTypes
set_option linter.unusedVariables false
set_option linter.unusedSimpArgs false
namespace Go.Proofs.Ytplgbkaollfmkaa
namespace GV
set_option maxRecDepth 100000
def bf (N : Nat) (a : (List Int)) (b : (List Int)) : Nat → Int → Option (Ex (Unit) (Int))
  | 0, _ => none
  | F7 + 1, x8 =>
    bif decide (x8 < (↑a.length : Int)) then (
    gd (okI a x8) <|
    gd (okI b x8) <|
    bif decide ((ix a x8) < (ix b x8)) then (
    some (Ex.rt (-1))) else (
    gd (okI a x8) <|
    gd (okI b x8) <|
    bif decide ((ix b x8) < (ix a x8)) then (
    some (Ex.rt 1)) else (
    gd (in64 (x8 + 1)) <|
    bf N a b F7 (x8 + 1)))) else (
    some (Ex.go ()))
def z03 (N : Nat) (a : (List Int)) (b : (List Int)) : Option Int :=
    bif decide ((↑a.length : Int) < (↑b.length : Int)) then (
    some (-1)) else (
    bif decide ((↑b.length : Int) < (↑a.length : Int)) then (
    some 1) else (
    bd (
    bf N a b N 0) fun q4 =>
    Ex.on q4 (fun o3 =>
    some 0) some))
def yo (N : Nat) (a : (List Int)) (b : (List Int)) : Option Bool :=
    bd (z03 N a b) fun y1 =>
    some (decide (y1 = 0))
def jy (N : Nat) (s : (List Edge)) (f : Edge → Option Bool) : Nat → Int → Option (Ex (Unit) (Int))
  | 0, _ => none
  | F5 + 1, x6 =>
    bif decide (x6 < (↑s.length : Int)) then (
    gd (okI s x6) <|
    bd (f (ix s x6)) fun y15 =>
    bif y15 then (
    some (Ex.rt x6)) else (
    gd (in64 (x6 + 1)) <|
    jy N s f F5 (x6 + 1))) else (
    some (Ex.go ()))
def gq (N : Nat) (s : (List Edge)) (f : Edge → Option Bool) : Option Int :=
    bd (
    jy N s f N 0) fun q2 =>
    Ex.on q2 (fun o1 =>
    some (-1)) some
def yw (N : Nat) (s : (List Edge)) (f : Edge → Option Bool) : Option Bool :=
    bd (gq N s f) fun y1 =>
    some (decide (0 ≤ y1))
def eu (N : Nat) : Option Edge :=
    some (⟨(-1), (-1)⟩ : Edge)
def z4o (N : Nat) (m : Mach) (x : Edge) : Option Bool :=
    bd (eu N) fun y10 =>
    some ((decide (x.to = y10.to ∧ x.out = y10.out)) || ((((decide (0 ≤ x.to)) && (decide (x.to < (↑m.rows.length : Int)))) && (decide (0 ≤ x.out))) && (decide (x.out < m.outputs))))
def z1z (N : Nat) (x : Edge) (p0_ : Mach) : Option Bool :=
    bd (z4o N p0_ x) fun y9 =>
    some (!y9)
def xk (N : Nat) (m : Mach) : Nat → Int → Option (Ex (Unit) (Int))
  | 0, _ => none
  | F76 + 1, x77 =>
    bif decide (x77 < (↑m.rows.length : Int)) then (
    gd (okI m.rows x77) <|
    bd (gop (true && ((decide ((↑(ix m.rows x77).length : Int) ≠ m.inputs)) == false)) (yw N (ix m.rows x77) (fun z0 => z1z N z0 m))) fun y86 =>
    bif (decide ((↑(ix m.rows x77).length : Int) ≠ m.inputs)) || (y86.getD default) then (
    some (Ex.rt 1)) else (
    gd (in64 (x77 + 1)) <|
    xk N m F76 (x77 + 1))) else (
    some (Ex.go ()))
def xn (N : Nat) (m : Mach) : Option Int :=
    bif ((decide (16 < m.inputs)) || (decide (16 < m.outputs))) || (decide (64 < (↑m.rows.length : Int))) then (
    some 3) else (
    bif ((decide (m.inputs < 1)) || (decide (m.outputs < 1))) || (decide ((↑m.rows.length : Int) < 1)) then (
    some 1) else (
    bd (
    xk N m N 0) fun q69 =>
    Ex.on q69 (fun o68 =>
    some 0) some))
def z3a (N : Nat) (m : Mach) : Option (Mach × Mach × Mach) :=
    some (m, m, m)
def z1l (N : Nat) (m : Mach) : Option Mach :=
    some m
def yg (N : Nat) (σ : Type) (B : ((Int × Int) × Edge) → σ → Option (Bool × σ)) (p0_ : Mach) (x7 : Int) : Nat → σ → Int → Option (Ex (σ) (σ))
  | 0, _, _ => none
  | F24 + 1, x25, x26 =>
    bif decide (x26 < (↑(ix p0_.rows x7).length : Int)) then (
    gd (okI (ix p0_.rows x7) x26) <|
    bd (B (((x7, x26) : (Int × Int)), (⟨(ix (ix p0_.rows x7) x26).to, (ix (ix p0_.rows x7) x26).out⟩ : Edge)) x25) fun y39 =>
    bif !y39.1 then (
    some (Ex.rt y39.2)) else (
    gd (in64 (x26 + 1)) <|
    yg N σ B p0_ x7 F24 y39.2 (x26 + 1))) else (
    some (Ex.go x25))
def xc (N : Nat) (σ : Type) (B : ((Int × Int) × Edge) → σ → Option (Bool × σ)) (p0_ : Mach) : Nat → σ → Int → Option σ
  | 0, _, _ => none
  | F5 + 1, x6, x7 =>
    bif decide (x7 < (↑p0_.rows.length : Int)) then (
    bd (
    gd (okI p0_.rows x7) <|
    yg N σ B p0_ x7 N x6 0) fun q14 =>
    Ex.on q14 (fun o13 =>
    gd (in64 (x7 + 1)) <|
    xc N σ B p0_ F5 o13 (x7 + 1)) some) else (
    some x6)
def ru (N : Nat) (p0_ : Mach) (σ : Type) (B : ((Int × Int) × Edge) → σ → Option (Bool × σ)) (s0 : σ) : Option σ :=
    xc N σ B p0_ N s0 0
def p8 (N : Nat) (s : (List (Int × Int))) : Option (List (Int × Int)) :=
    gd (okS s 0 (↑s.length : Int)) <|
    some (cut s 0 (↑s.length : Int))
def av (N : Nat) (m : Mach) : Option (List (Int × Int)) :=
    bd (z1l N m) fun y8 =>
    bd (ru N y8 (List (Int × Int)) (fun y19 x20 =>
    bd (eu N) fun y43 =>
    bif decide (y19.2.to = y43.to ∧ y19.2.out = y43.out) then (
    gd (fits 16 x20 ([((y19.1.1, y19.1.2) : (Int × Int))] : List (Int × Int))) <|
    some (true, (x20 ++ ([((y19.1.1, y19.1.2) : (Int × Int))] : List (Int × Int))))) else (
    some (true, x20))) ([] : List (Int × Int))) fun o17 =>
    bd (p8 N o17) fun y79 =>
    some y79
def si (N : Nat) (m : Mach) : Option (Bool × Int) :=
    bd (xn N m) fun y6 =>
    bif decide (y6 ≠ 0) then (
    some (false, y6)) else (
    bd (av N m) fun y13 =>
    some ((decide ((↑y13.length : Int) = 0)), 0))
def sj (N : Nat) (p0_ : Mach) : Option Bool :=
    bd (si N p0_) fun y3 =>
    some y3.1
def vg (N : Nat) (self : Int → List Bool → Mach → Option (List Bool)) (s : Int) (p1_ : Mach) : Nat → Int → (List Bool) → Option (List Bool)
  | 0, _, _ => none
  | F35 + 1, x36, x37 =>
    bif decide (x36 < (↑(ix p1_.rows s).length : Int)) then (
    gd (okI (ix p1_.rows s) x36) <|
    bd (self ((ix (ix p1_.rows s) x36).to) x37 p1_) fun y51 =>
    gd (in64 (x36 + 1)) <|
    vg N self s p1_ F35 (x36 + 1) y51) else (
    some x37)
def uz (N : Nat) : Nat → Int → List Bool → Mach → Option (List Bool)
  | 0, _, _, _ => none
  | F + 1, s, p0_, p1_ =>
    gd ((true && ((decide (s = (-1))) == false)) = true → okI p0_ s) <|
    bif (decide (s = (-1))) || (ix p0_ s) then (
    some p0_) else (
    gd (okI p0_ s) <|
    gd (okI p1_.rows s) <|
    vg N (uz N F) s p1_ N 0 (up p0_ s true))
def vw (N : Nat) (s : (List Bool)) (v_ : Bool) : Nat → Int → Option (Ex (Unit) (Int))
  | 0, _ => none
  | F5 + 1, x6 =>
    bif decide (x6 < (↑s.length : Int)) then (
    gd (okI s x6) <|
    bif decide (v_ = (ix s x6)) then (
    some (Ex.rt x6)) else (
    gd (in64 (x6 + 1)) <|
    vw N s v_ F5 (x6 + 1))) else (
    some (Ex.go ()))
def ik (N : Nat) (s : (List Bool)) (v_ : Bool) : Option Int :=
    bd (
    vw N s v_ N 0) fun q2 =>
    Ex.on q2 (fun o1 =>
    some (-1)) some
def mh (N : Nat) (s : (List Bool)) (v_ : Bool) : Option Bool :=
    bd (ik N s v_) fun y1 =>
    some (decide (0 ≤ y1))
def ng (N : Nat) (m : Mach) : Option (Bool × Int) :=
    bd (xn N m) fun y6 =>
    bif decide (y6 ≠ 0) then (
    some (false, y6)) else (
    gd (okM 1 (↑m.rows.length : Int)) <|
    bd (uz N N 0 (mk (↑m.rows.length : Int) false) m) fun y27 =>
    bd (mh N y27 false) fun y40 =>
    some ((!y40), 0))
def iy (N : Nat) (p0_ : Mach) : Option Bool :=
    bd (ng N p0_) fun y3 =>
    some y3.1
def z1k (N : Nat) (m : Mach) : Option Mach :=
    some m
def yu (N : Nat) (m : Mach) (p : (List Int)) (s : Int) : Nat → Int → (Arr 16 (Int × Int)) → Option (Arr 16 (Int × Int))
  | 0, _, _ => none
  | F22 + 1, x23, x24 =>
    bif decide (x23 < (↑(ix m.rows s).length : Int)) then (
    bd (
    gd (okI (ix m.rows s) x23) <|
    gd (okI x24.1 x23) <|
    bif decide (((ix (ix m.rows s) x23).to) ≠ (-1)) then (
    gd (okI p ((ix (ix m.rows s) x23).to)) <|
    gd (okI (l7 x24 x23 (((ix (ix m.rows s) x23).out, (-1)) : (Int × Int))).1 x23) <|
    some (l7 (l7 x24 x23 (((ix (ix m.rows s) x23).out, (-1)) : (Int × Int))) x23 (((ix (l7 x24 x23 (((ix (ix m.rows s) x23).out, (-1)) : (Int × Int))).1 x23).1, (ix p ((ix (ix m.rows s) x23).to))) : (Int × Int)))) else (
    some (l7 x24 x23 (((ix (ix m.rows s) x23).out, (-1)) : (Int × Int))))) fun o28 =>
    gd (in64 (x23 + 1)) <|
    yu N m p s F22 (x23 + 1) o28) else (
    some x24)
def z1c (N : Nat) (m : Mach) (p : (List Int)) (s : Int) : Option (Arr 16 (Int × Int)) :=
    bd (
    gd (okI m.rows s) <|
    yu N m p s N 0 (z3y 16 (List.replicate 16 (((0 : Int), (0 : Int)) : (Int × Int))))) fun o10 =>
    some o10
def yn (N : Nat) (m : Mach) (p : (List Int)) : Nat → Int → (List (Srefines_key × Int)) → (List Int) → Option (List Int)
  | 0, _, _, _ => none
  | F22 + 1, x23, x24, x25 =>
    bif decide (x23 < (↑p.length : Int)) then (
    gd (okI p x23) <|
    bd (z1c N m p x23) fun y39 =>
    bd (
    bif !(z1b x24 (⟨(ix p x23), y39⟩ : Srefines_key)) then (
    some (z2u x24 (⟨(ix p x23), y39⟩ : Srefines_key) (↑x24.length : Int))) else (
    some x24)) fun o47 =>
    gd (okI x25 x23) <|
    gd (in64 (x23 + 1)) <|
    yn N m p F22 (x23 + 1) o47 (up x25 x23 (z0w (0 : Int) o47 (⟨(ix p x23), y39⟩ : Srefines_key)))) else (
    some x25)
def lg (N : Nat) (m : Mach) (p : (List Int)) : Option (List Int) :=
    gd (okM 8 (↑p.length : Int)) <|
    bd (
    yn N m p N 0 ([] : List (Srefines_key × Int)) (mk (↑p.length : Int) (0 : Int))) fun o16 =>
    some o16
def yh (N : Nat) (s1_ : (List Int)) (s2_ : (List Int)) : Nat → Int → Option (Ex (Unit) (Bool))
  | 0, _ => none
  | F6 + 1, x7 =>
    bif decide (x7 < (↑s1_.length : Int)) then (
    gd (okI s1_ x7) <|
    gd (okI s2_ x7) <|
    bif decide ((ix s1_ x7) ≠ (ix s2_ x7)) then (
    some (Ex.rt false)) else (
    gd (in64 (x7 + 1)) <|
    yh N s1_ s2_ F6 (x7 + 1))) else (
    some (Ex.go ()))
def slices_Equal_int (N : Nat) (s1_ : (List Int)) (s2_ : (List Int)) : Option Bool :=
    bif decide ((↑s1_.length : Int) ≠ (↑s2_.length : Int)) then (
    some false) else (
    bd (
    yh N s1_ s2_ N 0) fun q3 =>
    Ex.on q3 (fun o2 =>
    some true) some)
def gu (N : Nat) (σ : Type) (B : (List Int) → σ → Option (Bool × σ)) (p0_ : Mach) : Nat → σ → (List Int) → Option σ
  | 0, _, _ => none
  | F15 + 1, x16, x17 =>
    bd (B x17 x16) fun y24 =>
    bif y24.1 then (
    bd (lg N p0_ x17) fun y33 =>
    bd (slices_Equal_int N x17 y33) fun y39 =>
    bif y39 then (
    some y24.2) else (
    gu N σ B p0_ F15 y24.2 y33)) else (
    some y24.2)
def z0i (N : Nat) (p0_ : Mach) (σ : Type) (B : (List Int) → σ → Option (Bool × σ)) (s0 : σ) : Option σ :=
    gd (okM 8 (↑p0_.rows.length : Int)) <|
    gu N σ B p0_ N s0 (mk (↑p0_.rows.length : Int) (0 : Int))
def z01 (N : Nat) (m : Mach) : Option ((List Int) × Int × Int) :=
    bd (xn N m) fun y10 =>
    bif decide (y10 ≠ 0) then (
    some (([] : (List Int)), 0, y10)) else (
    bd (z1k N m) fun y17 =>
    bd (z0i N y17 ((List Int) × Int) (fun y27 x28 =>
    gd (in64 (x28.2 + 1)) <|
    some (true, (y27, x28.2 + 1))) (([] : (List Int)), (-1))) fun o25 =>
    some (o25.1, o25.2, 0))
def xh (N : Nat) (x : (List Int)) : Nat → Int → Int → Option Int
  | 0, _, _ => none
  | F10 + 1, x11, x12 =>
    bif decide (x12 < (↑x.length : Int)) then (
    gd (okI x x12) <|
    gd (in64 (x12 + 1)) <|
    xh N x F10 (max x11 (ix x x12)) (x12 + 1)) else (
    some x11)
def slices_Max_int (N : Nat) (x : (List Int)) : Option Int :=
    bif decide ((↑x.length : Int) < 1) then (
    none) else (
    gd (okI x 0) <|
    bd (
    xh N x N (ix x 0) 1) fun o7 =>
    some o7)
def il (N : Nat) (p0_ : Mach) : Option Bool :=
    bd (z01 N p0_) fun y3 =>
    bd (slices_Max_int N y3.1) fun y11 =>
    gd (in64 ((↑y3.1.length : Int) - 1)) <|
    some (decide (y11 = ((↑y3.1.length : Int) - 1)))
def fe (N : Nat) (m : Mach) : Option Int :=
    bd (xn N m) fun y6 =>
    bif decide (y6 ≠ 0) then (
    some y6) else (
    bd (z3a N m) fun y13 =>
    bd (sj N y13.1) fun y28 =>
    bif !y28 then (
    some 9) else (
    bd (iy N y13.2.1) fun y38 =>
    bif !y38 then (
    some 11) else (
    bd (il N y13.2.2) fun y48 =>
    bif !y48 then (
    some 12) else (
    some 0))))
def uq (N : Nat) (s : (List Int)) (f : Int → Option Bool) : Nat → Int → Option (Ex (Unit) (Int))
  | 0, _ => none
  | F5 + 1, x6 =>
    bif decide (x6 < (↑s.length : Int)) then (
    gd (okI s x6) <|
    bd (f (ix s x6)) fun y15 =>
    bif y15 then (
    some (Ex.rt x6)) else (
    gd (in64 (x6 + 1)) <|
    uq N s f F5 (x6 + 1))) else (
    some (Ex.go ()))
def mo (N : Nat) (s : (List Int)) (f : Int → Option Bool) : Option Int :=
    bd (
    uq N s f N 0) fun q2 =>
    Ex.on q2 (fun o1 =>
    some (-1)) some
def xm (N : Nat) (s : (List Int)) (f : Int → Option Bool) : Option Bool :=
    bd (mo N s f) fun y1 =>
    some (decide (0 ≤ y1))
def z4h (N : Nat) (c : Int) (p0_ : Int) : Option Bool :=
    some ((decide (c < 0)) || (decide (p0_ ≤ c)))
def z14 (N : Nat) (w_ : (List Int)) (inputs : Int) : Option Int :=
    bif (decide (16 < inputs)) || (decide (256 < (↑w_.length : Int))) then (
    some 3) else (
    bd (gop (true && ((decide (inputs < 1)) == false)) (xm N w_ (fun z0 => z4h N z0 inputs))) fun y22 =>
    bif (decide (inputs < 1)) || (y22.getD default) then (
    some 1) else (
    some 0))
def z18 (N : Nat) (m : Mach) : Option Int :=
    bd (ng N m) fun y6 =>
    bif (decide (y6.2 = 0)) && (!y6.1) then (
    some 11) else (
    some y6.2)
def z4e (N : Nat) (m : Mach) (s : Int) : Option (Mach × Int) :=
    some (m, s)
def pg (N : Nat) (σ : Type) (B : Stours_step → σ → Option (Bool × σ)) (p0_ : Mach) (p1_ : Int) : Nat → σ → Int → Option σ
  | 0, _, _ => none
  | F12 + 1, x13, x14 =>
    bif decide (x14 < (↑(ix p0_.rows p1_).length : Int)) then (
    bd (
    gd (okI (ix p0_.rows p1_) x14) <|
    bif decide (((ix (ix p0_.rows p1_) x14).to) ≠ (-1)) then (
    bd (B (⟨x14, (ix (ix p0_.rows p1_) x14).to⟩ : Stours_step) x13) fun y34 =>
    bif !y34.1 then (
    some (Ex.rt y34.2)) else (
    some (Ex.go y34.2))) else (
    some (Ex.go x13))) fun q21 =>
    Ex.on q21 (fun o20 =>
    gd (in64 (x14 + 1)) <|
    pg N σ B p0_ p1_ F12 o20 (x14 + 1)) some) else (
    some x13)
def z0s (N : Nat) (p0_ : Mach) (p1_ : Int) (σ : Type) (B : Stours_step → σ → Option (Bool × σ)) (s0 : σ) : Option σ :=
    gd (okI p0_.rows p1_) <|
    pg N σ B p0_ p1_ N s0 0
def aj (N : Nat) (m : Mach) : Nat → (List Bool) → (List Int) → Option (List Bool)
  | 0, _, _ => none
  | F36 + 1, x37, x38 =>
    bif decide (0 < (↑x38.length : Int)) then (
    gd (in64 ((↑x38.length : Int) - 1)) <|
    gd (okI x38 ((↑x38.length : Int) - 1)) <|
    gd (in64 ((↑x38.length : Int) - 1)) <|
    gd (okS x38 0 ((↑x38.length : Int) - 1)) <|
    bd (z4e N m (ix x38 ((↑x38.length : Int) - 1))) fun y61 =>
    bd (z0s N y61.1 y61.2 (List Bool × List Int) (fun y73 x74 =>
    gd (okI x74.1 y73.f_to) <|
    bif !(ix x74.1 y73.f_to) then (
    gd (okI x74.1 y73.f_to) <|
    gd (fits 8 x74.2 ([y73.f_to] : List Int)) <|
    some (true, ((up x74.1 y73.f_to true), (x74.2 ++ ([y73.f_to] : List Int))))) else (
    some (true, (x74.1, x74.2)))) (x37, (cut x38 0 ((↑x38.length : Int) - 1)))) fun o71 =>
    aj N m F36 o71.1 o71.2) else (
    some x37)
def z2d (N : Nat) (m : Mach) (s : Int) : Option (List Bool) :=
    gd (okM 1 (↑m.rows.length : Int)) <|
    gd (okI (mk (↑m.rows.length : Int) false) s) <|
    bd (
    aj N m N (up (mk (↑m.rows.length : Int) false) s true) ([s] : List Int)) fun o23 =>
    some o23
def dw (N : Nat) (m : Mach) : Nat → Int → (List (List Bool)) → Option (List (List Bool))
  | 0, _, _ => none
  | F22 + 1, x23, x24 =>
    bif decide (x23 < (↑(mk (↑m.rows.length : Int) ([] : List Bool)).length : Int)) then (
    bd (z2d N m x23) fun y31 =>
    gd (okI x24 x23) <|
    gd (in64 (x23 + 1)) <|
    dw N m F22 (x23 + 1) (up x24 x23 y31)) else (
    some x24)
def ax (N : Nat) (o16 : List (List Bool)) (x66 : Int) : Nat → (List Int) → Option (List Int)
  | 0, _ => none
  | F80 + 1, x81 =>
    gd (okI o16 x66) <|
    gd (okI x81 x66) <|
    gd (okI (ix o16 x66) (ix x81 x66)) <|
    gd ((true && ((!(ix (ix o16 x66) (ix x81 x66))) == false)) = true → okI x81 x66) <|
    gd ((true && ((!(ix (ix o16 x66) (ix x81 x66))) == false)) = true → okI o16 (ix x81 x66)) <|
    gd ((true && ((!(ix (ix o16 x66) (ix x81 x66))) == false)) = true → okI (ix o16 (ix x81 x66)) x66) <|
    bif (!(ix (ix o16 x66) (ix x81 x66))) || (!(ix (ix o16 (ix x81 x66)) x66)) then (
    gd (okI x81 x66) <|
    gd (in64 ((ix x81 x66) + 1)) <|
    gd (okI x81 x66) <|
    ax N o16 x66 F80 (up x81 x66 ((ix x81 x66) + 1))) else (
    some x81)
def di (N : Nat) (m : Mach) (o16 : List (List Bool)) : Nat → Int → (List Int) → Option (List Int)
  | 0, _, _ => none
  | F65 + 1, x66, x67 =>
    bif decide (x66 < (↑(mk (↑m.rows.length : Int) (0 : Int)).length : Int)) then (
    bd (
    ax N o16 x66 N x67) fun o74 =>
    gd (in64 (x66 + 1)) <|
    di N m o16 F65 (x66 + 1) o74) else (
    some x67)
def z2n (N : Nat) (m : Mach) : Option (List Int) :=
    gd (okM 24 (↑m.rows.length : Int)) <|
    bd (
    dw N m N 0 (mk (↑m.rows.length : Int) ([] : List Bool))) fun o16 =>
    gd (okM 8 (↑m.rows.length : Int)) <|
    bd (
    di N m o16 N 0 (mk (↑m.rows.length : Int) (0 : Int))) fun o59 =>
    some o59
def xy (N : Nat) (s : (List Int)) : Option (List Int) :=
    gd (okS s 0 (↑s.length : Int)) <|
    some (cut s 0 (↑s.length : Int))
def fo (N : Nat) (s : (List (List Int))) : Option (List (List Int)) :=
    gd (okS s 0 (↑s.length : Int)) <|
    some (cut s 0 (↑s.length : Int))
def dn (N : Nat) (y13 : (List Int)) (x29 : Int) : Nat → (List Int) → Int → Option (List Int)
  | 0, _, _ => none
  | F57 + 1, x58, x59 =>
    bif decide (x59 < (↑y13.length : Int)) then (
    bd (
    gd (okI y13 x59) <|
    bif decide ((ix y13 x59) = x29) then (
    gd (fits 8 x58 ([x59] : List Int)) <|
    some (x58 ++ ([x59] : List Int))) else (
    some x58)) fun o67 =>
    gd (in64 (x59 + 1)) <|
    dn N y13 x29 F57 o67 (x59 + 1)) else (
    some x58)
def dm (N : Nat) (y13 : (List Int)) : Nat → (List (List Int)) → Int → Option (List (List Int))
  | 0, _, _ => none
  | F27 + 1, x28, x29 =>
    bif decide (x29 < (↑y13.length : Int)) then (
    bd (
    gd (okI y13 x29) <|
    bif decide ((ix y13 x29) ≠ x29) then (
    some x28) else (
    bd (
    dn N y13 x29 N ([] : List Int) 0) fun o49 =>
    bd (xy N o49) fun y106 =>
    gd (fits 24 x28 ([y106] : List (List Int))) <|
    some (x28 ++ ([y106] : List (List Int))))) fun o37 =>
    gd (in64 (x29 + 1)) <|
    dm N y13 F27 o37 (x29 + 1)) else (
    some x28)
def z2l (N : Nat) (m : Mach) : Option ((List (List Int)) × Int) :=
    bd (z18 N m) fun y6 =>
    bif decide (y6 ≠ 0) then (
    some (([] : (List (List Int))), y6)) else (
    bd (z2n N m) fun y13 =>
    bd (
    dm N y13 N ([] : List (List Int)) 0) fun o19 =>
    bd (fo N o19) fun y139 =>
    some (y139, 0))
def z0e (N : Nat) (m : Mach) (s : Int) : Option Int :=
    bd (xn N m) fun y6 =>
    bif decide (y6 ≠ 0) then (
    some y6) else (
    bif (decide (s < 0)) || (decide ((↑m.rows.length : Int) ≤ s)) then (
    some 1) else (
    some 0))
def dx (N : Nat) (m : Mach) (w_ : (List Int)) : Nat → Int → Int → (List Int) → Option (Int × List Int)
  | 0, _, _, _ => none
  | F18 + 1, x19, x20, x21 =>
    bif decide (x20 < (↑w_.length : Int)) then (
    gd (okI w_ x20) <|
    bd (eu N) fun y33 =>
    bd (
    bif decide (x19 ≠ (-1)) then (
    gd (okI m.rows x19) <|
    gd (okI (ix m.rows x19) (ix w_ x20)) <|
    some ((ix (ix m.rows x19) (ix w_ x20)).to, (ix (ix m.rows x19) (ix w_ x20)).out)) else (
    some (y33.to, y33.out))) fun o41 =>
    gd (okI x21 x20) <|
    gd (in64 (x20 + 1)) <|
    dx N m w_ F18 o41.1 (x20 + 1) (up x21 x20 o41.2)) else (
    some (x19, x21))
def z1r (N : Nat) (m : Mach) (s : Int) (w_ : (List Int)) : Option ((List Int) × Int) :=
    gd (okM 8 (↑w_.length : Int)) <|
    bd (
    dx N m w_ N s 0 (mk (↑w_.length : Int) (0 : Int))) fun o12 =>
    some (o12.2, o12.1)
def z1o (N : Nat) (m : Mach) (s : Int) (w_ : (List Int)) : Option ((List Int) × Int) :=
    bd (z0e N m s) fun y6 =>
    bif decide (y6 ≠ 0) then (
    some (([] : (List Int)), y6)) else (
    bd (z14 N w_ m.inputs) fun y17 =>
    bif decide (y17 ≠ 0) then (
    some (([] : (List Int)), y17)) else (
    bd (z1r N m s w_) fun y24 =>
    some (y24.1, 0)))
def uk (N : Nat) (s : (List (List Int))) (f : (List Int) → Option Bool) : Nat → Int → Option (Ex (Unit) (Int))
  | 0, _ => none
  | F5 + 1, x6 =>
    bif decide (x6 < (↑s.length : Int)) then (
    gd (okI s x6) <|
    bd (f (ix s x6)) fun y15 =>
    bif y15 then (
    some (Ex.rt x6)) else (
    gd (in64 (x6 + 1)) <|
    uk N s f F5 (x6 + 1))) else (
    some (Ex.go ()))
def ay (N : Nat) (s : (List (List Int))) (f : (List Int) → Option Bool) : Option Int :=
    bd (
    uk N s f N 0) fun q2 =>
    Ex.on q2 (fun o1 =>
    some (-1)) some
def bn (N : Nat) (s : (List (List Int))) (f : (List Int) → Option Bool) : Option Bool :=
    bd (ay N s f) fun y1 =>
    some (decide (0 ≤ y1))
def z3d (N : Nat) (r_ : (List Int)) (p0_ : (List Int)) : Option Bool :=
    bd (slices_Equal_int N r_ p0_) fun y3 =>
    some y3
def mf (N : Nat) (m : Mach) (d : (List Int)) : Nat → (List (List Int)) → Int → Option (Ex (Unit) (Int))
  | 0, _, _ => none
  | F43 + 1, x44, x45 =>
    bif decide (x45 < (↑m.rows.length : Int)) then (
    bd (z1o N m x45 d) fun y53 =>
    bd (bn N x44 (fun z0 => z3d N z0 y53.1)) fun y66 =>
    bif y66 then (
    some (Ex.rt 12)) else (
    gd (fits 24 x44 ([y53.1] : List (List Int))) <|
    gd (in64 (x45 + 1)) <|
    mf N m d F43 (x44 ++ ([y53.1] : List (List Int))) (x45 + 1))) else (
    some (Ex.go ()))
def ww (N : Nat) (m : Mach) (d : (List Int)) : Option Int :=
    bd (fe N m) fun y6 =>
    bif decide (y6 ≠ 0) then (
    some y6) else (
    bd (z14 N d m.inputs) fun y17 =>
    bif decide (y17 ≠ 0) then (
    some y17) else (
    bd (z2l N m) fun y24 =>
    bif decide (y24.2 ≠ 0) then (
    some y24.2) else (
    bif decide (1 < (↑y24.1.length : Int)) then (
    some 7) else (
    bd (
    mf N m d N ([] : List (List Int)) 0) fun q35 =>
    Ex.on q35 (fun o34 =>
    some 0) some))))
def pu (N : Nat) : Option Mach :=
    some (⟨2, 2, ([([(⟨1, 0⟩ : Edge), (⟨0, 0⟩ : Edge)] : List Edge), ([(⟨0, 1⟩ : Edge), (⟨1, 0⟩ : Edge)] : List Edge)] : List (List Edge))⟩ : Mach)
def lu (N : Nat) (m : Mach) (x43 : Int) (x46 : List Int) : Nat → Int → (List (List Int)) → (List Bool) → (List Int) → Option (List (List Int) × List Bool × List Int)
  | 0, _, _, _, _ => none
  | F85 + 1, x86, x87, x88, x89 =>
    bif decide (x86 < (↑(ix m.rows (ix x46 x43)).length : Int)) then (
    bd (
    gd (okI (ix m.rows (ix x46 x43)) x86) <|
    gd (okI x88 ((ix (ix m.rows (ix x46 x43)) x86).to)) <|
    bif !(ix x88 ((ix (ix m.rows (ix x46 x43)) x86).to)) then (
    gd (okI x88 ((ix (ix m.rows (ix x46 x43)) x86).to)) <|
    gd (okI x87 (ix x46 x43)) <|
    bd (xy N (ix x87 (ix x46 x43))) fun y133 =>
    gd (fits 8 y133 ([x86] : List Int)) <|
    gd (okI x87 ((ix (ix m.rows (ix x46 x43)) x86).to)) <|
    gd (fits 8 x89 ([(ix (ix m.rows (ix x46 x43)) x86).to] : List Int)) <|
    some ((up x87 ((ix (ix m.rows (ix x46 x43)) x86).to) (y133 ++ ([x86] : List Int))), (up x88 ((ix (ix m.rows (ix x46 x43)) x86).to) true), (x89 ++ ([(ix (ix m.rows (ix x46 x43)) x86).to] : List Int)))) else (
    some (x87, x88, x89))) fun o102 =>
    gd (in64 (x86 + 1)) <|
    lu N m x43 x46 F85 (x86 + 1) o102.1 o102.2.1 o102.2.2) else (
    some (x87, x88, x89))
def lq (N : Nat) (m : Mach) : Nat → Int → (List (List Int)) → (List Bool) → (List Int) → Option (List (List Int))
  | 0, _, _, _, _ => none
  | F42 + 1, x43, x44, x45, x46 =>
    bif decide (x43 < (↑x46.length : Int)) then (
    bd (
    gd (okI x46 x43) <|
    gd (okI m.rows (ix x46 x43)) <|
    lu N m x43 x46 N 0 x44 x45 x46) fun o59 =>
    gd (in64 (x43 + 1)) <|
    lq N m F42 (x43 + 1) o59.1 o59.2.1 o59.2.2) else (
    some x44)
def z5t (N : Nat) (m : Mach) (s : Int) : Option (List (List Int)) :=
    gd (okM 24 (↑m.rows.length : Int)) <|
    gd (okM 1 (↑m.rows.length : Int)) <|
    gd (okI (mk (↑m.rows.length : Int) false) s) <|
    bd (
    lq N m N 0 (mk (↑m.rows.length : Int) ([] : List Int)) (up (mk (↑m.rows.length : Int) false) s true) ([s] : List Int)) fun o36 =>
    some o36
def z1n (N : Nat) (s : Int) (x_0_ : Int) (x_1_ : Int) (x_2_ : (List (List Edge))) (x_3_ : (List Int)) (x_4_ : List Int) (x_5_ : (List (List (List Int)))) (x_69_ : Int) (x_70_ : Int) : Option (List (List (List Int))) :=
    bd (z5t N (⟨x_0_, x_1_, x_2_⟩ : Mach) s) fun y1 =>
    gd ((0 : Int) ≤ s ∧ s < (64 : Nat)) <|
    some (up x_5_ s y1)
def ol (N : Nat) (l_ : (List (List Int))) (x_2_ : (List (List Edge))) (x8 : Int) : Nat → Int → Int → Option Int
  | 0, _, _ => none
  | F25 + 1, x26, x27 =>
    bif decide (x26 < (↑(ix l_ x8).length : Int)) then (
    gd (okI (ix l_ x8) x26) <|
    gd (okI x_2_ x27) <|
    gd (okI (ix x_2_ x27) (ix (ix l_ x8) x26)) <|
    gd (in64 (x26 + 1)) <|
    ol N l_ x_2_ x8 F25 (x26 + 1) ((ix (ix x_2_ x27) (ix (ix l_ x8) x26)).to)) else (
    some x27)
def o9 (N : Nat) (l_ : (List (List Int))) (x_2_ : (List (List Edge))) : Nat → Int → Int → (List Int) → Option (Int × List Int)
  | 0, _, _, _ => none
  | F7 + 1, x8, x9, x10 =>
    bif decide (x8 < (↑l_.length : Int)) then (
    gd (okI l_ x8) <|
    bd (
    ol N l_ x_2_ x8 N 0 x9) fun o22 =>
    gd (fits 8 x10 (ix l_ x8)) <|
    gd (in64 (x8 + 1)) <|
    o9 N l_ x_2_ F7 (x8 + 1) o22 (x10 ++ (ix l_ x8))) else (
    some (x9, x10))
def og (N : Nat) (x_2_ : (List (List Edge))) (x_3_ : (List Int)) : Nat → Int → Int → Option Int
  | 0, _, _ => none
  | F97 + 1, x98, x99 =>
    bif decide (x98 < (↑x_3_.length : Int)) then (
    gd (okI x_3_ x98) <|
    gd (okI x_2_ x99) <|
    gd (okI (ix x_2_ x99) (ix x_3_ x98)) <|
    gd (in64 (x98 + 1)) <|
    og N x_2_ x_3_ F97 (x98 + 1) ((ix (ix x_2_ x99) (ix x_3_ x98)).to)) else (
    some x99)
def ai (N : Nat) (l_ : (List (List Int))) (x_0_ : Int) (x_1_ : Int) (x_2_ : (List (List Edge))) (x_3_ : (List Int)) (x_4_ : List Int) (x_5_ : (List (List (List Int)))) (x_69_ : Int) (x_70_ : Int) : Option (List Int × Int × Int) :=
    bd (
    o9 N l_ x_2_ N 0 x_69_ x_4_) fun o1 =>
    bd (
    og N x_2_ x_3_ N 0 o1.1) fun o94 =>
    gd (fits 8 o1.2 x_3_) <|
    some ((o1.2 ++ x_3_), o94, o1.1)
def lh (N : Nat) (m : Mach) (d : (List Int)) : Nat → Int → (List Int) → (List (List (List Int))) → Option (List Int × (List (List (List Int))))
  | 0, _, _, _ => none
  | F32 + 1, x33, x34, x35 =>
    bif decide (x33 < (↑m.rows.length : Int)) then (
    bd (z1n N x33 m.inputs m.outputs m.rows d x34 x35 0 0) fun y45 =>
    gd (in64 (x33 + 1)) <|
    lh N m d F32 (x33 + 1) x34 y45) else (
    some (x34, x35))
def z00 (N : Nat) (m : Mach) (d : (List Int)) (o18 : List Int × (List (List (List Int)))) : Nat → Int → Int → Int → (List Int) → (List Schecks_bridge) → Option (Int × Int × List Int × List Schecks_bridge)
  | 0, _, _, _, _, _ => none
  | F90 + 1, x91, x92, x93, x94, x95 =>
    bif decide (x91 < (↑m.rows.length : Int)) then (
    gd (in64 (x91 + 1)) <|
    gd (okR (x91 + 1) (↑m.rows.length : Int)) <|
    gd ((0 : Int) ≤ x92 ∧ x92 < (64 : Nat)) <|
    gd (okI (ix o18.2 x92) ((x91 + 1) % (↑m.rows.length : Int))) <|
    gd (okI x95 ((x91 + 1) % (↑m.rows.length : Int))) <|
    gd (okI (up x95 ((x91 + 1) % (↑m.rows.length : Int)) (⟨x93, (ix (ix o18.2 x92) ((x91 + 1) % (↑m.rows.length : Int)))⟩ : Schecks_bridge)) ((x91 + 1) % (↑m.rows.length : Int))) <|
    bd (ai N ([(ix (up x95 ((x91 + 1) % (↑m.rows.length : Int)) (⟨x93, (ix (ix o18.2 x92) ((x91 + 1) % (↑m.rows.length : Int)))⟩ : Schecks_bridge)) ((x91 + 1) % (↑m.rows.length : Int))).f_w] : List (List Int)) m.inputs m.outputs m.rows d x94 o18.2 x92 x93) fun y174 =>
    gd (in64 (x91 + 1)) <|
    z00 N m d o18 F90 (x91 + 1) y174.2.1 y174.2.2 y174.1 (up x95 ((x91 + 1) % (↑m.rows.length : Int)) (⟨x93, (ix (ix o18.2 x92) ((x91 + 1) % (↑m.rows.length : Int)))⟩ : Schecks_bridge))) else (
    some (x92, x93, x94, x95))
def lv (N : Nat) (m : Mach) (d : (List Int)) (o18 : List Int × (List (List (List Int)))) (o81 : Int × Int × List Int × List Schecks_bridge) (x199 : Int) : Nat → Int → Int → Int → (List Int) → Option (Ex (Int × Int × List Int) (Ex (Int × Int × List Int) ((List Int) × Int)))
  | 0, _, _, _, _ => none
  | F220 + 1, x221, x222, x223, x224 =>
    bif decide (x221 < m.inputs) then (
    bd (
    gd (okI o81.2.2.2 x199) <|
    bif decide (x223 ≠ ((ix o81.2.2.2 x199).f_from)) then (
    gd ((0 : Int) ≤ x222 ∧ x222 < (64 : Nat)) <|
    gd (okI o81.2.2.2 x199) <|
    gd (okI (ix o18.2 x222) ((ix o81.2.2.2 x199).f_from)) <|
    bd (ai N ([(ix (ix o18.2 x222) ((ix o81.2.2.2 x199).f_from))] : List (List Int)) m.inputs m.outputs m.rows d x224 o18.2 x222 x223) fun y302 =>
    some (y302.2.1, y302.2.2, y302.1)) else (
    some (x222, x223, x224))) fun o231 =>
    gd (okI o81.2.2.2 x199) <|
    bd (ai N ([(ix o81.2.2.2 x199).f_w, ([x221] : List Int)] : List (List Int)) m.inputs m.outputs m.rows d o231.2.2 o18.2 o231.1 o231.2.1) fun y344 =>
    bif decide (1024 < (↑y344.1.length : Int)) then (
    some (Ex.rt (Ex.rt (([] : (List Int)), 3)))) else (
    gd (in64 (x221 + 1)) <|
    lv N m d o18 o81 x199 F220 (x221 + 1) y344.2.1 y344.2.2 y344.1)) else (
    some (Ex.go (x222, x223, x224)))
def lw (N : Nat) (m : Mach) (d : (List Int)) (o18 : List Int × (List (List (List Int)))) (o81 : Int × Int × List Int × List Schecks_bridge) : Nat → Int → Int → Int → (List Int) → Option (Ex (Int × Int × List Int) ((List Int) × Int))
  | 0, _, _, _, _ => none
  | F198 + 1, x199, x200, x201, x202 =>
    bif decide (x199 < (↑m.rows.length : Int)) then (
    bd (
    lv N m d o18 o81 x199 N 0 x200 x201 x202) fun q210 =>
    Ex.on q210 (fun o209 =>
    gd (in64 (x199 + 1)) <|
    lw N m d o18 o81 F198 (x199 + 1) o209.1 o209.2.1 o209.2.2) some) else (
    some (Ex.go (x200, x201, x202)))
def xg (N : Nat) (m : Mach) (d : (List Int)) : Option ((List Int) × Int) :=
    bd (ww N m d) fun y6 =>
    bif decide (y6 ≠ 0) then (
    some (([] : (List Int)), y6)) else (
    bd (
    lh N m d N 0 ([] : List Int) ((List.replicate 64 []) : List (List (List Int)))) fun o18 =>
    bd (ai N ([] : (List (List Int))) m.inputs m.outputs m.rows d o18.1 o18.2 0 0) fun y61 =>
    gd (okM 32 (↑m.rows.length : Int)) <|
    bd (
    z00 N m d o18 N 0 y61.2.1 y61.2.2 y61.1 (mk (↑m.rows.length : Int) (⟨(0 : Int), ([] : List Int)⟩ : Schecks_bridge))) fun o81 =>
    bd (
    lw N m d o18 o81 N 0 o81.1 o81.2.1 o81.2.2.1) fun q192 =>
    Ex.on q192 (fun o191 =>
    bd (xy N o191.2.2) fun y373 =>
    some (y373, 0)) some)
def z4l (N : Nat) (i : Int) (p0_ : Mach) : Option Bool :=
    some ((decide (i < 0)) || (decide (p0_.inputs ≤ i)))
def l8 (N : Nat) (m : Mach) (w_ : (List Int)) : Option Int :=
    bif decide (1024 < (↑w_.length : Int)) then (
    some 3) else (
    bd (xm N w_ (fun z0 => z4l N z0 m)) fun y7 =>
    bif y7 then (
    some 1) else (
    some 0))
def vk (N : Nat) (i : Int) (j : Int) (t_3_ : (List Int)) (t_5_ : List Bool) : Nat → Int → (List Bool) → Option (List Bool)
  | 0, _, _ => none
  | F1 + 1, x2, x3 =>
    gd (in64 ((max i j) + x2)) <|
    gd ((true && ((decide (((max i j) + x2) < (↑t_3_.length : Int))) == true)) = true → in64 (i + x2)) <|
    gd ((true && ((decide (((max i j) + x2) < (↑t_3_.length : Int))) == true)) = true → okI t_3_ (i + x2)) <|
    gd ((true && ((decide (((max i j) + x2) < (↑t_3_.length : Int))) == true)) = true → in64 (j + x2)) <|
    gd ((true && ((decide (((max i j) + x2) < (↑t_3_.length : Int))) == true)) = true → okI t_3_ (j + x2)) <|
    bif (decide (((max i j) + x2) < (↑t_3_.length : Int))) && (decide ((ix t_3_ (i + x2)) = (ix t_3_ (j + x2)))) then (
    bd (
    gd (in64 (i + x2)) <|
    gd (in64 ((i + x2) + 1)) <|
    gd (okI t_5_ ((i + x2) + 1)) <|
    bif (ix t_5_ ((i + x2) + 1)) then (
    gd (in64 (j + x2)) <|
    gd (in64 ((j + x2) + 1)) <|
    gd (okI x3 ((j + x2) + 1)) <|
    some (up x3 ((j + x2) + 1) true)) else (
    some x3)) fun o80 =>
    gd (in64 (x2 + 1)) <|
    vk N i j t_3_ t_5_ F1 (x2 + 1) o80) else (
    some x3)
def mq (N : Nat) (i : Int) (j : Int) (t_0_ : Int) (t_1_ : Int) (t_2_ : (List (List Edge))) (t_3_ : (List Int)) (t_4_ : List Int) (t_5_ : List Bool) (t_6_ : List Bool) : Option (List Bool) :=
    vk N i j t_3_ t_5_ N 0 t_6_
def w9 (N : Nat) (m : Mach) (w_ : (List Int)) : Nat → Int → (List Int) → Option (List Int)
  | 0, _, _ => none
  | F85 + 1, x86, x87 =>
    bif decide (x86 < (↑w_.length : Int)) then (
    gd (okI w_ x86) <|
    gd (okI x87 x86) <|
    gd (okI m.rows (ix x87 x86)) <|
    gd (okI (ix m.rows (ix x87 x86)) (ix w_ x86)) <|
    gd (fits 8 x87 ([(ix (ix m.rows (ix x87 x86)) (ix w_ x86)).to] : List Int)) <|
    gd (in64 (x86 + 1)) <|
    w9 N m w_ F85 (x86 + 1) (x87 ++ ([(ix (ix m.rows (ix x87 x86)) (ix w_ x86)).to] : List Int))) else (
    some x87)
def wh (N : Nat) (d : (List Int)) (w_ : (List Int)) (o79 : List Int) : Nat → Int → (List Bool) → (List Bool) → Option (List Bool × List Bool)
  | 0, _, _, _ => none
  | F173 + 1, x174, x175, x176 =>
    bif decide (x174 < (↑o79.length : Int)) then (
    gd (in64 (x174 + (↑d.length : Int))) <|
    gd ((true && ((decide ((x174 + (↑d.length : Int)) ≤ (↑w_.length : Int))) == true)) = true → in64 (x174 + (↑d.length : Int))) <|
    gd ((true && ((decide ((x174 + (↑d.length : Int)) ≤ (↑w_.length : Int))) == true)) = true → okS w_ x174 (x174 + (↑d.length : Int))) <|
    bd (gop (true && ((decide ((x174 + (↑d.length : Int)) ≤ (↑w_.length : Int))) == true)) (slices_Equal_int N (cut w_ x174 (x174 + (↑d.length : Int))) d)) fun y189 =>
    gd (okI x175 x174) <|
    gd (okI (up x175 x174 ((decide ((x174 + (↑d.length : Int)) ≤ (↑w_.length : Int))) && (y189.getD default))) x174) <|
    gd (okI x176 x174) <|
    gd (in64 (x174 + 1)) <|
    wh N d w_ o79 F173 (x174 + 1) (up x175 x174 ((decide ((x174 + (↑d.length : Int)) ≤ (↑w_.length : Int))) && (y189.getD default))) (up x176 x174 (ix (up x175 x174 ((decide ((x174 + (↑d.length : Int)) ≤ (↑w_.length : Int))) && (y189.getD default))) x174))) else (
    some (x175, x176))
def wm (N : Nat) (m : Mach) (w_ : (List Int)) (o79 : List Int) (o164 : List Bool × List Bool) (x290 : Int) : Nat → Int → (List Bool) → Option (List Bool)
  | 0, _, _ => none
  | F304 + 1, x305, x306 =>
    bif decide (x305 < (↑o79.length : Int)) then (
    bd (
    gd ((true && ((decide (x305 ≠ x290)) == true)) = true → okI o164.1 x305) <|
    gd ((true && (((decide (x305 ≠ x290)) && (ix o164.1 x305)) == true)) = true → okI o164.1 x290) <|
    gd ((true && ((((decide (x305 ≠ x290)) && (ix o164.1 x305)) && (ix o164.1 x290)) == true)) = true → okI o79 x305) <|
    gd ((true && ((((decide (x305 ≠ x290)) && (ix o164.1 x305)) && (ix o164.1 x290)) == true)) = true → okI o79 x290) <|
    bif (((decide (x305 ≠ x290)) && (ix o164.1 x305)) && (ix o164.1 x290)) && (decide ((ix o79 x305) = (ix o79 x290))) then (
    bd (mq N x305 x290 m.inputs m.outputs m.rows w_ o79 o164.1 x306) fun y402 =>
    some y402) else (
    some x306)) fun o313 =>
    gd (in64 (x305 + 1)) <|
    wm N m w_ o79 o164 x290 F304 (x305 + 1) o313) else (
    some x306)
def ut (N : Nat) (m : Mach) (w_ : (List Int)) (o79 : List Int) (o164 : List Bool × List Bool) : Nat → Int → (List Bool) → Option (List Bool)
  | 0, _, _ => none
  | F289 + 1, x290, x291 =>
    bif decide (x290 < (↑o79.length : Int)) then (
    bd (
    wm N m w_ o79 o164 x290 N 0 x291) fun o298 =>
    gd (in64 (x290 + 1)) <|
    ut N m w_ o79 o164 F289 (x290 + 1) o298) else (
    some x291)
def gz (N : Nat) (m : Mach) (d : (List Int)) (w_ : (List Int)) : Option ((Option Schecks_track) × Int) :=
    bd (ww N m d) fun y6 =>
    bif decide (y6 ≠ 0) then (
    some ((none : (Option Schecks_track)), y6)) else (
    bd (l8 N m w_) fun y13 =>
    bif decide (y13 ≠ 0) then (
    some ((none : (Option Schecks_track)), y13)) else (
    gd (in64 ((↑w_.length : Int) + 1)) <|
    gd (okM 8 ((↑w_.length : Int) + 1) ∧ 0 ≤ (1 : Int) ∧ (1 : Int) ≤ (↑w_.length : Int) + 1) <|
    gd (in64 ((↑w_.length : Int) + 1)) <|
    gd (okM 1 ((↑w_.length : Int) + 1)) <|
    gd (in64 ((↑w_.length : Int) + 1)) <|
    gd (okM 1 ((↑w_.length : Int) + 1)) <|
    bd (
    w9 N m w_ N 0 (mk 1 (0 : Int))) fun o79 =>
    bd (
    wh N d w_ o79 N 0 (mk ((↑w_.length : Int) + 1) false) (mk ((↑w_.length : Int) + 1) false)) fun o164 =>
    bd (
    ut N m w_ o79 o164 N 0 o164.2) fun o283 =>
    some ((some (⟨(⟨m.inputs, m.outputs, m.rows⟩ : Mach), w_, o79, o164.1, o283⟩ : Schecks_track)), 0)))
def iq (N : Nat) (s : List Int) : Option (List Int) :=
    gd (okS s 0 (↑s.length : Int)) <|
    some (cut s 0 (↑s.length : Int))
def ak (N : Nat) (s : (List Int)) : Option (List Int) :=
    gd (fits 8 ([] : List Int) s) <|
    some (([] : List Int) ++ s)
def yf (N : Nat) (marks : (List Bool)) : Nat → Int → (List Int) → Option (List Int)
  | 0, _, _ => none
  | F34 + 1, x35, x36 =>
    bif decide (x35 < (↑marks.length : Int)) then (
    bd (
    gd (okI marks x35) <|
    bif !(ix marks x35) then (
    gd (okI x36 x35) <|
    some (up x36 x35 (-1))) else (
    some x36)) fun o43 =>
    gd (in64 (x35 + 1)) <|
    yf N marks F34 (x35 + 1) o43) else (
    some x36)
def nk (N : Nat) (t : Schecks_track) (marks : (List Bool)) : Option (List Int) :=
    bd (ak N t.f_at) fun y5 =>
    bd (iq N y5) fun y16 =>
    bd (
    yf N marks N 0 y16) fun o28 =>
    some o28
def z1q (N : Nat) (m : Mach) (d : (List Int)) (w_ : (List Int)) : Option ((List Int) × Int) :=
    bd (gz N m d w_) fun y6 =>
    bif decide (y6.2 ≠ 0) then (
    some (([] : (List Int)), y6.2)) else (
    gd (y6.1.isSome = true) <|
    bd (nk N (y6.1.getD default) ((y6.1.getD default).f_id)) fun y21 =>
    some (y21, 0))
def oq (N : Nat) (m : Mach) (d : (List Int)) (w_ : (List Int)) : Option ((List Int) × Int) :=
    bd (gz N m d w_) fun y6 =>
    bif decide (y6.2 ≠ 0) then (
    some (([] : (List Int)), y6.2)) else (
    gd (y6.1.isSome = true) <|
    bd (nk N (y6.1.getD default) ((y6.1.getD default).f_known)) fun y21 =>
    some (y21, 0))
def yz (N : Nat) (w_ : (List Int)) (y8 : (Option Schecks_track) × Int) : Nat → Int → (List Bool) → (List ((Int × Int) × Bool)) → Option (Schecks_track × List Bool × List ((Int × Int) × Bool))
  | 0, _, _, _ => none
  | F47 + 1, x48, x49, x50 =>
    bif decide (x48 < (↑((y8.1.getD default).f_at).length : Int)) then (
    bd (
    gd (okI ((y8.1.getD default).f_at) x48) <|
    gd (okI x49 (ix ((y8.1.getD default).f_at) x48)) <|
    gd ((true && ((ix x49 (ix ((y8.1.getD default).f_at) x48)) == false)) = true → okI ((y8.1.getD default).f_id) x48) <|
    gd (okI x49 (ix ((y8.1.getD default).f_at) x48)) <|
    gd ((true && ((decide (x48 < (↑w_.length : Int))) == true)) = true → okI ((y8.1.getD default).f_known) x48) <|
    gd ((true && (((decide (x48 < (↑w_.length : Int))) && (ix ((y8.1.getD default).f_known) x48)) == true)) = true → in64 (x48 + 1)) <|
    gd ((true && (((decide (x48 < (↑w_.length : Int))) && (ix ((y8.1.getD default).f_known) x48)) == true)) = true → okI ((y8.1.getD default).f_known) (x48 + 1)) <|
    bif ((decide (x48 < (↑w_.length : Int))) && (ix ((y8.1.getD default).f_known) x48)) && (ix ((y8.1.getD default).f_known) (x48 + 1)) then (
    gd (okI w_ x48) <|
    some ((up x49 (ix ((y8.1.getD default).f_at) x48) ((ix x49 (ix ((y8.1.getD default).f_at) x48)) || (ix ((y8.1.getD default).f_id) x48))), (z2u x50 (((ix ((y8.1.getD default).f_at) x48), (ix w_ x48)) : (Int × Int)) true))) else (
    some ((up x49 (ix ((y8.1.getD default).f_at) x48) ((ix x49 (ix ((y8.1.getD default).f_at) x48)) || (ix ((y8.1.getD default).f_id) x48))), x50))) fun o59 =>
    gd (in64 (x48 + 1)) <|
    yz N w_ y8 F47 (x48 + 1) o59.1 o59.2) else (
    some ((y8.1.getD default), x49, x50))
def xz (N : Nat) (m : Mach) (o31 : Schecks_track × List Bool × List ((Int × Int) × Bool)) (x209 : Int) (o232 : List Int) : Nat → Int → (List (Int × Int)) → Option (List Int × List (Int × Int))
  | 0, _, _ => none
  | F264 + 1, x265, x266 =>
    bif decide (x265 < m.inputs) then (
    bd (
    bif !(z0w false o31.2.2 ((x209, x265) : (Int × Int))) then (
    gd (fits 16 x266 ([((x209, x265) : (Int × Int))] : List (Int × Int))) <|
    some (x266 ++ ([((x209, x265) : (Int × Int))] : List (Int × Int)))) else (
    some x266)) fun o273 =>
    gd (in64 (x265 + 1)) <|
    xz N m o31 x209 o232 F264 (x265 + 1) o273) else (
    some (o232, x266))
def gp (N : Nat) (m : Mach) (o31 : Schecks_track × List Bool × List ((Int × Int) × Bool)) : Nat → Int → (List Int) → (List (Int × Int)) → Option (List Int × List (Int × Int))
  | 0, _, _, _ => none
  | F208 + 1, x209, x210, x211 =>
    bif decide (x209 < (↑m.rows.length : Int)) then (
    bd (
    bd (
    gd (okI o31.2.1 x209) <|
    bif !(ix o31.2.1 x209) then (
    gd (fits 8 x210 ([x209] : List Int)) <|
    some (x210 ++ ([x209] : List Int))) else (
    some x210)) fun o232 =>
    xz N m o31 x209 o232 N 0 x211) fun o223 =>
    gd (in64 (x209 + 1)) <|
    gp N m o31 F208 (x209 + 1) o223.1 o223.2) else (
    some (x210, x211))
def xx (N : Nat) (m : Mach) (d : (List Int)) (w_ : (List Int)) : Option (Schecks_Report × Int) :=
    bd (gz N m d w_) fun y8 =>
    bif decide (y8.2 ≠ 0) then (
    some ((⟨false, [], []⟩ : Schecks_Report), y8.2)) else (
    gd (okM 1 (↑m.rows.length : Int)) <|
    bd (
    gd (y8.1.isSome = true) <|
    yz N w_ y8 N 0 (mk (↑m.rows.length : Int) false) ([] : List ((Int × Int) × Bool))) fun o31 =>
    gd (okI o31.1.f_known 0) <|
    bd (
    gp N m o31 N 0 ([] : List Int) ([] : List (Int × Int))) fun o191 =>
    bd (xy N o191.1) fun y318 =>
    bd (p8 N o191.2) fun y320 =>
    some ((⟨(ix o31.1.f_known 0), y318, y320⟩ : Schecks_Report), 0))
def au (N : Nat) (m : Mach) (w_ : (List Int)) : Nat → Int → Int → (List Int) → Option (List Int)
  | 0, _, _, _ => none
  | F33 + 1, x34, x35, x36 =>
    bif decide (x35 < (↑w_.length : Int)) then (
    gd (okI w_ x35) <|
    bd (
    bif decide (x34 ≠ (-1)) then (
    gd (okI m.rows x34) <|
    gd (okI (ix m.rows x34) (ix w_ x35)) <|
    some ((ix (ix m.rows x34) (ix w_ x35)).to, (ix (ix m.rows x34) (ix w_ x35)).out)) else (
    some ((-1), (-1)))) fun o51 =>
    gd (x36.length + ([o51.2] : List Int).length ≤ (↑w_.length : Int).toNat) <|
    gd (in64 (x35 + 1)) <|
    au N m w_ F33 o51.1 (x35 + 1) (x36 ++ ([o51.2] : List Int))) else (
    some x36)
def z2w (N : Nat) (m : Mach) (w_ : (List Int)) : Option ((List Int) × Int) :=
    bd (xn N m) fun y6 =>
    bif decide (y6 ≠ 0) then (
    some (([] : (List Int)), y6)) else (
    bd (l8 N m w_) fun y13 =>
    bif decide (y13 ≠ 0) then (
    some (([] : (List Int)), y13)) else (
    gd (okM 8 (↑w_.length : Int) ∧ 0 ≤ (0 : Int) ∧ (0 : Int) ≤ (↑w_.length : Int)) <|
    bd (
    au N m w_ N 0 0 (mk 0 (0 : Int))) fun o26 =>
    gd (o26.length = (↑w_.length : Int).toNat) <|
    some (o26, 0)))
def dz (N : Nat) (a : Schecks_Report) (b : Schecks_Report) : Nat → Int → Option (Ex (Unit) (Bool))
  | 0, _ => none
  | F64 + 1, x65 =>
    bif decide (x65 < (↑a.f_Edges.length : Int)) then (
    gd (okI a.f_Edges x65) <|
    gd (okI b.f_Edges x65) <|
    bif decide (¬ (((ix a.f_Edges x65).1) = ((ix b.f_Edges x65).1) ∧ ((ix a.f_Edges x65).2) = ((ix b.f_Edges x65).2))) then (
    some (Ex.rt false)) else (
    gd (in64 (x65 + 1)) <|
    dz N a b F64 (x65 + 1))) else (
    some (Ex.go ()))
def z0u (N : Nat) (a : Schecks_Report) (b : Schecks_Report) : Option Bool :=
    bd (gop (true && ((decide (a.f_Begins ≠ b.f_Begins)) == false)) (yo N a.f_States b.f_States)) fun y11 =>
    bif ((decide (a.f_Begins ≠ b.f_Begins)) || (!(y11.getD default))) || (decide ((↑a.f_Edges.length : Int) ≠ (↑b.f_Edges.length : Int))) then (
    some false) else (
    bd (
    dz N a b N 0) fun q61 =>
    Ex.on q61 (fun o60 =>
    some true) some)
def r9 (N : Nat) : Option Bool :=
    bd (pu N) fun y1 =>
    bd (xg N (⟨y1.inputs, y1.outputs, y1.rows⟩ : Mach) ([0] : List Int)) fun y20 =>
    bd (z1q N (⟨y1.inputs, y1.outputs, y1.rows⟩ : Mach) ([0] : List Int) ([0, 1, 0, 0, 0] : List Int)) fun y37 =>
    bd (oq N (⟨y1.inputs, y1.outputs, y1.rows⟩ : Mach) ([0] : List Int) ([0, 1, 0, 0, 0] : List Int)) fun y45 =>
    bd (xx N (⟨y1.inputs, y1.outputs, y1.rows⟩ : Mach) ([0] : List Int) ([0, 1, 0, 0, 0] : List Int)) fun y53 =>
    bd (z2w N (⟨y1.inputs, y1.outputs, y1.rows⟩ : Mach) ([0, 0, 1, 0] : List Int)) fun y76 =>
    bd (gop (true && ((((((decide (y20.2 = 0)) && (decide (y37.2 = 0))) && (decide (y45.2 = 0))) && (decide (y53.2 = 0))) && (decide (y76.2 = 0))) == true)) (yo N y20.1 ([0, 0, 0, 0, 0, 0, 1, 0, 0, 0, 1, 0] : List Int))) fun y84 =>
    bd (gop (true && (((((((decide (y20.2 = 0)) && (decide (y37.2 = 0))) && (decide (y45.2 = 0))) && (decide (y53.2 = 0))) && (decide (y76.2 = 0))) && (y84.getD default)) == true)) (yo N y37.1 ([0, (-1), 1, 0, 1, (-1)] : List Int))) fun y86 =>
    bd (gop (true && ((((((((decide (y20.2 = 0)) && (decide (y37.2 = 0))) && (decide (y45.2 = 0))) && (decide (y53.2 = 0))) && (decide (y76.2 = 0))) && (y84.getD default)) && (y86.getD default)) == true)) (yo N y45.1 ([0, 1, 1, 0, 1, 0] : List Int))) fun y88 =>
    bd (gop (true && (((((((((decide (y20.2 = 0)) && (decide (y37.2 = 0))) && (decide (y45.2 = 0))) && (decide (y53.2 = 0))) && (decide (y76.2 = 0))) && (y84.getD default)) && (y86.getD default)) && (y88.getD default)) == true)) (z0u N (⟨y53.1.f_Begins, y53.1.f_States, y53.1.f_Edges⟩ : Schecks_Report) (⟨true, [], ([((0, 1) : (Int × Int))] : List (Int × Int))⟩ : Schecks_Report))) fun y90 =>
    bd (gop (true && ((((((((((decide (y20.2 = 0)) && (decide (y37.2 = 0))) && (decide (y45.2 = 0))) && (decide (y53.2 = 0))) && (decide (y76.2 = 0))) && (y84.getD default)) && (y86.getD default)) && (y88.getD default)) && (y90.getD default)) == true)) (yo N y76.1 ([0, 1, 0, 0] : List Int))) fun y92 =>
    bd (gop (true && (((((((((((decide (y20.2 = 0)) && (decide (y37.2 = 0))) && (decide (y45.2 = 0))) && (decide (y53.2 = 0))) && (decide (y76.2 = 0))) && (y84.getD default)) && (y86.getD default)) && (y88.getD default)) && (y90.getD default)) && (y92.getD default)) == true)) (ww N (⟨y1.inputs, y1.outputs, y1.rows⟩ : Mach) ([1] : List Int))) fun y94 =>
    bd (gop (true && ((((((((((((decide (y20.2 = 0)) && (decide (y37.2 = 0))) && (decide (y45.2 = 0))) && (decide (y53.2 = 0))) && (decide (y76.2 = 0))) && (y84.getD default)) && (y86.getD default)) && (y88.getD default)) && (y90.getD default)) && (y92.getD default)) && (decide ((y94.getD default) = 12))) == true)) (ww N (⟨y1.inputs, y1.outputs, y1.rows⟩ : Mach) ([] : (List Int)))) fun y96 =>
    some ((((((((((((decide (y20.2 = 0)) && (decide (y37.2 = 0))) && (decide (y45.2 = 0))) && (decide (y53.2 = 0))) && (decide (y76.2 = 0))) && (y84.getD default)) && (y86.getD default)) && (y88.getD default)) && (y90.getD default)) && (y92.getD default)) && (decide ((y94.getD default) = 12))) && (decide ((y96.getD default) = 12)))
def cz (N : Nat) (n : Int) (inputs : Int) (x14 : Int) : Nat → (List Edge) → Int → Option (List Edge)
  | 0, _, _ => none
  | F31 + 1, x32, x33 =>
    bif decide (x33 < inputs) then (
    gd (in64 (x14 + 1)) <|
    gd (okR (x14 + 1) n) <|
    gd (in64 (n - 1)) <|
    gd (okQ x14 (n - 1)) <|
    gd (fits 16 x32 ([(⟨(x14 + 1) % n, x14 / (n - 1)⟩ : Edge)] : List Edge)) <|
    gd (in64 (x33 + 1)) <|
    cz N n inputs x14 F31 (x32 ++ ([(⟨(x14 + 1) % n, x14 / (n - 1)⟩ : Edge)] : List Edge)) (x33 + 1)) else (
    some x32)
def cu (N : Nat) (n : Int) (inputs : Int) : Nat → Int → (List (List Edge)) → Option (List (List Edge))
  | 0, _, _ => none
  | F13 + 1, x14, x15 =>
    bif decide (x14 < n) then (
    bd (
    cz N n inputs x14 N ([] : List Edge) 0) fun o23 =>
    gd (fits 24 x15 ([o23] : List (List Edge))) <|
    gd (in64 (x14 + 1)) <|
    cu N n inputs F13 (x14 + 1) (x15 ++ ([o23] : List (List Edge)))) else (
    some x15)
def uu (N : Nat) (n : Int) (inputs : Int) : Option Mach :=
    bd (
    cu N n inputs N 0 ([] : List (List Edge))) fun o5 =>
    some (⟨inputs, 2, o5⟩ : Mach)
def om (N : Nat) (x : Schecks_Report) : Option Bool :=
    gd ((true && (x.f_Begins == true)) = true → in64 ((↑x.f_States.length : Int) + (↑x.f_Edges.length : Int))) <|
    some (x.f_Begins && (decide (((↑x.f_States.length : Int) + (↑x.f_Edges.length : Int)) = 0)))
def je (N : Nat) : Nat → Int → Option (Ex (Unit) (Bool))
  | 0, _ => none
  | F5 + 1, x6 =>
    bif decide (x6 < 6) then (
    bd (uu N x6 2) fun y10 =>
    gd (in64 (x6 - 1)) <|
    gd (okM 8 (x6 - 1)) <|
    bd (xg N (⟨y10.inputs, y10.outputs, y10.rows⟩ : Mach) (mk (x6 - 1) (0 : Int))) fun y31 =>
    bd (xx N (⟨y10.inputs, y10.outputs, y10.rows⟩ : Mach) (mk (x6 - 1) (0 : Int)) y31.1) fun y39 =>
    bd (gop (true && (((decide (y31.2 ≠ 0)) || (decide (y39.2 ≠ 0))) == false)) (om N (⟨y39.1.f_Begins, y39.1.f_States, y39.1.f_Edges⟩ : Schecks_Report))) fun y53 =>
    gd ((true && ((((decide (y31.2 ≠ 0)) || (decide (y39.2 ≠ 0))) || (!(y53.getD default))) == false)) = true → okS (mk (x6 - 1) (0 : Int)) 1 (↑(mk (x6 - 1) (0 : Int)).length : Int)) <|
    bd (gop (true && ((((decide (y31.2 ≠ 0)) || (decide (y39.2 ≠ 0))) || (!(y53.getD default))) == false)) (ww N (⟨y10.inputs, y10.outputs, y10.rows⟩ : Mach) (cut (mk (x6 - 1) (0 : Int)) 1 (↑(mk (x6 - 1) (0 : Int)).length : Int)))) fun y56 =>
    bif (((decide (y31.2 ≠ 0)) || (decide (y39.2 ≠ 0))) || (!(y53.getD default))) || (decide ((y56.getD default) ≠ 12)) then (
    some (Ex.rt false)) else (
    gd (in64 (x6 + 1)) <|
    je N F5 (x6 + 1))) else (
    some (Ex.go ()))
def jm (N : Nat) : Nat → (List Int) → Int → Option (List Int)
  | 0, _, _ => none
  | F170 + 1, x171, x172 =>
    bif decide (x172 < 1024) then (
    gd (fits 8 x171 ([1] : List Int)) <|
    gd (in64 (x172 + 1)) <|
    jm N F170 (x171 ++ ([1] : List Int)) (x172 + 1)) else (
    some x171)
def bu (N : Nat) : Option Bool :=
    bd (
    je N N 2) fun q2 =>
    Ex.on q2 (fun o1 =>
    bd (uu N 20 2) fun y104 =>
    gd (okM 8 19) <|
    bd (xg N y104 (mk 19 (0 : Int))) fun y107 =>
    bd (pu N) fun y132 =>
    gd (okM 8 1025) <|
    bd (oq N y132 ([0] : List Int) (mk 1025 (0 : Int))) fun y135 =>
    bd (
    jm N N ([] : List Int) 0) fun o162 =>
    bd (pu N) fun y200 =>
    bd (oq N y200 ([0] : List Int) o162) fun y219 =>
    gd ((true && (((((decide (y107.2 ≠ 3)) || (decide (y135.2 ≠ 3))) || (decide (y219.2 ≠ 0))) || (decide ((↑y219.1.length : Int) ≠ 1025))) == false)) = true → okI y219.1 0) <|
    gd ((true && ((((((decide (y107.2 ≠ 3)) || (decide (y135.2 ≠ 3))) || (decide (y219.2 ≠ 0))) || (decide ((↑y219.1.length : Int) ≠ 1025))) || (decide ((ix y219.1 0) ≠ (-1)))) == false)) = true → okI y219.1 1024) <|
    bif (((((decide (y107.2 ≠ 3)) || (decide (y135.2 ≠ 3))) || (decide (y219.2 ≠ 0))) || (decide ((↑y219.1.length : Int) ≠ 1025))) || (decide ((ix y219.1 0) ≠ (-1)))) || (decide ((ix y219.1 1024) ≠ (-1))) then (
    some false) else (
    bd (xg N (⟨3, 1, ([([(⟨0, 0⟩ : Edge), (⟨0, 0⟩ : Edge), (⟨0, 0⟩ : Edge)] : List Edge)] : List (List Edge))⟩ : Mach) ([] : (List Int))) fun y306 =>
    bd (gop (true && ((decide (y306.2 = 0)) == true)) (yo N y306.1 ([0, 1, 2] : List Int))) fun y314 =>
    bd (gop (true && (((decide (y306.2 = 0)) && (y314.getD default)) == true)) (ww N (⟨1, 2, ([([(⟨1, 0⟩ : Edge)] : List Edge), ([(⟨1, 1⟩ : Edge)] : List Edge)] : List (List Edge))⟩ : Mach) ([0] : List Int))) fun y316 =>
    bd (gop (true && ((((decide (y306.2 = 0)) && (y314.getD default)) && (decide ((y316.getD default) = 7))) == true)) (r9 N)) fun y318 =>
    some ((((decide (y306.2 = 0)) && (y314.getD default)) && (decide ((y316.getD default) = 7))) && (y318.getD default)))) some
end GV
end Go.Proofs.Ytplgbkaollfmkaa
