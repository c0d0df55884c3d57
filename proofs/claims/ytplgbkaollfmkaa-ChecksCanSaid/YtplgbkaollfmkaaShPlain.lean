import Derived.Test.YtplgbkaollfmkaaShTypes
set_option linter.unusedVariables false
set_option linter.unusedSimpArgs false
namespace Go.Proofs.Ytplgbkaollfmkaa
namespace GV
set_option maxRecDepth 100000
def vk (N : Nat) (m : Mach) (x73 : Int) : Nat → Int → Option (Ex (Unit) (Ex (Unit) (Int)))
  | 0, _ => none
  | F107 + 1, x108 =>
    bif decide (x108 < m.inputs) then (
    bd (
    gd (okI m.rows x73) <|
    gd (okI (ix m.rows x73) x108) <|
    bif (decide (((ix (ix m.rows x73) x108).to) = (-1))) && (decide (((ix (ix m.rows x73) x108).out) = (-1))) then (
    some (Ex.go ())) else (
    bif (((decide (((ix (ix m.rows x73) x108).to) < 0)) || (decide ((↑m.rows.length : Int) ≤ ((ix (ix m.rows x73) x108).to)))) || (decide (((ix (ix m.rows x73) x108).out) < 0))) || (decide (m.outputs ≤ ((ix (ix m.rows x73) x108).out))) then (
    some (Ex.rt (Ex.rt (Ex.rt 1)))) else (
    some (Ex.go ())))) fun q117 =>
    Ex.on q117 (fun o116 =>
    gd (in64 (x108 + 1)) <|
    vk N m x73 F107 (x108 + 1)) some) else (
    some (Ex.go ()))
def uo (N : Nat) (m : Mach) : Nat → Int → Option (Ex (Unit) (Int))
  | 0, _ => none
  | F72 + 1, x73 =>
    bif decide (x73 < (↑m.rows.length : Int)) then (
    bd (
    gd (okI m.rows x73) <|
    bif decide ((↑(ix m.rows x73).length : Int) ≠ m.inputs) then (
    some (Ex.rt (Ex.rt 1))) else (
    vk N m x73 N 0)) fun q82 =>
    Ex.on q82 (fun o81 =>
    gd (in64 (x73 + 1)) <|
    uo N m F72 (x73 + 1)) some) else (
    some (Ex.go ()))
def mr (N : Nat) (m : Mach) : Option Int :=
    bif ((decide (16 < m.inputs)) || (decide (16 < m.outputs))) || (decide (64 < (↑m.rows.length : Int))) then (
    some 3) else (
    bif ((decide (m.inputs < 1)) || (decide (m.outputs < 1))) || (decide ((↑m.rows.length : Int) = 0)) then (
    some 1) else (
    bd (
    uo N m N 0) fun q69 =>
    Ex.on q69 (fun o68 =>
    some 0) some))
def vg (N : Nat) (m : Mach) (x11 : Int) : Nat → Int → Int → Option Int
  | 0, _, _ => none
  | F22 + 1, x23, x24 =>
    bif decide (x24 < m.inputs) then (
    bd (
    gd (okI m.rows x11) <|
    gd (okI (ix m.rows x11) x24) <|
    bif decide (0 ≤ ((ix (ix m.rows x11) x24).to)) then (
    gd (in64 (x23 + 1)) <|
    some (x23 + 1)) else (
    some x23)) fun o32 =>
    gd (in64 (x24 + 1)) <|
    vg N m x11 F22 o32 (x24 + 1)) else (
    some x23)
def xm (N : Nat) (m : Mach) : Nat → Int → Int → Option Int
  | 0, _, _ => none
  | F9 + 1, x10, x11 =>
    bif decide (x11 < (↑m.rows.length : Int)) then (
    bd (
    vg N m x11 N x10 0) fun o19 =>
    gd (in64 (x11 + 1)) <|
    xm N m F9 o19 (x11 + 1)) else (
    some x10)
def il (N : Nat) (m : Mach) : Option Int :=
    bd (
    xm N m N 0 0) fun o6 =>
    some o6
def az (N : Nat) (m : Mach) : Option Bool :=
    bd (il N m) fun y6 =>
    gd (in64 ((↑m.rows.length : Int) * m.inputs)) <|
    some (decide (y6 = ((↑m.rows.length : Int) * m.inputs)))
def wz (N : Nat) (m : Mach) (x47 : Int) : Nat → Int → (List Bool) → Option (List Bool)
  | 0, _, _ => none
  | F65 + 1, x66, x67 =>
    bif decide (x66 < m.inputs) then (
    bd (
    gd (okI m.rows x47) <|
    gd (okI (ix m.rows x47) x66) <|
    gd (okI x67 x47) <|
    bif (ix x67 x47) && (decide (0 ≤ ((ix (ix m.rows x47) x66).to))) then (
    gd (okI x67 ((ix (ix m.rows x47) x66).to)) <|
    some (up x67 ((ix (ix m.rows x47) x66).to) true)) else (
    some x67)) fun o78 =>
    gd (in64 (x66 + 1)) <|
    wz N m x47 F65 (x66 + 1) o78) else (
    some x67)
def wy (N : Nat) (m : Mach) : Nat → Int → (List Bool) → Option (List Bool)
  | 0, _, _ => none
  | F46 + 1, x47, x48 =>
    bif decide (x47 < (↑m.rows.length : Int)) then (
    bd (
    wz N m x47 N 0 x48) fun o59 =>
    gd (in64 (x47 + 1)) <|
    wy N m F46 (x47 + 1) o59) else (
    some x48)
def xq (N : Nat) (m : Mach) : Nat → Int → (List Bool) → Option (List Bool)
  | 0, _, _ => none
  | F27 + 1, x28, x29 =>
    bif decide (x28 < (↑m.rows.length : Int)) then (
    bd (
    wy N m N 0 x29) fun o40 =>
    gd (in64 (x28 + 1)) <|
    xq N m F27 (x28 + 1) o40) else (
    some x29)
def o8 (N : Nat) (m : Mach) (from_ : Int) : Option (List Bool) :=
    gd (okM 1 (↑m.rows.length : Int)) <|
    gd (okI (mk (↑m.rows.length : Int) false) from_) <|
    bd (
    xq N m N 0 (up (mk (↑m.rows.length : Int) false) from_ true)) fun o21 =>
    some o21
def uk (N : Nat) (y6 : (List Bool)) : Nat → Int → Option (Ex (Unit) (Bool))
  | 0, _ => none
  | F16 + 1, x17 =>
    bif decide (x17 < (↑y6.length : Int)) then (
    gd (okI y6 x17) <|
    bif !(ix y6 x17) then (
    some (Ex.rt false)) else (
    gd (in64 (x17 + 1)) <|
    uk N y6 F16 (x17 + 1))) else (
    some (Ex.go ()))
def aa (N : Nat) (m : Mach) : Option Bool :=
    bd (o8 N m 0) fun y6 =>
    bd (
    uk N y6 N 0) fun q13 =>
    Ex.on q13 (fun o12 =>
    some true) some
def ul (N : Nat) (m : Mach) (marked : (List (List Bool))) (s : Int) (t : Int) : Nat → Int → Option (Ex (Unit) (Int))
  | 0, _ => none
  | F10 + 1, x11 =>
    bif decide (x11 < m.inputs) then (
    gd (okI m.rows s) <|
    gd (okI (ix m.rows s) x11) <|
    gd (okI m.rows t) <|
    gd (okI (ix m.rows t) x11) <|
    gd (((true && ((decide (((ix (ix m.rows s) x11).out) ≠ ((ix (ix m.rows t) x11).out))) == false)) && (((decide (0 ≤ ((ix (ix m.rows s) x11).to))) && (decide (0 ≤ ((ix (ix m.rows t) x11).to)))) == true)) = true → okI marked ((ix (ix m.rows s) x11).to)) <|
    gd (((true && ((decide (((ix (ix m.rows s) x11).out) ≠ ((ix (ix m.rows t) x11).out))) == false)) && (((decide (0 ≤ ((ix (ix m.rows s) x11).to))) && (decide (0 ≤ ((ix (ix m.rows t) x11).to)))) == true)) = true → okI (ix marked ((ix (ix m.rows s) x11).to)) ((ix (ix m.rows t) x11).to)) <|
    bif (decide (((ix (ix m.rows s) x11).out) ≠ ((ix (ix m.rows t) x11).out))) || (((decide (0 ≤ ((ix (ix m.rows s) x11).to))) && (decide (0 ≤ ((ix (ix m.rows t) x11).to)))) && (ix (ix marked ((ix (ix m.rows s) x11).to)) ((ix (ix m.rows t) x11).to))) then (
    some (Ex.rt 1)) else (
    gd (in64 (x11 + 1)) <|
    ul N m marked s t F10 (x11 + 1))) else (
    some (Ex.go ()))
def lu (N : Nat) (m : Mach) (marked : (List (List Bool))) (s : Int) (t : Int) : Option Int :=
    bd (
    ul N m marked s t N 0) fun q7 =>
    Ex.on q7 (fun o6 =>
    some 0) some
def yc (N : Nat) (m : Mach) : Nat → (List (List Bool)) → Int → Option (List (List Bool))
  | 0, _, _ => none
  | F19 + 1, x20, x21 =>
    bif decide (x21 < (↑m.rows.length : Int)) then (
    gd (okM 1 (↑m.rows.length : Int)) <|
    gd (fits 24 x20 [(mk (↑m.rows.length : Int) false)]) <|
    gd (in64 (x21 + 1)) <|
    yc N m F19 (x20 ++ [(mk (↑m.rows.length : Int) false)]) (x21 + 1)) else (
    some x20)
def yg (N : Nat) (m : Mach) (x64 : List (List Bool)) (x85 : Int) : Nat → Int → (List (List Bool)) → Option (List (List Bool))
  | 0, _, _ => none
  | F119 + 1, x120, x121 =>
    bif decide (x120 < (↑m.rows.length : Int)) then (
    gd (okI x121 x85) <|
    gd (okI x64 x85) <|
    gd (okI (ix x64 x85) x120) <|
    bd (gop (true && ((ix (ix x64 x85) x120) == false)) (lu N m x64 x85 x120)) fun y131 =>
    gd (okI (ix x121 x85) x120) <|
    gd (in64 (x120 + 1)) <|
    yg N m x64 x85 F119 (x120 + 1) (up x121 x85 (up (ix x121 x85) x120 ((ix (ix x64 x85) x120) || (decide ((y131.getD default) = 1)))))) else (
    some x121)
def yh (N : Nat) (m : Mach) (x64 : List (List Bool)) : Nat → (List (List Bool)) → Int → Option (List (List Bool))
  | 0, _, _ => none
  | F83 + 1, x84, x85 =>
    bif decide (x85 < (↑m.rows.length : Int)) then (
    bd (
    gd (okM 1 (↑m.rows.length : Int)) <|
    gd (fits 24 x84 [(mk (↑m.rows.length : Int) false)]) <|
    yg N m x64 x85 N 0 (x84 ++ [(mk (↑m.rows.length : Int) false)])) fun o94 =>
    gd (in64 (x85 + 1)) <|
    yh N m x64 F83 o94 (x85 + 1)) else (
    some x84)
def yl (N : Nat) (m : Mach) (k : Int) : Nat → (List (List Bool)) → Int → Option (List (List Bool))
  | 0, _, _ => none
  | F63 + 1, x64, x65 =>
    bif decide (x65 < k) then (
    bd (
    yh N m x64 N ([] : List (List Bool)) 0) fun o74 =>
    gd (in64 (x65 + 1)) <|
    yl N m k F63 o74 (x65 + 1)) else (
    some x64)
def oq (N : Nat) (m : Mach) (k : Int) : Option (List (List Bool)) :=
    bd (
    yc N m N ([] : List (List Bool)) 0) fun o10 =>
    bd (
    yl N m k N o10 0) fun o55 =>
    some o55
def kz (N : Nat) (marked : (List (List Bool))) (x10 : List Int) (x12 : Int) : Nat → Int → Int → Option Int
  | 0, _, _ => none
  | F23 + 1, x24, x25 =>
    bif decide (x25 < x12) then (
    bd (
    gd (okI marked x12) <|
    gd (okI (ix marked x12) x25) <|
    bif !(ix (ix marked x12) x25) then (
    gd (okI x10 x25) <|
    some (ix x10 x25)) else (
    some x24)) fun o29 =>
    gd (in64 (x25 + 1)) <|
    kz N marked x10 x12 F23 o29 (x25 + 1)) else (
    some x24)
def uq (N : Nat) (marked : (List (List Bool))) : Nat → (List Int) → Int → Int → Option (List Int)
  | 0, _, _, _ => none
  | F9 + 1, x10, x11, x12 =>
    bif decide (x12 < (↑marked.length : Int)) then (
    bd (
    kz N marked x10 x12 N (-1) 0) fun o20 =>
    bd (
    bif decide (o20 < 0) then (
    gd (in64 (x11 + 1)) <|
    some (x11 + 1, x11)) else (
    some (x11, o20))) fun o58 =>
    gd (fits 8 x10 ([o58.2] : List Int)) <|
    gd (in64 (x12 + 1)) <|
    uq N marked F9 (x10 ++ ([o58.2] : List Int)) o58.1 (x12 + 1)) else (
    some x10)
def ny (N : Nat) (marked : (List (List Bool))) : Option (List Int) :=
    bd (
    uq N marked N ([] : List Int) 0 0) fun o1 =>
    some o1
def z0u (N : Nat) (m : Mach) (k : Int) : Option (List Int) :=
    bd (oq N m k) fun y6 =>
    bd (ny N y6) fun y12 =>
    some y12
def sw (N : Nat) (m : Mach) : Option (List Int) :=
    bd (z0u N m (↑m.rows.length : Int)) fun y10 =>
    some y10
def yo (N : Nat) (y27 : (List Int)) (x38 : Int) : Nat → Int → Option (Ex (Unit) (Ex (Unit) (Int)))
  | 0, _ => none
  | F46 + 1, x47 =>
    bif decide (x47 < x38) then (
    gd (okI y27 x38) <|
    gd (okI y27 x47) <|
    bif decide ((ix y27 x38) = (ix y27 x47)) then (
    some (Ex.rt (Ex.rt 12))) else (
    gd (in64 (x47 + 1)) <|
    yo N y27 x38 F46 (x47 + 1))) else (
    some (Ex.go ()))
def ym (N : Nat) (y27 : (List Int)) : Nat → Int → Option (Ex (Unit) (Int))
  | 0, _ => none
  | F37 + 1, x38 =>
    bif decide (x38 < (↑y27.length : Int)) then (
    bd (
    yo N y27 x38 N 0) fun q43 =>
    Ex.on q43 (fun o42 =>
    gd (in64 (x38 + 1)) <|
    ym N y27 F37 (x38 + 1)) some) else (
    some (Ex.go ()))
def fu (N : Nat) (m : Mach) : Option Int :=
    bd (mr N m) fun y6 =>
    bif decide (y6 ≠ 0) then (
    some y6) else (
    bd (az N m) fun y13 =>
    bif !y13 then (
    some 9) else (
    bd (aa N m) fun y20 =>
    bif !y20 then (
    some 11) else (
    bd (sw N m) fun y27 =>
    bd (
    ym N y27 N 0) fun q34 =>
    Ex.on q34 (fun o33 =>
    some 0) some)))
def yt (N : Nat) (m : Mach) (w_ : (List Int)) : Nat → Int → Option (Ex (Unit) (Bool))
  | 0, _ => none
  | F10 + 1, x11 =>
    bif decide (x11 < (↑w_.length : Int)) then (
    gd (okI w_ x11) <|
    gd ((true && ((decide ((ix w_ x11) < 0)) == false)) = true → okI w_ x11) <|
    bif (decide ((ix w_ x11) < 0)) || (decide (m.inputs ≤ (ix w_ x11))) then (
    some (Ex.rt false)) else (
    gd (in64 (x11 + 1)) <|
    yt N m w_ F10 (x11 + 1))) else (
    some (Ex.go ()))
def ow (N : Nat) (m : Mach) (w_ : (List Int)) : Option Bool :=
    bd (
    yt N m w_ N 0) fun q7 =>
    Ex.on q7 (fun o6 =>
    some true) some
def xe (N : Nat) (m : Mach) (x44 : Int) : Nat → Int → (List Bool) → Option (List Bool)
  | 0, _, _ => none
  | F62 + 1, x63, x64 =>
    gd ((true && ((decide (x63 < m.inputs)) == true)) = true → okI x64 x44) <|
    bif (decide (x63 < m.inputs)) && (ix x64 x44) then (
    bd (
    gd (okI m.rows x44) <|
    gd (okI (ix m.rows x44) x63) <|
    bif decide (((ix (ix m.rows x44) x63).to) ≠ (-1)) then (
    gd (okI x64 ((ix (ix m.rows x44) x63).to)) <|
    some (up x64 ((ix (ix m.rows x44) x63).to) true)) else (
    some x64)) fun o94 =>
    gd (in64 (x63 + 1)) <|
    xe N m x44 F62 (x63 + 1) o94) else (
    some x64)
def xg (N : Nat) (m : Mach) : Nat → Int → (List Bool) → Option (List Bool)
  | 0, _, _ => none
  | F43 + 1, x44, x45 =>
    bif decide (x44 < (↑m.rows.length : Int)) then (
    bd (
    xe N m x44 N 0 x45) fun o56 =>
    gd (in64 (x44 + 1)) <|
    xg N m F43 (x44 + 1) o56) else (
    some x45)
def xk (N : Nat) (m : Mach) (steps : Int) : Nat → Int → (List Bool) → Option (List Bool)
  | 0, _, _ => none
  | F28 + 1, x29, x30 =>
    bif decide (x29 < steps) then (
    bd (
    xg N m N 0 x30) fun o37 =>
    gd (in64 (x29 + 1)) <|
    xk N m steps F28 (x29 + 1) o37) else (
    some x30)
def cu (N : Nat) (m : Mach) (s : Int) (t : Int) (steps : Int) : Option Bool :=
    bif decide (s = t) then (
    some true) else (
    gd (okM 1 (↑m.rows.length : Int)) <|
    gd (okI (mk (↑m.rows.length : Int) false) s) <|
    bd (
    xk N m steps N 0 (up (mk (↑m.rows.length : Int) false) s true)) fun o22 =>
    gd (okI o22 t) <|
    some (ix o22 t))
def xc (N : Nat) (m : Mach) (x20 : Int) : Nat → Bool → (List Int) → Int → Option (Bool × List Int)
  | 0, _, _, _ => none
  | F42 + 1, x43, x44, x45 =>
    bif decide (x45 < (↑m.rows.length : Int)) then (
    bd (
    bd (cu N m x20 x45 (↑m.rows.length : Int)) fun y59 =>
    bd (gop (true && (y59 == true)) (cu N m x45 x20 (↑m.rows.length : Int))) fun y61 =>
    bif y59 && (y61.getD default) then (
    gd (fits 8 x44 ([x45] : List Int)) <|
    some (x43 && (decide (x20 ≤ x45)), (x44 ++ ([x45] : List Int)))) else (
    some (x43, x44))) fun o53 =>
    gd (in64 (x45 + 1)) <|
    xc N m x20 F42 o53.1 o53.2 (x45 + 1)) else (
    some (x43, x44))
def bv (N : Nat) (m : Mach) : Nat → (List (List Int)) → Int → Option (List (List Int))
  | 0, _, _ => none
  | F18 + 1, x19, x20 =>
    bif decide (x20 < (↑m.rows.length : Int)) then (
    bd (
    bd (
    xc N m x20 N true ([] : List Int) 0) fun o34 =>
    bif o34.1 then (
    gd (fits 24 x19 ([o34.2] : List (List Int))) <|
    some (x19 ++ ([o34.2] : List (List Int)))) else (
    some x19)) fun o28 =>
    gd (in64 (x20 + 1)) <|
    bv N m F18 o28 (x20 + 1)) else (
    some x19)
def z00 (N : Nat) (m : Mach) : Option (List (List Int)) :=
    bd (
    bv N m N ([] : List (List Int)) 0) fun o10 =>
    some o10
def z0i (N : Nat) (m : Mach) (s : Int) (i : Int) : Option Edge :=
    bif decide (s < 0) then (
    some (⟨(-1), (-1)⟩ : Edge)) else (
    gd (okI m.rows s) <|
    gd (okI (ix m.rows s) i) <|
    some (⟨(ix (ix m.rows s) i).to, (ix (ix m.rows s) i).out⟩ : Edge))
def dh (N : Nat) (m : Mach) (w_ : (List Int)) : Nat → Int → (List Int) → Int → Option (List Int)
  | 0, _, _, _ => none
  | F14 + 1, x15, x16, x17 =>
    bif decide (x17 < (↑w_.length : Int)) then (
    gd (okI w_ x17) <|
    bd (z0i N m x15 (ix w_ x17)) fun y26 =>
    gd (fits 8 x16 ([y26.out] : List Int)) <|
    gd (in64 (x17 + 1)) <|
    dh N m w_ F14 y26.to (x16 ++ ([y26.out] : List Int)) (x17 + 1)) else (
    some x16)
def ib (N : Nat) (m : Mach) (s : Int) (w_ : (List Int)) : Option (List Int) :=
    bd (
    dh N m w_ N s ([] : List Int) 0) fun o6 =>
    some o6
def ww (N : Nat) (a : (List Int)) (b : (List Int)) : Nat → Int → Option (Ex (Unit) (Int))
  | 0, _ => none
  | F7 + 1, x8 =>
    bif decide (x8 < (↑a.length : Int)) then (
    gd (okI a x8) <|
    gd (okI b x8) <|
    bif decide ((ix a x8) < (ix b x8)) then (
    some (Ex.rt (-1))) else (
    gd (okI a x8) <|
    gd (okI b x8) <|
    bif decide ((ix b x8) < (ix a x8)) then (
    some (Ex.rt 1)) else (
    gd (in64 (x8 + 1)) <|
    ww N a b F7 (x8 + 1)))) else (
    some (Ex.go ()))
def iq (N : Nat) (a : (List Int)) (b : (List Int)) : Option Int :=
    bif decide ((↑a.length : Int) < (↑b.length : Int)) then (
    some (-1)) else (
    bif decide ((↑b.length : Int) < (↑a.length : Int)) then (
    some 1) else (
    bd (
    ww N a b N 0) fun q4 =>
    Ex.on q4 (fun o3 =>
    some 0) some))
def yw (N : Nat) (a : (List Int)) (b : (List Int)) : Option Bool :=
    bd (iq N a b) fun y1 =>
    some (decide (y1 = 0))
def bq (N : Nat) (m : Mach) (d : (List Int)) (x33 : Int) : Nat → Int → Option (Ex (Unit) (Ex (Unit) (Int)))
  | 0, _ => none
  | F45 + 1, x46 =>
    bif decide (x46 < x33) then (
    bd (ib N m x33 d) fun y50 =>
    bd (ib N m x46 d) fun y52 =>
    bd (yw N y50 y52) fun y54 =>
    bif y54 then (
    some (Ex.rt (Ex.rt 12))) else (
    gd (in64 (x46 + 1)) <|
    bq N m d x33 F45 (x46 + 1))) else (
    some (Ex.go ()))
def bz (N : Nat) (m : Mach) (d : (List Int)) : Nat → Int → Option (Ex (Unit) (Int))
  | 0, _ => none
  | F32 + 1, x33 =>
    bif decide (x33 < (↑m.rows.length : Int)) then (
    bd (
    bq N m d x33 N 0) fun q42 =>
    Ex.on q42 (fun o41 =>
    gd (in64 (x33 + 1)) <|
    bz N m d F32 (x33 + 1)) some) else (
    some (Ex.go ()))
def z0w (N : Nat) (m : Mach) (d : (List Int)) : Option Int :=
    bd (fu N m) fun y6 =>
    bif decide (y6 ≠ 0) then (
    some y6) else (
    bif decide (256 < (↑d.length : Int)) then (
    some 3) else (
    bd (ow N m d) fun y14 =>
    bif !y14 then (
    some 1) else (
    bd (z00 N m) fun y21 =>
    bif decide (1 < (↑y21.length : Int)) then (
    some 7) else (
    bd (
    bz N m d N 0) fun q29 =>
    Ex.on q29 (fun o28 =>
    some 0) some))))
def ug (N : Nat) (s : (List Edge)) (f : Edge → Option Bool) : Nat → Int → Option (Ex (Unit) (Int))
  | 0, _ => none
  | F5 + 1, x6 =>
    bif decide (x6 < (↑s.length : Int)) then (
    gd (okI s x6) <|
    bd (f (ix s x6)) fun y15 =>
    bif y15 then (
    some (Ex.rt x6)) else (
    gd (in64 (x6 + 1)) <|
    ug N s f F5 (x6 + 1))) else (
    some (Ex.go ()))
def mo (N : Nat) (s : (List Edge)) (f : Edge → Option Bool) : Option Int :=
    bd (
    ug N s f N 0) fun q2 =>
    Ex.on q2 (fun o1 =>
    some (-1)) some
def dz (N : Nat) (s : (List Edge)) (f : Edge → Option Bool) : Option Bool :=
    bd (mo N s f) fun y1 =>
    some (decide (0 ≤ y1))
def z06 (N : Nat) : Option Edge :=
    some (⟨(-1), (-1)⟩ : Edge)
def z7w (N : Nat) (m : Mach) (x : Edge) : Option Bool :=
    bd (z06 N) fun y10 =>
    some ((decide (x.to = y10.to ∧ x.out = y10.out)) || ((((decide (0 ≤ x.to)) && (decide (x.to < (↑m.rows.length : Int)))) && (decide (0 ≤ x.out))) && (decide (x.out < m.outputs))))
def z4u (N : Nat) (x : Edge) (p0_ : Mach) : Option Bool :=
    bd (z7w N p0_ x) fun y9 =>
    some (!y9)
def nk (N : Nat) (m : Mach) : Nat → Int → Option (Ex (Unit) (Int))
  | 0, _ => none
  | F76 + 1, x77 =>
    bif decide (x77 < (↑m.rows.length : Int)) then (
    gd (okI m.rows x77) <|
    bd (gop (true && ((decide ((↑(ix m.rows x77).length : Int) ≠ m.inputs)) == false)) (dz N (ix m.rows x77) (fun z0 => z4u N z0 m))) fun y86 =>
    bif (decide ((↑(ix m.rows x77).length : Int) ≠ m.inputs)) || (y86.getD default) then (
    some (Ex.rt 1)) else (
    gd (in64 (x77 + 1)) <|
    nk N m F76 (x77 + 1))) else (
    some (Ex.go ()))
def df (N : Nat) (m : Mach) : Option Int :=
    bif ((decide (16 < m.inputs)) || (decide (16 < m.outputs))) || (decide (64 < (↑m.rows.length : Int))) then (
    some 3) else (
    bif ((decide (m.inputs < 1)) || (decide (m.outputs < 1))) || (decide ((↑m.rows.length : Int) < 1)) then (
    some 1) else (
    bd (
    nk N m N 0) fun q69 =>
    Ex.on q69 (fun o68 =>
    some 0) some))
def z6b (N : Nat) (m : Mach) : Option (Mach × Mach × Mach) :=
    some (m, m, m)
def z4d (N : Nat) (m : Mach) : Option Mach :=
    some m
def pq (N : Nat) (σ : Type) (B : ((Int × Int) × Edge) → σ → Option (Bool × σ)) (p0_ : Mach) (x7 : Int) : Nat → σ → Int → Option (Ex (σ) (σ))
  | 0, _, _ => none
  | F24 + 1, x25, x26 =>
    bif decide (x26 < (↑(ix p0_.rows x7).length : Int)) then (
    gd (okI (ix p0_.rows x7) x26) <|
    bd (B (((x7, x26) : (Int × Int)), (⟨(ix (ix p0_.rows x7) x26).to, (ix (ix p0_.rows x7) x26).out⟩ : Edge)) x25) fun y39 =>
    bif !y39.1 then (
    some (Ex.rt y39.2)) else (
    gd (in64 (x26 + 1)) <|
    pq N σ B p0_ x7 F24 y39.2 (x26 + 1))) else (
    some (Ex.go x25))
def cz (N : Nat) (σ : Type) (B : ((Int × Int) × Edge) → σ → Option (Bool × σ)) (p0_ : Mach) : Nat → σ → Int → Option σ
  | 0, _, _ => none
  | F5 + 1, x6, x7 =>
    bif decide (x7 < (↑p0_.rows.length : Int)) then (
    bd (
    gd (okI p0_.rows x7) <|
    pq N σ B p0_ x7 N x6 0) fun q14 =>
    Ex.on q14 (fun o13 =>
    gd (in64 (x7 + 1)) <|
    cz N σ B p0_ F5 o13 (x7 + 1)) some) else (
    some x6)
def z1h (N : Nat) (p0_ : Mach) (σ : Type) (B : ((Int × Int) × Edge) → σ → Option (Bool × σ)) (s0 : σ) : Option σ :=
    cz N σ B p0_ N s0 0
def z0n (N : Nat) (s : (List (Int × Int))) : Option (List (Int × Int)) :=
    gd (okS s 0 (↑s.length : Int)) <|
    some (cut s 0 (↑s.length : Int))
def z0d (N : Nat) (m : Mach) : Option (List (Int × Int)) :=
    bd (z4d N m) fun y8 =>
    bd (z1h N y8 (List (Int × Int)) (fun y19 x20 =>
    bd (z06 N) fun y43 =>
    bif decide (y19.2.to = y43.to ∧ y19.2.out = y43.out) then (
    gd (fits 16 x20 ([((y19.1.1, y19.1.2) : (Int × Int))] : List (Int × Int))) <|
    some (true, (x20 ++ ([((y19.1.1, y19.1.2) : (Int × Int))] : List (Int × Int))))) else (
    some (true, x20))) ([] : List (Int × Int))) fun o17 =>
    bd (z0n N o17) fun y79 =>
    some y79
def z0r (N : Nat) (m : Mach) : Option (Bool × Int) :=
    bd (df N m) fun y6 =>
    bif decide (y6 ≠ 0) then (
    some (false, y6)) else (
    bd (z0d N m) fun y13 =>
    some ((decide ((↑y13.length : Int) = 0)), 0))
def z0v (N : Nat) (p0_ : Mach) : Option Bool :=
    bd (z0r N p0_) fun y3 =>
    some y3.1
def gy (N : Nat) (self : Int → List Bool → Mach → Option (List Bool)) (s : Int) (p1_ : Mach) : Nat → Int → (List Bool) → Option (List Bool)
  | 0, _, _ => none
  | F35 + 1, x36, x37 =>
    bif decide (x36 < (↑(ix p1_.rows s).length : Int)) then (
    gd (okI (ix p1_.rows s) x36) <|
    bd (self ((ix (ix p1_.rows s) x36).to) x37 p1_) fun y51 =>
    gd (in64 (x36 + 1)) <|
    gy N self s p1_ F35 (x36 + 1) y51) else (
    some x37)
def xu (N : Nat) : Nat → Int → List Bool → Mach → Option (List Bool)
  | 0, _, _, _ => none
  | F + 1, s, p0_, p1_ =>
    gd ((true && ((decide (s = (-1))) == false)) = true → okI p0_ s) <|
    bif (decide (s = (-1))) || (ix p0_ s) then (
    some p0_) else (
    gd (okI p0_ s) <|
    gd (okI p1_.rows s) <|
    gy N (xu N F) s p1_ N 0 (up p0_ s true))
def bi (N : Nat) (s : (List Bool)) (v_ : Bool) : Nat → Int → Option (Ex (Unit) (Int))
  | 0, _ => none
  | F5 + 1, x6 =>
    bif decide (x6 < (↑s.length : Int)) then (
    gd (okI s x6) <|
    bif decide (v_ = (ix s x6)) then (
    some (Ex.rt x6)) else (
    gd (in64 (x6 + 1)) <|
    bi N s v_ F5 (x6 + 1))) else (
    some (Ex.go ()))
def z0q (N : Nat) (s : (List Bool)) (v_ : Bool) : Option Int :=
    bd (
    bi N s v_ N 0) fun q2 =>
    Ex.on q2 (fun o1 =>
    some (-1)) some
def fw (N : Nat) (s : (List Bool)) (v_ : Bool) : Option Bool :=
    bd (z0q N s v_) fun y1 =>
    some (decide (0 ≤ y1))
def rf (N : Nat) (m : Mach) : Option (Bool × Int) :=
    bd (df N m) fun y6 =>
    bif decide (y6 ≠ 0) then (
    some (false, y6)) else (
    gd (okM 1 (↑m.rows.length : Int)) <|
    bd (xu N N 0 (mk (↑m.rows.length : Int) false) m) fun y27 =>
    bd (fw N y27 false) fun y40 =>
    some ((!y40), 0))
def z0x (N : Nat) (p0_ : Mach) : Option Bool :=
    bd (rf N p0_) fun y3 =>
    some y3.1
def z4r (N : Nat) (m : Mach) : Option Mach :=
    some m
def dw (N : Nat) (m : Mach) (p : (List Int)) (s : Int) : Nat → Int → (Arr 16 (Int × Int)) → Option (Arr 16 (Int × Int))
  | 0, _, _ => none
  | F22 + 1, x23, x24 =>
    bif decide (x23 < (↑(ix m.rows s).length : Int)) then (
    bd (
    gd (okI (ix m.rows s) x23) <|
    gd (okI x24.1 x23) <|
    bif decide (((ix (ix m.rows s) x23).to) ≠ (-1)) then (
    gd (okI p ((ix (ix m.rows s) x23).to)) <|
    gd (okI (z1m x24 x23 (((ix (ix m.rows s) x23).out, (-1)) : (Int × Int))).1 x23) <|
    some (z1m (z1m x24 x23 (((ix (ix m.rows s) x23).out, (-1)) : (Int × Int))) x23 (((ix (z1m x24 x23 (((ix (ix m.rows s) x23).out, (-1)) : (Int × Int))).1 x23).1, (ix p ((ix (ix m.rows s) x23).to))) : (Int × Int)))) else (
    some (z1m x24 x23 (((ix (ix m.rows s) x23).out, (-1)) : (Int × Int))))) fun o28 =>
    gd (in64 (x23 + 1)) <|
    dw N m p s F22 (x23 + 1) o28) else (
    some x24)
def z4j (N : Nat) (m : Mach) (p : (List Int)) (s : Int) : Option (Arr 16 (Int × Int)) :=
    bd (
    gd (okI m.rows s) <|
    dw N m p s N 0 (z7k 16 (List.replicate 16 (((0 : Int), (0 : Int)) : (Int × Int))))) fun o10 =>
    some o10
def di (N : Nat) (m : Mach) (p : (List Int)) : Nat → Int → (List (Srefines_key × Int)) → (List Int) → Option (List Int)
  | 0, _, _, _ => none
  | F22 + 1, x23, x24, x25 =>
    bif decide (x23 < (↑p.length : Int)) then (
    gd (okI p x23) <|
    bd (z4j N m p x23) fun y39 =>
    bd (
    bif !(z4e x24 (⟨(ix p x23), y39⟩ : Srefines_key)) then (
    some (zb6 x24 (⟨(ix p x23), y39⟩ : Srefines_key) (↑x24.length : Int))) else (
    some x24)) fun o47 =>
    gd (okI x25 x23) <|
    gd (in64 (x23 + 1)) <|
    di N m p F22 (x23 + 1) o47 (up x25 x23 (z7x (0 : Int) o47 (⟨(ix p x23), y39⟩ : Srefines_key)))) else (
    some x25)
def z1w (N : Nat) (m : Mach) (p : (List Int)) : Option (List Int) :=
    gd (okM 8 (↑p.length : Int)) <|
    bd (
    di N m p N 0 ([] : List (Srefines_key × Int)) (mk (↑p.length : Int) (0 : Int))) fun o16 =>
    some o16
def pu (N : Nat) (s1_ : (List Int)) (s2_ : (List Int)) : Nat → Int → Option (Ex (Unit) (Bool))
  | 0, _ => none
  | F6 + 1, x7 =>
    bif decide (x7 < (↑s1_.length : Int)) then (
    gd (okI s1_ x7) <|
    gd (okI s2_ x7) <|
    bif decide ((ix s1_ x7) ≠ (ix s2_ x7)) then (
    some (Ex.rt false)) else (
    gd (in64 (x7 + 1)) <|
    pu N s1_ s2_ F6 (x7 + 1))) else (
    some (Ex.go ()))
def slices_Equal_int (N : Nat) (s1_ : (List Int)) (s2_ : (List Int)) : Option Bool :=
    bif decide ((↑s1_.length : Int) ≠ (↑s2_.length : Int)) then (
    some false) else (
    bd (
    pu N s1_ s2_ N 0) fun q3 =>
    Ex.on q3 (fun o2 =>
    some true) some)
def tq (N : Nat) (σ : Type) (B : (List Int) → σ → Option (Bool × σ)) (p0_ : Mach) : Nat → σ → (List Int) → Option σ
  | 0, _, _ => none
  | F15 + 1, x16, x17 =>
    bd (B x17 x16) fun y24 =>
    bif y24.1 then (
    bd (z1w N p0_ x17) fun y33 =>
    bd (slices_Equal_int N x17 y33) fun y39 =>
    bif y39 then (
    some y24.2) else (
    tq N σ B p0_ F15 y24.2 y33)) else (
    some y24.2)
def z2w (N : Nat) (p0_ : Mach) (σ : Type) (B : (List Int) → σ → Option (Bool × σ)) (s0 : σ) : Option σ :=
    gd (okM 8 (↑p0_.rows.length : Int)) <|
    tq N σ B p0_ N s0 (mk (↑p0_.rows.length : Int) (0 : Int))
def z1v (N : Nat) (m : Mach) : Option ((List Int) × Int × Int) :=
    bd (df N m) fun y10 =>
    bif decide (y10 ≠ 0) then (
    some (([] : (List Int)), 0, y10)) else (
    bd (z4r N m) fun y17 =>
    bd (z2w N y17 ((List Int) × Int) (fun y27 x28 =>
    gd (in64 (x28.2 + 1)) <|
    some (true, (y27, x28.2 + 1))) (([] : (List Int)), (-1))) fun o25 =>
    some (o25.1, o25.2, 0))
def ni (N : Nat) (x : (List Int)) : Nat → Int → Int → Option Int
  | 0, _, _ => none
  | F10 + 1, x11, x12 =>
    bif decide (x12 < (↑x.length : Int)) then (
    gd (okI x x12) <|
    gd (in64 (x12 + 1)) <|
    ni N x F10 (max x11 (ix x x12)) (x12 + 1)) else (
    some x11)
def slices_Max_int (N : Nat) (x : (List Int)) : Option Int :=
    bif decide ((↑x.length : Int) < 1) then (
    none) else (
    gd (okI x 0) <|
    bd (
    ni N x N (ix x 0) 1) fun o7 =>
    some o7)
def z0t (N : Nat) (p0_ : Mach) : Option Bool :=
    bd (z1v N p0_) fun y3 =>
    bd (slices_Max_int N y3.1) fun y11 =>
    gd (in64 ((↑y3.1.length : Int) - 1)) <|
    some (decide (y11 = ((↑y3.1.length : Int) - 1)))
def z19 (N : Nat) (m : Mach) : Option Int :=
    bd (df N m) fun y6 =>
    bif decide (y6 ≠ 0) then (
    some y6) else (
    bd (z6b N m) fun y13 =>
    bd (z0v N y13.1) fun y28 =>
    bif !y28 then (
    some 9) else (
    bd (z0x N y13.2.1) fun y38 =>
    bif !y38 then (
    some 11) else (
    bd (z0t N y13.2.2) fun y48 =>
    bif !y48 then (
    some 12) else (
    some 0))))
def yn (N : Nat) (s : (List Int)) (f : Int → Option Bool) : Nat → Int → Option (Ex (Unit) (Int))
  | 0, _ => none
  | F5 + 1, x6 =>
    bif decide (x6 < (↑s.length : Int)) then (
    gd (okI s x6) <|
    bd (f (ix s x6)) fun y15 =>
    bif y15 then (
    some (Ex.rt x6)) else (
    gd (in64 (x6 + 1)) <|
    yn N s f F5 (x6 + 1))) else (
    some (Ex.go ()))
def l7 (N : Nat) (s : (List Int)) (f : Int → Option Bool) : Option Int :=
    bd (
    yn N s f N 0) fun q2 =>
    Ex.on q2 (fun o1 =>
    some (-1)) some
def nu (N : Nat) (s : (List Int)) (f : Int → Option Bool) : Option Bool :=
    bd (l7 N s f) fun y1 =>
    some (decide (0 ≤ y1))
def z7s (N : Nat) (c : Int) (p0_ : Int) : Option Bool :=
    some ((decide (c < 0)) || (decide (p0_ ≤ c)))
def z3s (N : Nat) (w_ : (List Int)) (inputs : Int) : Option Int :=
    bif (decide (16 < inputs)) || (decide (256 < (↑w_.length : Int))) then (
    some 3) else (
    bd (gop (true && ((decide (inputs < 1)) == false)) (nu N w_ (fun z0 => z7s N z0 inputs))) fun y22 =>
    bif (decide (inputs < 1)) || (y22.getD default) then (
    some 1) else (
    some 0))
def z3u (N : Nat) (m : Mach) : Option Int :=
    bd (rf N m) fun y6 =>
    bif (decide (y6.2 = 0)) && (!y6.1) then (
    some 11) else (
    some y6.2)
def z7m (N : Nat) (m : Mach) (s : Int) : Option (Mach × Int) :=
    some (m, s)
def om (N : Nat) (σ : Type) (B : Stours_step → σ → Option (Bool × σ)) (p0_ : Mach) (p1_ : Int) : Nat → σ → Int → Option σ
  | 0, _, _ => none
  | F12 + 1, x13, x14 =>
    bif decide (x14 < (↑(ix p0_.rows p1_).length : Int)) then (
    bd (
    gd (okI (ix p0_.rows p1_) x14) <|
    bif decide (((ix (ix p0_.rows p1_) x14).to) ≠ (-1)) then (
    bd (B (⟨x14, (ix (ix p0_.rows p1_) x14).to⟩ : Stours_step) x13) fun y34 =>
    bif !y34.1 then (
    some (Ex.rt y34.2)) else (
    some (Ex.go y34.2))) else (
    some (Ex.go x13))) fun q21 =>
    Ex.on q21 (fun o20 =>
    gd (in64 (x14 + 1)) <|
    om N σ B p0_ p1_ F12 o20 (x14 + 1)) some) else (
    some x13)
def z3i (N : Nat) (p0_ : Mach) (p1_ : Int) (σ : Type) (B : Stours_step → σ → Option (Bool × σ)) (s0 : σ) : Option σ :=
    gd (okI p0_.rows p1_) <|
    om N σ B p0_ p1_ N s0 0
def z0k (N : Nat) (m : Mach) : Nat → (List Bool) → (List Int) → Option (List Bool)
  | 0, _, _ => none
  | F36 + 1, x37, x38 =>
    bif decide (0 < (↑x38.length : Int)) then (
    gd (in64 ((↑x38.length : Int) - 1)) <|
    gd (okI x38 ((↑x38.length : Int) - 1)) <|
    gd (in64 ((↑x38.length : Int) - 1)) <|
    gd (okS x38 0 ((↑x38.length : Int) - 1)) <|
    bd (z7m N m (ix x38 ((↑x38.length : Int) - 1))) fun y61 =>
    bd (z3i N y61.1 y61.2 (List Bool × List Int) (fun y73 x74 =>
    gd (okI x74.1 y73.f_to) <|
    bif !(ix x74.1 y73.f_to) then (
    gd (okI x74.1 y73.f_to) <|
    gd (fits 8 x74.2 ([y73.f_to] : List Int)) <|
    some (true, ((up x74.1 y73.f_to true), (x74.2 ++ ([y73.f_to] : List Int))))) else (
    some (true, (x74.1, x74.2)))) (x37, (cut x38 0 ((↑x38.length : Int) - 1)))) fun o71 =>
    z0k N m F36 o71.1 o71.2) else (
    some x37)
def z5o (N : Nat) (m : Mach) (s : Int) : Option (List Bool) :=
    gd (okM 1 (↑m.rows.length : Int)) <|
    gd (okI (mk (↑m.rows.length : Int) false) s) <|
    bd (
    z0k N m N (up (mk (↑m.rows.length : Int) false) s true) ([s] : List Int)) fun o23 =>
    some o23
def af (N : Nat) (m : Mach) : Nat → Int → (List (List Bool)) → Option (List (List Bool))
  | 0, _, _ => none
  | F22 + 1, x23, x24 =>
    bif decide (x23 < (↑(mk (↑m.rows.length : Int) ([] : List Bool)).length : Int)) then (
    bd (z5o N m x23) fun y31 =>
    gd (okI x24 x23) <|
    gd (in64 (x23 + 1)) <|
    af N m F22 (x23 + 1) (up x24 x23 y31)) else (
    some x24)
def z0a (N : Nat) (o16 : List (List Bool)) (x66 : Int) : Nat → (List Int) → Option (List Int)
  | 0, _ => none
  | F80 + 1, x81 =>
    gd (okI o16 x66) <|
    gd (okI x81 x66) <|
    gd (okI (ix o16 x66) (ix x81 x66)) <|
    gd ((true && ((!(ix (ix o16 x66) (ix x81 x66))) == false)) = true → okI x81 x66) <|
    gd ((true && ((!(ix (ix o16 x66) (ix x81 x66))) == false)) = true → okI o16 (ix x81 x66)) <|
    gd ((true && ((!(ix (ix o16 x66) (ix x81 x66))) == false)) = true → okI (ix o16 (ix x81 x66)) x66) <|
    bif (!(ix (ix o16 x66) (ix x81 x66))) || (!(ix (ix o16 (ix x81 x66)) x66)) then (
    gd (okI x81 x66) <|
    gd (in64 ((ix x81 x66) + 1)) <|
    gd (okI x81 x66) <|
    z0a N o16 x66 F80 (up x81 x66 ((ix x81 x66) + 1))) else (
    some x81)
def ah (N : Nat) (m : Mach) (o16 : List (List Bool)) : Nat → Int → (List Int) → Option (List Int)
  | 0, _, _ => none
  | F65 + 1, x66, x67 =>
    bif decide (x66 < (↑(mk (↑m.rows.length : Int) (0 : Int)).length : Int)) then (
    bd (
    z0a N o16 x66 N x67) fun o74 =>
    gd (in64 (x66 + 1)) <|
    ah N m o16 F65 (x66 + 1) o74) else (
    some x67)
def z5p (N : Nat) (m : Mach) : Option (List Int) :=
    gd (okM 24 (↑m.rows.length : Int)) <|
    bd (
    af N m N 0 (mk (↑m.rows.length : Int) ([] : List Bool))) fun o16 =>
    gd (okM 8 (↑m.rows.length : Int)) <|
    bd (
    ah N m o16 N 0 (mk (↑m.rows.length : Int) (0 : Int))) fun o59 =>
    some o59
def ig (N : Nat) (s : (List Int)) : Option (List Int) :=
    gd (okS s 0 (↑s.length : Int)) <|
    some (cut s 0 (↑s.length : Int))
def z1a (N : Nat) (s : (List (List Int))) : Option (List (List Int)) :=
    gd (okS s 0 (↑s.length : Int)) <|
    some (cut s 0 (↑s.length : Int))
def ai (N : Nat) (y13 : (List Int)) (x29 : Int) : Nat → (List Int) → Int → Option (List Int)
  | 0, _, _ => none
  | F57 + 1, x58, x59 =>
    bif decide (x59 < (↑y13.length : Int)) then (
    bd (
    gd (okI y13 x59) <|
    bif decide ((ix y13 x59) = x29) then (
    gd (fits 8 x58 ([x59] : List Int)) <|
    some (x58 ++ ([x59] : List Int))) else (
    some x58)) fun o67 =>
    gd (in64 (x59 + 1)) <|
    ai N y13 x29 F57 o67 (x59 + 1)) else (
    some x58)
def aj (N : Nat) (y13 : (List Int)) : Nat → (List (List Int)) → Int → Option (List (List Int))
  | 0, _, _ => none
  | F27 + 1, x28, x29 =>
    bif decide (x29 < (↑y13.length : Int)) then (
    bd (
    gd (okI y13 x29) <|
    bif decide ((ix y13 x29) ≠ x29) then (
    some x28) else (
    bd (
    ai N y13 x29 N ([] : List Int) 0) fun o49 =>
    bd (ig N o49) fun y106 =>
    gd (fits 24 x28 ([y106] : List (List Int))) <|
    some (x28 ++ ([y106] : List (List Int))))) fun o37 =>
    gd (in64 (x29 + 1)) <|
    aj N y13 F27 o37 (x29 + 1)) else (
    some x28)
def z5q (N : Nat) (m : Mach) : Option ((List (List Int)) × Int) :=
    bd (z3u N m) fun y6 =>
    bif decide (y6 ≠ 0) then (
    some (([] : (List (List Int))), y6)) else (
    bd (z5p N m) fun y13 =>
    bd (
    aj N y13 N ([] : List (List Int)) 0) fun o19 =>
    bd (z1a N o19) fun y139 =>
    some (y139, 0))
def z2u (N : Nat) (m : Mach) (s : Int) : Option Int :=
    bd (df N m) fun y6 =>
    bif decide (y6 ≠ 0) then (
    some y6) else (
    bif (decide (s < 0)) || (decide ((↑m.rows.length : Int) ≤ s)) then (
    some 1) else (
    some 0))
def ic (N : Nat) (m : Mach) (w_ : (List Int)) : Nat → Int → Int → (List Int) → Option (Int × List Int)
  | 0, _, _, _ => none
  | F18 + 1, x19, x20, x21 =>
    bif decide (x20 < (↑w_.length : Int)) then (
    gd (okI w_ x20) <|
    bd (z06 N) fun y33 =>
    bd (
    bif decide (x19 ≠ (-1)) then (
    gd (okI m.rows x19) <|
    gd (okI (ix m.rows x19) (ix w_ x20)) <|
    some ((ix (ix m.rows x19) (ix w_ x20)).to, (ix (ix m.rows x19) (ix w_ x20)).out)) else (
    some (y33.to, y33.out))) fun o41 =>
    gd (okI x21 x20) <|
    gd (in64 (x20 + 1)) <|
    ic N m w_ F18 o41.1 (x20 + 1) (up x21 x20 o41.2)) else (
    some (x19, x21))
def z4c (N : Nat) (m : Mach) (s : Int) (w_ : (List Int)) : Option ((List Int) × Int) :=
    gd (okM 8 (↑w_.length : Int)) <|
    bd (
    ic N m w_ N s 0 (mk (↑w_.length : Int) (0 : Int))) fun o12 =>
    some (o12.2, o12.1)
def z4a (N : Nat) (m : Mach) (s : Int) (w_ : (List Int)) : Option ((List Int) × Int) :=
    bd (z2u N m s) fun y6 =>
    bif decide (y6 ≠ 0) then (
    some (([] : (List Int)), y6)) else (
    bd (z3s N w_ m.inputs) fun y17 =>
    bif decide (y17 ≠ 0) then (
    some (([] : (List Int)), y17)) else (
    bd (z4c N m s w_) fun y24 =>
    some (y24.1, 0)))
def vo (N : Nat) (s : (List (List Int))) (f : (List Int) → Option Bool) : Nat → Int → Option (Ex (Unit) (Int))
  | 0, _ => none
  | F5 + 1, x6 =>
    bif decide (x6 < (↑s.length : Int)) then (
    gd (okI s x6) <|
    bd (f (ix s x6)) fun y15 =>
    bif y15 then (
    some (Ex.rt x6)) else (
    gd (in64 (x6 + 1)) <|
    vo N s f F5 (x6 + 1))) else (
    some (Ex.go ()))
def z0p (N : Nat) (s : (List (List Int))) (f : (List Int) → Option Bool) : Option Int :=
    bd (
    vo N s f N 0) fun q2 =>
    Ex.on q2 (fun o1 =>
    some (-1)) some
def o9 (N : Nat) (s : (List (List Int))) (f : (List Int) → Option Bool) : Option Bool :=
    bd (z0p N s f) fun y1 =>
    some (decide (0 ≤ y1))
def z6e (N : Nat) (r_ : (List Int)) (p0_ : (List Int)) : Option Bool :=
    bd (slices_Equal_int N r_ p0_) fun y3 =>
    some y3
def fq (N : Nat) (m : Mach) (d : (List Int)) : Nat → (List (List Int)) → Int → Option (Ex (Unit) (Int))
  | 0, _, _ => none
  | F43 + 1, x44, x45 =>
    bif decide (x45 < (↑m.rows.length : Int)) then (
    bd (z4a N m x45 d) fun y53 =>
    bd (o9 N x44 (fun z0 => z6e N z0 y53.1)) fun y66 =>
    bif y66 then (
    some (Ex.rt 12)) else (
    gd (fits 24 x44 ([y53.1] : List (List Int))) <|
    gd (in64 (x45 + 1)) <|
    fq N m d F43 (x44 ++ ([y53.1] : List (List Int))) (x45 + 1))) else (
    some (Ex.go ()))
def z0z (N : Nat) (m : Mach) (d : (List Int)) : Option Int :=
    bd (z19 N m) fun y6 =>
    bif decide (y6 ≠ 0) then (
    some y6) else (
    bd (z3s N d m.inputs) fun y17 =>
    bif decide (y17 ≠ 0) then (
    some y17) else (
    bd (z5q N m) fun y24 =>
    bif decide (y24.2 ≠ 0) then (
    some y24.2) else (
    bif decide (1 < (↑y24.1.length : Int)) then (
    some 7) else (
    bd (
    fq N m d N ([] : List (List Int)) 0) fun q35 =>
    Ex.on q35 (fun o34 =>
    some 0) some))))
def z2t (N : Nat) : Option Mach :=
    some (⟨2, 2, ([([(⟨1, 0⟩ : Edge), (⟨0, 0⟩ : Edge)] : List Edge), ([(⟨0, 1⟩ : Edge), (⟨1, 0⟩ : Edge)] : List Edge)] : List (List Edge))⟩ : Mach)
def z1t (N : Nat) (m : Mach) (x43 : Int) (x46 : List Int) : Nat → Int → (List (List Int)) → (List Bool) → (List Int) → Option (List (List Int) × List Bool × List Int)
  | 0, _, _, _, _ => none
  | F85 + 1, x86, x87, x88, x89 =>
    bif decide (x86 < (↑(ix m.rows (ix x46 x43)).length : Int)) then (
    bd (
    gd (okI (ix m.rows (ix x46 x43)) x86) <|
    gd (okI x88 ((ix (ix m.rows (ix x46 x43)) x86).to)) <|
    bif !(ix x88 ((ix (ix m.rows (ix x46 x43)) x86).to)) then (
    gd (okI x88 ((ix (ix m.rows (ix x46 x43)) x86).to)) <|
    gd (okI x87 (ix x46 x43)) <|
    bd (ig N (ix x87 (ix x46 x43))) fun y133 =>
    gd (fits 8 y133 ([x86] : List Int)) <|
    gd (okI x87 ((ix (ix m.rows (ix x46 x43)) x86).to)) <|
    gd (fits 8 x89 ([(ix (ix m.rows (ix x46 x43)) x86).to] : List Int)) <|
    some ((up x87 ((ix (ix m.rows (ix x46 x43)) x86).to) (y133 ++ ([x86] : List Int))), (up x88 ((ix (ix m.rows (ix x46 x43)) x86).to) true), (x89 ++ ([(ix (ix m.rows (ix x46 x43)) x86).to] : List Int)))) else (
    some (x87, x88, x89))) fun o102 =>
    gd (in64 (x86 + 1)) <|
    z1t N m x43 x46 F85 (x86 + 1) o102.1 o102.2.1 o102.2.2) else (
    some (x87, x88, x89))
def z1q (N : Nat) (m : Mach) : Nat → Int → (List (List Int)) → (List Bool) → (List Int) → Option (List (List Int))
  | 0, _, _, _, _ => none
  | F42 + 1, x43, x44, x45, x46 =>
    bif decide (x43 < (↑x46.length : Int)) then (
    bd (
    gd (okI x46 x43) <|
    gd (okI m.rows (ix x46 x43)) <|
    z1t N m x43 x46 N 0 x44 x45 x46) fun o59 =>
    gd (in64 (x43 + 1)) <|
    z1q N m F42 (x43 + 1) o59.1 o59.2.1 o59.2.2) else (
    some x44)
def z8s (N : Nat) (m : Mach) (s : Int) : Option (List (List Int)) :=
    gd (okM 24 (↑m.rows.length : Int)) <|
    gd (okM 1 (↑m.rows.length : Int)) <|
    gd (okI (mk (↑m.rows.length : Int) false) s) <|
    bd (
    z1q N m N 0 (mk (↑m.rows.length : Int) ([] : List Int)) (up (mk (↑m.rows.length : Int) false) s true) ([s] : List Int)) fun o36 =>
    some o36
def z4f (N : Nat) (s : Int) (x_0_ : Int) (x_1_ : Int) (x_2_ : (List (List Edge))) (x_3_ : (List Int)) (x_4_ : List Int) (x_5_ : (List (List (List Int)))) (x_69_ : Int) (x_70_ : Int) : Option (List (List (List Int))) :=
    bd (z8s N (⟨x_0_, x_1_, x_2_⟩ : Mach) s) fun y1 =>
    gd ((0 : Int) ≤ s ∧ s < (64 : Nat)) <|
    some (up x_5_ s y1)
def lv (N : Nat) (l_ : (List (List Int))) (x_2_ : (List (List Edge))) (x8 : Int) : Nat → Int → Int → Option Int
  | 0, _, _ => none
  | F25 + 1, x26, x27 =>
    bif decide (x26 < (↑(ix l_ x8).length : Int)) then (
    gd (okI (ix l_ x8) x26) <|
    gd (okI x_2_ x27) <|
    gd (okI (ix x_2_ x27) (ix (ix l_ x8) x26)) <|
    gd (in64 (x26 + 1)) <|
    lv N l_ x_2_ x8 F25 (x26 + 1) ((ix (ix x_2_ x27) (ix (ix l_ x8) x26)).to)) else (
    some x27)
def z02 (N : Nat) (l_ : (List (List Int))) (x_2_ : (List (List Edge))) : Nat → Int → Int → (List Int) → Option (Int × List Int)
  | 0, _, _, _ => none
  | F7 + 1, x8, x9, x10 =>
    bif decide (x8 < (↑l_.length : Int)) then (
    gd (okI l_ x8) <|
    bd (
    lv N l_ x_2_ x8 N 0 x9) fun o22 =>
    gd (fits 8 x10 (ix l_ x8)) <|
    gd (in64 (x8 + 1)) <|
    z02 N l_ x_2_ F7 (x8 + 1) o22 (x10 ++ (ix l_ x8))) else (
    some (x9, x10))
def z03 (N : Nat) (x_2_ : (List (List Edge))) (x_3_ : (List Int)) : Nat → Int → Int → Option Int
  | 0, _, _ => none
  | F97 + 1, x98, x99 =>
    bif decide (x98 < (↑x_3_.length : Int)) then (
    gd (okI x_3_ x98) <|
    gd (okI x_2_ x99) <|
    gd (okI (ix x_2_ x99) (ix x_3_ x98)) <|
    gd (in64 (x98 + 1)) <|
    z03 N x_2_ x_3_ F97 (x98 + 1) ((ix (ix x_2_ x99) (ix x_3_ x98)).to)) else (
    some x99)
def z07 (N : Nat) (l_ : (List (List Int))) (x_0_ : Int) (x_1_ : Int) (x_2_ : (List (List Edge))) (x_3_ : (List Int)) (x_4_ : List Int) (x_5_ : (List (List (List Int)))) (x_69_ : Int) (x_70_ : Int) : Option (List Int × Int × Int) :=
    bd (
    z02 N l_ x_2_ N 0 x_69_ x_4_) fun o1 =>
    bd (
    z03 N x_2_ x_3_ N 0 o1.1) fun o94 =>
    gd (fits 8 o1.2 x_3_) <|
    some ((o1.2 ++ x_3_), o94, o1.1)
def z1s (N : Nat) (m : Mach) (d : (List Int)) : Nat → Int → (List Int) → (List (List (List Int))) → Option (List Int × (List (List (List Int))))
  | 0, _, _, _ => none
  | F32 + 1, x33, x34, x35 =>
    bif decide (x33 < (↑m.rows.length : Int)) then (
    bd (z4f N x33 m.inputs m.outputs m.rows d x34 x35 0 0) fun y45 =>
    gd (in64 (x33 + 1)) <|
    z1s N m d F32 (x33 + 1) x34 y45) else (
    some (x34, x35))
def z1r (N : Nat) (m : Mach) (d : (List Int)) (o18 : List Int × (List (List (List Int)))) : Nat → Int → Int → Int → (List Int) → (List Schecks_bridge) → Option (Int × Int × List Int × List Schecks_bridge)
  | 0, _, _, _, _, _ => none
  | F90 + 1, x91, x92, x93, x94, x95 =>
    bif decide (x91 < (↑m.rows.length : Int)) then (
    gd (in64 (x91 + 1)) <|
    gd (okR (x91 + 1) (↑m.rows.length : Int)) <|
    gd ((0 : Int) ≤ x92 ∧ x92 < (64 : Nat)) <|
    gd (okI (ix o18.2 x92) ((x91 + 1) % (↑m.rows.length : Int))) <|
    gd (okI x95 ((x91 + 1) % (↑m.rows.length : Int))) <|
    gd (okI (up x95 ((x91 + 1) % (↑m.rows.length : Int)) (⟨x93, (ix (ix o18.2 x92) ((x91 + 1) % (↑m.rows.length : Int)))⟩ : Schecks_bridge)) ((x91 + 1) % (↑m.rows.length : Int))) <|
    bd (z07 N ([(ix (up x95 ((x91 + 1) % (↑m.rows.length : Int)) (⟨x93, (ix (ix o18.2 x92) ((x91 + 1) % (↑m.rows.length : Int)))⟩ : Schecks_bridge)) ((x91 + 1) % (↑m.rows.length : Int))).f_w] : List (List Int)) m.inputs m.outputs m.rows d x94 o18.2 x92 x93) fun y174 =>
    gd (in64 (x91 + 1)) <|
    z1r N m d o18 F90 (x91 + 1) y174.2.1 y174.2.2 y174.1 (up x95 ((x91 + 1) % (↑m.rows.length : Int)) (⟨x93, (ix (ix o18.2 x92) ((x91 + 1) % (↑m.rows.length : Int)))⟩ : Schecks_bridge))) else (
    some (x92, x93, x94, x95))
def z1z (N : Nat) (m : Mach) (d : (List Int)) (o18 : List Int × (List (List (List Int)))) (o81 : Int × Int × List Int × List Schecks_bridge) (x199 : Int) : Nat → Int → Int → Int → (List Int) → Option (Ex (Int × Int × List Int) (Ex (Int × Int × List Int) ((List Int) × Int)))
  | 0, _, _, _, _ => none
  | F220 + 1, x221, x222, x223, x224 =>
    bif decide (x221 < m.inputs) then (
    bd (
    gd (okI o81.2.2.2 x199) <|
    bif decide (x223 ≠ ((ix o81.2.2.2 x199).f_from)) then (
    gd ((0 : Int) ≤ x222 ∧ x222 < (64 : Nat)) <|
    gd (okI o81.2.2.2 x199) <|
    gd (okI (ix o18.2 x222) ((ix o81.2.2.2 x199).f_from)) <|
    bd (z07 N ([(ix (ix o18.2 x222) ((ix o81.2.2.2 x199).f_from))] : List (List Int)) m.inputs m.outputs m.rows d x224 o18.2 x222 x223) fun y302 =>
    some (y302.2.1, y302.2.2, y302.1)) else (
    some (x222, x223, x224))) fun o231 =>
    gd (okI o81.2.2.2 x199) <|
    bd (z07 N ([(ix o81.2.2.2 x199).f_w, ([x221] : List Int)] : List (List Int)) m.inputs m.outputs m.rows d o231.2.2 o18.2 o231.1 o231.2.1) fun y344 =>
    bif decide (1024 < (↑y344.1.length : Int)) then (
    some (Ex.rt (Ex.rt (([] : (List Int)), 3)))) else (
    gd (in64 (x221 + 1)) <|
    z1z N m d o18 o81 x199 F220 (x221 + 1) y344.2.1 y344.2.2 y344.1)) else (
    some (Ex.go (x222, x223, x224)))
def z1x (N : Nat) (m : Mach) (d : (List Int)) (o18 : List Int × (List (List (List Int)))) (o81 : Int × Int × List Int × List Schecks_bridge) : Nat → Int → Int → Int → (List Int) → Option (Ex (Int × Int × List Int) ((List Int) × Int))
  | 0, _, _, _, _ => none
  | F198 + 1, x199, x200, x201, x202 =>
    bif decide (x199 < (↑m.rows.length : Int)) then (
    bd (
    z1z N m d o18 o81 x199 N 0 x200 x201 x202) fun q210 =>
    Ex.on q210 (fun o209 =>
    gd (in64 (x199 + 1)) <|
    z1x N m d o18 o81 F198 (x199 + 1) o209.1 o209.2.1 o209.2.2) some) else (
    some (Ex.go (x200, x201, x202)))
def z3b (N : Nat) (m : Mach) (d : (List Int)) : Option ((List Int) × Int) :=
    bd (z0z N m d) fun y6 =>
    bif decide (y6 ≠ 0) then (
    some (([] : (List Int)), y6)) else (
    bd (
    z1s N m d N 0 ([] : List Int) ((List.replicate 64 []) : List (List (List Int)))) fun o18 =>
    bd (z07 N ([] : (List (List Int))) m.inputs m.outputs m.rows d o18.1 o18.2 0 0) fun y61 =>
    gd (okM 32 (↑m.rows.length : Int)) <|
    bd (
    z1r N m d o18 N 0 y61.2.1 y61.2.2 y61.1 (mk (↑m.rows.length : Int) (⟨(0 : Int), ([] : List Int)⟩ : Schecks_bridge))) fun o81 =>
    bd (
    z1x N m d o18 o81 N 0 o81.1 o81.2.1 o81.2.2.1) fun q192 =>
    Ex.on q192 (fun o191 =>
    bd (ig N o191.2.2) fun y373 =>
    some (y373, 0)) some)
def z7r (N : Nat) (i : Int) (p0_ : Mach) : Option Bool :=
    some ((decide (i < 0)) || (decide (p0_.inputs ≤ i)))
def z3v (N : Nat) (m : Mach) (w_ : (List Int)) : Option Int :=
    bif decide (1024 < (↑w_.length : Int)) then (
    some 3) else (
    bd (nu N w_ (fun z0 => z7r N z0 m)) fun y7 =>
    bif y7 then (
    some 1) else (
    some 0))
def oz (N : Nat) (i : Int) (j : Int) (t_3_ : (List Int)) (t_5_ : List Bool) : Nat → Int → (List Bool) → Option (List Bool)
  | 0, _, _ => none
  | F1 + 1, x2, x3 =>
    gd (in64 ((max i j) + x2)) <|
    gd ((true && ((decide (((max i j) + x2) < (↑t_3_.length : Int))) == true)) = true → in64 (i + x2)) <|
    gd ((true && ((decide (((max i j) + x2) < (↑t_3_.length : Int))) == true)) = true → okI t_3_ (i + x2)) <|
    gd ((true && ((decide (((max i j) + x2) < (↑t_3_.length : Int))) == true)) = true → in64 (j + x2)) <|
    gd ((true && ((decide (((max i j) + x2) < (↑t_3_.length : Int))) == true)) = true → okI t_3_ (j + x2)) <|
    bif (decide (((max i j) + x2) < (↑t_3_.length : Int))) && (decide ((ix t_3_ (i + x2)) = (ix t_3_ (j + x2)))) then (
    bd (
    gd (in64 (i + x2)) <|
    gd (in64 ((i + x2) + 1)) <|
    gd (okI t_5_ ((i + x2) + 1)) <|
    bif (ix t_5_ ((i + x2) + 1)) then (
    gd (in64 (j + x2)) <|
    gd (in64 ((j + x2) + 1)) <|
    gd (okI x3 ((j + x2) + 1)) <|
    some (up x3 ((j + x2) + 1) true)) else (
    some x3)) fun o80 =>
    gd (in64 (x2 + 1)) <|
    oz N i j t_3_ t_5_ F1 (x2 + 1) o80) else (
    some x3)
def z2r (N : Nat) (i : Int) (j : Int) (t_0_ : Int) (t_1_ : Int) (t_2_ : (List (List Edge))) (t_3_ : (List Int)) (t_4_ : List Int) (t_5_ : List Bool) (t_6_ : List Bool) : Option (List Bool) :=
    oz N i j t_3_ t_5_ N 0 t_6_
def z15 (N : Nat) (m : Mach) (w_ : (List Int)) : Nat → Int → (List Int) → Option (List Int)
  | 0, _, _ => none
  | F85 + 1, x86, x87 =>
    bif decide (x86 < (↑w_.length : Int)) then (
    gd (okI w_ x86) <|
    gd (okI x87 x86) <|
    gd (okI m.rows (ix x87 x86)) <|
    gd (okI (ix m.rows (ix x87 x86)) (ix w_ x86)) <|
    gd (fits 8 x87 ([(ix (ix m.rows (ix x87 x86)) (ix w_ x86)).to] : List Int)) <|
    gd (in64 (x86 + 1)) <|
    z15 N m w_ F85 (x86 + 1) (x87 ++ ([(ix (ix m.rows (ix x87 x86)) (ix w_ x86)).to] : List Int))) else (
    some x87)
def z1k (N : Nat) (d : (List Int)) (w_ : (List Int)) (o79 : List Int) : Nat → Int → (List Bool) → (List Bool) → Option (List Bool × List Bool)
  | 0, _, _, _ => none
  | F173 + 1, x174, x175, x176 =>
    bif decide (x174 < (↑o79.length : Int)) then (
    gd (in64 (x174 + (↑d.length : Int))) <|
    gd ((true && ((decide ((x174 + (↑d.length : Int)) ≤ (↑w_.length : Int))) == true)) = true → in64 (x174 + (↑d.length : Int))) <|
    gd ((true && ((decide ((x174 + (↑d.length : Int)) ≤ (↑w_.length : Int))) == true)) = true → okS w_ x174 (x174 + (↑d.length : Int))) <|
    bd (gop (true && ((decide ((x174 + (↑d.length : Int)) ≤ (↑w_.length : Int))) == true)) (slices_Equal_int N (cut w_ x174 (x174 + (↑d.length : Int))) d)) fun y189 =>
    gd (okI x175 x174) <|
    gd (okI (up x175 x174 ((decide ((x174 + (↑d.length : Int)) ≤ (↑w_.length : Int))) && (y189.getD default))) x174) <|
    gd (okI x176 x174) <|
    gd (in64 (x174 + 1)) <|
    z1k N d w_ o79 F173 (x174 + 1) (up x175 x174 ((decide ((x174 + (↑d.length : Int)) ≤ (↑w_.length : Int))) && (y189.getD default))) (up x176 x174 (ix (up x175 x174 ((decide ((x174 + (↑d.length : Int)) ≤ (↑w_.length : Int))) && (y189.getD default))) x174))) else (
    some (x175, x176))
def z1f (N : Nat) (m : Mach) (w_ : (List Int)) (o79 : List Int) (o164 : List Bool × List Bool) (x290 : Int) : Nat → Int → (List Bool) → Option (List Bool)
  | 0, _, _ => none
  | F304 + 1, x305, x306 =>
    bif decide (x305 < (↑o79.length : Int)) then (
    bd (
    gd ((true && ((decide (x305 ≠ x290)) == true)) = true → okI o164.1 x305) <|
    gd ((true && (((decide (x305 ≠ x290)) && (ix o164.1 x305)) == true)) = true → okI o164.1 x290) <|
    gd ((true && ((((decide (x305 ≠ x290)) && (ix o164.1 x305)) && (ix o164.1 x290)) == true)) = true → okI o79 x305) <|
    gd ((true && ((((decide (x305 ≠ x290)) && (ix o164.1 x305)) && (ix o164.1 x290)) == true)) = true → okI o79 x290) <|
    bif (((decide (x305 ≠ x290)) && (ix o164.1 x305)) && (ix o164.1 x290)) && (decide ((ix o79 x305) = (ix o79 x290))) then (
    bd (z2r N x305 x290 m.inputs m.outputs m.rows w_ o79 o164.1 x306) fun y402 =>
    some y402) else (
    some x306)) fun o313 =>
    gd (in64 (x305 + 1)) <|
    z1f N m w_ o79 o164 x290 F304 (x305 + 1) o313) else (
    some x306)
def z1b (N : Nat) (m : Mach) (w_ : (List Int)) (o79 : List Int) (o164 : List Bool × List Bool) : Nat → Int → (List Bool) → Option (List Bool)
  | 0, _, _ => none
  | F289 + 1, x290, x291 =>
    bif decide (x290 < (↑o79.length : Int)) then (
    bd (
    z1f N m w_ o79 o164 x290 N 0 x291) fun o298 =>
    gd (in64 (x290 + 1)) <|
    z1b N m w_ o79 o164 F289 (x290 + 1) o298) else (
    some x291)
def z0y (N : Nat) (m : Mach) (d : (List Int)) (w_ : (List Int)) : Option ((Option Schecks_track) × Int) :=
    bd (z0z N m d) fun y6 =>
    bif decide (y6 ≠ 0) then (
    some ((none : (Option Schecks_track)), y6)) else (
    bd (z3v N m w_) fun y13 =>
    bif decide (y13 ≠ 0) then (
    some ((none : (Option Schecks_track)), y13)) else (
    gd (in64 ((↑w_.length : Int) + 1)) <|
    gd (okM 8 ((↑w_.length : Int) + 1) ∧ 0 ≤ (1 : Int) ∧ (1 : Int) ≤ (↑w_.length : Int) + 1) <|
    gd (in64 ((↑w_.length : Int) + 1)) <|
    gd (okM 1 ((↑w_.length : Int) + 1)) <|
    gd (in64 ((↑w_.length : Int) + 1)) <|
    gd (okM 1 ((↑w_.length : Int) + 1)) <|
    bd (
    z15 N m w_ N 0 (mk 1 (0 : Int))) fun o79 =>
    bd (
    z1k N d w_ o79 N 0 (mk ((↑w_.length : Int) + 1) false) (mk ((↑w_.length : Int) + 1) false)) fun o164 =>
    bd (
    z1b N m w_ o79 o164 N 0 o164.2) fun o283 =>
    some ((some (⟨(⟨m.inputs, m.outputs, m.rows⟩ : Mach), w_, o79, o164.1, o283⟩ : Schecks_track)), 0)))
def z4k (N : Nat) (s : List Int) : Option (List Int) :=
    gd (okS s 0 (↑s.length : Int)) <|
    some (cut s 0 (↑s.length : Int))
def z3p (N : Nat) (s : (List Int)) : Option (List Int) :=
    gd (fits 8 ([] : List Int) s) <|
    some (([] : List Int) ++ s)
def su (N : Nat) (marks : (List Bool)) : Nat → Int → (List Int) → Option (List Int)
  | 0, _, _ => none
  | F34 + 1, x35, x36 =>
    bif decide (x35 < (↑marks.length : Int)) then (
    bd (
    gd (okI marks x35) <|
    bif !(ix marks x35) then (
    gd (okI x36 x35) <|
    some (up x36 x35 (-1))) else (
    some x36)) fun o43 =>
    gd (in64 (x35 + 1)) <|
    su N marks F34 (x35 + 1) o43) else (
    some x36)
def z1p (N : Nat) (t : Schecks_track) (marks : (List Bool)) : Option (List Int) :=
    bd (z3p N t.f_at) fun y5 =>
    bd (z4k N y5) fun y16 =>
    bd (
    su N marks N 0 y16) fun o28 =>
    some o28
def lm (N : Nat) (m : Mach) (d : (List Int)) (w_ : (List Int)) : Option ((List Int) × Int) :=
    bd (z0y N m d w_) fun y6 =>
    bif decide (y6.2 ≠ 0) then (
    some (([] : (List Int)), y6.2)) else (
    gd (y6.1.isSome = true) <|
    bd (z1p N (y6.1.getD default) ((y6.1.getD default).f_id)) fun y21 =>
    some (y21, 0))
def z2x (N : Nat) (m : Mach) (d : (List Int)) (w_ : (List Int)) : Option ((List Int) × Int) :=
    bd (z0y N m d w_) fun y6 =>
    bif decide (y6.2 ≠ 0) then (
    some (([] : (List Int)), y6.2)) else (
    gd (y6.1.isSome = true) <|
    bd (z1p N (y6.1.getD default) ((y6.1.getD default).f_known)) fun y21 =>
    some (y21, 0))
def z1i (N : Nat) (w_ : (List Int)) (y8 : (Option Schecks_track) × Int) : Nat → Int → (List Bool) → (List ((Int × Int) × Bool)) → Option (Schecks_track × List Bool × List ((Int × Int) × Bool))
  | 0, _, _, _ => none
  | F47 + 1, x48, x49, x50 =>
    bif decide (x48 < (↑((y8.1.getD default).f_at).length : Int)) then (
    bd (
    gd (okI ((y8.1.getD default).f_at) x48) <|
    gd (okI x49 (ix ((y8.1.getD default).f_at) x48)) <|
    gd ((true && ((ix x49 (ix ((y8.1.getD default).f_at) x48)) == false)) = true → okI ((y8.1.getD default).f_id) x48) <|
    gd (okI x49 (ix ((y8.1.getD default).f_at) x48)) <|
    gd ((true && ((decide (x48 < (↑w_.length : Int))) == true)) = true → okI ((y8.1.getD default).f_known) x48) <|
    gd ((true && (((decide (x48 < (↑w_.length : Int))) && (ix ((y8.1.getD default).f_known) x48)) == true)) = true → in64 (x48 + 1)) <|
    gd ((true && (((decide (x48 < (↑w_.length : Int))) && (ix ((y8.1.getD default).f_known) x48)) == true)) = true → okI ((y8.1.getD default).f_known) (x48 + 1)) <|
    bif ((decide (x48 < (↑w_.length : Int))) && (ix ((y8.1.getD default).f_known) x48)) && (ix ((y8.1.getD default).f_known) (x48 + 1)) then (
    gd (okI w_ x48) <|
    some ((up x49 (ix ((y8.1.getD default).f_at) x48) ((ix x49 (ix ((y8.1.getD default).f_at) x48)) || (ix ((y8.1.getD default).f_id) x48))), (zb6 x50 (((ix ((y8.1.getD default).f_at) x48), (ix w_ x48)) : (Int × Int)) true))) else (
    some ((up x49 (ix ((y8.1.getD default).f_at) x48) ((ix x49 (ix ((y8.1.getD default).f_at) x48)) || (ix ((y8.1.getD default).f_id) x48))), x50))) fun o59 =>
    gd (in64 (x48 + 1)) <|
    z1i N w_ y8 F47 (x48 + 1) o59.1 o59.2) else (
    some ((y8.1.getD default), x49, x50))
def z18 (N : Nat) (m : Mach) (o31 : Schecks_track × List Bool × List ((Int × Int) × Bool)) (x209 : Int) (o232 : List Int) : Nat → Int → (List (Int × Int)) → Option (List Int × List (Int × Int))
  | 0, _, _ => none
  | F264 + 1, x265, x266 =>
    bif decide (x265 < m.inputs) then (
    bd (
    bif !(z7x false o31.2.2 ((x209, x265) : (Int × Int))) then (
    gd (fits 16 x266 ([((x209, x265) : (Int × Int))] : List (Int × Int))) <|
    some (x266 ++ ([((x209, x265) : (Int × Int))] : List (Int × Int)))) else (
    some x266)) fun o273 =>
    gd (in64 (x265 + 1)) <|
    z18 N m o31 x209 o232 F264 (x265 + 1) o273) else (
    some (o232, x266))
def z1j (N : Nat) (m : Mach) (o31 : Schecks_track × List Bool × List ((Int × Int) × Bool)) : Nat → Int → (List Int) → (List (Int × Int)) → Option (List Int × List (Int × Int))
  | 0, _, _, _ => none
  | F208 + 1, x209, x210, x211 =>
    bif decide (x209 < (↑m.rows.length : Int)) then (
    bd (
    bd (
    gd (okI o31.2.1 x209) <|
    bif !(ix o31.2.1 x209) then (
    gd (fits 8 x210 ([x209] : List Int)) <|
    some (x210 ++ ([x209] : List Int))) else (
    some x210)) fun o232 =>
    z18 N m o31 x209 o232 N 0 x211) fun o223 =>
    gd (in64 (x209 + 1)) <|
    z1j N m o31 F208 (x209 + 1) o223.1 o223.2) else (
    some (x210, x211))
def z2g (N : Nat) (m : Mach) (d : (List Int)) (w_ : (List Int)) : Option (Schecks_Report × Int) :=
    bd (z0y N m d w_) fun y8 =>
    bif decide (y8.2 ≠ 0) then (
    some ((⟨false, [], []⟩ : Schecks_Report), y8.2)) else (
    gd (okM 1 (↑m.rows.length : Int)) <|
    bd (
    gd (y8.1.isSome = true) <|
    z1i N w_ y8 N 0 (mk (↑m.rows.length : Int) false) ([] : List ((Int × Int) × Bool))) fun o31 =>
    gd (okI o31.1.f_known 0) <|
    bd (
    z1j N m o31 N 0 ([] : List Int) ([] : List (Int × Int))) fun o191 =>
    bd (ig N o191.1) fun y318 =>
    bd (z0n N o191.2) fun y320 =>
    some ((⟨(ix o31.1.f_known 0), y318, y320⟩ : Schecks_Report), 0))
def p9 (N : Nat) (m : Mach) (w_ : (List Int)) : Nat → Int → Int → (List Int) → Option (List Int)
  | 0, _, _, _ => none
  | F33 + 1, x34, x35, x36 =>
    bif decide (x35 < (↑w_.length : Int)) then (
    gd (okI w_ x35) <|
    bd (
    bif decide (x34 ≠ (-1)) then (
    gd (okI m.rows x34) <|
    gd (okI (ix m.rows x34) (ix w_ x35)) <|
    some ((ix (ix m.rows x34) (ix w_ x35)).to, (ix (ix m.rows x34) (ix w_ x35)).out)) else (
    some ((-1), (-1)))) fun o51 =>
    gd (x36.length + ([o51.2] : List Int).length ≤ (↑w_.length : Int).toNat) <|
    gd (in64 (x35 + 1)) <|
    p9 N m w_ F33 o51.1 (x35 + 1) (x36 ++ ([o51.2] : List Int))) else (
    some x36)
def bf (N : Nat) (m : Mach) (w_ : (List Int)) : Option ((List Int) × Int) :=
    bd (df N m) fun y6 =>
    bif decide (y6 ≠ 0) then (
    some (([] : (List Int)), y6)) else (
    bd (z3v N m w_) fun y13 =>
    bif decide (y13 ≠ 0) then (
    some (([] : (List Int)), y13)) else (
    gd (okM 8 (↑w_.length : Int) ∧ 0 ≤ (0 : Int) ∧ (0 : Int) ≤ (↑w_.length : Int)) <|
    bd (
    p9 N m w_ N 0 0 (mk 0 (0 : Int))) fun o26 =>
    gd (o26.length = (↑w_.length : Int).toNat) <|
    some (o26, 0)))
def iw (N : Nat) (a : Schecks_Report) (b : Schecks_Report) : Nat → Int → Option (Ex (Unit) (Bool))
  | 0, _ => none
  | F64 + 1, x65 =>
    bif decide (x65 < (↑a.f_Edges.length : Int)) then (
    gd (okI a.f_Edges x65) <|
    gd (okI b.f_Edges x65) <|
    bif decide (¬ (((ix a.f_Edges x65).1) = ((ix b.f_Edges x65).1) ∧ ((ix a.f_Edges x65).2) = ((ix b.f_Edges x65).2))) then (
    some (Ex.rt false)) else (
    gd (in64 (x65 + 1)) <|
    iw N a b F64 (x65 + 1))) else (
    some (Ex.go ()))
def z0g (N : Nat) (a : Schecks_Report) (b : Schecks_Report) : Option Bool :=
    bd (gop (true && ((decide (a.f_Begins ≠ b.f_Begins)) == false)) (yw N a.f_States b.f_States)) fun y11 =>
    bif ((decide (a.f_Begins ≠ b.f_Begins)) || (!(y11.getD default))) || (decide ((↑a.f_Edges.length : Int) ≠ (↑b.f_Edges.length : Int))) then (
    some false) else (
    bd (
    iw N a b N 0) fun q61 =>
    Ex.on q61 (fun o60 =>
    some true) some)
def mq (N : Nat) : Option Bool :=
    bd (z2t N) fun y1 =>
    bd (z3b N (⟨y1.inputs, y1.outputs, y1.rows⟩ : Mach) ([0] : List Int)) fun y20 =>
    bd (lm N (⟨y1.inputs, y1.outputs, y1.rows⟩ : Mach) ([0] : List Int) ([0, 1, 0, 0, 0] : List Int)) fun y37 =>
    bd (z2x N (⟨y1.inputs, y1.outputs, y1.rows⟩ : Mach) ([0] : List Int) ([0, 1, 0, 0, 0] : List Int)) fun y45 =>
    bd (z2g N (⟨y1.inputs, y1.outputs, y1.rows⟩ : Mach) ([0] : List Int) ([0, 1, 0, 0, 0] : List Int)) fun y53 =>
    bd (bf N (⟨y1.inputs, y1.outputs, y1.rows⟩ : Mach) ([0, 0, 1, 0] : List Int)) fun y76 =>
    bd (gop (true && ((((((decide (y20.2 = 0)) && (decide (y37.2 = 0))) && (decide (y45.2 = 0))) && (decide (y53.2 = 0))) && (decide (y76.2 = 0))) == true)) (yw N y20.1 ([0, 0, 0, 0, 0, 0, 1, 0, 0, 0, 1, 0] : List Int))) fun y84 =>
    bd (gop (true && (((((((decide (y20.2 = 0)) && (decide (y37.2 = 0))) && (decide (y45.2 = 0))) && (decide (y53.2 = 0))) && (decide (y76.2 = 0))) && (y84.getD default)) == true)) (yw N y37.1 ([0, (-1), 1, 0, 1, (-1)] : List Int))) fun y86 =>
    bd (gop (true && ((((((((decide (y20.2 = 0)) && (decide (y37.2 = 0))) && (decide (y45.2 = 0))) && (decide (y53.2 = 0))) && (decide (y76.2 = 0))) && (y84.getD default)) && (y86.getD default)) == true)) (yw N y45.1 ([0, 1, 1, 0, 1, 0] : List Int))) fun y88 =>
    bd (gop (true && (((((((((decide (y20.2 = 0)) && (decide (y37.2 = 0))) && (decide (y45.2 = 0))) && (decide (y53.2 = 0))) && (decide (y76.2 = 0))) && (y84.getD default)) && (y86.getD default)) && (y88.getD default)) == true)) (z0g N (⟨y53.1.f_Begins, y53.1.f_States, y53.1.f_Edges⟩ : Schecks_Report) (⟨true, [], ([((0, 1) : (Int × Int))] : List (Int × Int))⟩ : Schecks_Report))) fun y90 =>
    bd (gop (true && ((((((((((decide (y20.2 = 0)) && (decide (y37.2 = 0))) && (decide (y45.2 = 0))) && (decide (y53.2 = 0))) && (decide (y76.2 = 0))) && (y84.getD default)) && (y86.getD default)) && (y88.getD default)) && (y90.getD default)) == true)) (yw N y76.1 ([0, 1, 0, 0] : List Int))) fun y92 =>
    bd (gop (true && (((((((((((decide (y20.2 = 0)) && (decide (y37.2 = 0))) && (decide (y45.2 = 0))) && (decide (y53.2 = 0))) && (decide (y76.2 = 0))) && (y84.getD default)) && (y86.getD default)) && (y88.getD default)) && (y90.getD default)) && (y92.getD default)) == true)) (z0z N (⟨y1.inputs, y1.outputs, y1.rows⟩ : Mach) ([1] : List Int))) fun y94 =>
    bd (gop (true && ((((((((((((decide (y20.2 = 0)) && (decide (y37.2 = 0))) && (decide (y45.2 = 0))) && (decide (y53.2 = 0))) && (decide (y76.2 = 0))) && (y84.getD default)) && (y86.getD default)) && (y88.getD default)) && (y90.getD default)) && (y92.getD default)) && (decide ((y94.getD default) = 12))) == true)) (z0z N (⟨y1.inputs, y1.outputs, y1.rows⟩ : Mach) ([] : (List Int)))) fun y96 =>
    some ((((((((((((decide (y20.2 = 0)) && (decide (y37.2 = 0))) && (decide (y45.2 = 0))) && (decide (y53.2 = 0))) && (decide (y76.2 = 0))) && (y84.getD default)) && (y86.getD default)) && (y88.getD default)) && (y90.getD default)) && (y92.getD default)) && (decide ((y94.getD default) = 12))) && (decide ((y96.getD default) = 12)))
def um (N : Nat) (m : Mach) : Nat → Int → Option (Ex (Unit) (Bool))
  | 0, _ => none
  | F31 + 1, x32 =>
    bif decide (x32 < (↑m.rows.length : Int)) then (
    gd (okI m.rows x32) <|
    bif decide (20 < (↑(ix m.rows x32).length : Int)) then (
    some (Ex.rt true)) else (
    gd (in64 (x32 + 1)) <|
    um N m F31 (x32 + 1))) else (
    some (Ex.go ()))
def eu (N : Nat) (m : Mach) (d : (List Int)) : Option Bool :=
    bif (decide (8 < (↑m.rows.length : Int))) || (decide (300 < (↑d.length : Int))) then (
    some true) else (
    bd (
    um N m N 0) fun q28 =>
    Ex.on q28 (fun o27 =>
    bd (z0w N m d) fun y57 =>
    bd (z0z N m d) fun y63 =>
    bif decide (y63 ≠ y57) then (
    some false) else (
    bif decide (y57 = 0) then (
    bd (mq N) fun y71 =>
    some y71) else (
    bd (lm N m d ([] : (List Int))) fun y77 =>
    bd (z2x N m d ([] : (List Int))) fun y85 =>
    bd (z2g N m d ([] : (List Int))) fun y93 =>
    bd (z3b N m d) fun y107 =>
    gd ((true && (((((decide (y77.2 = y57)) && (decide (y85.2 = y57))) && (decide (y93.2 = y57))) && (decide (y107.2 = y57))) == true)) = true → in64 ((↑y77.1.length : Int) + (↑y85.1.length : Int))) <|
    gd ((true && (((((decide (y77.2 = y57)) && (decide (y85.2 = y57))) && (decide (y93.2 = y57))) && (decide (y107.2 = y57))) == true)) = true → in64 (((↑y77.1.length : Int) + (↑y85.1.length : Int)) + (↑y107.1.length : Int))) <|
    bd (gop (true && ((((((decide (y77.2 = y57)) && (decide (y85.2 = y57))) && (decide (y93.2 = y57))) && (decide (y107.2 = y57))) && (decide ((((↑y77.1.length : Int) + (↑y85.1.length : Int)) + (↑y107.1.length : Int)) = 0))) == true)) (z0g N (⟨y93.1.f_Begins, y93.1.f_States, y93.1.f_Edges⟩ : Schecks_Report) (⟨false, ([] : (List Int)), ([] : (List (Int × Int)))⟩ : Schecks_Report))) fun y117 =>
    bd (gop (true && (((((((decide (y77.2 = y57)) && (decide (y85.2 = y57))) && (decide (y93.2 = y57))) && (decide (y107.2 = y57))) && (decide ((((↑y77.1.length : Int) + (↑y85.1.length : Int)) + (↑y107.1.length : Int)) = 0))) && (y117.getD default)) == true)) (mq N)) fun y119 =>
    some (((((((decide (y77.2 = y57)) && (decide (y85.2 = y57))) && (decide (y93.2 = y57))) && (decide (y107.2 = y57))) && (decide ((((↑y77.1.length : Int) + (↑y85.1.length : Int)) + (↑y107.1.length : Int)) = 0))) && (y117.getD default)) && (y119.getD default))))) some)
def oo (N : Nat) (l_ : (List Int)) (k : Int) : Option Int :=
    bif decide (k < (↑l_.length : Int)) then (
    gd (okI l_ k) <|
    gd (in64 (ix l_ k)) <|
    some (ix l_ k)) else (
    some 0)
def gu (N : Nat) (x : Sgauntletlaw06_C) (x41 : Int) : Nat → (List Edge) → Int → Option (List Edge)
  | 0, _, _ => none
  | F59 + 1, x60, x61 =>
    bif decide (x61 < ((1 : Int) + (x.f_Inputs % 3))) then (
    gd (in64 (x41 * ((1 : Int) + (x.f_Inputs % 3)))) <|
    gd (in64 ((x41 * ((1 : Int) + (x.f_Inputs % 3))) + x61)) <|
    bd (oo N x.f_Edges ((x41 * ((1 : Int) + (x.f_Inputs % 3))) + x61)) fun y75 =>
    gd (okQ y75 ((1 : Int) + (x.f_States % 6))) <|
    gd (okR (y75 / ((1 : Int) + (x.f_States % 6))) ((1 : Int) + (x.f_Outputs % 3))) <|
    gd (fits 16 x60 ([(⟨(-1), (y75 / ((1 : Int) + (x.f_States % 6))) % ((1 : Int) + (x.f_Outputs % 3))⟩ : Edge)] : List Edge)) <|
    gd (in64 (x61 + 1)) <|
    gu N x x41 F59 (x60 ++ ([(⟨(-1), (y75 / ((1 : Int) + (x.f_States % 6))) % ((1 : Int) + (x.f_Outputs % 3))⟩ : Edge)] : List Edge)) (x61 + 1)) else (
    some x60)
def yu (N : Nat) (x : Sgauntletlaw06_C) : Nat → Int → (List (List Edge)) → Option (List (List Edge))
  | 0, _, _ => none
  | F40 + 1, x41, x42 =>
    bif decide (x41 < ((1 : Int) + (x.f_States % 6))) then (
    bd (
    gu N x x41 N ([] : List Edge) 0) fun o51 =>
    gd (fits 24 x42 [o51]) <|
    gd (in64 (x41 + 1)) <|
    yu N x F40 (x41 + 1) (x42 ++ [o51])) else (
    some x42)
def w9 (N : Nat) (x : Sgauntletlaw06_C) (x140 : Int) (x141 : List (List Edge)) : Nat → (List Int) → Int → Option (List Int)
  | 0, _, _ => none
  | F156 + 1, x157, x158 =>
    gd (in64 (x140 * ((1 : Int) + (x.f_Inputs % 3)))) <|
    bif decide (x158 < (x140 * ((1 : Int) + (x.f_Inputs % 3)))) then (
    bd (
    gd (okQ x158 ((1 : Int) + (x.f_Inputs % 3))) <|
    gd (okI x141 (x158 / ((1 : Int) + (x.f_Inputs % 3)))) <|
    gd (okR x158 ((1 : Int) + (x.f_Inputs % 3))) <|
    gd (okI (ix x141 (x158 / ((1 : Int) + (x.f_Inputs % 3)))) (x158 % ((1 : Int) + (x.f_Inputs % 3)))) <|
    bif decide (((ix (ix x141 (x158 / ((1 : Int) + (x.f_Inputs % 3)))) (x158 % ((1 : Int) + (x.f_Inputs % 3)))).to) < 0) then (
    gd (fits 8 x157 ([x158] : List Int)) <|
    some (x157 ++ ([x158] : List Int))) else (
    some x157)) fun o167 =>
    gd (in64 (x158 + 1)) <|
    w9 N x x140 x141 F156 o167 (x158 + 1)) else (
    some x157)
def gp (N : Nat) (x : Sgauntletlaw06_C) : Nat → Int → (List (List Edge)) → Option (List (List Edge))
  | 0, _, _ => none
  | F139 + 1, x140, x141 =>
    bif decide (x140 < ((1 : Int) + (x.f_States % 6))) then (
    bd (
    w9 N x x140 x141 N ([] : List Int) 0) fun o148 =>
    gd (okI o148 0) <|
    bd (
    gd (in64 (x140 - 1)) <|
    bif decide ((x140 - 1) < (↑x.f_Tree.length : Int)) then (
    gd (in64 (x140 - 1)) <|
    gd (okI x.f_Tree (x140 - 1)) <|
    gd (in64 (ix x.f_Tree (x140 - 1))) <|
    gd (okR (ix x.f_Tree (x140 - 1)) (↑o148.length : Int)) <|
    gd (okI o148 ((ix x.f_Tree (x140 - 1)) % (↑o148.length : Int))) <|
    some (ix o148 ((ix x.f_Tree (x140 - 1)) % (↑o148.length : Int)))) else (
    some (ix o148 0))) fun o240 =>
    gd (okQ o240 ((1 : Int) + (x.f_Inputs % 3))) <|
    gd (okI x141 (o240 / ((1 : Int) + (x.f_Inputs % 3)))) <|
    gd (okR o240 ((1 : Int) + (x.f_Inputs % 3))) <|
    gd (okI (ix x141 (o240 / ((1 : Int) + (x.f_Inputs % 3)))) (o240 % ((1 : Int) + (x.f_Inputs % 3)))) <|
    gd (in64 (x140 + 1)) <|
    gp N x F139 (x140 + 1) (up x141 (o240 / ((1 : Int) + (x.f_Inputs % 3))) (up (ix x141 (o240 / ((1 : Int) + (x.f_Inputs % 3)))) (o240 % ((1 : Int) + (x.f_Inputs % 3))) (⟨x140, (ix (ix x141 (o240 / ((1 : Int) + (x.f_Inputs % 3)))) (o240 % ((1 : Int) + (x.f_Inputs % 3)))).out⟩ : Edge)))) else (
    some x141)
def wh (N : Nat) (x : Sgauntletlaw06_C) (x326 : Int) : Nat → Int → (List (List Edge)) → Option (List (List Edge))
  | 0, _, _ => none
  | F340 + 1, x341, x342 =>
    bif decide (x341 < ((1 : Int) + (x.f_Inputs % 3))) then (
    bd (
    gd (okI x342 x326) <|
    gd (okI (ix x342 x326) x341) <|
    bif decide (((ix (ix x342 x326) x341).to) < 0) then (
    gd (okI x342 x326) <|
    gd (in64 (x326 * ((1 : Int) + (x.f_Inputs % 3)))) <|
    gd (in64 ((x326 * ((1 : Int) + (x.f_Inputs % 3))) + x341)) <|
    bd (oo N x.f_Edges ((x326 * ((1 : Int) + (x.f_Inputs % 3))) + x341)) fun y381 =>
    gd (okR y381 ((1 : Int) + (x.f_States % 6))) <|
    gd (okI (ix x342 x326) x341) <|
    some (up x342 x326 (up (ix x342 x326) x341 (⟨y381 % ((1 : Int) + (x.f_States % 6)), (ix (ix x342 x326) x341).out⟩ : Edge)))) else (
    some x342)) fun o349 =>
    gd (in64 (x341 + 1)) <|
    wh N x x326 F340 (x341 + 1) o349) else (
    some x342)
def gq (N : Nat) (x : Sgauntletlaw06_C) : Nat → Int → (List (List Edge)) → Option (List (List Edge))
  | 0, _, _ => none
  | F325 + 1, x326, x327 =>
    bif decide (x326 < ((1 : Int) + (x.f_States % 6))) then (
    bd (
    wh N x x326 N 0 x327) fun o334 =>
    gd (in64 (x326 + 1)) <|
    gq N x F325 (x326 + 1) o334) else (
    some x327)
def ry (N : Nat) (x : Sgauntletlaw06_C) : Option Mach :=
    gd (okR x.f_States 6) <|
    gd (in64 (x.f_States % 6)) <|
    gd (in64 ((1 : Int) + (x.f_States % 6))) <|
    gd (okR x.f_Inputs 3) <|
    gd (in64 (x.f_Inputs % 3)) <|
    gd (in64 ((1 : Int) + (x.f_Inputs % 3))) <|
    gd (okR x.f_Outputs 3) <|
    gd (in64 (x.f_Outputs % 3)) <|
    gd (in64 ((1 : Int) + (x.f_Outputs % 3))) <|
    bd (
    yu N x N 0 ([] : List (List Edge))) fun o31 =>
    bd (
    gp N x N 1 o31) fun o133 =>
    bd (
    gq N x N 0 o133) fun o319 =>
    some (⟨(1 : Int) + (x.f_Inputs % 3), (1 : Int) + (x.f_Outputs % 3), o319⟩ : Mach)
def ol (N : Nat) (m : Mach) (w_ : (List Int)) : Option Int :=
    bif decide (1024 < (↑w_.length : Int)) then (
    some 3) else (
    bd (ow N m w_) fun y7 =>
    bif !y7 then (
    some 1) else (
    some 0))
def yx (N : Nat) (m : Mach) (w_ : (List Int)) : Nat → (List Int) → Int → Int → Option (List Int)
  | 0, _, _, _ => none
  | F14 + 1, x15, x16, x17 =>
    bif decide (x17 < (↑w_.length : Int)) then (
    bd (
    bif decide (x16 = (-1)) then (
    gd (fits 8 x15 ([(-1)] : List Int)) <|
    some (x16, (x15 ++ ([(-1)] : List Int)))) else (
    gd (okI m.rows x16) <|
    gd (okI w_ x17) <|
    gd (okI (ix m.rows x16) (ix w_ x17)) <|
    gd (fits 8 x15 ([(ix (ix m.rows x16) (ix w_ x17)).out] : List Int)) <|
    some ((ix (ix m.rows x16) (ix w_ x17)).to, (x15 ++ ([(ix (ix m.rows x16) (ix w_ x17)).out] : List Int))))) fun o25 =>
    gd (in64 (x17 + 1)) <|
    yx N m w_ F14 o25.2 o25.1 (x17 + 1)) else (
    some x15)
def mh (N : Nat) (m : Mach) (w_ : (List Int)) : Option (List Int) :=
    bd (
    yx N m w_ N ([] : List Int) 0 0) fun o6 =>
    some o6
def dx (N : Nat) (x : Sgauntletlaw06_C) (w_ : (List Int)) : Option Bool :=
    bif decide (1100 < (↑w_.length : Int)) then (
    some true) else (
    bd (ry N x) fun y7 =>
    bd (bf N (⟨y7.inputs, y7.outputs, y7.rows⟩ : Mach) w_) fun y17 =>
    bd (ol N (⟨y7.inputs, y7.outputs, y7.rows⟩ : Mach) w_) fun y25 =>
    bif decide (y25 ≠ 0) then (
    bd (gop (true && (((decide (y17.2 = y25)) && (decide ((↑y17.1.length : Int) = 0))) == true)) (mq N)) fun y32 =>
    some (((decide (y17.2 = y25)) && (decide ((↑y17.1.length : Int) = 0))) && (y32.getD default))) else (
    bd (bf N (⟨0, 0, ([] : (List (List Edge)))⟩ : Mach) w_) fun y60 =>
    bd (gop (true && ((decide (y17.2 = 0)) == true)) (mh N (⟨y7.inputs, y7.outputs, y7.rows⟩ : Mach) w_)) fun y68 =>
    bd (gop (true && ((decide (y17.2 = 0)) == true)) (yw N y17.1 (y68.getD default))) fun y70 =>
    bd (gop (true && ((((decide (y17.2 = 0)) && (y70.getD default)) && (decide ((↑y17.1.length : Int) = (↑y17.1.length : Int)))) == true)) (mr N (⟨0, 0, ([] : (List (List Edge)))⟩ : Mach))) fun y72 =>
    bd (gop (true && (((((decide (y17.2 = 0)) && (y70.getD default)) && (decide ((↑y17.1.length : Int) = (↑y17.1.length : Int)))) && (decide (y60.2 = (y72.getD default)))) == true)) (mq N)) fun y74 =>
    some (((((decide (y17.2 = 0)) && (y70.getD default)) && (decide ((↑y17.1.length : Int) = (↑y17.1.length : Int)))) && (decide (y60.2 = (y72.getD default)))) && (y74.getD default))))
end GV
end Go.Proofs.Ytplgbkaollfmkaa
