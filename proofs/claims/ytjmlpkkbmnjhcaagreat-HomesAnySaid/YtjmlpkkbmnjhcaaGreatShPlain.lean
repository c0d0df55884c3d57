import Derived.Test.YtjmlpkkbmnjhcaaGreatShTypes
set_option linter.unusedVariables false
set_option linter.unusedSimpArgs false
set_option linter.unusedSectionVars false
namespace Go.Proofs.YtjmlpkkbmnjhcaaGreat
namespace GV
set_option maxRecDepth 100000
def z2n(N:Nat)(l_:(List Int))(k:Int):Option Int:=
 bif decide (k<(↑l_.length:Int)) then(
 gd (okI l_ k)<|
 gd (in64 (ix l_ k))<|
 some (ix l_ k)) else(
 some 0)
def l6(N:Nat)(x:Sd)(b:Int):Nat→(List Edge)→Int→Option (List Edge)
 |0,_,_=>none
 |e+1,d,a=>
  bif decide (a<((1:Int)+(x.fB%3))) then(
  gd (in64 (b*((1:Int)+(x.fB%3))))<|
  gd (in64 ((b*((1:Int)+(x.fB%3)))+a))<|
  bd (z2n N x.fM ((b*((1:Int)+(x.fB%3)))+a)) fun c=>
  gd (okQ c ((1:Int)+(x.fD%6)))<|
  gd (okR (c/((1:Int)+(x.fD%6))) ((1:Int)+(x.fC%3)))<|
  gd (fits 16 d ([(⟨(-1),(c/((1:Int)+(x.fD%6)))%((1:Int)+(x.fC%3))⟩:Edge)]:List Edge))<|
  gd (in64 (a+1))<|
  l6 N x b e (d++([(⟨(-1),(c/((1:Int)+(x.fD%6)))%((1:Int)+(x.fC%3))⟩:Edge)]:List Edge)) (a+1)) else(
  some d)
def o5(N:Nat)(x:Sd):Nat→Int→(List (List Edge))→Option (List (List Edge))
 |0,_,_=>none
 |d+1,a,b=>
  bif decide (a<((1:Int)+(x.fD%6))) then(
  bd (
  l6 N x a N ([]:List Edge) 0) fun c=>
  gd (fits 24 b [c])<|
  gd (in64 (a+1))<|
  o5 N x d (a+1) (b++[c])) else(
  some b)
def pu(N:Nat)(x:Sd)(d:Int)(b:List (List Edge)):Nat→(List Int)→Int→Option (List Int)
 |0,_,_=>none
 |e+1,c,a=>
  gd (in64 (d*((1:Int)+(x.fB%3))))<|
  bif decide (a<(d*((1:Int)+(x.fB%3)))) then(
  bd (
  gd (okQ a ((1:Int)+(x.fB%3)))<|
  gd (okI b (a/((1:Int)+(x.fB%3))))<|
  gd (okR a ((1:Int)+(x.fB%3)))<|
  gd (okI (ix b (a/((1:Int)+(x.fB%3)))) (a%((1:Int)+(x.fB%3))))<|
  bif decide (((ix (ix b (a/((1:Int)+(x.fB%3)))) (a%((1:Int)+(x.fB%3)))).to)<0) then(
  gd (fits 8 c ([a]:List Int))<|
  some (c++([a]:List Int))) else(
  some c)) fun f=>
  gd (in64 (a+1))<|
  pu N x d b e f (a+1)) else(
  some c)
def l7(N:Nat)(x:Sd):Nat→Int→(List (List Edge))→Option (List (List Edge))
 |0,_,_=>none
 |e+1,a,c=>
  bif decide (a<((1:Int)+(x.fD%6))) then(
  bd (
  pu N x a c N ([]:List Int) 0) fun d=>
  gd (okI d 0)<|
  bd (
  gd (in64 (a-1))<|
  bif decide ((a-1)<(↑x.fG.length:Int)) then(
  gd (in64 (a-1))<|
  gd (okI x.fG (a-1))<|
  gd (in64 (ix x.fG (a-1)))<|
  gd (okR (ix x.fG (a-1)) (↑d.length:Int))<|
  gd (okI d ((ix x.fG (a-1))%(↑d.length:Int)))<|
  some (ix d ((ix x.fG (a-1))%(↑d.length:Int)))) else(
  some (ix d 0))) fun b=>
  gd (okQ b ((1:Int)+(x.fB%3)))<|
  gd (okI c (b/((1:Int)+(x.fB%3))))<|
  gd (okR b ((1:Int)+(x.fB%3)))<|
  gd (okI (ix c (b/((1:Int)+(x.fB%3)))) (b%((1:Int)+(x.fB%3))))<|
  gd (in64 (a+1))<|
  l7 N x e (a+1) (up c (b/((1:Int)+(x.fB%3))) (up (ix c (b/((1:Int)+(x.fB%3)))) (b%((1:Int)+(x.fB%3))) (⟨a,(ix (ix c (b/((1:Int)+(x.fB%3)))) (b%((1:Int)+(x.fB%3)))).out⟩:Edge)))) else(
  some c)
def pq(N:Nat)(x:Sd)(a:Int):Nat→Int→(List (List Edge))→Option (List (List Edge))
 |0,_,_=>none
 |e+1,b,c=>
  bif decide (b<((1:Int)+(x.fB%3))) then(
  bd (
  gd (okI c a)<|
  gd (okI (ix c a) b)<|
  bif decide (((ix (ix c a) b).to)<0) then(
  gd (okI c a)<|
  gd (in64 (a*((1:Int)+(x.fB%3))))<|
  gd (in64 ((a*((1:Int)+(x.fB%3)))+b))<|
  bd (z2n N x.fM ((a*((1:Int)+(x.fB%3)))+b)) fun d=>
  gd (okR d ((1:Int)+(x.fD%6)))<|
  gd (okI (ix c a) b)<|
  some (up c a (up (ix c a) b (⟨d%((1:Int)+(x.fD%6)),(ix (ix c a) b).out⟩:Edge)))) else(
  some c)) fun f=>
  gd (in64 (b+1))<|
  pq N x a e (b+1) f) else(
  some c)
def fe(N:Nat)(x:Sd):Nat→Int→(List (List Edge))→Option (List (List Edge))
 |0,_,_=>none
 |c+1,a,b=>
  bif decide (a<((1:Int)+(x.fD%6))) then(
  bd (
  pq N x a N 0 b) fun d=>
  gd (in64 (a+1))<|
  fe N x c (a+1) d) else(
  some b)
def z1a(N:Nat)(x:Sd):Option Mach:=
 gd (okR x.fD 6)<|
 gd (in64 (x.fD%6))<|
 gd (in64 ((1:Int)+(x.fD%6)))<|
 gd (okR x.fB 3)<|
 gd (in64 (x.fB%3))<|
 gd (in64 ((1:Int)+(x.fB%3)))<|
 gd (okR x.fC 3)<|
 gd (in64 (x.fC%3))<|
 gd (in64 ((1:Int)+(x.fC%3)))<|
 bd (
 o5 N x N 0 ([]:List (List Edge))) fun c=>
 bd (
 l7 N x N 1 c) fun a=>
 bd (
 fe N x N 0 a) fun b=>
 some (⟨(1:Int)+(x.fB%3),(1:Int)+(x.fC%3),b⟩:Mach)
def xm(N:Nat)(s:(List Edge))(f:Edge→Option Bool):Nat→Int→Option (Ex (Unit) (Int))
 |0,_=>none
 |c+1,a=>
  bif decide (a<(↑s.length:Int)) then(
  gd (okI s a)<|
  bd (f (ix s a)) fun b=>
  bif b then(
  some (Ex.rt a)) else(
  gd (in64 (a+1))<|
  xm N s f c (a+1))) else(
  some (Ex.go ()))
def z1r(N:Nat)(s:(List Edge))(f:Edge→Option Bool):Option Int:=
 bd (
 xm N s f N 0) fun a=>
 Ex.on a (fun b=>
 some (-1)) some
def z0p(N:Nat)(s:(List Edge))(f:Edge→Option Bool):Option Bool:=
 bd (z1r N s f) fun a=>
 some (decide (0≤a))
def z4y(N:Nat):Option Edge:=
 some (⟨(-1),(-1)⟩:Edge)
def zch(N:Nat)(m:Mach)(x:Edge):Option Bool:=
 bd (z4y N) fun a=>
 some ((decide (x.to=a.to∧x.out=a.out))||((((decide (0≤x.to))&&(decide (x.to<(↑m.rows.length:Int))))&&(decide (0≤x.out)))&&(decide (x.out<m.outputs))))
def zab(N:Nat)(x:Edge)(p0_:Mach):Option Bool:=
 bd (zch N p0_ x) fun a=>
 some (!a)
def z0x(N:Nat)(m:Mach):Nat→Int→Option (Ex (Unit) (Int))
 |0,_=>none
 |b+1,a=>
  bif decide (a<(↑m.rows.length:Int)) then(
  gd (okI m.rows a)<|
  bd (gop (true&&((decide ((↑(ix m.rows a).length:Int)≠m.inputs))==false)) (z0p N (ix m.rows a) (fun d=>zab N d m))) fun c=>
  bif (decide ((↑(ix m.rows a).length:Int)≠m.inputs))||(c.getD default) then(
  some (Ex.rt 1)) else(
  gd (in64 (a+1))<|
  z0x N m b (a+1))) else(
  some (Ex.go ()))
def z6n(N:Nat)(m:Mach):Option Int:=
 bif ((decide (16<m.inputs))||(decide (16<m.outputs)))||(decide (64<(↑m.rows.length:Int))) then(
 some 3) else(
 bif ((decide (m.inputs<1))||(decide (m.outputs<1)))||(decide ((↑m.rows.length:Int)<1)) then(
 some 1) else(
 bd (
 z0x N m N 0) fun a=>
 Ex.on a (fun b=>
 some 0) some))
def z9l(N:Nat)(m:Mach):Option Mach:=
 some m
def z09(N:Nat)(σ:Type)(B:((Int×Int)×Edge)→σ→Option (Bool×σ))(p0_:Mach)(c:Int):Nat→σ→Int→Option (Ex (σ) (σ))
 |0,_,_=>none
 |e+1,d,a=>
  bif decide (a<(↑(ix p0_.rows c).length:Int)) then(
  gd (okI (ix p0_.rows c) a)<|
  bd (B (((c,a):(Int×Int)),(⟨(ix (ix p0_.rows c) a).to,(ix (ix p0_.rows c) a).out⟩:Edge)) d) fun b=>
  bif !b.1 then(
  some (Ex.rt b.2)) else(
  gd (in64 (a+1))<|
  z09 N σ B p0_ c e b.2 (a+1))) else(
  some (Ex.go d))
def z0t(N:Nat)(σ:Type)(B:((Int×Int)×Edge)→σ→Option (Bool×σ))(p0_:Mach):Nat→σ→Int→Option σ
 |0,_,_=>none
 |e+1,d,a=>
  bif decide (a<(↑p0_.rows.length:Int)) then(
  bd (
  gd (okI p0_.rows a)<|
  z09 N σ B p0_ a N d 0) fun b=>
  Ex.on b (fun c=>
  gd (in64 (a+1))<|
  z0t N σ B p0_ e c (a+1)) some) else(
  some d)
def z6k(N:Nat)(p0_:Mach)(σ:Type)(B:((Int×Int)×Edge)→σ→Option (Bool×σ))(s0:σ):Option σ:=
 z0t N σ B p0_ N s0 0
def z7e(N:Nat)(s:(List (Int×Int))):Option (List (Int×Int)):=
 gd (okS s 0 (↑s.length:Int))<|
 some (cut s 0 (↑s.length:Int))
def z5m(N:Nat)(m:Mach):Option (List (Int×Int)):=
 bd (z9l N m) fun f=>
 bd (z6k N f (List (Int×Int)) (fun a b=>
 bd (z4y N) fun c=>
 bif decide (a.2.to=c.to∧a.2.out=c.out) then(
 gd (fits 16 b ([((a.1.1,a.1.2):(Int×Int))]:List (Int×Int)))<|
 some (true,(b++([((a.1.1,a.1.2):(Int×Int))]:List (Int×Int))))) else(
 some (true,b))) ([]:List (Int×Int))) fun d=>
 bd (z7e N d) fun e=>
 some e
def z6a(N:Nat)(m:Mach):Option (Bool×Int):=
 bd (z6n N m) fun b=>
 bif decide (b≠0) then(
 some (false,b)) else(
 bd (z5m N m) fun a=>
 some ((decide ((↑a.length:Int)=0)),0))
def z3i(N:Nat)(m:Mach):Option Int:=
 bd (z6a N m) fun a=>
 bif (decide (a.2=0))&&(!a.1) then(
 some 9) else(
 some a.2)
def za2(N:Nat)(m:Mach):Option Int:=
 gd (okSh .u16 (↑m.rows.length:Int))<|
 some (IntKind.u16.wrap ((z0k .u16 (1:Int) (↑m.rows.length:Int))-1))
def z0q(N:Nat)(s:(List Int)):Option (List Int):=
 gd (okS s 0 (↑s.length:Int))<|
 some (cut s 0 (↑s.length:Int))
def oz(N:Nat)(inputs:Int)(key:Int→Option (List UInt8))(next:Int→Int→Option Int)(x23:List Sb)(x62:Int):Nat→Int→(List ((List UInt8)×Bool))→(List Sb)→Option (Ex (List ((List UInt8)×Bool)×List Sb) (Ex (List Sb×List ((List UInt8)×Bool)) (Ex (Unit) ((List Int)×Int))))
 |0,_,_,_=>none
 |h+1,a,b,c=>
  bif decide (a<inputs) then(
  bd (
  bd (next ((ix x23 x62).fJ) a) fun d=>
  bd (key d) fun f=>
  bif !(zed false b f) then(
  bd (z0q N ((ix x23 x62).fQ)) fun e=>
  gd (fits 8 e ([a]:List Int)∧0<([a]:List Int).length)<|
  gd (fits 32 c ([(⟨d,(e++([a]:List Int))⟩:Sb)]:List Sb))<|
  some ((z8a b f true),(c++([(⟨d,(e++([a]:List Int))⟩:Sb)]:List Sb)))) else(
  some (b,c))) fun g=>
  gd (in64 (a+1))<|
  oz N inputs key next x23 x62 h (a+1) g.1 g.2) else(
  some (Ex.go (b,c)))
def ak(N:Nat)(inputs:Int)(key:Int→Option (List UInt8))(is:Int→Option Bool)(next:Int→Int→Option Int)(x23:List Sb):Nat→(List Sb)→Int→(List ((List UInt8)×Bool))→Option (Ex (List Sb×List ((List UInt8)×Bool)) (Ex (Unit) ((List Int)×Int)))
 |0,_,_,_=>none
 |d+1,a,x62,b=>
  bif decide (x62<(↑x23.length:Int)) then(
  bd (
  gd (okI x23 x62)<|
  bd (is ((ix x23 x62).fJ)) fun e=>
  bif e then(
  bd (z0q N ((ix x23 x62).fQ)) fun f=>
  some (Ex.rt (Ex.rt (Ex.rt (f,0))))) else(
  oz N inputs key next x23 x62 N 0 b a)) fun g=>
  Ex.on g (fun c=>
  gd (in64 (x62+1))<|
  ak N inputs key is next x23 d c.2 (x62+1) c.1) some) else(
  some (Ex.go (a,b)))
def aj(N:Nat)(inputs:Int)(key:Int→Option (List UInt8))(is:Int→Option Bool)(next:Int→Int→Option Int):Nat→(List Sb)→Int→(List ((List UInt8)×Bool))→Option (Ex (Unit) ((List Int)×Int))
 |0,_,_,_=>none
 |c+1,x23,a,d=>
  bif (decide (0<(↑x23.length:Int)))&&(decide (a≤256)) then(
  bd (
  ak N inputs key is next x23 N ([]:List Sb) 0 d) fun e=>
  Ex.on e (fun b=>
  gd (in64 (a+1))<|
  aj N inputs key is next c b.1 (a+1) b.2) some) else(
  some (Ex.go ()))
def z4r(N:Nat)(inputs:Int)(from_:Int)(key:Int→Option (List UInt8))(is:Int→Option Bool)(next:Int→Int→Option Int):Option ((List Int)×Int):=
 bd (key from_) fun a=>
 bd (
 aj N inputs key is next N ([(⟨from_,[]⟩:Sb)]:List Sb) 0 (z8a ([]:List ((List UInt8)×Bool)) a true)) fun b=>
 Ex.on b (fun c=>
 some (([]:(List Int)),7)) some
def z3z(N:Nat)(l_:(List Int)):Nat→(List Int)→Int→Option (List Int)
 |0,_,_=>none
 |c+1,b,a=>
  bif decide (a<(↑l_.length:Int)) then(
  gd (okI l_ a)<|
  gd (okSh .u16 (8:Int))<|
  gd (fits 1 b ([IntKind.u8.wrap (qg (ix l_ a) (8:Int)),IntKind.u8.wrap (ix l_ a)]:List Int))<|
  gd (in64 (a+1))<|
  z3z N l_ c (b++([IntKind.u8.wrap (qg (ix l_ a) (8:Int)),IntKind.u8.wrap (ix l_ a)]:List Int)) (a+1)) else(
  some b)
def z8u(N:Nat)(l_:(List Int)):Option (List UInt8):=
 bd (
 z3z N l_ N ([]:List Int) 0) fun a=>
 some (zcq a)
def z7x(N:Nat)(x:Int):Option (List UInt8):=
 bd (z8u N ([x]:List Int)) fun a=>
 some a
def z2a(N:Nat)(x:Int):Option Int:=
 gd (okSh .u16 (8:Int))<|
 gd (okI strT1 (qg x (8:Int)))<|
 gd (okB .u16 x 255)<|
 gd (okI strT1 (zn x 255))<|
 gd (in64 (IntKind.u8.wrap ((ix strT1 (qg x (8:Int)))+(ix strT1 (zn x 255)))))<|
 some (IntKind.u8.wrap ((ix strT1 (qg x (8:Int)))+(ix strT1 (zn x 255))))
def z8d(N:Nat)(x:Int):Option Bool:=
 bd (z2a N x) fun a=>
 some (decide (a=1))
def z0l(N:Nat)(g_:Sg)(x:Int)(i:Int):Nat→Int→Int→Option Int
 |0,_,_=>none
 |b+1,x16,a=>
  bif decide (a<(↑g_.fK.rows.length:Int)) then(
  bd (
  gd (okI g_.fK.rows a)<|
  gd (okSh .u16 a)<|
  gd (okB .u16 (qg x a) 1)<|
  bif decide ((zn (qg x a) 1)=1) then(
  gd (okI (ix g_.fK.rows a) i)<|
  gd (okSh .u16 ((ix (ix g_.fK.rows a) i).to))<|
  gd (okB .u16 x16 (z0k .u16 (1:Int) ((ix (ix g_.fK.rows a) i).to)))<|
  some (ior x16 (z0k .u16 (1:Int) ((ix (ix g_.fK.rows a) i).to)))) else(
  some x16)) fun c=>
  gd (in64 (a+1))<|
  z0l N g_ x i b c (a+1)) else(
  some x16)
def z4n(N:Nat)(g_:Sg)(x:Int)(i:Int):Option Int:=
 bd (
 z0l N g_ x i N 0 0) fun a=>
 some a
def z2m(N:Nat)(m:Mach):Option ((List Int)×Int):=
 bd (z3i N m) fun d=>
 bif decide (d≠0) then(
 some (([]:(List Int)),d)) else(
 bif decide (12<(↑m.rows.length:Int)) then(
 some (([]:(List Int)),3)) else(
 bd (za2 N (⟨m.inputs,m.outputs,m.rows⟩:Mach)) fun c=>
 bd (z4r N m.inputs c (fun a=>z7x N a) (fun a=>z8d N a) (fun a e=>z4n N (⟨(⟨m.inputs,m.outputs,m.rows⟩:Mach)⟩:Sg) a e)) fun b=>
 some (b.1,b.2)))
def mf(N:Nat)(inputs:Int)(key:(List Int)→Option (List UInt8))(next:(List Int)→Int→Option (List Int))(x23:List Sa)(x62:Int):Nat→Int→(List ((List UInt8)×Bool))→(List Sa)→Option (Ex (List ((List UInt8)×Bool)×List Sa) (Ex (List Sa×List ((List UInt8)×Bool)) (Ex (Unit) ((List Int)×Int))))
 |0,_,_,_=>none
 |h+1,a,b,c=>
  bif decide (a<inputs) then(
  bd (
  bd (next ((ix x23 x62).fJ) a) fun d=>
  bd (key d) fun f=>
  bif !(zed false b f) then(
  bd (z0q N ((ix x23 x62).fQ)) fun e=>
  gd (fits 8 e ([a]:List Int)∧0<([a]:List Int).length)<|
  gd (fits 48 c ([(⟨d,(e++([a]:List Int))⟩:Sa)]:List Sa))<|
  some ((z8a b f true),(c++([(⟨d,(e++([a]:List Int))⟩:Sa)]:List Sa)))) else(
  some (b,c))) fun g=>
  gd (in64 (a+1))<|
  mf N inputs key next x23 x62 h (a+1) g.1 g.2) else(
  some (Ex.go (b,c)))
def mh(N:Nat)(inputs:Int)(key:(List Int)→Option (List UInt8))(is:(List Int)→Option Bool)(next:(List Int)→Int→Option (List Int))(x23:List Sa):Nat→(List Sa)→Int→(List ((List UInt8)×Bool))→Option (Ex (List Sa×List ((List UInt8)×Bool)) (Ex (Unit) ((List Int)×Int)))
 |0,_,_,_=>none
 |e+1,a,x62,b=>
  bif decide (x62<(↑x23.length:Int)) then(
  bd (
  gd (okI x23 x62)<|
  bd (is ((ix x23 x62).fJ)) fun f=>
  bif f then(
  bd (z0q N ((ix x23 x62).fQ)) fun c=>
  some (Ex.rt (Ex.rt (Ex.rt (c,0))))) else(
  mf N inputs key next x23 x62 N 0 b a)) fun g=>
  Ex.on g (fun d=>
  gd (in64 (x62+1))<|
  mh N inputs key is next x23 e d.2 (x62+1) d.1) some) else(
  some (Ex.go (a,b)))
def mo(N:Nat)(inputs:Int)(key:(List Int)→Option (List UInt8))(is:(List Int)→Option Bool)(next:(List Int)→Int→Option (List Int)):Nat→(List Sa)→Int→(List ((List UInt8)×Bool))→Option (Ex (Unit) ((List Int)×Int))
 |0,_,_,_=>none
 |c+1,x23,a,d=>
  bif (decide (0<(↑x23.length:Int)))&&(decide (a≤256)) then(
  bd (
  mh N inputs key is next x23 N ([]:List Sa) 0 d) fun e=>
  Ex.on e (fun b=>
  gd (in64 (a+1))<|
  mo N inputs key is next c b.1 (a+1) b.2) some) else(
  some (Ex.go ()))
def z4f(N:Nat)(inputs:Int)(from_:(List Int))(key:(List Int)→Option (List UInt8))(is:(List Int)→Option Bool)(next:(List Int)→Int→Option (List Int)):Option ((List Int)×Int):=
 bd (key from_) fun a=>
 bd (
 mo N inputs key is next N ([(⟨from_,[]⟩:Sa)]:List Sa) 0 (z8a ([]:List ((List UInt8)×Bool)) a true)) fun b=>
 Ex.on b (fun c=>
 some (([]:(List Int)),7)) some
def z99(N:Nat)(l_:(List Int)):Option Bool:=
 some (decide ((↑l_.length:Int)=0))
def zb0(N:Nat)(x:Int):Option Int:=
 bd (
 bif decide (4294967296≤x) then(
 gd (okSh .u64 (32:Int))<|
 some (qg x (32:Int),32)) else(
 some (x,0))) fun b=>
 bd (
 bif decide (65536≤b.1) then(
 gd (okSh .u64 (16:Int))<|
 gd (in64 (b.2+16))<|
 some (qg b.1 (16:Int),b.2+16)) else(
 some (b.1,b.2))) fun c=>
 bd (
 bif decide (256≤c.1) then(
 gd (okSh .u64 (8:Int))<|
 gd (in64 (c.2+8))<|
 some (qg c.1 (8:Int),c.2+8)) else(
 some (c.1,c.2))) fun a=>
 gd (okI zma (IntKind.u8.wrap a.1))<|
 gd (in64 (ix zma (IntKind.u8.wrap a.1)))<|
 gd (in64 (a.2+(ix zma (IntKind.u8.wrap a.1))))<|
 some (a.2+(ix zma (IntKind.u8.wrap a.1)))
def z6f(N:Nat)(x:Int):Option Int:=
 bd (zb0 N x) fun a=>
 some a
def z6q(N:Nat)(x:Int):Option Bool:=
 some (decide (x≠x))
def yu(N:Nat)(x:Int)(y:Int):Option Bool:=
 bd (z6q N x) fun b=>
 bd (gop (true&&(b==true)) (z6q N y)) fun a=>
 some ((b&&(!(a.getD default)))||(decide (x<y)))
def yn(N:Nat)(a:Int):Nat→Int→(List Int)→Option (List Int)
 |0,_,_=>none
 |c+1,x16,b=>
  gd ((true&&((decide (a<x16))==true))=true→okI b x16)<|
  gd ((true&&((decide (a<x16))==true))=true→in64 (x16-1))<|
  gd ((true&&((decide (a<x16))==true))=true→okI b (x16-1))<|
  bd (gop (true&&((decide (a<x16))==true)) (yu N (ix b x16) (ix b (x16-1)))) fun d=>
  bif (decide (a<x16))&&(d.getD default) then(
  gd (in64 (x16-1))<|
  gd (in64 (x16-1))<|
  gd (okI b (x16-1))<|
  gd (okI b x16)<|
  gd (okI b x16)<|
  gd (okI b (x16-1))<|
  gd (in64 (x16-1))<|
  yn N a c (x16-1) (up (up b x16 (ix b (x16-1))) (x16-1) (ix b x16))) else(
  some b)
def yl(N:Nat)(a:Int)(b:Int):Nat→Int→(List Int)→Option (List Int)
 |0,_,_=>none
 |f+1,c,e=>
  bif decide (c<b) then(
  bd (
  yn N a N c e) fun d=>
  gd (in64 (c+1))<|
  yl N a b f (c+1) d) else(
  some e)
def ru(N:Nat)(data:List Int)(a:Int)(b:Int):Option (List Int):=
 gd (in64 (a+1))<|
 yl N a b N (a+1) data
def bq(N:Nat)(hi:Int)(first:Int):Nat→Int→(List Int)→Option (List Int)
 |0,_,_=>none
 |f+1,a,c=>
  gd (in64 ((2:Int)*a))<|
  gd (in64 (((2:Int)*a)+1))<|
  bif decide (hi≤(((2:Int)*a)+1)) then(
  some c) else(
  bd (
  gd (in64 ((((2:Int)*a)+1)+1))<|
  gd ((true&&((decide (((((2:Int)*a)+1)+1)<hi))==true))=true→in64 (first+(((2:Int)*a)+1)))<|
  gd ((true&&((decide (((((2:Int)*a)+1)+1)<hi))==true))=true→okI c (first+(((2:Int)*a)+1)))<|
  gd ((true&&((decide (((((2:Int)*a)+1)+1)<hi))==true))=true→in64 (first+(((2:Int)*a)+1)))<|
  gd ((true&&((decide (((((2:Int)*a)+1)+1)<hi))==true))=true→in64 ((first+(((2:Int)*a)+1))+1))<|
  gd ((true&&((decide (((((2:Int)*a)+1)+1)<hi))==true))=true→okI c ((first+(((2:Int)*a)+1))+1))<|
  bd (gop (true&&((decide (((((2:Int)*a)+1)+1)<hi))==true)) (yu N (ix c (first+(((2:Int)*a)+1))) (ix c ((first+(((2:Int)*a)+1))+1)))) fun d=>
  bif (decide (((((2:Int)*a)+1)+1)<hi))&&(d.getD default) then(
  gd (in64 ((((2:Int)*a)+1)+1))<|
  some ((((2:Int)*a)+1)+1)) else(
  some (((2:Int)*a)+1))) fun b=>
  gd (in64 (first+a))<|
  gd (okI c (first+a))<|
  gd (in64 (first+b))<|
  gd (okI c (first+b))<|
  bd (yu N (ix c (first+a)) (ix c (first+b))) fun e=>
  bif !e then(
  some c) else(
  gd (in64 (first+a))<|
  gd (in64 (first+b))<|
  gd (in64 (first+b))<|
  gd (okI c (first+b))<|
  gd (in64 (first+a))<|
  gd (okI c (first+a))<|
  gd (okI c (first+a))<|
  gd (okI c (first+b))<|
  bq N hi first f b (up (up c (first+a) (ix c (first+b))) (first+b) (ix c (first+a)))))
def z0g(N:Nat)(data:List Int)(lo:Int)(hi:Int)(first:Int):Option (List Int):=
 bq N hi first N lo data
def bv(N:Nat)(a:Int)(b:Int):Nat→Int→(List Int)→Option (List Int)
 |0,_,_=>none
 |f+1,c,d=>
  bif decide (0≤c) then(
  bd (z0g N d c (b-a) a) fun e=>
  gd (in64 (c-1))<|
  bv N a b f (c-1) e) else(
  some d)
def bi(N:Nat)(a:Int):Nat→Int→(List Int)→Option (List Int)
 |0,_,_=>none
 |d+1,b,c=>
  bif decide (0≤b) then(
  gd (in64 (a+b))<|
  gd (in64 (a+b))<|
  gd (okI c (a+b))<|
  gd (okI c a)<|
  gd (okI c a)<|
  gd (okI c (a+b))<|
  bd (z0g N (up (up c a (ix c (a+b))) (a+b) (ix c a)) 0 b a) fun e=>
  gd (in64 (b-1))<|
  bi N a d (b-1) e) else(
  some c)
def z0h(N:Nat)(data:List Int)(a:Int)(b:Int):Option (List Int):=
 gd (in64 (b-a))<|
 bd (
 gd (in64 ((b-a)-1))<|
 gd (okQ ((b-a)-1) 2)<|
 bv N a b N (((b-a)-1)/2) data) fun c=>
 gd (in64 ((b-a)-1))<|
 bi N a N ((b-a)-1) c
def z1y(N:Nat)(length:Int):Option Int:=
 bd (z6f N (IntKind.u64.wrap length)) fun a=>
 gd (okSh .u64 a)<|
 some (z0k .u64 (1:Int) a)
def z4g(N:Nat)(r_:Int):Option (Int×Int):=
 gd (okSh .u64 (13:Int))<|
 gd (okB .u64 r_ (z0k .u64 r_ (13:Int)))<|
 gd (okSh .u64 (7:Int))<|
 gd (okB .u64 (z1s r_ (z0k .u64 r_ (13:Int))) (qg (z1s r_ (z0k .u64 r_ (13:Int))) (7:Int)))<|
 gd (okSh .u64 (17:Int))<|
 gd (okB .u64 (z1s (z1s r_ (z0k .u64 r_ (13:Int))) (qg (z1s r_ (z0k .u64 r_ (13:Int))) (7:Int))) (z0k .u64 (z1s (z1s r_ (z0k .u64 r_ (13:Int))) (qg (z1s r_ (z0k .u64 r_ (13:Int))) (7:Int))) (17:Int)))<|
 some ((z1s (z1s (z1s r_ (z0k .u64 r_ (13:Int))) (qg (z1s r_ (z0k .u64 r_ (13:Int))) (7:Int))) (z0k .u64 (z1s (z1s r_ (z0k .u64 r_ (13:Int))) (qg (z1s r_ (z0k .u64 r_ (13:Int))) (7:Int))) (17:Int))),(z1s (z1s (z1s r_ (z0k .u64 r_ (13:Int))) (qg (z1s r_ (z0k .u64 r_ (13:Int))) (7:Int))) (z0k .u64 (z1s (z1s r_ (z0k .u64 r_ (13:Int))) (qg (z1s r_ (z0k .u64 r_ (13:Int))) (7:Int))) (17:Int))))
def ym(N:Nat)(a:Int)(b:Int)(f:Int):Nat→Int→(List Int)→Int→Option (List Int)
 |0,_,_,_=>none
 |g+1,x16,c,h=>
  gd (okQ (b-a) 4)<|
  gd (in64 (((b-a)/4)*2))<|
  gd (in64 (a+(((b-a)/4)*2)))<|
  gd (in64 ((a+(((b-a)/4)*2))+1))<|
  bif decide (x16≤((a+(((b-a)/4)*2))+1)) then(
  bd (z4g N h) fun d=>
  gd (okB .u64 d.1 (IntKind.u64.wrap (f-1)))<|
  gd (in64 (zn d.1 (IntKind.u64.wrap (f-1))))<|
  bd (
  bif decide ((b-a)≤(zn d.1 (IntKind.u64.wrap (f-1)))) then(
  gd (in64 ((zn d.1 (IntKind.u64.wrap (f-1)))-(b-a)))<|
  some ((zn d.1 (IntKind.u64.wrap (f-1)))-(b-a))) else(
  some (zn d.1 (IntKind.u64.wrap (f-1))))) fun e=>
  gd (in64 (a+e))<|
  gd (in64 (a+e))<|
  gd (okI c (a+e))<|
  gd (okI c x16)<|
  gd (okI c x16)<|
  gd (okI c (a+e))<|
  gd (in64 (x16+1))<|
  ym N a b f g (x16+1) (up (up c x16 (ix c (a+e))) (a+e) (ix c x16)) d.2) else(
  some c)
def dm(N:Nat)(data:List Int)(a:Int)(b:Int):Option (List Int):=
 gd (in64 (b-a))<|
 bif decide (8≤(b-a)) then(
 bd (z1y N (b-a)) fun c=>
 gd (okQ (b-a) 4)<|
 gd (in64 (((b-a)/4)*2))<|
 gd (in64 (a+(((b-a)/4)*2)))<|
 gd (in64 ((a+(((b-a)/4)*2))-1))<|
 ym N a b c N ((a+(((b-a)/4)*2))-1) data (IntKind.u64.wrap (b-a))) else(
 some data)
def oh(N:Nat)(data:(List Int))(a:Int)(b:Int)(swaps:Int):Option (Int×Int×Int):=
 gd (okI data b)<|
 gd (okI data a)<|
 bd (yu N (ix data b) (ix data a)) fun c=>
 bif c then(
 gd (in64 (swaps+1))<|
 some (b,a,(swaps+1))) else(
 some (a,b,swaps))
def lw(N:Nat)(data:(List Int))(a:Int)(b:Int)(c:Int)(swaps:Int):Option (Int×Int):=
 bd (oh N data a b swaps) fun e=>
 bd (oh N data e.2.1 c e.2.2) fun f=>
 bd (oh N data e.1 f.1 f.2.2) fun d=>
 some (d.2.1,d.2.2)
def uk(N:Nat)(data:(List Int))(a:Int)(swaps:Int):Option (Int×Int):=
 gd (in64 (a-1))<|
 gd (in64 (a+1))<|
 bd (lw N data (a-1) a (a+1) swaps) fun b=>
 some (b.1,b.2)
def lv(N:Nat)(data:(List Int))(a:Int)(b:Int):Option (Int×Int):=
 gd (in64 (b-a))<|
 gd (okQ (b-a) 4)<|
 gd (in64 (((b-a)/4)*1))<|
 gd (in64 (a+(((b-a)/4)*1)))<|
 gd (okQ (b-a) 4)<|
 gd (in64 (((b-a)/4)*2))<|
 gd (in64 (a+(((b-a)/4)*2)))<|
 gd (okQ (b-a) 4)<|
 gd (in64 (((b-a)/4)*3))<|
 gd (in64 (a+(((b-a)/4)*3)))<|
 bd (
 bif decide (8≤(b-a)) then(
 bd (
 bif decide (50≤(b-a)) then(
 bd (uk N data (a+(((b-a)/4)*1)) 0) fun e=>
 bd (uk N data (a+(((b-a)/4)*2)) e.2) fun f=>
 bd (uk N data (a+(((b-a)/4)*3)) f.2) fun g=>
 some (e.1,f.1,g.1,g.2)) else(
 some (a+(((b-a)/4)*1),a+(((b-a)/4)*2),a+(((b-a)/4)*3),0))) fun d=>
 bd (lw N data d.1 d.2.1 d.2.2.1 d.2.2.2) fun h=>
 some (h.1,h.2)) else(
 some (a+(((b-a)/4)*2),0))) fun c=>
 bif decide (c.2=0) then(
 some (c.1,1)) else(
 bif decide (c.2=12) then(
 some (c.1,2)) else(
 some (c.1,0)))
def yw(N:Nat):Nat→Int→Int→(List Int)→Option (List Int)
 |0,_,_,_=>none
 |d+1,b,c,a=>
  bif decide (b<c) then(
  gd (okI a c)<|
  gd (okI a b)<|
  gd (okI a b)<|
  gd (okI a c)<|
  gd (in64 (b+1))<|
  gd (in64 (c-1))<|
  yw N d (b+1) (c-1) (up (up a b (ix a c)) c (ix a b))) else(
  some a)
def nu(N:Nat)(data:List Int)(a:Int)(b:Int):Option (List Int):=
 gd (in64 (b-1))<|
 yw N N a (b-1) data
def uu(N:Nat)(b:Int)(c:List Int):Nat→Int→Option Int
 |0,_=>none
 |d+1,a=>
  gd ((true&&((decide (a<b))==true))=true→okI c a)<|
  gd ((true&&((decide (a<b))==true))=true→in64 (a-1))<|
  gd ((true&&((decide (a<b))==true))=true→okI c (a-1))<|
  bd (gop (true&&((decide (a<b))==true)) (yu N (ix c a) (ix c (a-1)))) fun e=>
  bif (decide (a<b))&&(!(e.getD default)) then(
  gd (in64 (a+1))<|
  uu N b c d (a+1)) else(
  some a)
def uh(N:Nat):Nat→Int→(List Int)→Option (List Int)
 |0,_,_=>none
 |c+1,a,b=>
  bif decide (1≤a) then(
  gd (okI b a)<|
  gd (in64 (a-1))<|
  gd (okI b (a-1))<|
  bd (yu N (ix b a) (ix b (a-1))) fun d=>
  bif !d then(
  some b) else(
  gd (in64 (a-1))<|
  gd (in64 (a-1))<|
  gd (okI b (a-1))<|
  gd (okI b a)<|
  gd (okI b a)<|
  gd (okI b (a-1))<|
  gd (in64 (a-1))<|
  uh N c (a-1) (up (up b a (ix b (a-1))) (a-1) (ix b a)))) else(
  some b)
def ug(N:Nat)(b:Int)(d:Int):Nat→Int→(List Int)→Option (Ex (Int×List Int) (Ex (List Int) (Bool×List Int)))
 |0,_,_=>none
 |e+1,a,c=>
  bif decide (a<b) then(
  gd (okI c a)<|
  gd (in64 (a-1))<|
  gd (okI c (a-1))<|
  bd (yu N (ix c a) (ix c (a-1))) fun f=>
  bif !f then(
  some (Ex.go (d,c))) else(
  gd (in64 (a-1))<|
  gd (in64 (a-1))<|
  gd (okI c (a-1))<|
  gd (okI c a)<|
  gd (okI c a)<|
  gd (okI c (a-1))<|
  gd (in64 (a+1))<|
  ug N b d e (a+1) (up (up c a (ix c (a-1))) (a-1) (ix c a)))) else(
  some (Ex.go (d,c)))
def uo(N:Nat)(a:Int)(b:Int):Nat→Int→Int→(List Int)→Option (Ex (List Int) (Bool×List Int))
 |0,_,_,_=>none
 |i+1,j,f,d=>
  bif decide (f<5) then(
  bd (
  bd (
  uu N b d N j) fun c=>
  bif decide (c=b) then(
  some (Ex.rt (Ex.rt (true,d)))) else(
  gd (in64 (b-a))<|
  bif decide ((b-a)<50) then(
  some (Ex.rt (Ex.rt (false,d)))) else(
  gd (in64 (c-1))<|
  gd (in64 (c-1))<|
  gd (okI d (c-1))<|
  gd (okI d c)<|
  gd (okI d c)<|
  gd (okI d (c-1))<|
  bd (
  gd (in64 (c-a))<|
  bif decide (2≤(c-a)) then(
  gd (in64 (c-1))<|
  uh N N (c-1) (up (up d c (ix d (c-1))) (c-1) (ix d c))) else(
  some (up (up d c (ix d (c-1))) (c-1) (ix d c)))) fun e=>
  gd (in64 (b-c))<|
  bif decide (2≤(b-c)) then(
  gd (in64 (c+1))<|
  ug N b c N (c+1) e) else(
  some (Ex.go (c,e)))))) fun h=>
  Ex.on h (fun g=>
  gd (in64 (f+1))<|
  uo N a b i g.1 (f+1) g.2) some) else(
  some (Ex.go d))
def yt(N:Nat)(data:List Int)(a:Int)(b:Int):Option (Bool×List Int):=
 gd (in64 (a+1))<|
 bd (
 uo N a b N (a+1) 0 data) fun c=>
 Ex.on c (fun d=>
 some (false,d)) some
def vz(N:Nat)(a:Int)(c:Int)(d:List Int):Nat→Int→Option Int
 |0,_=>none
 |e+1,b=>
  gd ((true&&((decide (b≤c))==true))=true→okI d a)<|
  gd ((true&&((decide (b≤c))==true))=true→okI d b)<|
  bd (gop (true&&((decide (b≤c))==true)) (yu N (ix d a) (ix d b))) fun f=>
  bif (decide (b≤c))&&(!(f.getD default)) then(
  gd (in64 (b+1))<|
  vz N a c d e (b+1)) else(
  some b)
def yc(N:Nat)(a:Int)(c:List Int)(d:Int):Nat→Int→Option Int
 |0,_=>none
 |e+1,b=>
  gd ((true&&((decide (d≤b))==true))=true→okI c a)<|
  gd ((true&&((decide (d≤b))==true))=true→okI c b)<|
  bd (gop (true&&((decide (d≤b))==true)) (yu N (ix c a) (ix c b))) fun f=>
  bif (decide (d≤b))&&(f.getD default) then(
  gd (in64 (b-1))<|
  yc N a c d e (b-1)) else(
  some b)
def yg(N:Nat)(a:Int):Nat→Int→Int→(List Int)→Option (Int×List Int)
 |0,_,_,_=>none
 |f+1,g,e,c=>
  bd (
  vz N a e c N g) fun d=>
  bd (
  yc N a c d N e) fun b=>
  bif decide (b<d) then(
  some (d,c)) else(
  gd (okI c b)<|
  gd (okI c d)<|
  gd (okI c d)<|
  gd (okI c b)<|
  gd (in64 (d+1))<|
  gd (in64 (b-1))<|
  yg N a f (d+1) (b-1) (up (up c d (ix c b)) b (ix c d)))
def il(N:Nat)(data:List Int)(a:Int)(b:Int)(pivot:Int):Option (Int×List Int):=
 gd (okI data pivot)<|
 gd (okI data a)<|
 gd (okI data a)<|
 gd (okI data pivot)<|
 gd (in64 (a+1))<|
 gd (in64 (b-1))<|
 bd (
 yg N a N (a+1) (b-1) (up (up data a (ix data pivot)) pivot (ix data a))) fun c=>
 some (c.1,c.2)
def gm(N:Nat)(data:List Int)(a:Int)(b:Int)(pivot:Int):Nat→Int→Option Int
 |0,_=>none
 |d+1,c=>
  gd ((true&&((decide (c≤(b-1)))==true))=true→okI (up (up data a (ix data pivot)) pivot (ix data a)) c)<|
  gd ((true&&((decide (c≤(b-1)))==true))=true→okI (up (up data a (ix data pivot)) pivot (ix data a)) a)<|
  bd (gop (true&&((decide (c≤(b-1)))==true)) (yu N (ix (up (up data a (ix data pivot)) pivot (ix data a)) c) (ix (up (up data a (ix data pivot)) pivot (ix data a)) a))) fun e=>
  bif (decide (c≤(b-1)))&&(e.getD default) then(
  gd (in64 (c+1))<|
  gm N data a b pivot d (c+1)) else(
  some c)
def xy(N:Nat)(data:List Int)(a:Int)(pivot:Int)(c:Int):Nat→Int→Option Int
 |0,_=>none
 |d+1,b=>
  gd ((true&&((decide (c≤b))==true))=true→okI (up (up data a (ix data pivot)) pivot (ix data a)) b)<|
  gd ((true&&((decide (c≤b))==true))=true→okI (up (up data a (ix data pivot)) pivot (ix data a)) a)<|
  bd (gop (true&&((decide (c≤b))==true)) (yu N (ix (up (up data a (ix data pivot)) pivot (ix data a)) b) (ix (up (up data a (ix data pivot)) pivot (ix data a)) a))) fun e=>
  bif (decide (c≤b))&&(!(e.getD default)) then(
  gd (in64 (b-1))<|
  xy N data a pivot c d (b-1)) else(
  some b)
def gp(N:Nat)(a:Int)(c:Int)(d:List Int):Nat→Int→Option Int
 |0,_=>none
 |e+1,b=>
  gd ((true&&((decide (b≤c))==true))=true→okI d b)<|
  gd ((true&&((decide (b≤c))==true))=true→okI d a)<|
  bd (gop (true&&((decide (b≤c))==true)) (yu N (ix d b) (ix d a))) fun f=>
  bif (decide (b≤c))&&(f.getD default) then(
  gd (in64 (b+1))<|
  gp N a c d e (b+1)) else(
  some b)
def xz(N:Nat)(a:Int)(c:List Int)(d:Int):Nat→Int→Option Int
 |0,_=>none
 |e+1,b=>
  gd ((true&&((decide (d≤b))==true))=true→okI c b)<|
  gd ((true&&((decide (d≤b))==true))=true→okI c a)<|
  bd (gop (true&&((decide (d≤b))==true)) (yu N (ix c b) (ix c a))) fun f=>
  bif (decide (d≤b))&&(!(f.getD default)) then(
  gd (in64 (b-1))<|
  xz N a c d e (b-1)) else(
  some b)
def xx(N:Nat)(a:Int):Nat→Int→Int→(List Int)→Option (Int×List Int)
 |0,_,_,_=>none
 |f+1,g,e,b=>
  bd (
  gp N a e b N g) fun c=>
  bd (
  xz N a b c N e) fun d=>
  bif decide (d<c) then(
  some (d,b)) else(
  gd (okI b d)<|
  gd (okI b c)<|
  gd (okI b c)<|
  gd (okI b d)<|
  gd (in64 (c+1))<|
  gd (in64 (d-1))<|
  xx N a f (c+1) (d-1) (up (up b c (ix b d)) d (ix b c)))
def z0c(N:Nat)(data:List Int)(a:Int)(b:Int)(pivot:Int):Option (Int×Bool×List Int):=
 gd (okI data pivot)<|
 gd (okI data a)<|
 gd (okI data a)<|
 gd (okI data pivot)<|
 gd (in64 (a+1))<|
 gd (in64 (b-1))<|
 bd (
 gm N data a b pivot N (a+1)) fun e=>
 bd (
 xy N data a pivot e N (b-1)) fun d=>
 bif decide (d<e) then(
 gd (okI (up (up data a (ix data pivot)) pivot (ix data a)) a)<|
 gd (okI (up (up data a (ix data pivot)) pivot (ix data a)) d)<|
 gd (okI (up (up data a (ix data pivot)) pivot (ix data a)) d)<|
 gd (okI (up (up data a (ix data pivot)) pivot (ix data a)) a)<|
 some (d,true,(up (up (up (up data a (ix data pivot)) pivot (ix data a)) d (ix (up (up data a (ix data pivot)) pivot (ix data a)) a)) a (ix (up (up data a (ix data pivot)) pivot (ix data a)) d)))) else(
 gd (okI (up (up data a (ix data pivot)) pivot (ix data a)) d)<|
 gd (okI (up (up data a (ix data pivot)) pivot (ix data a)) e)<|
 gd (okI (up (up data a (ix data pivot)) pivot (ix data a)) e)<|
 gd (okI (up (up data a (ix data pivot)) pivot (ix data a)) d)<|
 gd (in64 (e+1))<|
 gd (in64 (d-1))<|
 bd (
 xx N a N (e+1) (d-1) (up (up (up (up data a (ix data pivot)) pivot (ix data a)) e (ix (up (up data a (ix data pivot)) pivot (ix data a)) d)) d (ix (up (up data a (ix data pivot)) pivot (ix data a)) e))) fun c=>
 gd (okI c.2 a)<|
 gd (okI c.2 c.1)<|
 gd (okI c.2 c.1)<|
 gd (okI c.2 a)<|
 some (c.1,false,(up (up c.2 c.1 (ix c.2 a)) a (ix c.2 c.1))))
def vg(N:Nat)(self:List Int→Int→Int→Int→Option (List Int)):Nat→Int→Int→Int→Bool→Bool→(List Int)→Option (List Int)
 |0,_,_,_,_,_,_=>none
 |o+1,b,c,m,p,v,n=>
  gd (in64 (c-b))<|
  bif decide ((c-b)≤12) then(
  bd (ru N n b c) fun q=>
  some q) else(
  bif decide (m=0) then(
  bd (z0h N n b c) fun r=>
  some r) else(
  bd (
  bif !p then(
  bd (dm N n b c) fun s=>
  gd (in64 (m-1))<|
  some (m-1,s)) else(
  some (m,n))) fun d=>
  bd (lv N d.2 b c) fun f=>
  bd (
  bif decide (f.2=2) then(
  bd (nu N d.2 b c) fun t=>
  gd (in64 (c-1))<|
  gd (in64 (f.1-b))<|
  gd (in64 ((c-1)-(f.1-b)))<|
  some ((c-1)-(f.1-b),1,t)) else(
  some (f.1,f.2,d.2))) fun e=>
  bd (
  bif (p&&v)&&(decide (e.2.1=1)) then(
  bd (yt N e.2.2 b c) fun h=>
  bif h.1 then(
  some (Ex.rt h.2)) else(
  some (Ex.go h.2))) else(
  some (Ex.go e.2.2))) fun u=>
  Ex.on u (fun g=>
  gd ((true&&((decide (0<b))==true))=true→in64 (b-1))<|
  gd ((true&&((decide (0<b))==true))=true→okI g (b-1))<|
  gd ((true&&((decide (0<b))==true))=true→okI g e.1)<|
  bd (gop (true&&((decide (0<b))==true)) (yu N (ix g (b-1)) (ix g e.1))) fun j=>
  bif (decide (0<b))&&(!(j.getD default)) then(
  bd (il N g b c e.1) fun i=>
  vg N self o i.1 c d.1 p v i.2) else(
  bd (z0c N g b c e.1) fun a=>
  gd (in64 (a.1-b))<|
  gd (in64 (c-a.1))<|
  gd (okQ (c-b) 8)<|
  bif decide ((a.1-b)<(c-a.1)) then(
  bd (self a.2.2 b a.1 d.1) fun k=>
  gd (in64 (a.1+1))<|
  vg N self o (a.1+1) c d.1 (decide (((c-b)/8)≤(a.1-b))) a.2.1 k) else(
  gd (in64 (a.1+1))<|
  bd (self a.2.2 (a.1+1) c d.1) fun l=>
  vg N self o b a.1 d.1 (decide (((c-b)/8)≤(c-a.1))) a.2.1 l))) some))
def yh(N:Nat):Nat→List Int→Int→Int→Int→Option (List Int)
 |0,_,_,_,_=>none
 |F+1,data,a,b,limit=>
  vg N (yh N F) N a b limit true true data
def z5n(N:Nat)(x:List Int):Option (List Int):=
 bd (z6f N (IntKind.u64.wrap (↑x.length:Int))) fun a=>
 bd (yh N N x 0 (↑x.length:Int) a) fun b=>
 some b
def iq(N:Nat)(s:List Int)(a:Int):Nat→Int→Int→(List Int)→Option (Int×List Int)
 |0,_,_,_=>none
 |f+1,d,b,c=>
  bif decide (b<(↑(s.length-a.toNat:Nat):Int)) then(
  bd (
  gd (okA c a (s.length-a.toNat) b)<|
  gd (in64 (b-1))<|
  gd (okA c a (s.length-a.toNat) (b-1))<|
  bif decide ((ix c (a+b))≠(ix c (a+(b-1)))) then(
  gd (okA c a (s.length-a.toNat) b)<|
  gd (okI c d)<|
  gd (in64 (d+1))<|
  some (d+1,(up c d (ix c (a+b))))) else(
  some (d,c))) fun e=>
  gd (in64 (b+1))<|
  iq N s a f e.1 (b+1) e.2) else(
  some (d,c))
def ng(N:Nat)(s:List Int):Nat→Int→Option (Ex (Unit) ((List Int)))
 |0,_=>none
 |c+1,b=>
  bif decide (b<(↑s.length:Int)) then(
  gd (okI s b)<|
  gd (in64 (b-1))<|
  gd (okI s (b-1))<|
  bif decide ((ix s b)=(ix s (b-1))) then(
  gd (okS s b (↑s.length:Int))<|
  bd (
  iq N s b N b 1 s) fun a=>
  gd (okS a.2 a.1 (↑a.2.length:Int))<|
  gd (okS (z9r a.2 a.1.toNat (List.replicate (a.2.length-a.1.toNat) (0:Int))) 0 a.1)<|
  some (Ex.rt (cut (z9r a.2 a.1.toNat (List.replicate (a.2.length-a.1.toNat) (0:Int))) 0 a.1))) else(
  gd (in64 (b+1))<|
  ng N s c (b+1))) else(
  some (Ex.go ()))
def z3p(N:Nat)(s:List Int):Option (List Int):=
 bif decide ((↑s.length:Int)<2) then(
 some s) else(
 bd (
 ng N s N 1) fun a=>
 Ex.on a (fun b=>
 some s) some)
def z08(N:Nat)(g_:Sg)(l_:(List Int))(i:Int)(x16:Int):Nat→Int→(Arr 16 Int)→Option (Arr 16 Int)
 |0,_,_=>none
 |c+1,a,b=>
  bif decide (a<(↑g_.fK.rows.length:Int)) then(
  bd (
  gd (okI g_.fK.rows a)<|
  gd (okSh .u16 a)<|
  gd (okB .u16 (qg (ix l_ x16) a) 1)<|
  bif decide ((zn (qg (ix l_ x16) a) 1)=1) then(
  gd (okI (ix g_.fK.rows a) i)<|
  gd (okI b.1 ((ix (ix g_.fK.rows a) i).out))<|
  gd (okI (ix g_.fK.rows a) i)<|
  gd (okSh .u16 ((ix (ix g_.fK.rows a) i).to))<|
  gd (okB .u16 (ix b.1 ((ix (ix g_.fK.rows a) i).out)) (z0k .u16 (1:Int) ((ix (ix g_.fK.rows a) i).to)))<|
  gd (okI b.1 ((ix (ix g_.fK.rows a) i).out))<|
  some (zla b ((ix (ix g_.fK.rows a) i).out) (ior (ix b.1 ((ix (ix g_.fK.rows a) i).out)) (z0k .u16 (1:Int) ((ix (ix g_.fK.rows a) i).to))))) else(
  some b)) fun d=>
  gd (in64 (a+1))<|
  z08 N g_ l_ i x16 c (a+1) d) else(
  some b)
def z0a(N:Nat)(c:(Arr 16 Int)):Nat→Int→(List Int)→Option (List Int)
 |0,_,_=>none
 |d+1,a,b=>
  bif decide (a<16) then(
  bd (
  gd (okI c.1 a)<|
  bd (z2a N (ix c.1 a)) fun e=>
  bif decide (1<e) then(
  gd (fits 2 b ([(ix c.1 a)]:List Int))<|
  some (b++([(ix c.1 a)]:List Int))) else(
  some b)) fun f=>
  gd (in64 (a+1))<|
  z0a N c d (a+1) f) else(
  some b)
def z06(N:Nat)(g_:Sg)(l_:(List Int))(i:Int):Nat→(List Int)→Int→Option (List Int)
 |0,_,_=>none
 |b+1,a,x16=>
  bif decide (x16<(↑l_.length:Int)) then(
  bd (
  gd (okI l_ x16)<|
  bd (
  z08 N g_ l_ i x16 N 0 (zn9 16 (List.replicate 16 (0:Int)))) fun c=>
  z0a N c N 0 a) fun d=>
  gd (in64 (x16+1))<|
  z06 N g_ l_ i b d (x16+1)) else(
  some a)
def z0r(N:Nat)(g_:Sg)(l_:(List Int))(i:Int):Option (List Int):=
 bd (
 z06 N g_ l_ i N ([]:List Int) 0) fun c=>
 bd (z5n N c) fun a=>
 bd (z3p N a) fun b=>
 some b
def z11(N:Nat)(m:Mach):Option ((List Int)×Int):=
 bd (z3i N m) fun e=>
 bif decide (e≠0) then(
 some (([]:(List Int)),e)) else(
 bif decide (8<(↑m.rows.length:Int)) then(
 some (([]:(List Int)),3)) else(
 bd (za2 N m) fun c=>
 bd (
 bif decide ((↑m.rows.length:Int)=1) then(
 some ([]:List Int)) else(
 some ([c]:List Int))) fun d=>
 bd (z4f N m.inputs d (fun a=>z8u N a) (fun a=>z99 N a) (fun a f=>z0r N (⟨(⟨m.inputs,m.outputs,m.rows⟩:Mach)⟩:Sg) a f)) fun b=>
 some (b.1,b.2)))
def dx(N:Nat)(m:Mach):Nat→Int→(List Int)→Option (List Int)
 |0,_,_=>none
 |c+1,a,b=>
  bif decide (a<(↑m.rows.length:Int)) then(
  gd (okI b a)<|
  gd (in64 (a+1))<|
  dx N m c (a+1) (up b a (-1))) else(
  some b)
def ic(N:Nat)(m:Mach):Nat→(List (List Int))→Int→Option (List (List Int))
 |0,_,_=>none
 |c+1,x16,a=>
  bif decide (a<(↑m.rows.length:Int)) then(
  gd (okM 8 (↑m.rows.length:Int))<|
  bd (
  dx N m N 0 (mk (↑m.rows.length:Int) (0:Int))) fun b=>
  gd (okI b a)<|
  gd (fits 24 x16 [(up b a 0)])<|
  gd (in64 (a+1))<|
  ic N m c (x16++[(up b a 0)]) (a+1)) else(
  some x16)
def ax(N:Nat)(m:Mach)(e:Int)(a:Int)(c:Int):Nat→Int→(List (List Int))→Option (List (List Int))
 |0,_,_=>none
 |f+1,d,b=>
  bif decide (d<m.inputs) then(
  bd (
  gd (okI b a)<|
  gd (okI (ix b a) c)<|
  gd ((true&&((decide ((ix (ix b a) c)<0))==true))=true→okI m.rows a)<|
  gd ((true&&((decide ((ix (ix b a) c)<0))==true))=true→okI (ix m.rows a) d)<|
  gd ((true&&((decide ((ix (ix b a) c)<0))==true))=true→okI b ((ix (ix m.rows a) d).to))<|
  gd ((true&&((decide ((ix (ix b a) c)<0))==true))=true→okI m.rows c)<|
  gd ((true&&((decide ((ix (ix b a) c)<0))==true))=true→okI (ix m.rows c) d)<|
  gd ((true&&((decide ((ix (ix b a) c)<0))==true))=true→okI (ix b ((ix (ix m.rows a) d).to)) ((ix (ix m.rows c) d).to))<|
  gd ((true&&((decide ((ix (ix b a) c)<0))==true))=true→in64 (e-1))<|
  bif (decide ((ix (ix b a) c)<0))&&(decide ((ix (ix b ((ix (ix m.rows a) d).to)) ((ix (ix m.rows c) d).to))=(e-1))) then(
  gd (okI b a)<|
  gd (okI (ix b a) c)<|
  some (up b a (up (ix b a) c e))) else(
  some b)) fun g=>
  gd (in64 (d+1))<|
  ax N m e a c f (d+1) g) else(
  some b)
def ai(N:Nat)(m:Mach)(b:Int)(c:Int):Nat→Int→(List (List Int))→Option (List (List Int))
 |0,_,_=>none
 |e+1,a,d=>
  bif decide (a<(↑m.rows.length:Int)) then(
  bd (
  ax N m b c a N 0 d) fun f=>
  gd (in64 (a+1))<|
  ai N m b c e (a+1) f) else(
  some d)
def ah(N:Nat)(m:Mach)(b:Int):Nat→Int→(List (List Int))→Option (List (List Int))
 |0,_,_=>none
 |d+1,a,c=>
  bif decide (a<(↑m.rows.length:Int)) then(
  bd (
  ai N m b a N 0 c) fun e=>
  gd (in64 (a+1))<|
  ah N m b d (a+1) e) else(
  some c)
def oo(N:Nat)(m:Mach):Nat→Int→(List (List Int))→Option (List (List Int))
 |0,_,_=>none
 |c+1,a,b=>
  gd (in64 ((↑m.rows.length:Int)*(↑m.rows.length:Int)))<|
  bif decide (a≤((↑m.rows.length:Int)*(↑m.rows.length:Int))) then(
  bd (
  ah N m a N 0 b) fun d=>
  gd (in64 (a+1))<|
  oo N m c (a+1) d) else(
  some b)
def z4u(N:Nat)(m:Mach):Option (List (List Int)):=
 bd (
 ic N m N ([]:List (List Int)) 0) fun b=>
 bd (
 oo N m N 1 b) fun a=>
 some a
def z2k(N:Nat)(m:Mach)(s:Int)(i:Int):Option Edge:=
 bif decide (s<0) then(
 some (⟨(-1),(-1)⟩:Edge)) else(
 gd (okI m.rows s)<|
 gd (okI (ix m.rows s) i)<|
 some (⟨(ix (ix m.rows s) i).to,(ix (ix m.rows s) i).out⟩:Edge))
def iy(N:Nat)(m:Mach)(w_:(List Int)):Nat→Int→(List Int)→Int→Option (List Int)
 |0,_,_,_=>none
 |c+1,d,x16,a=>
  bif decide (a<(↑w_.length:Int)) then(
  gd (okI w_ a)<|
  bd (z2k N m d (ix w_ a)) fun b=>
  gd (fits 8 x16 ([b.out]:List Int))<|
  gd (in64 (a+1))<|
  iy N m w_ c b.to (x16++([b.out]:List Int)) (a+1)) else(
  some x16)
def ma(N:Nat)(m:Mach)(s:Int)(w_:(List Int)):Option (List Int):=
 bd (
 iy N m w_ N s ([]:List Int) 0) fun a=>
 some a
def dz(N:Nat)(a:(List Int))(b:(List Int)):Nat→Int→Option (Ex (Unit) (Int))
 |0,_=>none
 |d+1,c=>
  bif decide (c<(↑a.length:Int)) then(
  gd (okI a c)<|
  gd (okI b c)<|
  bif decide ((ix a c)<(ix b c)) then(
  some (Ex.rt (-1))) else(
  gd (okI a c)<|
  gd (okI b c)<|
  bif decide ((ix b c)<(ix a c)) then(
  some (Ex.rt 1)) else(
  gd (in64 (c+1))<|
  dz N a b d (c+1)))) else(
  some (Ex.go ()))
def z3m(N:Nat)(a:(List Int))(b:(List Int)):Option Int:=
 bif decide ((↑a.length:Int)<(↑b.length:Int)) then(
 some (-1)) else(
 bif decide ((↑b.length:Int)<(↑a.length:Int)) then(
 some 1) else(
 bd (
 dz N a b N 0) fun c=>
 Ex.on c (fun d=>
 some 0) some))
def z5o(N:Nat)(a:(List Int))(b:(List Int)):Option Bool:=
 bd (z3m N a b) fun c=>
 some (decide (c=0))
def z4b(N:Nat)(m:Mach)(w_:(List Int))(s:Int)(t:Int):Option Int:=
 bd (ma N m s w_) fun b=>
 bd (ma N m t w_) fun c=>
 bd (z5o N b c) fun a=>
 bif a then(
 some 0) else(
 some 1)
def tu(N:Nat)(inputs:Int):Nat→Int→(List Int)→Option (Ex (List Int) ((List Int)))
 |0,_,_=>none
 |c+1,a,b=>
  bif decide (0≤a) then(
  gd (okI b a)<|
  gd (in64 ((ix b a)+1))<|
  bif decide (((ix b a)+1)<inputs) then(
  gd (okI b a)<|
  gd (in64 ((ix b a)+1))<|
  gd (okI b a)<|
  some (Ex.rt (up b a ((ix b a)+1)))) else(
  gd (okI b a)<|
  gd (in64 (a-1))<|
  tu N inputs c (a-1) (up b a 0))) else(
  some (Ex.go b))
def z5d(N:Nat)(w_:(List Int))(inputs:Int):Option (List Int):=
 gd (fits 8 ([]:List Int) w_)<|
 bd (
 gd (in64 ((↑(([]:List Int)++w_).length:Int)-1))<|
 tu N inputs N ((↑(([]:List Int)++w_).length:Int)-1) (([]:List Int)++w_)) fun b=>
 Ex.on b (fun a=>
 gd (fits 8 a ([0]:List Int))<|
 some (a++([0]:List Int))) some
def pg(N:Nat)(m:Mach)(s:Int)(t:Int):Nat→(List Int)→Option (Ex (Unit) ((List Int)×Bool))
 |0,_=>none
 |b+1,a=>
  bif decide ((↑a.length:Int)<(max (↑m.rows.length:Int) 2)) then(
  bd (z4b N m a s t) fun c=>
  bif decide (c=1) then(
  some (Ex.rt (a,true))) else(
  bd (z5d N a m.inputs) fun d=>
  pg N m s t b d)) else(
  some (Ex.go ()))
def z2x(N:Nat)(m:Mach)(s:Int)(t:Int):Option ((List Int)×Bool):=
 bd (
 pg N m s t N ([]:List Int)) fun a=>
 Ex.on a (fun b=>
 some (([]:(List Int)),false)) some
def mg(N:Nat)(m:Mach)(apart:Bool)(c:(List (List Int)))(a:Int):Nat→Int→Option (Ex (Unit) (Ex (Unit) (Bool)))
 |0,_=>none
 |d+1,b=>
  bif decide (b<a) then(
  bd (z2x N m a b) fun e=>
  gd (okI c a)<|
  gd (okI (ix c a) b)<|
  bif (decide ((ix (ix c a) b)<0))&&(!(apart&&e.2)) then(
  some (Ex.rt (Ex.rt false))) else(
  gd (in64 (b+1))<|
  mg N m apart c a d (b+1))) else(
  some (Ex.go ()))
def tq(N:Nat)(m:Mach)(apart:Bool)(d:(List (List Int))):Nat→Int→Option (Ex (Unit) (Bool))
 |0,_=>none
 |b+1,a=>
  bif decide (a<(↑m.rows.length:Int)) then(
  bd (
  mg N m apart d a N 0) fun c=>
  Ex.on c (fun e=>
  gd (in64 (a+1))<|
  tq N m apart d b (a+1)) some) else(
  some (Ex.go ()))
def z0i(N:Nat)(m:Mach)(apart:Bool):Option Bool:=
 bd (z4u N m) fun b=>
 bd (
 tq N m apart b N 0) fun a=>
 Ex.on a (fun c=>
 some true) some
def ae(N:Nat)(inputs:Int)(x23:List (List Int))(a:Int):Nat→Int→(List (List Int))→Option (List (List Int))
 |0,_,_=>none
 |d+1,b,c=>
  bif decide (b<inputs) then(
  gd (okI x23 a)<|
  gd (fits 8 ([]:List Int) (ix x23 a))<|
  gd (fits 8 (([]:List Int)++(ix x23 a)) ([b]:List Int))<|
  gd (fits 24 c ([((([]:List Int)++(ix x23 a))++([b]:List Int))]:List (List Int)))<|
  gd (in64 (b+1))<|
  ae N inputs x23 a d (b+1) (c++([((([]:List Int)++(ix x23 a))++([b]:List Int))]:List (List Int)))) else(
  some c)
def ow(N:Nat)(inputs:Int)(x23:List (List Int)):Nat→(List (List Int))→Int→Option (List (List Int))
 |0,_,_=>none
 |c+1,b,a=>
  bif decide (a<(↑x23.length:Int)) then(
  bd (
  ae N inputs x23 a N 0 b) fun d=>
  gd (in64 (a+1))<|
  ow N inputs x23 c d (a+1)) else(
  some b)
def ig(N:Nat)(inputs:Int)(k:Int):Nat→(List (List Int))→Int→Option (List (List Int))
 |0,_,_=>none
 |b+1,x23,a=>
  bif decide (a<k) then(
  bd (
  ow N inputs x23 N ([]:List (List Int)) 0) fun c=>
  gd (in64 (a+1))<|
  ig N inputs k b c (a+1)) else(
  some x23)
def z4o(N:Nat)(inputs:Int)(k:Int):Option (List (List Int)):=
 bd (
 ig N inputs k N ([([]:List Int)]:List (List Int)) 0) fun a=>
 some a
def rz(N:Nat)(inputs:Int)(k:Int):Nat→(List (List Int))→Int→Option (List (List Int))
 |0,_,_=>none
 |d+1,b,a=>
  bif decide (a≤k) then(
  bd (z4o N inputs a) fun c=>
  gd (fits 24 b c)<|
  gd (in64 (a+1))<|
  rz N inputs k d (b++c) (a+1)) else(
  some b)
def z1h(N:Nat)(inputs:Int)(k:Int):Option (List (List Int)):=
 bd (
 rz N inputs k N ([]:List (List Int)) 0) fun a=>
 some a
def vo(N:Nat):Nat→Mach→Int→(List Int)→Option Int
 |0,_,_,_=>none
 |F+1,m,s,w_=>
  bif decide ((↑w_.length:Int)=0) then(
  some s) else(
  gd (okI w_ 0)<|
  bd (z2k N m s (ix w_ 0)) fun b=>
  gd (okS w_ 1 (↑w_.length:Int))<|
  bd ((vo N F) m b.to (cut w_ 1 (↑w_.length:Int))) fun a=>
  some a)
def ol(N:Nat)(m:Mach)(w_:(List Int)):Nat→Int→Option (Ex (Unit) (Bool))
 |0,_=>none
 |b+1,a=>
  bif decide (a<(↑m.rows.length:Int)) then(
  bd (vo N N m a w_) fun c=>
  bd (vo N N m 0 w_) fun d=>
  bif decide (c≠d) then(
  some (Ex.rt false)) else(
  gd (in64 (a+1))<|
  ol N m w_ b (a+1))) else(
  some (Ex.go ()))
def o8(N:Nat)(m:Mach)(w_:(List Int)):Option Bool:=
 bd (
 ol N m w_ N 0) fun a=>
 Ex.on a (fun b=>
 some true) some
def fq(N:Nat)(m:Mach)(b:(List (List Int))):Nat→Int→Option (Ex (Unit) ((List Int)×Bool))
 |0,_=>none
 |c+1,a=>
  bif decide (a<(↑b.length:Int)) then(
  gd (okI b a)<|
  bd (o8 N m (ix b a)) fun d=>
  bif d then(
  gd (okI b a)<|
  some (Ex.rt ((ix b a),true))) else(
  gd (in64 (a+1))<|
  fq N m b c (a+1))) else(
  some (Ex.go ()))
def z3s(N:Nat)(m:Mach)(k:Int):Option ((List Int)×Bool):=
 bd (z1h N m.inputs k) fun a=>
 bd (
 fq N m a N 0) fun b=>
 Ex.on b (fun c=>
 some (([]:(List Int)),false)) some
def nk(N:Nat)(a:(List Int))(b:(List Int)):Nat→Int→Option (Ex (Unit) (Int))
 |0,_=>none
 |d+1,c=>
  bif decide (c<(↑a.length:Int)) then(
  gd (okI a c)<|
  gd (okI b c)<|
  bif decide ((ix a c)<(ix b c)) then(
  some (Ex.rt (-1))) else(
  gd (okI a c)<|
  gd (okI b c)<|
  bif decide ((ix b c)<(ix a c)) then(
  some (Ex.rt 1)) else(
  gd (in64 (c+1))<|
  nk N a b d (c+1)))) else(
  some (Ex.go ()))
def z0u(N:Nat)(a:(List Int))(b:(List Int)):Option Int:=
 bif decide ((↑a.length:Int)≠(↑b.length:Int)) then(
 bif decide ((↑a.length:Int)<(↑b.length:Int)) then(
 some (-1)) else(
 some 1)) else(
 bd (
 nk N a b N 0) fun c=>
 Ex.on c (fun d=>
 some 0) some)
def fw(N:Nat)(a:(List (List Int)))(b:(List (List Int))):Nat→Int→Option (Ex (Unit) (Bool))
 |0,_=>none
 |e+1,c=>
  bif decide (c<(↑a.length:Int)) then(
  gd (okI a c)<|
  gd (okI b c)<|
  bd (z0u N (ix a c) (ix b c)) fun d=>
  bif decide (d≠0) then(
  some (Ex.rt false)) else(
  gd (in64 (c+1))<|
  fw N a b e (c+1))) else(
  some (Ex.go ()))
def z3u(N:Nat)(a:(List (List Int)))(b:(List (List Int))):Option Bool:=
 bif decide ((↑a.length:Int)≠(↑b.length:Int)) then(
 some false) else(
 bd (
 fw N a b N 0) fun c=>
 Ex.on c (fun d=>
 some true) some)
def z1b(N:Nat)(a:(List Int))(b:(List Int)):Option Bool:=
 bd (z3u N ([a]:List (List Int)) ([b]:List (List Int))) fun c=>
 some c
def eu(N:Nat)(m:Mach)(w_:(List Int))(b:Int):Nat→Int→Option (Ex (Unit) (Ex (Unit) (Bool)))
 |0,_=>none
 |d+1,a=>
  bif decide (a<b) then(
  bd (ma N m b w_) fun e=>
  bd (ma N m a w_) fun f=>
  bd (z1b N e f) fun c=>
  bd (gop (true&&(c==true)) (vo N N m b w_)) fun g=>
  bd (gop (true&&(c==true)) (vo N N m a w_)) fun h=>
  bif c&&(decide ((g.getD default)≠(h.getD default))) then(
  some (Ex.rt (Ex.rt false))) else(
  gd (in64 (a+1))<|
  eu N m w_ b d (a+1))) else(
  some (Ex.go ()))
def af(N:Nat)(m:Mach)(w_:(List Int)):Nat→Int→Option (Ex (Unit) (Bool))
 |0,_=>none
 |b+1,a=>
  bif decide (a<(↑m.rows.length:Int)) then(
  bd (
  eu N m w_ a N 0) fun c=>
  Ex.on c (fun d=>
  gd (in64 (a+1))<|
  af N m w_ b (a+1)) some) else(
  some (Ex.go ()))
def vk(N:Nat)(m:Mach)(w_:(List Int)):Option Bool:=
 bd (
 af N m w_ N 0) fun a=>
 Ex.on a (fun b=>
 some true) some
def mi(N:Nat)(m:Mach)(b:(List (List Int))):Nat→Int→Option (Ex (Unit) ((List Int)×Bool))
 |0,_=>none
 |c+1,a=>
  bif decide (a<(↑b.length:Int)) then(
  gd (okI b a)<|
  bd (vk N m (ix b a)) fun d=>
  bif d then(
  gd (okI b a)<|
  some (Ex.rt ((ix b a),true))) else(
  gd (in64 (a+1))<|
  mi N m b c (a+1))) else(
  some (Ex.go ()))
def z2o(N:Nat)(m:Mach)(k:Int):Option ((List Int)×Bool):=
 bd (z1h N m.inputs k) fun a=>
 bd (
 mi N m a N 0) fun b=>
 Ex.on b (fun c=>
 some (([]:(List Int)),false)) some
def uq(N:Nat)(a:(List Int))(b:(List Int)):Option Bool:=
 bd (z3u N ([a]:List (List Int)) ([b]:List (List Int))) fun c=>
 some (c&&(decide ((↑a.length:Int)=(↑a.length:Int))))
def z7b(N:Nat):Option (Mach×Mach):=
 some ((⟨2,2,([([(⟨1,0⟩:Edge),(⟨0,0⟩:Edge)]:List Edge),([(⟨2,0⟩:Edge),(⟨1,1⟩:Edge)]:List Edge),([(⟨0,1⟩:Edge),(⟨2,0⟩:Edge)]:List Edge)]:List (List Edge))⟩:Mach),(⟨2,1,([([(⟨1,0⟩:Edge),(⟨0,0⟩:Edge)]:List Edge),([(⟨2,0⟩:Edge),(⟨0,0⟩:Edge)]:List Edge),([(⟨2,0⟩:Edge),(⟨0,0⟩:Edge)]:List Edge)]:List (List Edge))⟩:Mach))
def z7l(N:Nat)(x:Int):Option Int:=
 gd (okSh .u64 (1:Int))<|
 gd (okB .u64 (qg x (1:Int)) 6148914691236517205)<|
 gd (okB .u64 x 6148914691236517205)<|
 gd (okSh .u64 (2:Int))<|
 gd (okB .u64 (qg (IntKind.u64.wrap ((zn (qg x (1:Int)) 6148914691236517205)+(zn x 6148914691236517205))) (2:Int)) 3689348814741910323)<|
 gd (okB .u64 (IntKind.u64.wrap ((zn (qg x (1:Int)) 6148914691236517205)+(zn x 6148914691236517205))) 3689348814741910323)<|
 gd (okSh .u64 (4:Int))<|
 gd (okB .u64 (IntKind.u64.wrap ((qg (IntKind.u64.wrap ((zn (qg (IntKind.u64.wrap ((zn (qg x (1:Int)) 6148914691236517205)+(zn x 6148914691236517205))) (2:Int)) 3689348814741910323)+(zn (IntKind.u64.wrap ((zn (qg x (1:Int)) 6148914691236517205)+(zn x 6148914691236517205))) 3689348814741910323))) (4:Int))+(IntKind.u64.wrap ((zn (qg (IntKind.u64.wrap ((zn (qg x (1:Int)) 6148914691236517205)+(zn x 6148914691236517205))) (2:Int)) 3689348814741910323)+(zn (IntKind.u64.wrap ((zn (qg x (1:Int)) 6148914691236517205)+(zn x 6148914691236517205))) 3689348814741910323))))) 1085102592571150095)<|
 gd (okSh .u64 (8:Int))<|
 gd (okSh .u64 (16:Int))<|
 gd (okSh .u64 (32:Int))<|
 gd (in64 (IntKind.u64.wrap ((IntKind.u64.wrap ((IntKind.u64.wrap ((zn (IntKind.u64.wrap ((qg (IntKind.u64.wrap ((zn (qg (IntKind.u64.wrap ((zn (qg x (1:Int)) 6148914691236517205)+(zn x 6148914691236517205))) (2:Int)) 3689348814741910323)+(zn (IntKind.u64.wrap ((zn (qg x (1:Int)) 6148914691236517205)+(zn x 6148914691236517205))) 3689348814741910323))) (4:Int))+(IntKind.u64.wrap ((zn (qg (IntKind.u64.wrap ((zn (qg x (1:Int)) 6148914691236517205)+(zn x 6148914691236517205))) (2:Int)) 3689348814741910323)+(zn (IntKind.u64.wrap ((zn (qg x (1:Int)) 6148914691236517205)+(zn x 6148914691236517205))) 3689348814741910323))))) 1085102592571150095)+(qg (zn (IntKind.u64.wrap ((qg (IntKind.u64.wrap ((zn (qg (IntKind.u64.wrap ((zn (qg x (1:Int)) 6148914691236517205)+(zn x 6148914691236517205))) (2:Int)) 3689348814741910323)+(zn (IntKind.u64.wrap ((zn (qg x (1:Int)) 6148914691236517205)+(zn x 6148914691236517205))) 3689348814741910323))) (4:Int))+(IntKind.u64.wrap ((zn (qg (IntKind.u64.wrap ((zn (qg x (1:Int)) 6148914691236517205)+(zn x 6148914691236517205))) (2:Int)) 3689348814741910323)+(zn (IntKind.u64.wrap ((zn (qg x (1:Int)) 6148914691236517205)+(zn x 6148914691236517205))) 3689348814741910323))))) 1085102592571150095) (8:Int))))+(qg (IntKind.u64.wrap ((zn (IntKind.u64.wrap ((qg (IntKind.u64.wrap ((zn (qg (IntKind.u64.wrap ((zn (qg x (1:Int)) 6148914691236517205)+(zn x 6148914691236517205))) (2:Int)) 3689348814741910323)+(zn (IntKind.u64.wrap ((zn (qg x (1:Int)) 6148914691236517205)+(zn x 6148914691236517205))) 3689348814741910323))) (4:Int))+(IntKind.u64.wrap ((zn (qg (IntKind.u64.wrap ((zn (qg x (1:Int)) 6148914691236517205)+(zn x 6148914691236517205))) (2:Int)) 3689348814741910323)+(zn (IntKind.u64.wrap ((zn (qg x (1:Int)) 6148914691236517205)+(zn x 6148914691236517205))) 3689348814741910323))))) 1085102592571150095)+(qg (zn (IntKind.u64.wrap ((qg (IntKind.u64.wrap ((zn (qg (IntKind.u64.wrap ((zn (qg x (1:Int)) 6148914691236517205)+(zn x 6148914691236517205))) (2:Int)) 3689348814741910323)+(zn (IntKind.u64.wrap ((zn (qg x (1:Int)) 6148914691236517205)+(zn x 6148914691236517205))) 3689348814741910323))) (4:Int))+(IntKind.u64.wrap ((zn (qg (IntKind.u64.wrap ((zn (qg x (1:Int)) 6148914691236517205)+(zn x 6148914691236517205))) (2:Int)) 3689348814741910323)+(zn (IntKind.u64.wrap ((zn (qg x (1:Int)) 6148914691236517205)+(zn x 6148914691236517205))) 3689348814741910323))))) 1085102592571150095) (8:Int)))) (16:Int))))+(qg (IntKind.u64.wrap ((IntKind.u64.wrap ((zn (IntKind.u64.wrap ((qg (IntKind.u64.wrap ((zn (qg (IntKind.u64.wrap ((zn (qg x (1:Int)) 6148914691236517205)+(zn x 6148914691236517205))) (2:Int)) 3689348814741910323)+(zn (IntKind.u64.wrap ((zn (qg x (1:Int)) 6148914691236517205)+(zn x 6148914691236517205))) 3689348814741910323))) (4:Int))+(IntKind.u64.wrap ((zn (qg (IntKind.u64.wrap ((zn (qg x (1:Int)) 6148914691236517205)+(zn x 6148914691236517205))) (2:Int)) 3689348814741910323)+(zn (IntKind.u64.wrap ((zn (qg x (1:Int)) 6148914691236517205)+(zn x 6148914691236517205))) 3689348814741910323))))) 1085102592571150095)+(qg (zn (IntKind.u64.wrap ((qg (IntKind.u64.wrap ((zn (qg (IntKind.u64.wrap ((zn (qg x (1:Int)) 6148914691236517205)+(zn x 6148914691236517205))) (2:Int)) 3689348814741910323)+(zn (IntKind.u64.wrap ((zn (qg x (1:Int)) 6148914691236517205)+(zn x 6148914691236517205))) 3689348814741910323))) (4:Int))+(IntKind.u64.wrap ((zn (qg (IntKind.u64.wrap ((zn (qg x (1:Int)) 6148914691236517205)+(zn x 6148914691236517205))) (2:Int)) 3689348814741910323)+(zn (IntKind.u64.wrap ((zn (qg x (1:Int)) 6148914691236517205)+(zn x 6148914691236517205))) 3689348814741910323))))) 1085102592571150095) (8:Int))))+(qg (IntKind.u64.wrap ((zn (IntKind.u64.wrap ((qg (IntKind.u64.wrap ((zn (qg (IntKind.u64.wrap ((zn (qg x (1:Int)) 6148914691236517205)+(zn x 6148914691236517205))) (2:Int)) 3689348814741910323)+(zn (IntKind.u64.wrap ((zn (qg x (1:Int)) 6148914691236517205)+(zn x 6148914691236517205))) 3689348814741910323))) (4:Int))+(IntKind.u64.wrap ((zn (qg (IntKind.u64.wrap ((zn (qg x (1:Int)) 6148914691236517205)+(zn x 6148914691236517205))) (2:Int)) 3689348814741910323)+(zn (IntKind.u64.wrap ((zn (qg x (1:Int)) 6148914691236517205)+(zn x 6148914691236517205))) 3689348814741910323))))) 1085102592571150095)+(qg (zn (IntKind.u64.wrap ((qg (IntKind.u64.wrap ((zn (qg (IntKind.u64.wrap ((zn (qg x (1:Int)) 6148914691236517205)+(zn x 6148914691236517205))) (2:Int)) 3689348814741910323)+(zn (IntKind.u64.wrap ((zn (qg x (1:Int)) 6148914691236517205)+(zn x 6148914691236517205))) 3689348814741910323))) (4:Int))+(IntKind.u64.wrap ((zn (qg (IntKind.u64.wrap ((zn (qg x (1:Int)) 6148914691236517205)+(zn x 6148914691236517205))) (2:Int)) 3689348814741910323)+(zn (IntKind.u64.wrap ((zn (qg x (1:Int)) 6148914691236517205)+(zn x 6148914691236517205))) 3689348814741910323))))) 1085102592571150095) (8:Int)))) (16:Int)))) (32:Int)))))<|
 gd (okB .i64 (IntKind.u64.wrap ((IntKind.u64.wrap ((IntKind.u64.wrap ((zn (IntKind.u64.wrap ((qg (IntKind.u64.wrap ((zn (qg (IntKind.u64.wrap ((zn (qg x (1:Int)) 6148914691236517205)+(zn x 6148914691236517205))) (2:Int)) 3689348814741910323)+(zn (IntKind.u64.wrap ((zn (qg x (1:Int)) 6148914691236517205)+(zn x 6148914691236517205))) 3689348814741910323))) (4:Int))+(IntKind.u64.wrap ((zn (qg (IntKind.u64.wrap ((zn (qg x (1:Int)) 6148914691236517205)+(zn x 6148914691236517205))) (2:Int)) 3689348814741910323)+(zn (IntKind.u64.wrap ((zn (qg x (1:Int)) 6148914691236517205)+(zn x 6148914691236517205))) 3689348814741910323))))) 1085102592571150095)+(qg (zn (IntKind.u64.wrap ((qg (IntKind.u64.wrap ((zn (qg (IntKind.u64.wrap ((zn (qg x (1:Int)) 6148914691236517205)+(zn x 6148914691236517205))) (2:Int)) 3689348814741910323)+(zn (IntKind.u64.wrap ((zn (qg x (1:Int)) 6148914691236517205)+(zn x 6148914691236517205))) 3689348814741910323))) (4:Int))+(IntKind.u64.wrap ((zn (qg (IntKind.u64.wrap ((zn (qg x (1:Int)) 6148914691236517205)+(zn x 6148914691236517205))) (2:Int)) 3689348814741910323)+(zn (IntKind.u64.wrap ((zn (qg x (1:Int)) 6148914691236517205)+(zn x 6148914691236517205))) 3689348814741910323))))) 1085102592571150095) (8:Int))))+(qg (IntKind.u64.wrap ((zn (IntKind.u64.wrap ((qg (IntKind.u64.wrap ((zn (qg (IntKind.u64.wrap ((zn (qg x (1:Int)) 6148914691236517205)+(zn x 6148914691236517205))) (2:Int)) 3689348814741910323)+(zn (IntKind.u64.wrap ((zn (qg x (1:Int)) 6148914691236517205)+(zn x 6148914691236517205))) 3689348814741910323))) (4:Int))+(IntKind.u64.wrap ((zn (qg (IntKind.u64.wrap ((zn (qg x (1:Int)) 6148914691236517205)+(zn x 6148914691236517205))) (2:Int)) 3689348814741910323)+(zn (IntKind.u64.wrap ((zn (qg x (1:Int)) 6148914691236517205)+(zn x 6148914691236517205))) 3689348814741910323))))) 1085102592571150095)+(qg (zn (IntKind.u64.wrap ((qg (IntKind.u64.wrap ((zn (qg (IntKind.u64.wrap ((zn (qg x (1:Int)) 6148914691236517205)+(zn x 6148914691236517205))) (2:Int)) 3689348814741910323)+(zn (IntKind.u64.wrap ((zn (qg x (1:Int)) 6148914691236517205)+(zn x 6148914691236517205))) 3689348814741910323))) (4:Int))+(IntKind.u64.wrap ((zn (qg (IntKind.u64.wrap ((zn (qg x (1:Int)) 6148914691236517205)+(zn x 6148914691236517205))) (2:Int)) 3689348814741910323)+(zn (IntKind.u64.wrap ((zn (qg x (1:Int)) 6148914691236517205)+(zn x 6148914691236517205))) 3689348814741910323))))) 1085102592571150095) (8:Int)))) (16:Int))))+(qg (IntKind.u64.wrap ((IntKind.u64.wrap ((zn (IntKind.u64.wrap ((qg (IntKind.u64.wrap ((zn (qg (IntKind.u64.wrap ((zn (qg x (1:Int)) 6148914691236517205)+(zn x 6148914691236517205))) (2:Int)) 3689348814741910323)+(zn (IntKind.u64.wrap ((zn (qg x (1:Int)) 6148914691236517205)+(zn x 6148914691236517205))) 3689348814741910323))) (4:Int))+(IntKind.u64.wrap ((zn (qg (IntKind.u64.wrap ((zn (qg x (1:Int)) 6148914691236517205)+(zn x 6148914691236517205))) (2:Int)) 3689348814741910323)+(zn (IntKind.u64.wrap ((zn (qg x (1:Int)) 6148914691236517205)+(zn x 6148914691236517205))) 3689348814741910323))))) 1085102592571150095)+(qg (zn (IntKind.u64.wrap ((qg (IntKind.u64.wrap ((zn (qg (IntKind.u64.wrap ((zn (qg x (1:Int)) 6148914691236517205)+(zn x 6148914691236517205))) (2:Int)) 3689348814741910323)+(zn (IntKind.u64.wrap ((zn (qg x (1:Int)) 6148914691236517205)+(zn x 6148914691236517205))) 3689348814741910323))) (4:Int))+(IntKind.u64.wrap ((zn (qg (IntKind.u64.wrap ((zn (qg x (1:Int)) 6148914691236517205)+(zn x 6148914691236517205))) (2:Int)) 3689348814741910323)+(zn (IntKind.u64.wrap ((zn (qg x (1:Int)) 6148914691236517205)+(zn x 6148914691236517205))) 3689348814741910323))))) 1085102592571150095) (8:Int))))+(qg (IntKind.u64.wrap ((zn (IntKind.u64.wrap ((qg (IntKind.u64.wrap ((zn (qg (IntKind.u64.wrap ((zn (qg x (1:Int)) 6148914691236517205)+(zn x 6148914691236517205))) (2:Int)) 3689348814741910323)+(zn (IntKind.u64.wrap ((zn (qg x (1:Int)) 6148914691236517205)+(zn x 6148914691236517205))) 3689348814741910323))) (4:Int))+(IntKind.u64.wrap ((zn (qg (IntKind.u64.wrap ((zn (qg x (1:Int)) 6148914691236517205)+(zn x 6148914691236517205))) (2:Int)) 3689348814741910323)+(zn (IntKind.u64.wrap ((zn (qg x (1:Int)) 6148914691236517205)+(zn x 6148914691236517205))) 3689348814741910323))))) 1085102592571150095)+(qg (zn (IntKind.u64.wrap ((qg (IntKind.u64.wrap ((zn (qg (IntKind.u64.wrap ((zn (qg x (1:Int)) 6148914691236517205)+(zn x 6148914691236517205))) (2:Int)) 3689348814741910323)+(zn (IntKind.u64.wrap ((zn (qg x (1:Int)) 6148914691236517205)+(zn x 6148914691236517205))) 3689348814741910323))) (4:Int))+(IntKind.u64.wrap ((zn (qg (IntKind.u64.wrap ((zn (qg x (1:Int)) 6148914691236517205)+(zn x 6148914691236517205))) (2:Int)) 3689348814741910323)+(zn (IntKind.u64.wrap ((zn (qg x (1:Int)) 6148914691236517205)+(zn x 6148914691236517205))) 3689348814741910323))))) 1085102592571150095) (8:Int)))) (16:Int)))) (32:Int)))) 127)<|
 some (zn (IntKind.u64.wrap ((IntKind.u64.wrap ((IntKind.u64.wrap ((zn (IntKind.u64.wrap ((qg (IntKind.u64.wrap ((zn (qg (IntKind.u64.wrap ((zn (qg x (1:Int)) 6148914691236517205)+(zn x 6148914691236517205))) (2:Int)) 3689348814741910323)+(zn (IntKind.u64.wrap ((zn (qg x (1:Int)) 6148914691236517205)+(zn x 6148914691236517205))) 3689348814741910323))) (4:Int))+(IntKind.u64.wrap ((zn (qg (IntKind.u64.wrap ((zn (qg x (1:Int)) 6148914691236517205)+(zn x 6148914691236517205))) (2:Int)) 3689348814741910323)+(zn (IntKind.u64.wrap ((zn (qg x (1:Int)) 6148914691236517205)+(zn x 6148914691236517205))) 3689348814741910323))))) 1085102592571150095)+(qg (zn (IntKind.u64.wrap ((qg (IntKind.u64.wrap ((zn (qg (IntKind.u64.wrap ((zn (qg x (1:Int)) 6148914691236517205)+(zn x 6148914691236517205))) (2:Int)) 3689348814741910323)+(zn (IntKind.u64.wrap ((zn (qg x (1:Int)) 6148914691236517205)+(zn x 6148914691236517205))) 3689348814741910323))) (4:Int))+(IntKind.u64.wrap ((zn (qg (IntKind.u64.wrap ((zn (qg x (1:Int)) 6148914691236517205)+(zn x 6148914691236517205))) (2:Int)) 3689348814741910323)+(zn (IntKind.u64.wrap ((zn (qg x (1:Int)) 6148914691236517205)+(zn x 6148914691236517205))) 3689348814741910323))))) 1085102592571150095) (8:Int))))+(qg (IntKind.u64.wrap ((zn (IntKind.u64.wrap ((qg (IntKind.u64.wrap ((zn (qg (IntKind.u64.wrap ((zn (qg x (1:Int)) 6148914691236517205)+(zn x 6148914691236517205))) (2:Int)) 3689348814741910323)+(zn (IntKind.u64.wrap ((zn (qg x (1:Int)) 6148914691236517205)+(zn x 6148914691236517205))) 3689348814741910323))) (4:Int))+(IntKind.u64.wrap ((zn (qg (IntKind.u64.wrap ((zn (qg x (1:Int)) 6148914691236517205)+(zn x 6148914691236517205))) (2:Int)) 3689348814741910323)+(zn (IntKind.u64.wrap ((zn (qg x (1:Int)) 6148914691236517205)+(zn x 6148914691236517205))) 3689348814741910323))))) 1085102592571150095)+(qg (zn (IntKind.u64.wrap ((qg (IntKind.u64.wrap ((zn (qg (IntKind.u64.wrap ((zn (qg x (1:Int)) 6148914691236517205)+(zn x 6148914691236517205))) (2:Int)) 3689348814741910323)+(zn (IntKind.u64.wrap ((zn (qg x (1:Int)) 6148914691236517205)+(zn x 6148914691236517205))) 3689348814741910323))) (4:Int))+(IntKind.u64.wrap ((zn (qg (IntKind.u64.wrap ((zn (qg x (1:Int)) 6148914691236517205)+(zn x 6148914691236517205))) (2:Int)) 3689348814741910323)+(zn (IntKind.u64.wrap ((zn (qg x (1:Int)) 6148914691236517205)+(zn x 6148914691236517205))) 3689348814741910323))))) 1085102592571150095) (8:Int)))) (16:Int))))+(qg (IntKind.u64.wrap ((IntKind.u64.wrap ((zn (IntKind.u64.wrap ((qg (IntKind.u64.wrap ((zn (qg (IntKind.u64.wrap ((zn (qg x (1:Int)) 6148914691236517205)+(zn x 6148914691236517205))) (2:Int)) 3689348814741910323)+(zn (IntKind.u64.wrap ((zn (qg x (1:Int)) 6148914691236517205)+(zn x 6148914691236517205))) 3689348814741910323))) (4:Int))+(IntKind.u64.wrap ((zn (qg (IntKind.u64.wrap ((zn (qg x (1:Int)) 6148914691236517205)+(zn x 6148914691236517205))) (2:Int)) 3689348814741910323)+(zn (IntKind.u64.wrap ((zn (qg x (1:Int)) 6148914691236517205)+(zn x 6148914691236517205))) 3689348814741910323))))) 1085102592571150095)+(qg (zn (IntKind.u64.wrap ((qg (IntKind.u64.wrap ((zn (qg (IntKind.u64.wrap ((zn (qg x (1:Int)) 6148914691236517205)+(zn x 6148914691236517205))) (2:Int)) 3689348814741910323)+(zn (IntKind.u64.wrap ((zn (qg x (1:Int)) 6148914691236517205)+(zn x 6148914691236517205))) 3689348814741910323))) (4:Int))+(IntKind.u64.wrap ((zn (qg (IntKind.u64.wrap ((zn (qg x (1:Int)) 6148914691236517205)+(zn x 6148914691236517205))) (2:Int)) 3689348814741910323)+(zn (IntKind.u64.wrap ((zn (qg x (1:Int)) 6148914691236517205)+(zn x 6148914691236517205))) 3689348814741910323))))) 1085102592571150095) (8:Int))))+(qg (IntKind.u64.wrap ((zn (IntKind.u64.wrap ((qg (IntKind.u64.wrap ((zn (qg (IntKind.u64.wrap ((zn (qg x (1:Int)) 6148914691236517205)+(zn x 6148914691236517205))) (2:Int)) 3689348814741910323)+(zn (IntKind.u64.wrap ((zn (qg x (1:Int)) 6148914691236517205)+(zn x 6148914691236517205))) 3689348814741910323))) (4:Int))+(IntKind.u64.wrap ((zn (qg (IntKind.u64.wrap ((zn (qg x (1:Int)) 6148914691236517205)+(zn x 6148914691236517205))) (2:Int)) 3689348814741910323)+(zn (IntKind.u64.wrap ((zn (qg x (1:Int)) 6148914691236517205)+(zn x 6148914691236517205))) 3689348814741910323))))) 1085102592571150095)+(qg (zn (IntKind.u64.wrap ((qg (IntKind.u64.wrap ((zn (qg (IntKind.u64.wrap ((zn (qg x (1:Int)) 6148914691236517205)+(zn x 6148914691236517205))) (2:Int)) 3689348814741910323)+(zn (IntKind.u64.wrap ((zn (qg x (1:Int)) 6148914691236517205)+(zn x 6148914691236517205))) 3689348814741910323))) (4:Int))+(IntKind.u64.wrap ((zn (qg (IntKind.u64.wrap ((zn (qg x (1:Int)) 6148914691236517205)+(zn x 6148914691236517205))) (2:Int)) 3689348814741910323)+(zn (IntKind.u64.wrap ((zn (qg x (1:Int)) 6148914691236517205)+(zn x 6148914691236517205))) 3689348814741910323))))) 1085102592571150095) (8:Int)))) (16:Int)))) (32:Int)))) 127)
def z4p(N:Nat)(x:Int):Option Int:=
 bd (z7l N x) fun a=>
 some a
def z4t(N:Nat)(s:(List Bool)):Option (List Bool):=
 gd (fits 1 ([]:List Bool) s)<|
 some (([]:List Bool)++s)
def gz(N:Nat)(s:(List Int))(f:Int→Option Bool):Nat→Int→Option (Ex (Unit) (Int))
 |0,_=>none
 |c+1,a=>
  bif decide (a<(↑s.length:Int)) then(
  gd (okI s a)<|
  bd (f (ix s a)) fun b=>
  bif b then(
  some (Ex.rt a)) else(
  gd (in64 (a+1))<|
  gz N s f c (a+1))) else(
  some (Ex.go ()))
def z4l(N:Nat)(s:(List Int))(f:Int→Option Bool):Option Int:=
 bd (
 gz N s f N 0) fun a=>
 Ex.on a (fun b=>
 some (-1)) some
def z0e(N:Nat)(s:(List Int))(f:Int→Option Bool):Option Bool:=
 bd (z4l N s f) fun a=>
 some (decide (0≤a))
def z6o(N:Nat)(p:Int)(p0_:(List Bool)):Option Bool:=
 gd (okI p0_ p)<|
 some (!(ix p0_ p))
def lq(N:Nat)(s1_:(List Bool))(s2_:(List Bool)):Nat→Int→Option (Ex (Unit) (Bool))
 |0,_=>none
 |b+1,a=>
  bif decide (a<(↑s1_.length:Int)) then(
  gd (okI s1_ a)<|
  gd (okI s2_ a)<|
  bif decide ((ix s1_ a)≠(ix s2_ a)) then(
  some (Ex.rt false)) else(
  gd (in64 (a+1))<|
  lq N s1_ s2_ b (a+1))) else(
  some (Ex.go ()))
def z5u(N:Nat)(s1_:(List Bool))(s2_:(List Bool)):Option Bool:=
 bif decide ((↑s1_.length:Int)≠(↑s2_.length:Int)) then(
 some false) else(
 bd (
 lq N s1_ s2_ N 0) fun a=>
 Ex.on a (fun b=>
 some true) some)
def z0z(N:Nat)(m:Mach):Nat→Int→(List Bool)→Option (List Bool)
 |0,_,_=>none
 |c+1,a,b=>
  bif decide (a<(↑(mk (z0k .i64 (1:Int) (↑m.rows.length:Int)) false).length:Int)) then(
  bd (z4p N (IntKind.u64.wrap a)) fun d=>
  gd (okI b a)<|
  gd (in64 (a+1))<|
  z0z N m c (a+1) (up b a (decide (d<2)))) else(
  some b)
def z0y(N:Nat)(m:Mach)(d:(List Bool))(a:Int):Nat→Int→(List Bool)→Option (List Bool)
 |0,_,_=>none
 |e+1,c,b=>
  bif decide (c<m.inputs) then(
  bd (
  gd (okI b a)<|
  bd (gop (true&&((!(ix b a))==true)) (z0r N (⟨(⟨m.inputs,m.outputs,m.rows⟩:Mach)⟩:Sg) ([IntKind.u16.wrap a]:List Int) c)) fun f=>
  bd (gop (true&&((!(ix b a))==true)) (z0e N (f.getD default) (fun i=>z6o N i d))) fun g=>
  bif (!(ix b a))&&(!(g.getD default)) then(
  gd (okI b a)<|
  some (up b a true)) else(
  some b)) fun h=>
  gd (in64 (c+1))<|
  z0y N m d a e (c+1) h) else(
  some b)
def z10(N:Nat)(m:Mach)(c:List Bool)(d:(List Bool)):Nat→Int→(List Bool)→Option (List Bool)
 |0,_,_=>none
 |e+1,a,b=>
  bif decide (a<(↑c.length:Int)) then(
  bd (
  z0y N m d a N 0 b) fun f=>
  gd (in64 (a+1))<|
  z10 N m c d e (a+1) f) else(
  some b)
def z3c(N:Nat)(m:Mach):Nat→Int→(List Bool)→Option (Int×Int)
 |0,_,_=>none
 |g+1,b,a=>
  bd (za2 N (⟨m.inputs,m.outputs,m.rows⟩:Mach)) fun c=>
  gd (okI a c)<|
  bif (ix a c) then(
  some (b,0)) else(
  bd (z4t N a) fun d=>
  bd (
  z10 N m a d N 0 a) fun e=>
  bd (z5u N d e) fun f=>
  bif f then(
  some (0,7)) else(
  gd (in64 (b+1))<|
  z3c N m g (b+1) e))
def z2i(N:Nat)(m:Mach):Option (Int×Int):=
 bd (z3i N m) fun b=>
 bif decide (b≠0) then(
 some (0,b)) else(
 bif decide (10<(↑m.rows.length:Int)) then(
 some (0,3)) else(
 gd (okSh .i64 (↑m.rows.length:Int))<|
 gd (okM 1 (z0k .i64 (1:Int) (↑m.rows.length:Int)))<|
 bd (
 z0z N m N 0 (mk (z0k .i64 (1:Int) (↑m.rows.length:Int)) false)) fun a=>
 z3c N m N 0 a))
def mr(N:Nat)(s:(List Int))(f:Int→Option Bool):Nat→Int→Option (Ex (Unit) (Int))
 |0,_=>none
 |c+1,a=>
  bif decide (a<(↑s.length:Int)) then(
  gd (okI s a)<|
  bd (f (ix s a)) fun b=>
  bif b then(
  some (Ex.rt a)) else(
  gd (in64 (a+1))<|
  mr N s f c (a+1))) else(
  some (Ex.go ()))
def z4i(N:Nat)(s:(List Int))(f:Int→Option Bool):Option Int:=
 bd (
 mr N s f N 0) fun a=>
 Ex.on a (fun b=>
 some (-1)) some
def z2p(N:Nat)(s:(List Int))(f:Int→Option Bool):Option Bool:=
 bd (z4i N s f) fun a=>
 some (decide (0≤a))
def zci(N:Nat)(c:Int)(p0_:Int):Option Bool:=
 some ((decide (c<0))||(decide (p0_≤c)))
def z6u(N:Nat)(w_:(List Int))(inputs:Int):Option Int:=
 bif (decide (16<inputs))||(decide (256<(↑w_.length:Int))) then(
 some 3) else(
 bd (gop (true&&((decide (inputs<1))==false)) (z2p N w_ (fun b=>zci N b inputs))) fun a=>
 bif (decide (inputs<1))||(a.getD default) then(
 some 1) else(
 some 0))
def z6l(N:Nat)(m:Mach)(s:Int):Option Int:=
 bd (z6n N m) fun a=>
 bif decide (a≠0) then(
 some a) else(
 bif (decide (s<0))||(decide ((↑m.rows.length:Int)≤s)) then(
 some 1) else(
 some 0))
def z3h(N:Nat)(m:Mach)(w_:(List Int)):Nat→Int→Int→(List Int)→Option (Int×List Int)
 |0,_,_,_=>none
 |f+1,b,a,c=>
  bif decide (a<(↑w_.length:Int)) then(
  gd (okI w_ a)<|
  bd (z4y N) fun d=>
  bd (
  bif decide (b≠(-1)) then(
  gd (okI m.rows b)<|
  gd (okI (ix m.rows b) (ix w_ a))<|
  some ((ix (ix m.rows b) (ix w_ a)).to,(ix (ix m.rows b) (ix w_ a)).out)) else(
  some (d.to,d.out))) fun e=>
  gd (okI c a)<|
  gd (in64 (a+1))<|
  z3h N m w_ f e.1 (a+1) (up c a e.2)) else(
  some (b,c))
def z8e(N:Nat)(m:Mach)(s:Int)(w_:(List Int)):Option ((List Int)×Int):=
 gd (okM 8 (↑w_.length:Int))<|
 bd (
 z3h N m w_ N s 0 (mk (↑w_.length:Int) (0:Int))) fun a=>
 some (a.2,a.1)
def z5h(N:Nat)(m:Mach)(s:Int)(w_:(List Int)):Option (Int×Int):=
 bd (z6l N m s) fun c=>
 bif decide (c≠0) then(
 some (0,c)) else(
 bd (z6u N w_ m.inputs) fun a=>
 bif decide (a≠0) then(
 some (0,a)) else(
 bd (z8e N m s w_) fun b=>
 some (b.2,0)))
def slices_Sort_int(N:Nat)(x:List Int):Option (List Int):=
 gd (x.length<4611686018427387904) (some (z6t x))
def z00(N:Nat)(s:List Int)(a:Int):Nat→Int→Int→(List Int)→Option (Int×List Int)
 |0,_,_,_=>none
 |f+1,d,b,c=>
  bif decide (b<(↑(s.length-a.toNat:Nat):Int)) then(
  bd (
  gd (okA c a (s.length-a.toNat) b)<|
  gd (in64 (b-1))<|
  gd (okA c a (s.length-a.toNat) (b-1))<|
  bif decide ((ix c (a+b))≠(ix c (a+(b-1)))) then(
  gd (okA c a (s.length-a.toNat) b)<|
  gd (okI c d)<|
  gd (in64 (d+1))<|
  some (d+1,(up c d (ix c (a+b))))) else(
  some (d,c))) fun e=>
  gd (in64 (b+1))<|
  z00 N s a f e.1 (b+1) e.2) else(
  some (d,c))
def l8(N:Nat)(s:List Int):Nat→Int→Option (Ex (Unit) ((List Int)))
 |0,_=>none
 |c+1,b=>
  bif decide (b<(↑s.length:Int)) then(
  gd (okI s b)<|
  gd (in64 (b-1))<|
  gd (okI s (b-1))<|
  bif decide ((ix s b)=(ix s (b-1))) then(
  gd (okS s b (↑s.length:Int))<|
  bd (
  z00 N s b N b 1 s) fun a=>
  gd (okS a.2 a.1 (↑a.2.length:Int))<|
  gd (okS (z9r a.2 a.1.toNat (List.replicate (a.2.length-a.1.toNat) (0:Int))) 0 a.1)<|
  some (Ex.rt (cut (z9r a.2 a.1.toNat (List.replicate (a.2.length-a.1.toNat) (0:Int))) 0 a.1))) else(
  gd (in64 (b+1))<|
  l8 N s c (b+1))) else(
  some (Ex.go ()))
def slices_Compact_int(N:Nat)(s:List Int):Option (List Int):=
 bif decide ((↑s.length:Int)<2) then(
 some s) else(
 bd (
 l8 N s N 1) fun a=>
 Ex.on a (fun b=>
 some s) some)
def z0b(N:Nat)(m:Mach)(l_:(List Int)):Nat→Int→Option (Ex (Unit) ((List Int)×Int))
 |0,_=>none
 |b+1,a=>
  bif decide (a<(↑l_.length:Int)) then(
  gd (okI l_ a)<|
  gd (((true&&(((decide ((ix l_ a)<0))||(decide ((↑m.rows.length:Int)≤(ix l_ a))))==false))&&((decide (0<a))==true))=true→in64 (a-1))<|
  gd (((true&&(((decide ((ix l_ a)<0))||(decide ((↑m.rows.length:Int)≤(ix l_ a))))==false))&&((decide (0<a))==true))=true→okI l_ (a-1))<|
  bif ((decide ((ix l_ a)<0))||(decide ((↑m.rows.length:Int)≤(ix l_ a))))||((decide (0<a))&&(decide ((ix l_ a)≤(ix l_ (a-1))))) then(
  some (Ex.rt (([]:(List Int)),1))) else(
  gd (in64 (a+1))<|
  z0b N m l_ b (a+1))) else(
  some (Ex.go ()))
def z2v(N:Nat)(m:Mach)(l_:(List Int))(w_:(List Int)):Nat→(List Int)→Int→Option (List Int)
 |0,_,_=>none
 |d+1,b,a=>
  bif decide (a<(↑l_.length:Int)) then(
  gd (okI l_ a)<|
  bd (z5h N m (ix l_ a) w_) fun c=>
  gd (fits 8 b ([c.1]:List Int))<|
  gd (in64 (a+1))<|
  z2v N m l_ w_ d (b++([c.1]:List Int)) (a+1)) else(
  some b)
def z1e(N:Nat)(m:Mach)(l_:(List Int))(w_:(List Int)):Option ((List Int)×Int):=
 bd (z3i N m) fun g=>
 bif decide (g≠0) then(
 some (([]:(List Int)),g)) else(
 bd (
 z0b N m l_ N 0) fun e=>
 Ex.on e (fun h=>
 bd (z6u N w_ m.inputs) fun a=>
 bif decide (a≠0) then(
 some (([]:(List Int)),a)) else(
 bd (
 z2v N m l_ w_ N ([]:List Int) 0) fun f=>
 bd (slices_Sort_int N f) fun b=>
 bd (slices_Compact_int N b) fun c=>
 bd (z0q N c) fun d=>
 some (d,0))) some)
def z8b(N:Nat)(m:Mach)(s:Int)(w_:(List Int)):Option ((List Int)×Int):=
 bd (z6l N m s) fun c=>
 bif decide (c≠0) then(
 some (([]:(List Int)),c)) else(
 bd (z6u N w_ m.inputs) fun a=>
 bif decide (a≠0) then(
 some (([]:(List Int)),a)) else(
 bd (z8e N m s w_) fun b=>
 some (b.1,0)))
def z05(N:Nat)(s1_:(List Int))(s2_:(List Int)):Nat→Int→Option (Ex (Unit) (Bool))
 |0,_=>none
 |b+1,a=>
  bif decide (a<(↑s1_.length:Int)) then(
  gd (okI s1_ a)<|
  gd (okI s2_ a)<|
  bif decide ((ix s1_ a)≠(ix s2_ a)) then(
  some (Ex.rt false)) else(
  gd (in64 (a+1))<|
  z05 N s1_ s2_ b (a+1))) else(
  some (Ex.go ()))
def slices_Equal_int(N:Nat)(s1_:(List Int))(s2_:(List Int)):Option Bool:=
 bif decide ((↑s1_.length:Int)≠(↑s2_.length:Int)) then(
 some false) else(
 bd (
 z05 N s1_ s2_ N 0) fun a=>
 Ex.on a (fun b=>
 some true) some)
def z3x(N:Nat)(m:Mach)(w_:(List Int))(response:(List Int)):Nat→Int→Int→Option (Ex (Int) (Int×Int))
 |0,_,_=>none
 |d+1,b,a=>
  bif decide (a<(↑m.rows.length:Int)) then(
  bd (
  bd (z8b N m a w_) fun e=>
  bd (slices_Equal_int N e.1 response) fun f=>
  bif !f then(
  some (Ex.go b)) else(
  bd (z5h N m a w_) fun c=>
  bif (decide (b≠(-1)))&&(decide (b≠c.1)) then(
  some (Ex.rt (Ex.rt (0,7)))) else(
  some (Ex.go c.1)))) fun g=>
  Ex.on g (fun h=>
  gd (in64 (a+1))<|
  z3x N m w_ response d h (a+1)) some) else(
  some (Ex.go b))
def z0w(N:Nat)(m:Mach)(w_:(List Int))(response:(List Int)):Option (Int×Int):=
 bd (z3i N m) fun d=>
 bif decide (d≠0) then(
 some (0,d)) else(
 bd (z6u N w_ m.inputs) fun a=>
 bif decide (a≠0) then(
 some (0,a)) else(
 bif decide ((↑w_.length:Int)≠(↑response.length:Int)) then(
 some (0,1)) else(
 bd (
 z3x N m w_ response N (-1) 0) fun c=>
 Ex.on c (fun b=>
 bif decide (b=(-1)) then(
 some (0,7)) else(
 some (b,0))) some)))
def aa(N:Nat)(inputs:Int)(key:(Int×Int)→Option (List UInt8))(next:(Int×Int)→Int→Option (Int×Int))(f:List Sc)(g:Int):Nat→Int→(List ((List UInt8)×Bool))→(List Sc)→Option (Ex (List ((List UInt8)×Bool)×List Sc) (Ex (List Sc×List ((List UInt8)×Bool)) (Ex (Unit) ((List Int)×Int))))
 |0,_,_,_=>none
 |j+1,a,c,d=>
  bif decide (a<inputs) then(
  bd (
  bd (next ((((ix f g).fJ).1,((ix f g).fJ).2):(Int×Int)) a) fun b=>
  bd (key ((b.1,b.2):(Int×Int))) fun h=>
  bif !(zed false c h) then(
  bd (z0q N ((ix f g).fQ)) fun e=>
  gd (fits 8 e ([a]:List Int))<|
  gd (fits 40 d ([(⟨((b.1,b.2):(Int×Int)),(e++([a]:List Int))⟩:Sc)]:List Sc))<|
  some ((z8a c h true),(d++([(⟨((b.1,b.2):(Int×Int)),(e++([a]:List Int))⟩:Sc)]:List Sc)))) else(
  some (c,d))) fun i=>
  gd (in64 (a+1))<|
  aa N inputs key next f g j (a+1) i.1 i.2) else(
  some (Ex.go (c,d)))
def ib(N:Nat)(inputs:Int)(key:(Int×Int)→Option (List UInt8))(is:(Int×Int)→Option Bool)(next:(Int×Int)→Int→Option (Int×Int))(b:List Sc):Nat→(List Sc)→Int→(List ((List UInt8)×Bool))→Option (Ex (List Sc×List ((List UInt8)×Bool)) (Ex (Unit) ((List Int)×Int)))
 |0,_,_,_=>none
 |g+1,c,a,d=>
  bif decide (a<(↑b.length:Int)) then(
  bd (
  gd (okI b a)<|
  bd (is ((((ix b a).fJ).1,((ix b a).fJ).2):(Int×Int))) fun h=>
  bif h then(
  bd (z0q N ((ix b a).fQ)) fun e=>
  some (Ex.rt (Ex.rt (Ex.rt (e,0))))) else(
  aa N inputs key next b a N 0 d c)) fun i=>
  Ex.on i (fun f=>
  gd (in64 (a+1))<|
  ib N inputs key is next b g f.2 (a+1) f.1) some) else(
  some (Ex.go (c,d)))
def om(N:Nat)(inputs:Int)(key:(Int×Int)→Option (List UInt8))(is:(Int×Int)→Option Bool)(next:(Int×Int)→Int→Option (Int×Int)):Nat→(List Sc)→Int→(List ((List UInt8)×Bool))→Option (Ex (Unit) ((List Int)×Int))
 |0,_,_,_=>none
 |d+1,b,a,e=>
  bif (decide (0<(↑b.length:Int)))&&(decide (a≤256)) then(
  bd (
  ib N inputs key is next b N ([]:List Sc) 0 e) fun f=>
  Ex.on f (fun c=>
  gd (in64 (a+1))<|
  om N inputs key is next d c.1 (a+1) c.2) some) else(
  some (Ex.go ()))
def z4q(N:Nat)(inputs:Int)(from_:(Int×Int))(key:(Int×Int)→Option (List UInt8))(is:(Int×Int)→Option Bool)(next:(Int×Int)→Int→Option (Int×Int)):Option ((List Int)×Int):=
 bd (key from_) fun a=>
 bd (
 om N inputs key is next N ([(⟨((from_.1,from_.2):(Int×Int)),[]⟩:Sc)]:List Sc) 0 (z8a ([]:List ((List UInt8)×Bool)) a true)) fun b=>
 Ex.on b (fun c=>
 some (([]:(List Int)),7)) some
def zad(N:Nat)(x:(Int×Int)):Option (List UInt8):=
 some (zcq ([IntKind.u8.wrap x.1,IntKind.u8.wrap x.2]:List Int))
def zah(N:Nat)(x:(Int×Int)):Option Bool:=
 some (decide (x.1=x.2))
def z5b(N:Nat)(g_:Sg)(x:(Int×Int))(i:Int):Option (Int×Int):=
 gd (okI g_.fK.rows x.1)<|
 gd (okI (ix g_.fK.rows x.1) i)<|
 gd (okI g_.fK.rows x.2)<|
 gd (okI (ix g_.fK.rows x.2) i)<|
 some (((ix (ix g_.fK.rows x.1) i).to,(ix (ix g_.fK.rows x.2) i).to):(Int×Int))
def z1w(N:Nat)(m:Mach)(s:Int)(t:Int):Option ((List Int)×Int):=
 bd (z3i N m) fun c=>
 bif decide (c≠0) then(
 some (([]:(List Int)),c)) else(
 bif (((decide (s<0))||(decide (t<0)))||(decide ((↑m.rows.length:Int)≤s)))||(decide ((↑m.rows.length:Int)≤t)) then(
 some (([]:(List Int)),1)) else(
 bd (z4q N m.inputs ((s,t):(Int×Int)) (fun a=>zad N a) (fun a=>zah N a) (fun a d=>z5b N (⟨(⟨m.inputs,m.outputs,m.rows⟩:Mach)⟩:Sg) a d)) fun b=>
 some (b.1,b.2)))
def lh(N:Nat):Option Bool:=
 bd (z7b N) fun a=>
 bd (z11 N (⟨a.1.inputs,a.1.outputs,a.1.rows⟩:Mach)) fun g=>
 bd (z2m N (⟨a.1.inputs,a.1.outputs,a.1.rows⟩:Mach)) fun l=>
 bd (z2i N (⟨a.1.inputs,a.1.outputs,a.1.rows⟩:Mach)) fun f=>
 bd (z1e N (⟨a.1.inputs,a.1.outputs,a.1.rows⟩:Mach) ([0,1,2]:List Int) ([0]:List Int)) fun h=>
 bd (z1e N (⟨a.1.inputs,a.1.outputs,a.1.rows⟩:Mach) ([1]:List Int) ([1,0]:List Int)) fun i=>
 bd (gop (true&&((((((decide (g.2≠0))||(decide (l.2≠7)))||(decide (f.2≠0)))||(decide (h.2≠0)))||(decide (i.2≠0)))==false)) (uq N g.1 ([0,0]:List Int))) fun j=>
 bd (gop (true&&((((((((decide (g.2≠0))||(decide (l.2≠7)))||(decide (f.2≠0)))||(decide (h.2≠0)))||(decide (i.2≠0)))||(!(j.getD default)))||(decide (f.1≠2)))==false)) (uq N h.1 ([0,1,2]:List Int))) fun m=>
 bd (gop (true&&(((((((((decide (g.2≠0))||(decide (l.2≠7)))||(decide (f.2≠0)))||(decide (h.2≠0)))||(decide (i.2≠0)))||(!(j.getD default)))||(decide (f.1≠2)))||(!(m.getD default)))==false)) (uq N i.1 ([2]:List Int))) fun q=>
 bif ((((((((decide (g.2≠0))||(decide (l.2≠7)))||(decide (f.2≠0)))||(decide (h.2≠0)))||(decide (i.2≠0)))||(!(j.getD default)))||(decide (f.1≠2)))||(!(m.getD default)))||(!(q.getD default)) then(
 some false) else(
 bd (z0w N (⟨a.1.inputs,a.1.outputs,a.1.rows⟩:Mach) ([0,0]:List Int) ([0,1]:List Int)) fun n=>
 bd (z0w N (⟨a.1.inputs,a.1.outputs,a.1.rows⟩:Mach) ([0]:List Int) ([0]:List Int)) fun r=>
 bd (z0w N (⟨a.1.inputs,a.1.outputs,a.1.rows⟩:Mach) ([0]:List Int) ([1]:List Int)) fun o=>
 bif ((((decide (n.2≠0))||(decide (r.2≠7)))||(decide (o.2≠0)))||(decide (n.1≠0)))||(decide (o.1≠0)) then(
 some false) else(
 bd (z2m N (⟨a.2.inputs,a.2.outputs,a.2.rows⟩:Mach)) fun b=>
 bd (z1w N (⟨a.2.inputs,a.2.outputs,a.2.rows⟩:Mach) 0 1) fun c=>
 bd (z1w N (⟨a.2.inputs,a.2.outputs,a.2.rows⟩:Mach) 1 2) fun d=>
 bd (z2i N (⟨a.2.inputs,a.2.outputs,a.2.rows⟩:Mach)) fun e=>
 bd (gop (true&&(((((decide (b.2=0))&&(decide (c.2=0)))&&(decide (d.2=0)))&&(decide (e.2=0)))==true)) (uq N b.1 ([1]:List Int))) fun k=>
 bd (gop (true&&((((((decide (b.2=0))&&(decide (c.2=0)))&&(decide (d.2=0)))&&(decide (e.2=0)))&&(k.getD default))==true)) (uq N c.1 ([1]:List Int))) fun p=>
 bd (gop (true&&(((((((decide (b.2=0))&&(decide (c.2=0)))&&(decide (d.2=0)))&&(decide (e.2=0)))&&(k.getD default))&&(p.getD default))==true)) (uq N d.1 ([0]:List Int))) fun s=>
 some ((((((((decide (b.2=0))&&(decide (c.2=0)))&&(decide (d.2=0)))&&(decide (e.2=0)))&&(k.getD default))&&(p.getD default))&&(s.getD default))&&(decide (e.1=1)))))
def z2d(N:Nat)(x:Sd):Option Bool:=
 bd (z1a N x) fun b=>
 bd (z2m N (⟨b.inputs,b.outputs,b.rows⟩:Mach)) fun a=>
 bd (z11 N (⟨b.inputs,b.outputs,b.rows⟩:Mach)) fun c=>
 bd (z0i N (⟨b.inputs,b.outputs,b.rows⟩:Mach) false) fun i=>
 bd (gop (true&&((decide ((decide (a.2=0))≠i))==false)) (z0i N (⟨b.inputs,b.outputs,b.rows⟩:Mach) true)) fun l=>
 bif (((decide ((decide (a.2=0))≠i))||(decide ((decide (c.2=0))≠(l.getD default))))||((decide (a.2≠0))&&((decide (a.2≠7))||(decide ((↑a.1.length:Int)≠0)))))||((decide (c.2≠0))&&((decide (c.2≠7))||(decide ((↑c.1.length:Int)≠0)))) then(
 some false) else(
 bd (z3s N (⟨b.inputs,b.outputs,b.rows⟩:Mach) 4) fun d=>
 bd (z2o N (⟨b.inputs,b.outputs,b.rows⟩:Mach) 4) fun e=>
 bd (gop (true&&(d.2==true)) (uq N a.1 d.1)) fun g=>
 bd (gop ((true&&((d.2&&(!(g.getD default)))==false))&&(e.2==true)) (uq N c.1 e.1)) fun j=>
 bif (((d.2&&(!(g.getD default)))||(e.2&&(!(j.getD default))))||(((!d.2)&&(decide (a.2=0)))&&(decide ((↑a.1.length:Int)≤4))))||(((!e.2)&&(decide (c.2=0)))&&(decide ((↑c.1.length:Int)≤4))) then(
 some false) else(
 bd (gop (true&&((decide (a.2≠0))==false)) (o8 N (⟨b.inputs,b.outputs,b.rows⟩:Mach) a.1)) fun f=>
 bd (gop ((true&&(((decide (a.2≠0))||(f.getD default))==true))&&((decide (c.2≠0))==false)) (vk N (⟨b.inputs,b.outputs,b.rows⟩:Mach) c.1)) fun h=>
 bd (gop (true&&((((decide (a.2≠0))||(f.getD default))&&((decide (c.2≠0))||(h.getD default)))==true)) (lh N)) fun k=>
 some ((((decide (a.2≠0))||(f.getD default))&&((decide (c.2≠0))||(h.getD default)))&&(k.getD default))))
def lm(N:Nat)(l_:(List Int))(n:Int):Nat→(List Int)→Bool→Int→Option (List Int×Bool)
 |0,_,_,_=>none
 |f+1,c,d,a=>
  bif decide (a<(↑l_.length:Int)) then(
  bd (
  bd (
  gd ((true&&((!d)==true))=true→okI l_ a)<|
  bif (!d)&&(decide (n≤(ix l_ a))) then(
  gd (fits 8 c ([n]:List Int))<|
  some (true,(c++([n]:List Int)))) else(
  some (d,c))) fun b=>
  gd (okI l_ a)<|
  bif decide ((ix l_ a)≠n) then(
  gd (okI l_ a)<|
  gd (fits 8 b.2 ([(ix l_ a)]:List Int))<|
  some (b.1,(b.2++([(ix l_ a)]:List Int)))) else(
  some (b.1,b.2))) fun e=>
  gd (in64 (a+1))<|
  lm N l_ n f e.2 e.1 (a+1)) else(
  some (c,d))
def z5t(N:Nat)(l_:(List Int))(n:Int):Option (List Int):=
 bd (
 lm N l_ n N ([]:List Int) false 0) fun b=>
 bd (
 bif !b.2 then(
 gd (fits 8 b.1 ([n]:List Int))<|
 some (b.1++([n]:List Int))) else(
 some b.1)) fun a=>
 some a
def au(N:Nat)(m:Mach)(l_:(List Int))(w_:(List Int)):Nat→(List Int)→Int→Option (List Int)
 |0,_,_=>none
 |c+1,b,a=>
  bif decide (a<(↑l_.length:Int)) then(
  gd (okI l_ a)<|
  bd (vo N N m (ix l_ a) w_) fun d=>
  bd (z5t N b d) fun e=>
  gd (in64 (a+1))<|
  au N m l_ w_ c e (a+1)) else(
  some b)
def z04(N:Nat)(m:Mach)(l_:(List Int))(w_:(List Int)):Option (List Int):=
 bd (
 au N m l_ w_ N ([]:(List Int)) 0) fun a=>
 some a
def z0m(N:Nat)(m:Mach)(w_:(List Int)):Nat→Int→(List Int)→Int→Option (List Int)
 |0,_,_,_=>none
 |c+1,d,x16,a=>
  bif decide (a<(↑w_.length:Int)) then(
  gd (okI w_ a)<|
  bd (z2k N m d (ix w_ a)) fun b=>
  gd (fits 8 x16 ([b.out]:List Int))<|
  gd (in64 (a+1))<|
  z0m N m w_ c b.to (x16++([b.out]:List Int)) (a+1)) else(
  some x16)
def z3g(N:Nat)(m:Mach)(s:Int)(w_:(List Int)):Option (List Int):=
 bd (
 z0m N m w_ N s ([]:List Int) 0) fun a=>
 some a
def ry(N:Nat)(m:Mach)(w_:(List Int))(response:(List Int)):Nat→Int→Int→Option (Ex (Int) (Int×Int))
 |0,_,_=>none
 |d+1,b,a=>
  bif decide (a<(↑m.rows.length:Int)) then(
  bd (
  bd (ma N m a w_) fun e=>
  bd (z1b N e response) fun f=>
  bif !f then(
  some (Ex.go b)) else(
  bd (vo N N m a w_) fun c=>
  bif (decide (b≠(-1)))&&(decide (b≠c)) then(
  some (Ex.rt (Ex.rt (0,7)))) else(
  some (Ex.go c)))) fun g=>
  Ex.on g (fun h=>
  gd (in64 (a+1))<|
  ry N m w_ response d h (a+1)) some) else(
  some (Ex.go b))
def z1j(N:Nat)(m:Mach)(w_:(List Int))(response:(List Int)):Option (Int×Int):=
 bd (
 ry N m w_ response N (-1) 0) fun b=>
 Ex.on b (fun a=>
 bif decide (a=(-1)) then(
 some (0,7)) else(
 some (a,0))) some
def xu(N:Nat)(w_:(List Int))(b:Mach):Nat→(List Int)→Int→Option (List Int)
 |0,_,_=>none
 |d+1,c,a=>
  bif (decide (a<(↑w_.length:Int)))&&(decide (a<12)) then(
  gd (okI w_ a)<|
  gd (in64 (ix w_ a))<|
  gd (okR (ix w_ a) b.inputs)<|
  gd (fits 8 c ([(ix w_ a)%b.inputs]:List Int))<|
  gd (in64 (a+1))<|
  xu N w_ b d (c++([(ix w_ a)%b.inputs]:List Int)) (a+1)) else(
  some c)
def xw(N:Nat)(z:(Int×Int))(c:Mach):Nat→(List Int)→Int→Option (List Int)
 |0,_,_=>none
 |e+1,b,a=>
  bif decide (a<(↑c.rows.length:Int)) then(
  bd (
  gd (okSh .u8 a)<|
  gd (okR (qg z.1 a) 2)<|
  bif decide (((qg z.1 a)%2)=1) then(
  gd (fits 8 b ([a]:List Int))<|
  some (b++([a]:List Int))) else(
  some b)) fun d=>
  gd (in64 (a+1))<|
  xw N z c e d (a+1)) else(
  some b)
def z2f(N:Nat)(x:Sd)(w_:(List Int))(z:(Int×Int)):Option Bool:=
 bd (z1a N x) fun b=>
 bd (
 xu N w_ b N ([]:List Int) 0) fun f=>
 bd (
 xw N z b N ([]:List Int) 0) fun h=>
 bd (z1e N (⟨b.inputs,b.outputs,b.rows⟩:Mach) h f) fun c=>
 bd (gop (true&&((decide (c.2≠0))==false)) (z04 N (⟨b.inputs,b.outputs,b.rows⟩:Mach) h f)) fun i=>
 bd (gop (true&&((decide (c.2≠0))==false)) (uq N c.1 (i.getD default))) fun j=>
 bif (decide (c.2≠0))||(!(j.getD default)) then(
 some false) else(
 gd (in64 z.2)<|
 gd (okR z.2 (↑b.rows.length:Int))<|
 bd (z3g N (⟨b.inputs,b.outputs,b.rows⟩:Mach) (z.2%(↑b.rows.length:Int)) f) fun a=>
 bd (
 bif (decide (200<z.2))&&(decide (0<(↑a.length:Int))) then(
 gd (in64 ((↑a.length:Int)-1))<|
 gd (okI a ((↑a.length:Int)-1))<|
 gd (in64 ((ix a ((↑a.length:Int)-1))+1))<|
 gd (okI a ((↑a.length:Int)-1))<|
 some (up a ((↑a.length:Int)-1) ((ix a ((↑a.length:Int)-1))+1))) else(
 some a)) fun g=>
 bd (z0w N (⟨b.inputs,b.outputs,b.rows⟩:Mach) f g) fun d=>
 bd (z1j N (⟨b.inputs,b.outputs,b.rows⟩:Mach) f g) fun e=>
 bd (gop (true&&(((decide (d.1=e.1))&&(decide (d.2=e.2)))==true)) (lh N)) fun k=>
 some (((decide (d.1=e.1))&&(decide (d.2=e.2)))&&(k.getD default)))
def bu(N:Nat)(w_:(List Int))(c:Mach):Nat→(List Int)→Int→Option (List Int)
 |0,_,_=>none
 |d+1,b,a=>
  bif (decide (a<(↑w_.length:Int)))&&(decide (a<8)) then(
  gd (okI w_ a)<|
  gd (in64 (ix w_ a))<|
  gd (okR (ix w_ a) c.inputs)<|
  gd (fits 8 b ([(ix w_ a)%c.inputs]:List Int))<|
  gd (in64 (a+1))<|
  bu N w_ c d (b++([(ix w_ a)%c.inputs]:List Int)) (a+1)) else(
  some b)
def xc(N:Nat)(c:Mach)(d:(List Int)×Int)(e:List Int):Nat→Int→Option (Ex ((List Int)) (Bool))
 |0,_=>none
 |f+1,a=>
  bif decide (a<(↑c.rows.length:Int)) then(
  bd (z1w N (⟨c.inputs,c.outputs,c.rows⟩:Mach) a 0) fun b=>
  bif (decide (b.2≠0))||(decide ((↑d.1.length:Int)<(↑b.1.length:Int))) then(
  some (Ex.rt false)) else(
  gd (in64 (a+1))<|
  xc N c d e f (a+1))) else(
  some (Ex.go e))
def xe(N:Nat)(c:Mach):Nat→(List Int)→Int→Option (Ex (Unit) (Bool))
 |0,_,_=>none
 |e+1,b,a=>
  bif decide (a<(↑c.rows.length:Int)) then(
  bd (ma N (⟨c.inputs,c.outputs,c.rows⟩:Mach) a b) fun f=>
  bd (z0w N (⟨c.inputs,c.outputs,c.rows⟩:Mach) b f) fun d=>
  bd (gop (true&&((decide (d.2≠0))==false)) (vo N N (⟨c.inputs,c.outputs,c.rows⟩:Mach) a b)) fun g=>
  bif (decide (d.2≠0))||(decide (d.1≠(g.getD default))) then(
  some (Ex.rt false)) else(
  gd (in64 (a+1))<|
  xe N c e b (a+1))) else(
  some (Ex.go ()))
def z2q(N:Nat)(x:Sd)(w_:(List Int)):Option Bool:=
 bd (z1a N x) fun c=>
 bd (z2m N (⟨c.inputs,c.outputs,c.rows⟩:Mach)) fun b=>
 bd (z11 N (⟨c.inputs,c.outputs,c.rows⟩:Mach)) fun a=>
 bd (
 bu N w_ c N ([]:List Int) 0) fun e=>
 bd (
 bif decide (b.2=0) then(
 gd (fits 8 ([]:List Int) b.1)<|
 gd (fits 8 (([]:List Int)++b.1) e)<|
 bd (gop (true&&(((decide (a.2≠0))||(decide ((↑b.1.length:Int)<(↑a.1.length:Int))))==false)) (o8 N (⟨c.inputs,c.outputs,c.rows⟩:Mach) ((([]:List Int)++b.1)++e))) fun f=>
 bd (gop (true&&((((decide (a.2≠0))||(decide ((↑b.1.length:Int)<(↑a.1.length:Int))))||(!(f.getD default)))==false)) (vk N (⟨c.inputs,c.outputs,c.rows⟩:Mach) b.1)) fun g=>
 bif (((decide (a.2≠0))||(decide ((↑b.1.length:Int)<(↑a.1.length:Int))))||(!(f.getD default)))||(!(g.getD default)) then(
 some (Ex.rt false)) else(
 xc N c b e N 0)) else(
 some (Ex.go e))) fun h=>
 Ex.on h (fun d=>
 bd (
 bif decide (a.2=0) then(
 gd (fits 8 ([]:List Int) a.1)<|
 gd (fits 8 (([]:List Int)++a.1) d)<|
 bd (vk N (⟨c.inputs,c.outputs,c.rows⟩:Mach) ((([]:List Int)++a.1)++d)) fun i=>
 bif !i then(
 some (Ex.rt false)) else(
 xe N c N ((([]:List Int)++a.1)++d) 0)) else(
 some (Ex.go ()))) fun j=>
 Ex.on j (fun l=>
 bd (lh N) fun k=>
 some k) some) some
def ay(N:Nat)(m:Mach):Nat→Int→Option (Ex (Unit) (Int))
 |0,_=>none
 |a+1,x16=>
  bif decide (x16<(↑m.rows.length:Int)) then(
  gd (okI m.rows x16)<|
  bif decide (4<(↑(ix m.rows x16).length:Int)) then(
  some (Ex.rt 1)) else(
  gd (in64 (x16+1))<|
  ay N m a (x16+1))) else(
  some (Ex.go ()))
def z1v(N:Nat)(m:Mach):Option Int:=
 bif decide (6<(↑m.rows.length:Int)) then(
 some 1) else(
 bd (
 ay N m N 0) fun a=>
 Ex.on a (fun b=>
 some 0) some)
def fu(N:Nat)(x:MDat)(c:Int):Nat→(List Edge)→Int→Option (List Edge)
 |0,_,_=>none
 |e+1,d,b=>
  bif decide (b<((1:Int)+(x.ins%3))) then(
  bd (
  bd (
  gd (in64 (c*((1:Int)+(x.ins%3))))<|
  gd (in64 ((c*((1:Int)+(x.ins%3)))+b))<|
  bif decide (((c*((1:Int)+(x.ins%3)))+b)<(↑x.edges.length:Int)) then(
  gd (okI x.edges ((c*((1:Int)+(x.ins%3)))+b))<|
  gd (in64 (ix x.edges ((c*((1:Int)+(x.ins%3)))+b)))<|
  some (ix x.edges ((c*((1:Int)+(x.ins%3)))+b))) else(
  some 0)) fun a=>
  gd ((true&&(x.part==true))=true→okR a 4)<|
  bif x.part&&(decide ((a%4)=3)) then(
  gd (fits 16 d ([(⟨(-1),(-1)⟩:Edge)]:List Edge))<|
  some (d++([(⟨(-1),(-1)⟩:Edge)]:List Edge))) else(
  gd (okQ a 4)<|
  gd (okR (a/4) ((1:Int)+(x.states%6)))<|
  gd (okQ a 4)<|
  gd (okQ (a/4) ((1:Int)+(x.states%6)))<|
  gd (okR ((a/4)/((1:Int)+(x.states%6))) ((1:Int)+(x.outs%3)))<|
  gd (fits 16 d ([(⟨(a/4)%((1:Int)+(x.states%6)),((a/4)/((1:Int)+(x.states%6)))%((1:Int)+(x.outs%3))⟩:Edge)]:List Edge))<|
  some (d++([(⟨(a/4)%((1:Int)+(x.states%6)),((a/4)/((1:Int)+(x.states%6)))%((1:Int)+(x.outs%3))⟩:Edge)]:List Edge)))) fun f=>
  gd (in64 (b+1))<|
  fu N x c e f (b+1)) else(
  some d)
def z01(N:Nat)(x:MDat):Nat→Int→(List (List Edge))→Option (List (List Edge))
 |0,_,_=>none
 |d+1,a,b=>
  bif decide (a<((1:Int)+(x.states%6))) then(
  bd (
  fu N x a N ([]:List Edge) 0) fun c=>
  gd (fits 24 b ([c]:List (List Edge)))<|
  gd (in64 (a+1))<|
  z01 N x d (a+1) (b++([c]:List (List Edge)))) else(
  some b)
def z5j(N:Nat)(x:MDat):Option Mach:=
 gd (okR x.states 6)<|
 gd (in64 (x.states%6))<|
 gd (in64 ((1:Int)+(x.states%6)))<|
 gd (okR x.ins 3)<|
 gd (in64 (x.ins%3))<|
 gd (in64 ((1:Int)+(x.ins%3)))<|
 gd (okR x.outs 3)<|
 gd (in64 (x.outs%3))<|
 gd (in64 ((1:Int)+(x.outs%3)))<|
 bd (
 z01 N x N 0 ([]:List (List Edge))) fun a=>
 some (⟨(1:Int)+(x.ins%3),(1:Int)+(x.outs%3),a⟩:Mach)
def cz(N:Nat)(m:Mach)(b:Int):Nat→Int→Option (Ex (Unit) (Ex (Unit) (Int)))
 |0,_=>none
 |c+1,a=>
  bif decide (a<m.inputs) then(
  bd (
  gd (okI m.rows b)<|
  gd (okI (ix m.rows b) a)<|
  bif (decide (((ix (ix m.rows b) a).to)=(-1)))&&(decide (((ix (ix m.rows b) a).out)=(-1))) then(
  some (Ex.go ())) else(
  bif (((decide (((ix (ix m.rows b) a).to)<0))||(decide ((↑m.rows.length:Int)≤((ix (ix m.rows b) a).to))))||(decide (((ix (ix m.rows b) a).out)<0)))||(decide (m.outputs≤((ix (ix m.rows b) a).out))) then(
  some (Ex.rt (Ex.rt (Ex.rt 1)))) else(
  some (Ex.go ())))) fun d=>
  Ex.on d (fun e=>
  gd (in64 (a+1))<|
  cz N m b c (a+1)) some) else(
  some (Ex.go ()))
def bg(N:Nat)(m:Mach):Nat→Int→Option (Ex (Unit) (Int))
 |0,_=>none
 |b+1,a=>
  bif decide (a<(↑m.rows.length:Int)) then(
  bd (
  gd (okI m.rows a)<|
  bif decide ((↑(ix m.rows a).length:Int)≠m.inputs) then(
  some (Ex.rt (Ex.rt 1))) else(
  cz N m a N 0)) fun c=>
  Ex.on c (fun d=>
  gd (in64 (a+1))<|
  bg N m b (a+1)) some) else(
  some (Ex.go ()))
def z4s(N:Nat)(m:Mach):Option Int:=
 bif ((decide (16<m.inputs))||(decide (16<m.outputs)))||(decide (64<(↑m.rows.length:Int))) then(
 some 3) else(
 bif ((decide (m.inputs<1))||(decide (m.outputs<1)))||(decide ((↑m.rows.length:Int)=0)) then(
 some 1) else(
 bd (
 bg N m N 0) fun a=>
 Ex.on a (fun b=>
 some 0) some))
def cu(N:Nat)(m:Mach)(b:Int):Nat→Int→Int→Option Int
 |0,_,_=>none
 |c+1,x23,a=>
  bif decide (a<m.inputs) then(
  bd (
  gd (okI m.rows b)<|
  gd (okI (ix m.rows b) a)<|
  bif decide (0≤((ix (ix m.rows b) a).to)) then(
  gd (in64 (x23+1))<|
  some (x23+1)) else(
  some x23)) fun d=>
  gd (in64 (a+1))<|
  cu N m b c d (a+1)) else(
  some x23)
def ik(N:Nat)(m:Mach):Nat→Int→Int→Option Int
 |0,_,_=>none
 |d+1,b,a=>
  bif decide (a<(↑m.rows.length:Int)) then(
  bd (
  cu N m a N b 0) fun c=>
  gd (in64 (a+1))<|
  ik N m d c (a+1)) else(
  some b)
def z3q(N:Nat)(m:Mach):Option Int:=
 bd (
 ik N m N 0 0) fun a=>
 some a
def z3a(N:Nat)(m:Mach):Option Bool:=
 bd (z3q N m) fun a=>
 gd (in64 ((↑m.rows.length:Int)*m.inputs))<|
 some (decide (a=((↑m.rows.length:Int)*m.inputs)))
def z3f(N:Nat)(m:Mach):Option Int:=
 bd (z4s N m) fun b=>
 bif decide (b≠0) then(
 some b) else(
 bd (z3a N m) fun a=>
 bif !a then(
 some 9) else(
 some 0))
def lu(N:Nat)(m:Mach)(l_:(List Int)):Nat→Int→Option (Ex (Unit) (Int))
 |0,_=>none
 |b+1,a=>
  bif decide (a<(↑l_.length:Int)) then(
  gd (okI l_ a)<|
  gd ((true&&((decide ((ix l_ a)<0))==false))=true→okI l_ a)<|
  gd (((true&&(((decide ((ix l_ a)<0))||(decide ((↑m.rows.length:Int)≤(ix l_ a))))==false))&&((decide (0<a))==true))=true→okI l_ a)<|
  gd (((true&&(((decide ((ix l_ a)<0))||(decide ((↑m.rows.length:Int)≤(ix l_ a))))==false))&&((decide (0<a))==true))=true→in64 (a-1))<|
  gd (((true&&(((decide ((ix l_ a)<0))||(decide ((↑m.rows.length:Int)≤(ix l_ a))))==false))&&((decide (0<a))==true))=true→okI l_ (a-1))<|
  bif ((decide ((ix l_ a)<0))||(decide ((↑m.rows.length:Int)≤(ix l_ a))))||((decide (0<a))&&(decide ((ix l_ a)≤(ix l_ (a-1))))) then(
  some (Ex.rt 1)) else(
  gd (in64 (a+1))<|
  lu N m l_ b (a+1))) else(
  some (Ex.go ()))
def z4k(N:Nat)(m:Mach)(l_:(List Int)):Option Int:=
 bd (
 lu N m l_ N 0) fun a=>
 Ex.on a (fun b=>
 some 0) some
def z7a(N:Nat)(w_:(List Int)):Option Int:=
 bif decide (256<(↑w_.length:Int)) then(
 some 3) else(
 some 0)
def gu(N:Nat)(w_:(List Int))(inputs:Int):Nat→Int→Option (Ex (Unit) (Int))
 |0,_=>none
 |b+1,a=>
  bif decide (a<(↑w_.length:Int)) then(
  gd (okI w_ a)<|
  gd ((true&&((decide ((ix w_ a)<0))==false))=true→okI w_ a)<|
  bif (decide ((ix w_ a)<0))||(decide (inputs≤(ix w_ a))) then(
  some (Ex.rt 1)) else(
  gd (in64 (a+1))<|
  gu N w_ inputs b (a+1))) else(
  some (Ex.go ()))
def z3r(N:Nat)(w_:(List Int))(inputs:Int):Option Int:=
 bd (
 gu N w_ inputs N 0) fun a=>
 Ex.on a (fun b=>
 some 0) some
def z0n(N:Nat)(l_:(List (List Int)))(inputs:Int):Nat→Int→Option (Ex (Unit) (Int))
 |0,_=>none
 |d+1,a=>
  bif decide (a<(↑l_.length:Int)) then(
  gd (okI l_ a)<|
  bd (z7a N (ix l_ a)) fun b=>
  bif decide (b≠0) then(
  some (Ex.rt b)) else(
  gd (okI l_ a)<|
  bd (z3r N (ix l_ a) inputs) fun c=>
  bif decide (c≠0) then(
  some (Ex.rt c)) else(
  gd (in64 (a+1))<|
  z0n N l_ inputs d (a+1)))) else(
  some (Ex.go ()))
def z3e(N:Nat)(l_:(List (List Int)))(inputs:Int):Option Int:=
 bif (decide (16<inputs))||(decide (4096<(↑l_.length:Int))) then(
 some 3) else(
 bif decide (inputs<1) then(
 some 1) else(
 bd (
 z0n N l_ inputs N 0) fun a=>
 Ex.on a (fun b=>
 some 0) some))
def z3b(N:Nat)(m:Mach)(x:MDat)(y:Sj):Option Bool:=
 bd (z1v N (⟨m.inputs,m.outputs,m.rows⟩:Mach)) fun u=>
 bif (((decide (u≠0))||(decide (300<(↑y.fI.length:Int))))||(decide (300<(↑y.fH.length:Int))))||(decide (300<(↑y.fE.length:Int))) then(
 some true) else(
 bd (
 bif decide ((↑m.rows.length:Int)=0) then(
 bd (z5j N x) fun p=>
 some (p.inputs,p.outputs,p.rows)) else(
 some (m.inputs,m.outputs,m.rows))) fun a=>
 bd (z3f N (⟨a.1,a.2.1,a.2.2⟩:Mach)) fun b=>
 bd (z2m N (⟨a.1,a.2.1,a.2.2⟩:Mach)) fun j=>
 bd (z11 N (⟨a.1,a.2.1,a.2.2⟩:Mach)) fun k=>
 bd (z2i N (⟨a.1,a.2.1,a.2.2⟩:Mach)) fun g=>
 gd (((true&&((decide (b≠0))==true))&&((((decide (j.2≠b))||(decide (k.2≠b)))||(decide (g.2≠b)))==false))=true→in64 ((↑j.1.length:Int)+(↑k.1.length:Int)))<|
 gd (((true&&((decide (b≠0))==true))&&((((decide (j.2≠b))||(decide (k.2≠b)))||(decide (g.2≠b)))==false))=true→in64 (((↑j.1.length:Int)+(↑k.1.length:Int))+g.1))<|
 bif (decide (b≠0))&&((((decide (j.2≠b))||(decide (k.2≠b)))||(decide (g.2≠b)))||(decide ((((↑j.1.length:Int)+(↑k.1.length:Int))+g.1)≠0))) then(
 some false) else(
 bd (
 bif (decide (b=0))&&((((decide (y.fO<0))||(decide (y.fP<0)))||(decide ((↑a.2.2.length:Int)≤y.fO)))||(decide ((↑a.2.2.length:Int)≤y.fP))) then(
 some 1) else(
 some b)) fun h=>
 bd (
 bif decide (b=0) then(
 bd (z4k N (⟨a.1,a.2.1,a.2.2⟩:Mach) y.fI) fun n=>
 bd (z3e N ([y.fH]:List (List Int)) a.1) fun l=>
 bd (
 bif decide (n=0) then(
 some l) else(
 some n)) fun o=>
 bif (decide (l=0))&&(decide ((↑y.fH.length:Int)≠(↑y.fE.length:Int))) then(
 some (o,1)) else(
 some (o,l))) else(
 some (b,b))) fun c=>
 bd (z1w N (⟨a.1,a.2.1,a.2.2⟩:Mach) y.fO y.fP) fun d=>
 bd (z1e N (⟨a.1,a.2.1,a.2.2⟩:Mach) y.fI y.fH) fun e=>
 bd (z0w N (⟨a.1,a.2.1,a.2.2⟩:Mach) y.fH y.fE) fun f=>
 bif (((decide (h≠0))&&((decide (d.2≠h))||(decide ((↑d.1.length:Int)≠0))))||((decide (c.1≠0))&&((decide (e.2≠c.1))||(decide ((↑e.1.length:Int)≠0)))))||((decide (c.2≠0))&&((decide (f.2≠c.2))||(decide (f.1≠0)))) then(
 some false) else(
 bd (gop (((true&&((((decide (h=0))&&(decide (d.2≠0)))&&(decide (d.2≠7)))==false))&&((decide (c.1=0))==true))&&((decide (e.2≠0))==false)) (z04 N (⟨a.1,a.2.1,a.2.2⟩:Mach) y.fI y.fH)) fun q=>
 bd (gop (((true&&((((decide (h=0))&&(decide (d.2≠0)))&&(decide (d.2≠7)))==false))&&((decide (c.1=0))==true))&&((decide (e.2≠0))==false)) (uq N e.1 (q.getD default))) fun r=>
 bif (((decide (h=0))&&(decide (d.2≠0)))&&(decide (d.2≠7)))||((decide (c.1=0))&&((decide (e.2≠0))||(!(r.getD default)))) then(
 some false) else(
 bif decide (c.2≠0) then(
 bd (lh N) fun s=>
 some s) else(
 bd (z1j N (⟨a.1,a.2.1,a.2.2⟩:Mach) y.fH y.fE) fun i=>
 bd (gop (true&&(((decide (f.1=i.1))&&(decide (f.2=i.2)))==true)) (lh N)) fun t=>
 some (((decide (f.1=i.1))&&(decide (f.2=i.2)))&&(t.getD default)))))))
end GV
end Go.Proofs.YtjmlpkkbmnjhcaaGreat
