import Derived.Test.YtjmlpkkbmnjhcaaShTypes
set_option linter.unusedVariables false
set_option linter.unusedSimpArgs false
set_option linter.unusedSectionVars false
namespace Go.Proofs.Ytjmlpkkbmnjhcaa
namespace GV
set_option maxRecDepth 100000
def uy(N:Nat)(s:(List Edge))(f:Edge→Option Bool):Nat→Int→Option (Ex (Unit) (Int))
 |0,_=>none
 |c+1,a=>
  bif decide (a<(↑s.length:Int)) then(
  gd (okI s a)<|
  bd (f (ix s a)) fun b=>
  bif b then(
  some (Ex.rt a)) else(
  gd (in64 (a+1))<|
  uy N s f c (a+1))) else(
  some (Ex.go ()))
def ic(N:Nat)(s:(List Edge))(f:Edge→Option Bool):Option Int:=
 bd (
 uy N s f N 0) fun a=>
 Ex.on a (fun b=>
 some (-1)) some
def tq(N:Nat)(s:(List Edge))(f:Edge→Option Bool):Option Bool:=
 bd (ic N s f) fun a=>
 some (decide (0≤a))
def z0n(N:Nat):Option Edge:=
 some (⟨(-1),(-1)⟩:Edge)
def z7f(N:Nat)(m:Mach)(x:Edge):Option Bool:=
 bd (z0n N) fun a=>
 some ((decide (x.to=a.to∧x.out=a.out))||((((decide (0≤x.to))&&(decide (x.to<(↑m.rows.length:Int))))&&(decide (0≤x.out)))&&(decide (x.out<m.outputs))))
def z4j(N:Nat)(x:Edge)(p0_:Mach):Option Bool:=
 bd (z7f N p0_ x) fun a=>
 some (!a)
def oo(N:Nat)(m:Mach):Nat→Int→Option (Ex (Unit) (Int))
 |0,_=>none
 |b+1,a=>
  bif decide (a<(↑m.rows.length:Int)) then(
  gd (okI m.rows a)<|
  bd (gop (true&&((decide ((↑(ix m.rows a).length:Int)≠m.inputs))==false)) (tq N (ix m.rows a) (fun d=>z4j N d m))) fun c=>
  bif (decide ((↑(ix m.rows a).length:Int)≠m.inputs))||(c.getD default) then(
  some (Ex.rt 1)) else(
  gd (in64 (a+1))<|
  oo N m b (a+1))) else(
  some (Ex.go ()))
def z0z(N:Nat)(m:Mach):Option Int:=
 bif ((decide (16<m.inputs))||(decide (16<m.outputs)))||(decide (64<(↑m.rows.length:Int))) then(
 some 3) else(
 bif ((decide (m.inputs<1))||(decide (m.outputs<1)))||(decide ((↑m.rows.length:Int)<1)) then(
 some 1) else(
 bd (
 oo N m N 0) fun a=>
 Ex.on a (fun b=>
 some 0) some))
def z3v(N:Nat)(m:Mach):Option Mach:=
 some m
def nu(N:Nat)(σ:Type)(B:((Int×Int)×Edge)→σ→Option (Bool×σ))(p0_:Mach)(c:Int):Nat→σ→Int→Option (Ex (σ) (σ))
 |0,_,_=>none
 |e+1,d,a=>
  bif decide (a<(↑(ix p0_.rows c).length:Int)) then(
  gd (okI (ix p0_.rows c) a)<|
  bd (B (((c,a):(Int×Int)),(⟨(ix (ix p0_.rows c) a).to,(ix (ix p0_.rows c) a).out⟩:Edge)) d) fun b=>
  bif !b.1 then(
  some (Ex.rt b.2)) else(
  gd (in64 (a+1))<|
  nu N σ B p0_ c e b.2 (a+1))) else(
  some (Ex.go d))
def o8(N:Nat)(σ:Type)(B:((Int×Int)×Edge)→σ→Option (Bool×σ))(p0_:Mach):Nat→σ→Int→Option σ
 |0,_,_=>none
 |e+1,d,a=>
  bif decide (a<(↑p0_.rows.length:Int)) then(
  bd (
  gd (okI p0_.rows a)<|
  nu N σ B p0_ a N d 0) fun b=>
  Ex.on b (fun c=>
  gd (in64 (a+1))<|
  o8 N σ B p0_ e c (a+1)) some) else(
  some d)
def z0w(N:Nat)(p0_:Mach)(σ:Type)(B:((Int×Int)×Edge)→σ→Option (Bool×σ))(s0:σ):Option σ:=
 o8 N σ B p0_ N s0 0
def z18(N:Nat)(s:(List (Int×Int))):Option (List (Int×Int)):=
 gd (okS s 0 (↑s.length:Int))<|
 some (cut s 0 (↑s.length:Int))
def z0f(N:Nat)(m:Mach):Option (List (Int×Int)):=
 bd (z3v N m) fun f=>
 bd (z0w N f (List (Int×Int)) (fun a b=>
 bd (z0n N) fun c=>
 bif decide (a.2.to=c.to∧a.2.out=c.out) then(
 gd (fits 16 b ([((a.1.1,a.1.2):(Int×Int))]:List (Int×Int)))<|
 some (true,(b++([((a.1.1,a.1.2):(Int×Int))]:List (Int×Int))))) else(
 some (true,b))) ([]:List (Int×Int))) fun d=>
 bd (z18 N d) fun e=>
 some e
def z0l(N:Nat)(m:Mach):Option (Bool×Int):=
 bd (z0z N m) fun b=>
 bif decide (b≠0) then(
 some (false,b)) else(
 bd (z0f N m) fun a=>
 some ((decide ((↑a.length:Int)=0)),0))
def z07(N:Nat)(m:Mach):Option Int:=
 bd (z0l N m) fun a=>
 bif (decide (a.2=0))&&(!a.1) then(
 some 9) else(
 some a.2)
def tu(N:Nat)(s:(List Int)):Option (List Int):=
 gd (okS s 0 (↑s.length:Int))<|
 some (cut s 0 (↑s.length:Int))
def xz(N:Nat)(inputs:Int)(key:(Int×Int)→Option (List UInt8))(next:(Int×Int)→Int→Option (Int×Int))(f:List Sc)(g:Int):Nat→Int→(List ((List UInt8)×Bool))→(List Sc)→Option (Ex (List ((List UInt8)×Bool)×List Sc) (Ex (List Sc×List ((List UInt8)×Bool)) (Ex (Unit) ((List Int)×Int))))
 |0,_,_,_=>none
 |j+1,a,c,d=>
  bif decide (a<inputs) then(
  bd (
  bd (next ((((ix f g).fC).1,((ix f g).fC).2):(Int×Int)) a) fun b=>
  bd (key ((b.1,b.2):(Int×Int))) fun h=>
  bif !(z8m false c h) then(
  bd (tu N ((ix f g).fG)) fun e=>
  gd (fits 8 e ([a]:List Int))<|
  gd (fits 40 d ([(⟨((b.1,b.2):(Int×Int)),(e++([a]:List Int))⟩:Sc)]:List Sc))<|
  some ((z2c c h true),(d++([(⟨((b.1,b.2):(Int×Int)),(e++([a]:List Int))⟩:Sc)]:List Sc)))) else(
  some (c,d))) fun i=>
  gd (in64 (a+1))<|
  xz N inputs key next f g j (a+1) i.1 i.2) else(
  some (Ex.go (c,d)))
def xu(N:Nat)(inputs:Int)(key:(Int×Int)→Option (List UInt8))(is:(Int×Int)→Option Bool)(next:(Int×Int)→Int→Option (Int×Int))(b:List Sc):Nat→(List Sc)→Int→(List ((List UInt8)×Bool))→Option (Ex (List Sc×List ((List UInt8)×Bool)) (Ex (Unit) ((List Int)×Int)))
 |0,_,_,_=>none
 |g+1,c,a,d=>
  bif decide (a<(↑b.length:Int)) then(
  bd (
  gd (okI b a)<|
  bd (is ((((ix b a).fC).1,((ix b a).fC).2):(Int×Int))) fun h=>
  bif h then(
  bd (tu N ((ix b a).fG)) fun e=>
  some (Ex.rt (Ex.rt (Ex.rt (e,0))))) else(
  xz N inputs key next b a N 0 d c)) fun i=>
  Ex.on i (fun f=>
  gd (in64 (a+1))<|
  xu N inputs key is next b g f.2 (a+1) f.1) some) else(
  some (Ex.go (c,d)))
def xn(N:Nat)(inputs:Int)(key:(Int×Int)→Option (List UInt8))(is:(Int×Int)→Option Bool)(next:(Int×Int)→Int→Option (Int×Int)):Nat→(List Sc)→Int→(List ((List UInt8)×Bool))→Option (Ex (Unit) ((List Int)×Int))
 |0,_,_,_=>none
 |d+1,b,a,e=>
  bif (decide (0<(↑b.length:Int)))&&(decide (a≤256)) then(
  bd (
  xu N inputs key is next b N ([]:List Sc) 0 e) fun f=>
  Ex.on f (fun c=>
  gd (in64 (a+1))<|
  xn N inputs key is next d c.1 (a+1) c.2) some) else(
  some (Ex.go ()))
def z03(N:Nat)(inputs:Int)(from_:(Int×Int))(key:(Int×Int)→Option (List UInt8))(is:(Int×Int)→Option Bool)(next:(Int×Int)→Int→Option (Int×Int)):Option ((List Int)×Int):=
 bd (key from_) fun a=>
 bd (
 xn N inputs key is next N ([(⟨((from_.1,from_.2):(Int×Int)),[]⟩:Sc)]:List Sc) 0 (z2c ([]:List ((List UInt8)×Bool)) a true)) fun b=>
 Ex.on b (fun c=>
 some (([]:(List Int)),7)) some
def z4r(N:Nat)(x:(Int×Int)):Option (List UInt8):=
 some (z81 ([IntKind.u8.wrap x.1,IntKind.u8.wrap x.2]:List Int))
def z4q(N:Nat)(x:(Int×Int)):Option Bool:=
 some (decide (x.1=x.2))
def z08(N:Nat)(g_:Sd)(x:(Int×Int))(i:Int):Option (Int×Int):=
 gd (okI g_.fD.rows x.1)<|
 gd (okI (ix g_.fD.rows x.1) i)<|
 gd (okI g_.fD.rows x.2)<|
 gd (okI (ix g_.fD.rows x.2) i)<|
 some (((ix (ix g_.fD.rows x.1) i).to,(ix (ix g_.fD.rows x.2) i).to):(Int×Int))
def dw(N:Nat)(m:Mach)(s:Int)(t:Int):Option ((List Int)×Int):=
 bd (z07 N m) fun c=>
 bif decide (c≠0) then(
 some (([]:(List Int)),c)) else(
 bif (((decide (s<0))||(decide (t<0)))||(decide ((↑m.rows.length:Int)≤s)))||(decide ((↑m.rows.length:Int)≤t)) then(
 some (([]:(List Int)),1)) else(
 bd (z03 N m.inputs ((s,t):(Int×Int)) (fun a=>z4r N a) (fun a=>z4q N a) (fun a d=>z08 N (⟨(⟨m.inputs,m.outputs,m.rows⟩:Mach)⟩:Sd) a d)) fun b=>
 some (b.1,b.2)))
def z19(N:Nat):Option (Mach×Mach):=
 some ((⟨2,2,([([(⟨1,0⟩:Edge),(⟨0,0⟩:Edge)]:List Edge),([(⟨2,0⟩:Edge),(⟨1,1⟩:Edge)]:List Edge),([(⟨0,1⟩:Edge),(⟨2,0⟩:Edge)]:List Edge)]:List (List Edge))⟩:Mach),(⟨2,1,([([(⟨1,0⟩:Edge),(⟨0,0⟩:Edge)]:List Edge),([(⟨2,0⟩:Edge),(⟨0,0⟩:Edge)]:List Edge),([(⟨2,0⟩:Edge),(⟨0,0⟩:Edge)]:List Edge)]:List (List Edge))⟩:Mach))
def z4i(N:Nat)(m:Mach):Option Int:=
 gd (okSh .u16 (↑m.rows.length:Int))<|
 some (IntKind.u16.wrap ((mq .u16 (1:Int) (↑m.rows.length:Int))-1))
def xc(N:Nat)(inputs:Int)(key:(List Int)→Option (List UInt8))(next:(List Int)→Int→Option (List Int))(x23:List Sa)(x62:Int):Nat→Int→(List ((List UInt8)×Bool))→(List Sa)→Option (Ex (List ((List UInt8)×Bool)×List Sa) (Ex (List Sa×List ((List UInt8)×Bool)) (Ex (Unit) ((List Int)×Int))))
 |0,_,_,_=>none
 |h+1,a,b,c=>
  bif decide (a<inputs) then(
  bd (
  bd (next ((ix x23 x62).fC) a) fun d=>
  bd (key d) fun f=>
  bif !(z8m false b f) then(
  bd (tu N ((ix x23 x62).fG)) fun e=>
  gd (fits 8 e ([a]:List Int)∧0<([a]:List Int).length)<|
  gd (fits 48 c ([(⟨d,(e++([a]:List Int))⟩:Sa)]:List Sa))<|
  some ((z2c b f true),(c++([(⟨d,(e++([a]:List Int))⟩:Sa)]:List Sa)))) else(
  some (b,c))) fun g=>
  gd (in64 (a+1))<|
  xc N inputs key next x23 x62 h (a+1) g.1 g.2) else(
  some (Ex.go (b,c)))
def xg(N:Nat)(inputs:Int)(key:(List Int)→Option (List UInt8))(is:(List Int)→Option Bool)(next:(List Int)→Int→Option (List Int))(x23:List Sa):Nat→(List Sa)→Int→(List ((List UInt8)×Bool))→Option (Ex (List Sa×List ((List UInt8)×Bool)) (Ex (Unit) ((List Int)×Int)))
 |0,_,_,_=>none
 |e+1,a,x62,b=>
  bif decide (x62<(↑x23.length:Int)) then(
  bd (
  gd (okI x23 x62)<|
  bd (is ((ix x23 x62).fC)) fun f=>
  bif f then(
  bd (tu N ((ix x23 x62).fG)) fun c=>
  some (Ex.rt (Ex.rt (Ex.rt (c,0))))) else(
  xc N inputs key next x23 x62 N 0 b a)) fun g=>
  Ex.on g (fun d=>
  gd (in64 (x62+1))<|
  xg N inputs key is next x23 e d.2 (x62+1) d.1) some) else(
  some (Ex.go (a,b)))
def xh(N:Nat)(inputs:Int)(key:(List Int)→Option (List UInt8))(is:(List Int)→Option Bool)(next:(List Int)→Int→Option (List Int)):Nat→(List Sa)→Int→(List ((List UInt8)×Bool))→Option (Ex (Unit) ((List Int)×Int))
 |0,_,_,_=>none
 |c+1,x23,a,d=>
  bif (decide (0<(↑x23.length:Int)))&&(decide (a≤256)) then(
  bd (
  xg N inputs key is next x23 N ([]:List Sa) 0 d) fun e=>
  Ex.on e (fun b=>
  gd (in64 (a+1))<|
  xh N inputs key is next c b.1 (a+1) b.2) some) else(
  some (Ex.go ()))
def ll(N:Nat)(inputs:Int)(from_:(List Int))(key:(List Int)→Option (List UInt8))(is:(List Int)→Option Bool)(next:(List Int)→Int→Option (List Int)):Option ((List Int)×Int):=
 bd (key from_) fun a=>
 bd (
 xh N inputs key is next N ([(⟨from_,[]⟩:Sa)]:List Sa) 0 (z2c ([]:List ((List UInt8)×Bool)) a true)) fun b=>
 Ex.on b (fun c=>
 some (([]:(List Int)),7)) some
def lc(N:Nat)(l_:(List Int)):Nat→(List Int)→Int→Option (List Int)
 |0,_,_=>none
 |c+1,b,a=>
  bif decide (a<(↑l_.length:Int)) then(
  gd (okI l_ a)<|
  gd (okSh .u16 (8:Int))<|
  gd (fits 1 b ([IntKind.u8.wrap (zo (ix l_ a) (8:Int)),IntKind.u8.wrap (ix l_ a)]:List Int))<|
  gd (in64 (a+1))<|
  lc N l_ c (b++([IntKind.u8.wrap (zo (ix l_ a) (8:Int)),IntKind.u8.wrap (ix l_ a)]:List Int)) (a+1)) else(
  some b)
def z1q(N:Nat)(l_:(List Int)):Option (List UInt8):=
 bd (
 lc N l_ N ([]:List Int) 0) fun a=>
 some (z81 a)
def z1w(N:Nat)(l_:(List Int)):Option Bool:=
 some (decide ((↑l_.length:Int)=0))
def il(N:Nat)(x:Int):Option Int:=
 gd (okSh .u16 (8:Int))<|
 gd (okI strT1 (zo x (8:Int)))<|
 gd (okB .u16 x 255)<|
 gd (okI strT1 (zb x 255))<|
 gd (in64 (IntKind.u8.wrap ((ix strT1 (zo x (8:Int)))+(ix strT1 (zb x 255)))))<|
 some (IntKind.u8.wrap ((ix strT1 (zo x (8:Int)))+(ix strT1 (zb x 255))))
def z5a(N:Nat)(x:Int):Option Int:=
 bd (
 bif decide (4294967296≤x) then(
 gd (okSh .u64 (32:Int))<|
 some (zo x (32:Int),32)) else(
 some (x,0))) fun b=>
 bd (
 bif decide (65536≤b.1) then(
 gd (okSh .u64 (16:Int))<|
 gd (in64 (b.2+16))<|
 some (zo b.1 (16:Int),b.2+16)) else(
 some (b.1,b.2))) fun c=>
 bd (
 bif decide (256≤c.1) then(
 gd (okSh .u64 (8:Int))<|
 gd (in64 (c.2+8))<|
 some (zo c.1 (8:Int),c.2+8)) else(
 some (c.1,c.2))) fun a=>
 gd (okI zf1 (IntKind.u8.wrap a.1))<|
 gd (in64 (ix zf1 (IntKind.u8.wrap a.1)))<|
 gd (in64 (a.2+(ix zf1 (IntKind.u8.wrap a.1))))<|
 some (a.2+(ix zf1 (IntKind.u8.wrap a.1)))
def z0m(N:Nat)(x:Int):Option Int:=
 bd (z5a N x) fun a=>
 some a
def z13(N:Nat)(x:Int):Option Bool:=
 some (decide (x≠x))
def uq(N:Nat)(x:Int)(y:Int):Option Bool:=
 bd (z13 N x) fun b=>
 bd (gop (true&&(b==true)) (z13 N y)) fun a=>
 some ((b&&(!(a.getD default)))||(decide (x<y)))
def uj(N:Nat)(a:Int):Nat→Int→(List Int)→Option (List Int)
 |0,_,_=>none
 |c+1,x16,b=>
  gd ((true&&((decide (a<x16))==true))=true→okI b x16)<|
  gd ((true&&((decide (a<x16))==true))=true→in64 (x16-1))<|
  gd ((true&&((decide (a<x16))==true))=true→okI b (x16-1))<|
  bd (gop (true&&((decide (a<x16))==true)) (uq N (ix b x16) (ix b (x16-1)))) fun d=>
  bif (decide (a<x16))&&(d.getD default) then(
  gd (in64 (x16-1))<|
  gd (in64 (x16-1))<|
  gd (okI b (x16-1))<|
  gd (okI b x16)<|
  gd (okI b x16)<|
  gd (okI b (x16-1))<|
  gd (in64 (x16-1))<|
  uj N a c (x16-1) (up (up b x16 (ix b (x16-1))) (x16-1) (ix b x16))) else(
  some b)
def um(N:Nat)(a:Int)(b:Int):Nat→Int→(List Int)→Option (List Int)
 |0,_,_=>none
 |f+1,c,e=>
  bif decide (c<b) then(
  bd (
  uj N a N c e) fun d=>
  gd (in64 (c+1))<|
  um N a b f (c+1) d) else(
  some e)
def bq(N:Nat)(data:List Int)(a:Int)(b:Int):Option (List Int):=
 gd (in64 (a+1))<|
 um N a b N (a+1) data
def vz(N:Nat)(hi:Int)(first:Int):Nat→Int→(List Int)→Option (List Int)
 |0,_,_=>none
 |f+1,a,c=>
  gd (in64 ((2:Int)*a))<|
  gd (in64 (((2:Int)*a)+1))<|
  bif decide (hi≤(((2:Int)*a)+1)) then(
  some c) else(
  bd (
  gd (in64 ((((2:Int)*a)+1)+1))<|
  gd ((true&&((decide (((((2:Int)*a)+1)+1)<hi))==true))=true→in64 (first+(((2:Int)*a)+1)))<|
  gd ((true&&((decide (((((2:Int)*a)+1)+1)<hi))==true))=true→okI c (first+(((2:Int)*a)+1)))<|
  gd ((true&&((decide (((((2:Int)*a)+1)+1)<hi))==true))=true→in64 (first+(((2:Int)*a)+1)))<|
  gd ((true&&((decide (((((2:Int)*a)+1)+1)<hi))==true))=true→in64 ((first+(((2:Int)*a)+1))+1))<|
  gd ((true&&((decide (((((2:Int)*a)+1)+1)<hi))==true))=true→okI c ((first+(((2:Int)*a)+1))+1))<|
  bd (gop (true&&((decide (((((2:Int)*a)+1)+1)<hi))==true)) (uq N (ix c (first+(((2:Int)*a)+1))) (ix c ((first+(((2:Int)*a)+1))+1)))) fun d=>
  bif (decide (((((2:Int)*a)+1)+1)<hi))&&(d.getD default) then(
  gd (in64 ((((2:Int)*a)+1)+1))<|
  some ((((2:Int)*a)+1)+1)) else(
  some (((2:Int)*a)+1))) fun b=>
  gd (in64 (first+a))<|
  gd (okI c (first+a))<|
  gd (in64 (first+b))<|
  gd (okI c (first+b))<|
  bd (uq N (ix c (first+a)) (ix c (first+b))) fun e=>
  bif !e then(
  some c) else(
  gd (in64 (first+a))<|
  gd (in64 (first+b))<|
  gd (in64 (first+b))<|
  gd (okI c (first+b))<|
  gd (in64 (first+a))<|
  gd (okI c (first+a))<|
  gd (okI c (first+a))<|
  gd (okI c (first+b))<|
  vz N hi first f b (up (up c (first+a) (ix c (first+b))) (first+b) (ix c (first+a)))))
def mo(N:Nat)(data:List Int)(lo:Int)(hi:Int)(first:Int):Option (List Int):=
 vz N hi first N lo data
def yf(N:Nat)(a:Int)(b:Int):Nat→Int→(List Int)→Option (List Int)
 |0,_,_=>none
 |f+1,c,d=>
  bif decide (0≤c) then(
  bd (mo N d c (b-a) a) fun e=>
  gd (in64 (c-1))<|
  yf N a b f (c-1) e) else(
  some d)
def yc(N:Nat)(a:Int):Nat→Int→(List Int)→Option (List Int)
 |0,_,_=>none
 |d+1,b,c=>
  bif decide (0≤b) then(
  gd (in64 (a+b))<|
  gd (in64 (a+b))<|
  gd (okI c (a+b))<|
  gd (okI c a)<|
  gd (okI c a)<|
  gd (okI c (a+b))<|
  bd (mo N (up (up c a (ix c (a+b))) (a+b) (ix c a)) 0 b a) fun e=>
  gd (in64 (b-1))<|
  yc N a d (b-1) e) else(
  some c)
def mi(N:Nat)(data:List Int)(a:Int)(b:Int):Option (List Int):=
 gd (in64 (b-a))<|
 bd (
 gd (in64 ((b-a)-1))<|
 gd (okQ ((b-a)-1) 2)<|
 yf N a b N (((b-a)-1)/2) data) fun c=>
 gd (in64 ((b-a)-1))<|
 yc N a N ((b-a)-1) c
def iq(N:Nat)(length:Int):Option Int:=
 bd (z0m N (IntKind.u64.wrap length)) fun a=>
 gd (okSh .u64 a)<|
 some (mq .u64 (1:Int) a)
def lq(N:Nat)(r_:Int):Option (Int×Int):=
 gd (okSh .u64 (13:Int))<|
 gd (okB .u64 r_ (mq .u64 r_ (13:Int)))<|
 gd (okSh .u64 (7:Int))<|
 gd (okB .u64 (ig r_ (mq .u64 r_ (13:Int))) (zo (ig r_ (mq .u64 r_ (13:Int))) (7:Int)))<|
 gd (okSh .u64 (17:Int))<|
 gd (okB .u64 (ig (ig r_ (mq .u64 r_ (13:Int))) (zo (ig r_ (mq .u64 r_ (13:Int))) (7:Int))) (mq .u64 (ig (ig r_ (mq .u64 r_ (13:Int))) (zo (ig r_ (mq .u64 r_ (13:Int))) (7:Int))) (17:Int)))<|
 some ((ig (ig (ig r_ (mq .u64 r_ (13:Int))) (zo (ig r_ (mq .u64 r_ (13:Int))) (7:Int))) (mq .u64 (ig (ig r_ (mq .u64 r_ (13:Int))) (zo (ig r_ (mq .u64 r_ (13:Int))) (7:Int))) (17:Int))),(ig (ig (ig r_ (mq .u64 r_ (13:Int))) (zo (ig r_ (mq .u64 r_ (13:Int))) (7:Int))) (mq .u64 (ig (ig r_ (mq .u64 r_ (13:Int))) (zo (ig r_ (mq .u64 r_ (13:Int))) (7:Int))) (17:Int))))
def uk(N:Nat)(a:Int)(b:Int)(f:Int):Nat→Int→(List Int)→Int→Option (List Int)
 |0,_,_,_=>none
 |g+1,x16,c,h=>
  gd (okQ (b-a) 4)<|
  gd (in64 (((b-a)/4)*2))<|
  gd (in64 (a+(((b-a)/4)*2)))<|
  gd (in64 ((a+(((b-a)/4)*2))+1))<|
  bif decide (x16≤((a+(((b-a)/4)*2))+1)) then(
  bd (lq N h) fun d=>
  gd (okB .u64 d.1 (IntKind.u64.wrap (f-1)))<|
  gd (in64 (zb d.1 (IntKind.u64.wrap (f-1))))<|
  bd (
  bif decide ((b-a)≤(zb d.1 (IntKind.u64.wrap (f-1)))) then(
  gd (in64 ((zb d.1 (IntKind.u64.wrap (f-1)))-(b-a)))<|
  some ((zb d.1 (IntKind.u64.wrap (f-1)))-(b-a))) else(
  some (zb d.1 (IntKind.u64.wrap (f-1))))) fun e=>
  gd (in64 (a+e))<|
  gd (in64 (a+e))<|
  gd (okI c (a+e))<|
  gd (okI c x16)<|
  gd (okI c x16)<|
  gd (okI c (a+e))<|
  gd (in64 (x16+1))<|
  uk N a b f g (x16+1) (up (up c x16 (ix c (a+e))) (a+e) (ix c x16)) d.2) else(
  some c)
def ym(N:Nat)(data:List Int)(a:Int)(b:Int):Option (List Int):=
 gd (in64 (b-a))<|
 bif decide (8≤(b-a)) then(
 bd (iq N (b-a)) fun c=>
 gd (okQ (b-a) 4)<|
 gd (in64 (((b-a)/4)*2))<|
 gd (in64 (a+(((b-a)/4)*2)))<|
 gd (in64 ((a+(((b-a)/4)*2))-1))<|
 uk N a b c N ((a+(((b-a)/4)*2))-1) data (IntKind.u64.wrap (b-a))) else(
 some data)
def xq(N:Nat)(data:(List Int))(a:Int)(b:Int)(swaps:Int):Option (Int×Int×Int):=
 gd (okI data b)<|
 gd (okI data a)<|
 bd (uq N (ix data b) (ix data a)) fun c=>
 bif c then(
 gd (in64 (swaps+1))<|
 some (b,a,(swaps+1))) else(
 some (a,b,swaps))
def dx(N:Nat)(data:(List Int))(a:Int)(b:Int)(c:Int)(swaps:Int):Option (Int×Int):=
 bd (xq N data a b swaps) fun e=>
 bd (xq N data e.2.1 c e.2.2) fun f=>
 bd (xq N data e.1 f.1 f.2.2) fun d=>
 some (d.2.1,d.2.2)
def jg(N:Nat)(data:(List Int))(a:Int)(swaps:Int):Option (Int×Int):=
 gd (in64 (a-1))<|
 gd (in64 (a+1))<|
 bd (dx N data (a-1) a (a+1) swaps) fun b=>
 some (b.1,b.2)
def df(N:Nat)(data:(List Int))(a:Int)(b:Int):Option (Int×Int):=
 gd (in64 (b-a))<|
 gd (okQ (b-a) 4)<|
 gd (in64 (((b-a)/4)*1))<|
 gd (in64 (a+(((b-a)/4)*1)))<|
 gd (okQ (b-a) 4)<|
 gd (in64 (((b-a)/4)*2))<|
 gd (in64 (a+(((b-a)/4)*2)))<|
 gd (okQ (b-a) 4)<|
 gd (in64 (((b-a)/4)*3))<|
 gd (in64 (a+(((b-a)/4)*3)))<|
 bd (
 bif decide (8≤(b-a)) then(
 bd (
 bif decide (50≤(b-a)) then(
 bd (jg N data (a+(((b-a)/4)*1)) 0) fun e=>
 bd (jg N data (a+(((b-a)/4)*2)) e.2) fun f=>
 bd (jg N data (a+(((b-a)/4)*3)) f.2) fun g=>
 some (e.1,f.1,g.1,g.2)) else(
 some (a+(((b-a)/4)*1),a+(((b-a)/4)*2),a+(((b-a)/4)*3),0))) fun d=>
 bd (dx N data d.1 d.2.1 d.2.2.1 d.2.2.2) fun h=>
 some (h.1,h.2)) else(
 some (a+(((b-a)/4)*2),0))) fun c=>
 bif decide (c.2=0) then(
 some (c.1,1)) else(
 bif decide (c.2=12) then(
 some (c.1,2)) else(
 some (c.1,0)))
def uu(N:Nat):Nat→Int→Int→(List Int)→Option (List Int)
 |0,_,_,_=>none
 |d+1,b,c,a=>
  bif decide (b<c) then(
  gd (okI a c)<|
  gd (okI a b)<|
  gd (okI a b)<|
  gd (okI a c)<|
  gd (in64 (b+1))<|
  gd (in64 (c-1))<|
  uu N d (b+1) (c-1) (up (up a b (ix a c)) c (ix a b))) else(
  some a)
def yx(N:Nat)(data:List Int)(a:Int)(b:Int):Option (List Int):=
 gd (in64 (b-1))<|
 uu N N a (b-1) data
def jl(N:Nat)(b:Int)(c:List Int):Nat→Int→Option Int
 |0,_=>none
 |d+1,a=>
  gd ((true&&((decide (a<b))==true))=true→okI c a)<|
  gd ((true&&((decide (a<b))==true))=true→in64 (a-1))<|
  gd ((true&&((decide (a<b))==true))=true→okI c (a-1))<|
  bd (gop (true&&((decide (a<b))==true)) (uq N (ix c a) (ix c (a-1)))) fun e=>
  bif (decide (a<b))&&(!(e.getD default)) then(
  gd (in64 (a+1))<|
  jl N b c d (a+1)) else(
  some a)
def jc(N:Nat):Nat→Int→(List Int)→Option (List Int)
 |0,_,_=>none
 |c+1,a,b=>
  bif decide (1≤a) then(
  gd (okI b a)<|
  gd (in64 (a-1))<|
  gd (okI b (a-1))<|
  bd (uq N (ix b a) (ix b (a-1))) fun d=>
  bif !d then(
  some b) else(
  gd (in64 (a-1))<|
  gd (in64 (a-1))<|
  gd (okI b (a-1))<|
  gd (okI b a)<|
  gd (okI b a)<|
  gd (okI b (a-1))<|
  gd (in64 (a-1))<|
  jc N c (a-1) (up (up b a (ix b (a-1))) (a-1) (ix b a)))) else(
  some b)
def jb(N:Nat)(b:Int)(d:Int):Nat→Int→(List Int)→Option (Ex (Int×List Int) (Ex (List Int) (Bool×List Int)))
 |0,_,_=>none
 |e+1,a,c=>
  bif decide (a<b) then(
  gd (okI c a)<|
  gd (in64 (a-1))<|
  gd (okI c (a-1))<|
  bd (uq N (ix c a) (ix c (a-1))) fun f=>
  bif !f then(
  some (Ex.go (d,c))) else(
  gd (in64 (a-1))<|
  gd (in64 (a-1))<|
  gd (okI c (a-1))<|
  gd (okI c a)<|
  gd (okI c a)<|
  gd (okI c (a-1))<|
  gd (in64 (a+1))<|
  jb N b d e (a+1) (up (up c a (ix c (a-1))) (a-1) (ix c a)))) else(
  some (Ex.go (d,c)))
def jk(N:Nat)(a:Int)(b:Int):Nat→Int→Int→(List Int)→Option (Ex (List Int) (Bool×List Int))
 |0,_,_,_=>none
 |i+1,j,f,d=>
  bif decide (f<5) then(
  bd (
  bd (
  jl N b d N j) fun c=>
  bif decide (c=b) then(
  some (Ex.rt (Ex.rt (true,d)))) else(
  gd (in64 (b-a))<|
  bif decide ((b-a)<50) then(
  some (Ex.rt (Ex.rt (false,d)))) else(
  gd (in64 (c-1))<|
  gd (in64 (c-1))<|
  gd (okI d (c-1))<|
  gd (okI d c)<|
  gd (okI d c)<|
  gd (okI d (c-1))<|
  bd (
  gd (in64 (c-a))<|
  bif decide (2≤(c-a)) then(
  gd (in64 (c-1))<|
  jc N N (c-1) (up (up d c (ix d (c-1))) (c-1) (ix d c))) else(
  some (up (up d c (ix d (c-1))) (c-1) (ix d c)))) fun e=>
  gd (in64 (b-c))<|
  bif decide (2≤(b-c)) then(
  gd (in64 (c+1))<|
  jb N b c N (c+1) e) else(
  some (Ex.go (c,e)))))) fun h=>
  Ex.on h (fun g=>
  gd (in64 (f+1))<|
  jk N a b i g.1 (f+1) g.2) some) else(
  some (Ex.go d))
def ut(N:Nat)(data:List Int)(a:Int)(b:Int):Option (Bool×List Int):=
 gd (in64 (a+1))<|
 bd (
 jk N a b N (a+1) 0 data) fun c=>
 Ex.on c (fun d=>
 some (false,d)) some
def u7(N:Nat)(a:Int)(c:Int)(d:List Int):Nat→Int→Option Int
 |0,_=>none
 |e+1,b=>
  gd ((true&&((decide (b≤c))==true))=true→okI d a)<|
  gd ((true&&((decide (b≤c))==true))=true→okI d b)<|
  bd (gop (true&&((decide (b≤c))==true)) (uq N (ix d a) (ix d b))) fun f=>
  bif (decide (b≤c))&&(!(f.getD default)) then(
  gd (in64 (b+1))<|
  u7 N a c d e (b+1)) else(
  some b)
def ug(N:Nat)(a:Int)(c:List Int)(d:Int):Nat→Int→Option Int
 |0,_=>none
 |e+1,b=>
  gd ((true&&((decide (d≤b))==true))=true→okI c a)<|
  gd ((true&&((decide (d≤b))==true))=true→okI c b)<|
  bd (gop (true&&((decide (d≤b))==true)) (uq N (ix c a) (ix c b))) fun f=>
  bif (decide (d≤b))&&(f.getD default) then(
  gd (in64 (b-1))<|
  ug N a c d e (b-1)) else(
  some b)
def ky(N:Nat)(a:Int):Nat→Int→Int→(List Int)→Option (Int×List Int)
 |0,_,_,_=>none
 |f+1,g,e,c=>
  bd (
  u7 N a e c N g) fun d=>
  bd (
  ug N a c d N e) fun b=>
  bif decide (b<d) then(
  some (d,c)) else(
  gd (okI c b)<|
  gd (okI c d)<|
  gd (okI c d)<|
  gd (okI c b)<|
  gd (in64 (d+1))<|
  gd (in64 (b-1))<|
  ky N a f (d+1) (b-1) (up (up c d (ix c b)) b (ix c d)))
def gz(N:Nat)(data:List Int)(a:Int)(b:Int)(pivot:Int):Option (Int×List Int):=
 gd (okI data pivot)<|
 gd (okI data a)<|
 gd (okI data a)<|
 gd (okI data pivot)<|
 gd (in64 (a+1))<|
 gd (in64 (b-1))<|
 bd (
 ky N a N (a+1) (b-1) (up (up data a (ix data pivot)) pivot (ix data a))) fun c=>
 some (c.1,c.2)
def wz(N:Nat)(data:List Int)(a:Int)(b:Int)(pivot:Int):Nat→Int→Option Int
 |0,_=>none
 |d+1,c=>
  gd ((true&&((decide (c≤(b-1)))==true))=true→okI (up (up data a (ix data pivot)) pivot (ix data a)) c)<|
  gd ((true&&((decide (c≤(b-1)))==true))=true→okI (up (up data a (ix data pivot)) pivot (ix data a)) a)<|
  bd (gop (true&&((decide (c≤(b-1)))==true)) (uq N (ix (up (up data a (ix data pivot)) pivot (ix data a)) c) (ix (up (up data a (ix data pivot)) pivot (ix data a)) a))) fun e=>
  bif (decide (c≤(b-1)))&&(e.getD default) then(
  gd (in64 (c+1))<|
  wz N data a b pivot d (c+1)) else(
  some c)
def vk(N:Nat)(data:List Int)(a:Int)(pivot:Int)(c:Int):Nat→Int→Option Int
 |0,_=>none
 |d+1,b=>
  gd ((true&&((decide (c≤b))==true))=true→okI (up (up data a (ix data pivot)) pivot (ix data a)) b)<|
  gd ((true&&((decide (c≤b))==true))=true→okI (up (up data a (ix data pivot)) pivot (ix data a)) a)<|
  bd (gop (true&&((decide (c≤b))==true)) (uq N (ix (up (up data a (ix data pivot)) pivot (ix data a)) b) (ix (up (up data a (ix data pivot)) pivot (ix data a)) a))) fun e=>
  bif (decide (c≤b))&&(!(e.getD default)) then(
  gd (in64 (b-1))<|
  vk N data a pivot c d (b-1)) else(
  some b)
def vg(N:Nat)(a:Int)(c:Int)(d:List Int):Nat→Int→Option Int
 |0,_=>none
 |e+1,b=>
  gd ((true&&((decide (b≤c))==true))=true→okI d b)<|
  gd ((true&&((decide (b≤c))==true))=true→okI d a)<|
  bd (gop (true&&((decide (b≤c))==true)) (uq N (ix d b) (ix d a))) fun f=>
  bif (decide (b≤c))&&(f.getD default) then(
  gd (in64 (b+1))<|
  vg N a c d e (b+1)) else(
  some b)
def wy(N:Nat)(a:Int)(c:List Int)(d:Int):Nat→Int→Option Int
 |0,_=>none
 |e+1,b=>
  gd ((true&&((decide (d≤b))==true))=true→okI c b)<|
  gd ((true&&((decide (d≤b))==true))=true→okI c a)<|
  bd (gop (true&&((decide (d≤b))==true)) (uq N (ix c b) (ix c a))) fun f=>
  bif (decide (d≤b))&&(!(f.getD default)) then(
  gd (in64 (b-1))<|
  wy N a c d e (b-1)) else(
  some b)
def vo(N:Nat)(a:Int):Nat→Int→Int→(List Int)→Option (Int×List Int)
 |0,_,_,_=>none
 |f+1,g,e,b=>
  bd (
  vg N a e b N g) fun c=>
  bd (
  wy N a b c N e) fun d=>
  bif decide (d<c) then(
  some (d,b)) else(
  gd (okI b d)<|
  gd (okI b c)<|
  gd (okI b c)<|
  gd (okI b d)<|
  gd (in64 (c+1))<|
  gd (in64 (d-1))<|
  vo N a f (c+1) (d-1) (up (up b c (ix b d)) d (ix b c)))
def ma(N:Nat)(data:List Int)(a:Int)(b:Int)(pivot:Int):Option (Int×Bool×List Int):=
 gd (okI data pivot)<|
 gd (okI data a)<|
 gd (okI data a)<|
 gd (okI data pivot)<|
 gd (in64 (a+1))<|
 gd (in64 (b-1))<|
 bd (
 wz N data a b pivot N (a+1)) fun e=>
 bd (
 vk N data a pivot e N (b-1)) fun d=>
 bif decide (d<e) then(
 gd (okI (up (up data a (ix data pivot)) pivot (ix data a)) a)<|
 gd (okI (up (up data a (ix data pivot)) pivot (ix data a)) d)<|
 gd (okI (up (up data a (ix data pivot)) pivot (ix data a)) d)<|
 gd (okI (up (up data a (ix data pivot)) pivot (ix data a)) a)<|
 some (d,true,(up (up (up (up data a (ix data pivot)) pivot (ix data a)) d (ix (up (up data a (ix data pivot)) pivot (ix data a)) a)) a (ix (up (up data a (ix data pivot)) pivot (ix data a)) d)))) else(
 gd (okI (up (up data a (ix data pivot)) pivot (ix data a)) d)<|
 gd (okI (up (up data a (ix data pivot)) pivot (ix data a)) e)<|
 gd (okI (up (up data a (ix data pivot)) pivot (ix data a)) e)<|
 gd (okI (up (up data a (ix data pivot)) pivot (ix data a)) d)<|
 gd (in64 (e+1))<|
 gd (in64 (d-1))<|
 bd (
 vo N a N (e+1) (d-1) (up (up (up (up data a (ix data pivot)) pivot (ix data a)) e (ix (up (up data a (ix data pivot)) pivot (ix data a)) d)) d (ix (up (up data a (ix data pivot)) pivot (ix data a)) e))) fun c=>
 gd (okI c.2 a)<|
 gd (okI c.2 c.1)<|
 gd (okI c.2 c.1)<|
 gd (okI c.2 a)<|
 some (c.1,false,(up (up c.2 c.1 (ix c.2 a)) a (ix c.2 c.1))))
def kw(N:Nat)(self:List Int→Int→Int→Int→Option (List Int)):Nat→Int→Int→Int→Bool→Bool→(List Int)→Option (List Int)
 |0,_,_,_,_,_,_=>none
 |o+1,b,c,m,p,v,n=>
  gd (in64 (c-b))<|
  bif decide ((c-b)≤12) then(
  bd (bq N n b c) fun q=>
  some q) else(
  bif decide (m=0) then(
  bd (mi N n b c) fun r=>
  some r) else(
  bd (
  bif !p then(
  bd (ym N n b c) fun s=>
  gd (in64 (m-1))<|
  some (m-1,s)) else(
  some (m,n))) fun d=>
  bd (df N d.2 b c) fun f=>
  bd (
  bif decide (f.2=2) then(
  bd (yx N d.2 b c) fun t=>
  gd (in64 (c-1))<|
  gd (in64 (f.1-b))<|
  gd (in64 ((c-1)-(f.1-b)))<|
  some ((c-1)-(f.1-b),1,t)) else(
  some (f.1,f.2,d.2))) fun e=>
  bd (
  bif (p&&v)&&(decide (e.2.1=1)) then(
  bd (ut N e.2.2 b c) fun h=>
  bif h.1 then(
  some (Ex.rt h.2)) else(
  some (Ex.go h.2))) else(
  some (Ex.go e.2.2))) fun u=>
  Ex.on u (fun g=>
  gd ((true&&((decide (0<b))==true))=true→in64 (b-1))<|
  gd ((true&&((decide (0<b))==true))=true→okI g (b-1))<|
  gd ((true&&((decide (0<b))==true))=true→okI g e.1)<|
  bd (gop (true&&((decide (0<b))==true)) (uq N (ix g (b-1)) (ix g e.1))) fun j=>
  bif (decide (0<b))&&(!(j.getD default)) then(
  bd (gz N g b c e.1) fun i=>
  kw N self o i.1 c d.1 p v i.2) else(
  bd (ma N g b c e.1) fun a=>
  gd (in64 (a.1-b))<|
  gd (in64 (c-a.1))<|
  gd (okQ (c-b) 8)<|
  bif decide ((a.1-b)<(c-a.1)) then(
  bd (self a.2.2 b a.1 d.1) fun k=>
  gd (in64 (a.1+1))<|
  kw N self o (a.1+1) c d.1 (decide (((c-b)/8)≤(a.1-b))) a.2.1 k) else(
  gd (in64 (a.1+1))<|
  bd (self a.2.2 (a.1+1) c d.1) fun l=>
  kw N self o b a.1 d.1 (decide (((c-b)/8)≤(c-a.1))) a.2.1 l))) some))
def uh(N:Nat):Nat→List Int→Int→Int→Int→Option (List Int)
 |0,_,_,_,_=>none
 |F+1,data,a,b,limit=>
  kw N (uh N F) N a b limit true true data
def z0h(N:Nat)(x:List Int):Option (List Int):=
 bd (z0m N (IntKind.u64.wrap (↑x.length:Int))) fun a=>
 bd (uh N N x 0 (↑x.length:Int) a) fun b=>
 some b
def gy(N:Nat)(s:List Int)(a:Int):Nat→Int→Int→(List Int)→Option (Int×List Int)
 |0,_,_,_=>none
 |f+1,d,b,c=>
  bif decide (b<(↑(s.length-a.toNat:Nat):Int)) then(
  bd (
  gd (okA c a (s.length-a.toNat) b)<|
  gd (in64 (b-1))<|
  gd (okA c a (s.length-a.toNat) (b-1))<|
  bif decide ((ix c (a+b))≠(ix c (a+(b-1)))) then(
  gd (okA c a (s.length-a.toNat) b)<|
  gd (okI c d)<|
  gd (in64 (d+1))<|
  some (d+1,(up c d (ix c (a+b))))) else(
  some (d,c))) fun e=>
  gd (in64 (b+1))<|
  gy N s a f e.1 (b+1) e.2) else(
  some (d,c))
def yu(N:Nat)(s:List Int):Nat→Int→Option (Ex (Unit) ((List Int)))
 |0,_=>none
 |c+1,b=>
  bif decide (b<(↑s.length:Int)) then(
  gd (okI s b)<|
  gd (in64 (b-1))<|
  gd (okI s (b-1))<|
  bif decide ((ix s b)=(ix s (b-1))) then(
  gd (okS s b (↑s.length:Int))<|
  bd (
  gy N s b N b 1 s) fun a=>
  gd (okS a.2 a.1 (↑a.2.length:Int))<|
  gd (okS (z5w a.2 a.1.toNat (List.replicate (a.2.length-a.1.toNat) (0:Int))) 0 a.1)<|
  some (Ex.rt (cut (z5w a.2 a.1.toNat (List.replicate (a.2.length-a.1.toNat) (0:Int))) 0 a.1))) else(
  gd (in64 (b+1))<|
  yu N s c (b+1))) else(
  some (Ex.go ()))
def l7(N:Nat)(s:List Int):Option (List Int):=
 bif decide ((↑s.length:Int)<2) then(
 some s) else(
 bd (
 yu N s N 1) fun a=>
 Ex.on a (fun b=>
 some s) some)
def ng(N:Nat)(g_:Sd)(l_:(List Int))(i:Int)(x16:Int):Nat→Int→(Arr 16 Int)→Option (Arr 16 Int)
 |0,_,_=>none
 |c+1,a,b=>
  bif decide (a<(↑g_.fD.rows.length:Int)) then(
  bd (
  gd (okI g_.fD.rows a)<|
  gd (okSh .u16 a)<|
  gd (okB .u16 (zo (ix l_ x16) a) 1)<|
  bif decide ((zb (zo (ix l_ x16) a) 1)=1) then(
  gd (okI (ix g_.fD.rows a) i)<|
  gd (okI b.1 ((ix (ix g_.fD.rows a) i).out))<|
  gd (okI (ix g_.fD.rows a) i)<|
  gd (okSh .u16 ((ix (ix g_.fD.rows a) i).to))<|
  gd (okB .u16 (ix b.1 ((ix (ix g_.fD.rows a) i).out)) (mq .u16 (1:Int) ((ix (ix g_.fD.rows a) i).to)))<|
  gd (okI b.1 ((ix (ix g_.fD.rows a) i).out))<|
  some (zf5 b ((ix (ix g_.fD.rows a) i).out) (ior (ix b.1 ((ix (ix g_.fD.rows a) i).out)) (mq .u16 (1:Int) ((ix (ix g_.fD.rows a) i).to))))) else(
  some b)) fun d=>
  gd (in64 (a+1))<|
  ng N g_ l_ i x16 c (a+1) d) else(
  some b)
def cz(N:Nat)(c:(Arr 16 Int)):Nat→Int→(List Int)→Option (List Int)
 |0,_,_=>none
 |d+1,a,b=>
  bif decide (a<16) then(
  bd (
  gd (okI c.1 a)<|
  bd (il N (ix c.1 a)) fun e=>
  bif decide (1<e) then(
  gd (fits 2 b ([(ix c.1 a)]:List Int))<|
  some (b++([(ix c.1 a)]:List Int))) else(
  some b)) fun f=>
  gd (in64 (a+1))<|
  cz N c d (a+1) f) else(
  some b)
def nk(N:Nat)(g_:Sd)(l_:(List Int))(i:Int):Nat→(List Int)→Int→Option (List Int)
 |0,_,_=>none
 |b+1,a,x16=>
  bif decide (x16<(↑l_.length:Int)) then(
  bd (
  gd (okI l_ x16)<|
  bd (
  ng N g_ l_ i x16 N 0 (zgq 16 (List.replicate 16 (0:Int)))) fun c=>
  cz N c N 0 a) fun d=>
  gd (in64 (x16+1))<|
  nk N g_ l_ i b d (x16+1)) else(
  some a)
def bf(N:Nat)(g_:Sd)(l_:(List Int))(i:Int):Option (List Int):=
 bd (
 nk N g_ l_ i N ([]:List Int) 0) fun c=>
 bd (z0h N c) fun a=>
 bd (l7 N a) fun b=>
 some b
def ou(N:Nat)(m:Mach):Option ((List Int)×Int):=
 bd (z07 N m) fun e=>
 bif decide (e≠0) then(
 some (([]:(List Int)),e)) else(
 bif decide (8<(↑m.rows.length:Int)) then(
 some (([]:(List Int)),3)) else(
 bd (z4i N m) fun c=>
 bd (
 bif decide ((↑m.rows.length:Int)=1) then(
 some ([]:List Int)) else(
 some ([c]:List Int))) fun d=>
 bd (ll N m.inputs d (fun a=>z1q N a) (fun a=>z1w N a) (fun a f=>bf N (⟨(⟨m.inputs,m.outputs,m.rows⟩:Mach)⟩:Sd) a f)) fun b=>
 some (b.1,b.2)))
def gp(N:Nat)(inputs:Int)(key:Int→Option (List UInt8))(next:Int→Int→Option Int)(x23:List Sb)(x62:Int):Nat→Int→(List ((List UInt8)×Bool))→(List Sb)→Option (Ex (List ((List UInt8)×Bool)×List Sb) (Ex (List Sb×List ((List UInt8)×Bool)) (Ex (Unit) ((List Int)×Int))))
 |0,_,_,_=>none
 |h+1,a,b,c=>
  bif decide (a<inputs) then(
  bd (
  bd (next ((ix x23 x62).fC) a) fun d=>
  bd (key d) fun f=>
  bif !(z8m false b f) then(
  bd (tu N ((ix x23 x62).fG)) fun e=>
  gd (fits 8 e ([a]:List Int)∧0<([a]:List Int).length)<|
  gd (fits 32 c ([(⟨d,(e++([a]:List Int))⟩:Sb)]:List Sb))<|
  some ((z2c b f true),(c++([(⟨d,(e++([a]:List Int))⟩:Sb)]:List Sb)))) else(
  some (b,c))) fun g=>
  gd (in64 (a+1))<|
  gp N inputs key next x23 x62 h (a+1) g.1 g.2) else(
  some (Ex.go (b,c)))
def gq(N:Nat)(inputs:Int)(key:Int→Option (List UInt8))(is:Int→Option Bool)(next:Int→Int→Option Int)(x23:List Sb):Nat→(List Sb)→Int→(List ((List UInt8)×Bool))→Option (Ex (List Sb×List ((List UInt8)×Bool)) (Ex (Unit) ((List Int)×Int)))
 |0,_,_,_=>none
 |d+1,a,x62,b=>
  bif decide (x62<(↑x23.length:Int)) then(
  bd (
  gd (okI x23 x62)<|
  bd (is ((ix x23 x62).fC)) fun e=>
  bif e then(
  bd (tu N ((ix x23 x62).fG)) fun f=>
  some (Ex.rt (Ex.rt (Ex.rt (f,0))))) else(
  gp N inputs key next x23 x62 N 0 b a)) fun g=>
  Ex.on g (fun c=>
  gd (in64 (x62+1))<|
  gq N inputs key is next x23 d c.2 (x62+1) c.1) some) else(
  some (Ex.go (a,b)))
def gm(N:Nat)(inputs:Int)(key:Int→Option (List UInt8))(is:Int→Option Bool)(next:Int→Int→Option Int):Nat→(List Sb)→Int→(List ((List UInt8)×Bool))→Option (Ex (Unit) ((List Int)×Int))
 |0,_,_,_=>none
 |c+1,x23,a,d=>
  bif (decide (0<(↑x23.length:Int)))&&(decide (a≤256)) then(
  bd (
  gq N inputs key is next x23 N ([]:List Sb) 0 d) fun e=>
  Ex.on e (fun b=>
  gd (in64 (a+1))<|
  gm N inputs key is next c b.1 (a+1) b.2) some) else(
  some (Ex.go ()))
def z01(N:Nat)(inputs:Int)(from_:Int)(key:Int→Option (List UInt8))(is:Int→Option Bool)(next:Int→Int→Option Int):Option ((List Int)×Int):=
 bd (key from_) fun a=>
 bd (
 gm N inputs key is next N ([(⟨from_,[]⟩:Sb)]:List Sb) 0 (z2c ([]:List ((List UInt8)×Bool)) a true)) fun b=>
 Ex.on b (fun c=>
 some (([]:(List Int)),7)) some
def z1x(N:Nat)(x:Int):Option (List UInt8):=
 bd (z1q N ([x]:List Int)) fun a=>
 some a
def z2g(N:Nat)(x:Int):Option Bool:=
 bd (il N x) fun a=>
 some (decide (a=1))
def mr(N:Nat)(g_:Sd)(x:Int)(i:Int):Nat→Int→Int→Option Int
 |0,_,_=>none
 |b+1,x16,a=>
  bif decide (a<(↑g_.fD.rows.length:Int)) then(
  bd (
  gd (okI g_.fD.rows a)<|
  gd (okSh .u16 a)<|
  gd (okB .u16 (zo x a) 1)<|
  bif decide ((zb (zo x a) 1)=1) then(
  gd (okI (ix g_.fD.rows a) i)<|
  gd (okSh .u16 ((ix (ix g_.fD.rows a) i).to))<|
  gd (okB .u16 x16 (mq .u16 (1:Int) ((ix (ix g_.fD.rows a) i).to)))<|
  some (ior x16 (mq .u16 (1:Int) ((ix (ix g_.fD.rows a) i).to)))) else(
  some x16)) fun c=>
  gd (in64 (a+1))<|
  mr N g_ x i b c (a+1)) else(
  some x16)
def lw(N:Nat)(g_:Sd)(x:Int)(i:Int):Option Int:=
 bd (
 mr N g_ x i N 0 0) fun a=>
 some a
def ru(N:Nat)(m:Mach):Option ((List Int)×Int):=
 bd (z07 N m) fun d=>
 bif decide (d≠0) then(
 some (([]:(List Int)),d)) else(
 bif decide (12<(↑m.rows.length:Int)) then(
 some (([]:(List Int)),3)) else(
 bd (z4i N (⟨m.inputs,m.outputs,m.rows⟩:Mach)) fun c=>
 bd (z01 N m.inputs c (fun a=>z1x N a) (fun a=>z2g N a) (fun a e=>lw N (⟨(⟨m.inputs,m.outputs,m.rows⟩:Mach)⟩:Sd) a e)) fun b=>
 some (b.1,b.2)))
def z1k(N:Nat)(x:Int):Option Int:=
 gd (okSh .u64 (1:Int))<|
 gd (okB .u64 (zo x (1:Int)) 6148914691236517205)<|
 gd (okB .u64 x 6148914691236517205)<|
 gd (okSh .u64 (2:Int))<|
 gd (okB .u64 (zo (IntKind.u64.wrap ((zb (zo x (1:Int)) 6148914691236517205)+(zb x 6148914691236517205))) (2:Int)) 3689348814741910323)<|
 gd (okB .u64 (IntKind.u64.wrap ((zb (zo x (1:Int)) 6148914691236517205)+(zb x 6148914691236517205))) 3689348814741910323)<|
 gd (okSh .u64 (4:Int))<|
 gd (okB .u64 (IntKind.u64.wrap ((zo (IntKind.u64.wrap ((zb (zo (IntKind.u64.wrap ((zb (zo x (1:Int)) 6148914691236517205)+(zb x 6148914691236517205))) (2:Int)) 3689348814741910323)+(zb (IntKind.u64.wrap ((zb (zo x (1:Int)) 6148914691236517205)+(zb x 6148914691236517205))) 3689348814741910323))) (4:Int))+(IntKind.u64.wrap ((zb (zo (IntKind.u64.wrap ((zb (zo x (1:Int)) 6148914691236517205)+(zb x 6148914691236517205))) (2:Int)) 3689348814741910323)+(zb (IntKind.u64.wrap ((zb (zo x (1:Int)) 6148914691236517205)+(zb x 6148914691236517205))) 3689348814741910323))))) 1085102592571150095)<|
 gd (okSh .u64 (8:Int))<|
 gd (okSh .u64 (16:Int))<|
 gd (okSh .u64 (32:Int))<|
 gd (in64 (IntKind.u64.wrap ((IntKind.u64.wrap ((IntKind.u64.wrap ((zb (IntKind.u64.wrap ((zo (IntKind.u64.wrap ((zb (zo (IntKind.u64.wrap ((zb (zo x (1:Int)) 6148914691236517205)+(zb x 6148914691236517205))) (2:Int)) 3689348814741910323)+(zb (IntKind.u64.wrap ((zb (zo x (1:Int)) 6148914691236517205)+(zb x 6148914691236517205))) 3689348814741910323))) (4:Int))+(IntKind.u64.wrap ((zb (zo (IntKind.u64.wrap ((zb (zo x (1:Int)) 6148914691236517205)+(zb x 6148914691236517205))) (2:Int)) 3689348814741910323)+(zb (IntKind.u64.wrap ((zb (zo x (1:Int)) 6148914691236517205)+(zb x 6148914691236517205))) 3689348814741910323))))) 1085102592571150095)+(zo (zb (IntKind.u64.wrap ((zo (IntKind.u64.wrap ((zb (zo (IntKind.u64.wrap ((zb (zo x (1:Int)) 6148914691236517205)+(zb x 6148914691236517205))) (2:Int)) 3689348814741910323)+(zb (IntKind.u64.wrap ((zb (zo x (1:Int)) 6148914691236517205)+(zb x 6148914691236517205))) 3689348814741910323))) (4:Int))+(IntKind.u64.wrap ((zb (zo (IntKind.u64.wrap ((zb (zo x (1:Int)) 6148914691236517205)+(zb x 6148914691236517205))) (2:Int)) 3689348814741910323)+(zb (IntKind.u64.wrap ((zb (zo x (1:Int)) 6148914691236517205)+(zb x 6148914691236517205))) 3689348814741910323))))) 1085102592571150095) (8:Int))))+(zo (IntKind.u64.wrap ((zb (IntKind.u64.wrap ((zo (IntKind.u64.wrap ((zb (zo (IntKind.u64.wrap ((zb (zo x (1:Int)) 6148914691236517205)+(zb x 6148914691236517205))) (2:Int)) 3689348814741910323)+(zb (IntKind.u64.wrap ((zb (zo x (1:Int)) 6148914691236517205)+(zb x 6148914691236517205))) 3689348814741910323))) (4:Int))+(IntKind.u64.wrap ((zb (zo (IntKind.u64.wrap ((zb (zo x (1:Int)) 6148914691236517205)+(zb x 6148914691236517205))) (2:Int)) 3689348814741910323)+(zb (IntKind.u64.wrap ((zb (zo x (1:Int)) 6148914691236517205)+(zb x 6148914691236517205))) 3689348814741910323))))) 1085102592571150095)+(zo (zb (IntKind.u64.wrap ((zo (IntKind.u64.wrap ((zb (zo (IntKind.u64.wrap ((zb (zo x (1:Int)) 6148914691236517205)+(zb x 6148914691236517205))) (2:Int)) 3689348814741910323)+(zb (IntKind.u64.wrap ((zb (zo x (1:Int)) 6148914691236517205)+(zb x 6148914691236517205))) 3689348814741910323))) (4:Int))+(IntKind.u64.wrap ((zb (zo (IntKind.u64.wrap ((zb (zo x (1:Int)) 6148914691236517205)+(zb x 6148914691236517205))) (2:Int)) 3689348814741910323)+(zb (IntKind.u64.wrap ((zb (zo x (1:Int)) 6148914691236517205)+(zb x 6148914691236517205))) 3689348814741910323))))) 1085102592571150095) (8:Int)))) (16:Int))))+(zo (IntKind.u64.wrap ((IntKind.u64.wrap ((zb (IntKind.u64.wrap ((zo (IntKind.u64.wrap ((zb (zo (IntKind.u64.wrap ((zb (zo x (1:Int)) 6148914691236517205)+(zb x 6148914691236517205))) (2:Int)) 3689348814741910323)+(zb (IntKind.u64.wrap ((zb (zo x (1:Int)) 6148914691236517205)+(zb x 6148914691236517205))) 3689348814741910323))) (4:Int))+(IntKind.u64.wrap ((zb (zo (IntKind.u64.wrap ((zb (zo x (1:Int)) 6148914691236517205)+(zb x 6148914691236517205))) (2:Int)) 3689348814741910323)+(zb (IntKind.u64.wrap ((zb (zo x (1:Int)) 6148914691236517205)+(zb x 6148914691236517205))) 3689348814741910323))))) 1085102592571150095)+(zo (zb (IntKind.u64.wrap ((zo (IntKind.u64.wrap ((zb (zo (IntKind.u64.wrap ((zb (zo x (1:Int)) 6148914691236517205)+(zb x 6148914691236517205))) (2:Int)) 3689348814741910323)+(zb (IntKind.u64.wrap ((zb (zo x (1:Int)) 6148914691236517205)+(zb x 6148914691236517205))) 3689348814741910323))) (4:Int))+(IntKind.u64.wrap ((zb (zo (IntKind.u64.wrap ((zb (zo x (1:Int)) 6148914691236517205)+(zb x 6148914691236517205))) (2:Int)) 3689348814741910323)+(zb (IntKind.u64.wrap ((zb (zo x (1:Int)) 6148914691236517205)+(zb x 6148914691236517205))) 3689348814741910323))))) 1085102592571150095) (8:Int))))+(zo (IntKind.u64.wrap ((zb (IntKind.u64.wrap ((zo (IntKind.u64.wrap ((zb (zo (IntKind.u64.wrap ((zb (zo x (1:Int)) 6148914691236517205)+(zb x 6148914691236517205))) (2:Int)) 3689348814741910323)+(zb (IntKind.u64.wrap ((zb (zo x (1:Int)) 6148914691236517205)+(zb x 6148914691236517205))) 3689348814741910323))) (4:Int))+(IntKind.u64.wrap ((zb (zo (IntKind.u64.wrap ((zb (zo x (1:Int)) 6148914691236517205)+(zb x 6148914691236517205))) (2:Int)) 3689348814741910323)+(zb (IntKind.u64.wrap ((zb (zo x (1:Int)) 6148914691236517205)+(zb x 6148914691236517205))) 3689348814741910323))))) 1085102592571150095)+(zo (zb (IntKind.u64.wrap ((zo (IntKind.u64.wrap ((zb (zo (IntKind.u64.wrap ((zb (zo x (1:Int)) 6148914691236517205)+(zb x 6148914691236517205))) (2:Int)) 3689348814741910323)+(zb (IntKind.u64.wrap ((zb (zo x (1:Int)) 6148914691236517205)+(zb x 6148914691236517205))) 3689348814741910323))) (4:Int))+(IntKind.u64.wrap ((zb (zo (IntKind.u64.wrap ((zb (zo x (1:Int)) 6148914691236517205)+(zb x 6148914691236517205))) (2:Int)) 3689348814741910323)+(zb (IntKind.u64.wrap ((zb (zo x (1:Int)) 6148914691236517205)+(zb x 6148914691236517205))) 3689348814741910323))))) 1085102592571150095) (8:Int)))) (16:Int)))) (32:Int)))))<|
 gd (okB .i64 (IntKind.u64.wrap ((IntKind.u64.wrap ((IntKind.u64.wrap ((zb (IntKind.u64.wrap ((zo (IntKind.u64.wrap ((zb (zo (IntKind.u64.wrap ((zb (zo x (1:Int)) 6148914691236517205)+(zb x 6148914691236517205))) (2:Int)) 3689348814741910323)+(zb (IntKind.u64.wrap ((zb (zo x (1:Int)) 6148914691236517205)+(zb x 6148914691236517205))) 3689348814741910323))) (4:Int))+(IntKind.u64.wrap ((zb (zo (IntKind.u64.wrap ((zb (zo x (1:Int)) 6148914691236517205)+(zb x 6148914691236517205))) (2:Int)) 3689348814741910323)+(zb (IntKind.u64.wrap ((zb (zo x (1:Int)) 6148914691236517205)+(zb x 6148914691236517205))) 3689348814741910323))))) 1085102592571150095)+(zo (zb (IntKind.u64.wrap ((zo (IntKind.u64.wrap ((zb (zo (IntKind.u64.wrap ((zb (zo x (1:Int)) 6148914691236517205)+(zb x 6148914691236517205))) (2:Int)) 3689348814741910323)+(zb (IntKind.u64.wrap ((zb (zo x (1:Int)) 6148914691236517205)+(zb x 6148914691236517205))) 3689348814741910323))) (4:Int))+(IntKind.u64.wrap ((zb (zo (IntKind.u64.wrap ((zb (zo x (1:Int)) 6148914691236517205)+(zb x 6148914691236517205))) (2:Int)) 3689348814741910323)+(zb (IntKind.u64.wrap ((zb (zo x (1:Int)) 6148914691236517205)+(zb x 6148914691236517205))) 3689348814741910323))))) 1085102592571150095) (8:Int))))+(zo (IntKind.u64.wrap ((zb (IntKind.u64.wrap ((zo (IntKind.u64.wrap ((zb (zo (IntKind.u64.wrap ((zb (zo x (1:Int)) 6148914691236517205)+(zb x 6148914691236517205))) (2:Int)) 3689348814741910323)+(zb (IntKind.u64.wrap ((zb (zo x (1:Int)) 6148914691236517205)+(zb x 6148914691236517205))) 3689348814741910323))) (4:Int))+(IntKind.u64.wrap ((zb (zo (IntKind.u64.wrap ((zb (zo x (1:Int)) 6148914691236517205)+(zb x 6148914691236517205))) (2:Int)) 3689348814741910323)+(zb (IntKind.u64.wrap ((zb (zo x (1:Int)) 6148914691236517205)+(zb x 6148914691236517205))) 3689348814741910323))))) 1085102592571150095)+(zo (zb (IntKind.u64.wrap ((zo (IntKind.u64.wrap ((zb (zo (IntKind.u64.wrap ((zb (zo x (1:Int)) 6148914691236517205)+(zb x 6148914691236517205))) (2:Int)) 3689348814741910323)+(zb (IntKind.u64.wrap ((zb (zo x (1:Int)) 6148914691236517205)+(zb x 6148914691236517205))) 3689348814741910323))) (4:Int))+(IntKind.u64.wrap ((zb (zo (IntKind.u64.wrap ((zb (zo x (1:Int)) 6148914691236517205)+(zb x 6148914691236517205))) (2:Int)) 3689348814741910323)+(zb (IntKind.u64.wrap ((zb (zo x (1:Int)) 6148914691236517205)+(zb x 6148914691236517205))) 3689348814741910323))))) 1085102592571150095) (8:Int)))) (16:Int))))+(zo (IntKind.u64.wrap ((IntKind.u64.wrap ((zb (IntKind.u64.wrap ((zo (IntKind.u64.wrap ((zb (zo (IntKind.u64.wrap ((zb (zo x (1:Int)) 6148914691236517205)+(zb x 6148914691236517205))) (2:Int)) 3689348814741910323)+(zb (IntKind.u64.wrap ((zb (zo x (1:Int)) 6148914691236517205)+(zb x 6148914691236517205))) 3689348814741910323))) (4:Int))+(IntKind.u64.wrap ((zb (zo (IntKind.u64.wrap ((zb (zo x (1:Int)) 6148914691236517205)+(zb x 6148914691236517205))) (2:Int)) 3689348814741910323)+(zb (IntKind.u64.wrap ((zb (zo x (1:Int)) 6148914691236517205)+(zb x 6148914691236517205))) 3689348814741910323))))) 1085102592571150095)+(zo (zb (IntKind.u64.wrap ((zo (IntKind.u64.wrap ((zb (zo (IntKind.u64.wrap ((zb (zo x (1:Int)) 6148914691236517205)+(zb x 6148914691236517205))) (2:Int)) 3689348814741910323)+(zb (IntKind.u64.wrap ((zb (zo x (1:Int)) 6148914691236517205)+(zb x 6148914691236517205))) 3689348814741910323))) (4:Int))+(IntKind.u64.wrap ((zb (zo (IntKind.u64.wrap ((zb (zo x (1:Int)) 6148914691236517205)+(zb x 6148914691236517205))) (2:Int)) 3689348814741910323)+(zb (IntKind.u64.wrap ((zb (zo x (1:Int)) 6148914691236517205)+(zb x 6148914691236517205))) 3689348814741910323))))) 1085102592571150095) (8:Int))))+(zo (IntKind.u64.wrap ((zb (IntKind.u64.wrap ((zo (IntKind.u64.wrap ((zb (zo (IntKind.u64.wrap ((zb (zo x (1:Int)) 6148914691236517205)+(zb x 6148914691236517205))) (2:Int)) 3689348814741910323)+(zb (IntKind.u64.wrap ((zb (zo x (1:Int)) 6148914691236517205)+(zb x 6148914691236517205))) 3689348814741910323))) (4:Int))+(IntKind.u64.wrap ((zb (zo (IntKind.u64.wrap ((zb (zo x (1:Int)) 6148914691236517205)+(zb x 6148914691236517205))) (2:Int)) 3689348814741910323)+(zb (IntKind.u64.wrap ((zb (zo x (1:Int)) 6148914691236517205)+(zb x 6148914691236517205))) 3689348814741910323))))) 1085102592571150095)+(zo (zb (IntKind.u64.wrap ((zo (IntKind.u64.wrap ((zb (zo (IntKind.u64.wrap ((zb (zo x (1:Int)) 6148914691236517205)+(zb x 6148914691236517205))) (2:Int)) 3689348814741910323)+(zb (IntKind.u64.wrap ((zb (zo x (1:Int)) 6148914691236517205)+(zb x 6148914691236517205))) 3689348814741910323))) (4:Int))+(IntKind.u64.wrap ((zb (zo (IntKind.u64.wrap ((zb (zo x (1:Int)) 6148914691236517205)+(zb x 6148914691236517205))) (2:Int)) 3689348814741910323)+(zb (IntKind.u64.wrap ((zb (zo x (1:Int)) 6148914691236517205)+(zb x 6148914691236517205))) 3689348814741910323))))) 1085102592571150095) (8:Int)))) (16:Int)))) (32:Int)))) 127)<|
 some (zb (IntKind.u64.wrap ((IntKind.u64.wrap ((IntKind.u64.wrap ((zb (IntKind.u64.wrap ((zo (IntKind.u64.wrap ((zb (zo (IntKind.u64.wrap ((zb (zo x (1:Int)) 6148914691236517205)+(zb x 6148914691236517205))) (2:Int)) 3689348814741910323)+(zb (IntKind.u64.wrap ((zb (zo x (1:Int)) 6148914691236517205)+(zb x 6148914691236517205))) 3689348814741910323))) (4:Int))+(IntKind.u64.wrap ((zb (zo (IntKind.u64.wrap ((zb (zo x (1:Int)) 6148914691236517205)+(zb x 6148914691236517205))) (2:Int)) 3689348814741910323)+(zb (IntKind.u64.wrap ((zb (zo x (1:Int)) 6148914691236517205)+(zb x 6148914691236517205))) 3689348814741910323))))) 1085102592571150095)+(zo (zb (IntKind.u64.wrap ((zo (IntKind.u64.wrap ((zb (zo (IntKind.u64.wrap ((zb (zo x (1:Int)) 6148914691236517205)+(zb x 6148914691236517205))) (2:Int)) 3689348814741910323)+(zb (IntKind.u64.wrap ((zb (zo x (1:Int)) 6148914691236517205)+(zb x 6148914691236517205))) 3689348814741910323))) (4:Int))+(IntKind.u64.wrap ((zb (zo (IntKind.u64.wrap ((zb (zo x (1:Int)) 6148914691236517205)+(zb x 6148914691236517205))) (2:Int)) 3689348814741910323)+(zb (IntKind.u64.wrap ((zb (zo x (1:Int)) 6148914691236517205)+(zb x 6148914691236517205))) 3689348814741910323))))) 1085102592571150095) (8:Int))))+(zo (IntKind.u64.wrap ((zb (IntKind.u64.wrap ((zo (IntKind.u64.wrap ((zb (zo (IntKind.u64.wrap ((zb (zo x (1:Int)) 6148914691236517205)+(zb x 6148914691236517205))) (2:Int)) 3689348814741910323)+(zb (IntKind.u64.wrap ((zb (zo x (1:Int)) 6148914691236517205)+(zb x 6148914691236517205))) 3689348814741910323))) (4:Int))+(IntKind.u64.wrap ((zb (zo (IntKind.u64.wrap ((zb (zo x (1:Int)) 6148914691236517205)+(zb x 6148914691236517205))) (2:Int)) 3689348814741910323)+(zb (IntKind.u64.wrap ((zb (zo x (1:Int)) 6148914691236517205)+(zb x 6148914691236517205))) 3689348814741910323))))) 1085102592571150095)+(zo (zb (IntKind.u64.wrap ((zo (IntKind.u64.wrap ((zb (zo (IntKind.u64.wrap ((zb (zo x (1:Int)) 6148914691236517205)+(zb x 6148914691236517205))) (2:Int)) 3689348814741910323)+(zb (IntKind.u64.wrap ((zb (zo x (1:Int)) 6148914691236517205)+(zb x 6148914691236517205))) 3689348814741910323))) (4:Int))+(IntKind.u64.wrap ((zb (zo (IntKind.u64.wrap ((zb (zo x (1:Int)) 6148914691236517205)+(zb x 6148914691236517205))) (2:Int)) 3689348814741910323)+(zb (IntKind.u64.wrap ((zb (zo x (1:Int)) 6148914691236517205)+(zb x 6148914691236517205))) 3689348814741910323))))) 1085102592571150095) (8:Int)))) (16:Int))))+(zo (IntKind.u64.wrap ((IntKind.u64.wrap ((zb (IntKind.u64.wrap ((zo (IntKind.u64.wrap ((zb (zo (IntKind.u64.wrap ((zb (zo x (1:Int)) 6148914691236517205)+(zb x 6148914691236517205))) (2:Int)) 3689348814741910323)+(zb (IntKind.u64.wrap ((zb (zo x (1:Int)) 6148914691236517205)+(zb x 6148914691236517205))) 3689348814741910323))) (4:Int))+(IntKind.u64.wrap ((zb (zo (IntKind.u64.wrap ((zb (zo x (1:Int)) 6148914691236517205)+(zb x 6148914691236517205))) (2:Int)) 3689348814741910323)+(zb (IntKind.u64.wrap ((zb (zo x (1:Int)) 6148914691236517205)+(zb x 6148914691236517205))) 3689348814741910323))))) 1085102592571150095)+(zo (zb (IntKind.u64.wrap ((zo (IntKind.u64.wrap ((zb (zo (IntKind.u64.wrap ((zb (zo x (1:Int)) 6148914691236517205)+(zb x 6148914691236517205))) (2:Int)) 3689348814741910323)+(zb (IntKind.u64.wrap ((zb (zo x (1:Int)) 6148914691236517205)+(zb x 6148914691236517205))) 3689348814741910323))) (4:Int))+(IntKind.u64.wrap ((zb (zo (IntKind.u64.wrap ((zb (zo x (1:Int)) 6148914691236517205)+(zb x 6148914691236517205))) (2:Int)) 3689348814741910323)+(zb (IntKind.u64.wrap ((zb (zo x (1:Int)) 6148914691236517205)+(zb x 6148914691236517205))) 3689348814741910323))))) 1085102592571150095) (8:Int))))+(zo (IntKind.u64.wrap ((zb (IntKind.u64.wrap ((zo (IntKind.u64.wrap ((zb (zo (IntKind.u64.wrap ((zb (zo x (1:Int)) 6148914691236517205)+(zb x 6148914691236517205))) (2:Int)) 3689348814741910323)+(zb (IntKind.u64.wrap ((zb (zo x (1:Int)) 6148914691236517205)+(zb x 6148914691236517205))) 3689348814741910323))) (4:Int))+(IntKind.u64.wrap ((zb (zo (IntKind.u64.wrap ((zb (zo x (1:Int)) 6148914691236517205)+(zb x 6148914691236517205))) (2:Int)) 3689348814741910323)+(zb (IntKind.u64.wrap ((zb (zo x (1:Int)) 6148914691236517205)+(zb x 6148914691236517205))) 3689348814741910323))))) 1085102592571150095)+(zo (zb (IntKind.u64.wrap ((zo (IntKind.u64.wrap ((zb (zo (IntKind.u64.wrap ((zb (zo x (1:Int)) 6148914691236517205)+(zb x 6148914691236517205))) (2:Int)) 3689348814741910323)+(zb (IntKind.u64.wrap ((zb (zo x (1:Int)) 6148914691236517205)+(zb x 6148914691236517205))) 3689348814741910323))) (4:Int))+(IntKind.u64.wrap ((zb (zo (IntKind.u64.wrap ((zb (zo x (1:Int)) 6148914691236517205)+(zb x 6148914691236517205))) (2:Int)) 3689348814741910323)+(zb (IntKind.u64.wrap ((zb (zo x (1:Int)) 6148914691236517205)+(zb x 6148914691236517205))) 3689348814741910323))))) 1085102592571150095) (8:Int)))) (16:Int)))) (32:Int)))) 127)
def z05(N:Nat)(x:Int):Option Int:=
 bd (z1k N x) fun a=>
 some a
def z02(N:Nat)(s:(List Bool)):Option (List Bool):=
 gd (fits 1 ([]:List Bool) s)<|
 some (([]:List Bool)++s)
def yg(N:Nat)(s:(List Int))(f:Int→Option Bool):Nat→Int→Option (Ex (Unit) (Int))
 |0,_=>none
 |c+1,a=>
  bif decide (a<(↑s.length:Int)) then(
  gd (okI s a)<|
  bd (f (ix s a)) fun b=>
  bif b then(
  some (Ex.rt a)) else(
  gd (in64 (a+1))<|
  yg N s f c (a+1))) else(
  some (Ex.go ()))
def lu(N:Nat)(s:(List Int))(f:Int→Option Bool):Option Int:=
 bd (
 yg N s f N 0) fun a=>
 Ex.on a (fun b=>
 some (-1)) some
def mf(N:Nat)(s:(List Int))(f:Int→Option Bool):Option Bool:=
 bd (lu N s f) fun a=>
 some (decide (0≤a))
def z11(N:Nat)(p:Int)(p0_:(List Bool)):Option Bool:=
 gd (okI p0_ p)<|
 some (!(ix p0_ p))
def di(N:Nat)(s1_:(List Bool))(s2_:(List Bool)):Nat→Int→Option (Ex (Unit) (Bool))
 |0,_=>none
 |b+1,a=>
  bif decide (a<(↑s1_.length:Int)) then(
  gd (okI s1_ a)<|
  gd (okI s2_ a)<|
  bif decide ((ix s1_ a)≠(ix s2_ a)) then(
  some (Ex.rt false)) else(
  gd (in64 (a+1))<|
  di N s1_ s2_ b (a+1))) else(
  some (Ex.go ()))
def z0k(N:Nat)(s1_:(List Bool))(s2_:(List Bool)):Option Bool:=
 bif decide ((↑s1_.length:Int)≠(↑s2_.length:Int)) then(
 some false) else(
 bd (
 di N s1_ s2_ N 0) fun a=>
 Ex.on a (fun b=>
 some true) some)
def ow(N:Nat)(m:Mach):Nat→Int→(List Bool)→Option (List Bool)
 |0,_,_=>none
 |c+1,a,b=>
  bif decide (a<(↑(mk (mq .i64 (1:Int) (↑m.rows.length:Int)) false).length:Int)) then(
  bd (z05 N (IntKind.u64.wrap a)) fun d=>
  gd (okI b a)<|
  gd (in64 (a+1))<|
  ow N m c (a+1) (up b a (decide (d<2)))) else(
  some b)
def om(N:Nat)(m:Mach)(d:(List Bool))(a:Int):Nat→Int→(List Bool)→Option (List Bool)
 |0,_,_=>none
 |e+1,c,b=>
  bif decide (c<m.inputs) then(
  bd (
  gd (okI b a)<|
  bd (gop (true&&((!(ix b a))==true)) (bf N (⟨(⟨m.inputs,m.outputs,m.rows⟩:Mach)⟩:Sd) ([IntKind.u16.wrap a]:List Int) c)) fun f=>
  bd (gop (true&&((!(ix b a))==true)) (mf N (f.getD default) (fun i=>z11 N i d))) fun g=>
  bif (!(ix b a))&&(!(g.getD default)) then(
  gd (okI b a)<|
  some (up b a true)) else(
  some b)) fun h=>
  gd (in64 (c+1))<|
  om N m d a e (c+1) h) else(
  some b)
def ol(N:Nat)(m:Mach)(c:List Bool)(d:(List Bool)):Nat→Int→(List Bool)→Option (List Bool)
 |0,_,_=>none
 |e+1,a,b=>
  bif decide (a<(↑c.length:Int)) then(
  bd (
  om N m d a N 0 b) fun f=>
  gd (in64 (a+1))<|
  ol N m c d e (a+1) f) else(
  some b)
def rf(N:Nat)(m:Mach):Nat→Int→(List Bool)→Option (Int×Int)
 |0,_,_=>none
 |g+1,b,a=>
  bd (z4i N (⟨m.inputs,m.outputs,m.rows⟩:Mach)) fun c=>
  gd (okI a c)<|
  bif (ix a c) then(
  some (b,0)) else(
  bd (z02 N a) fun d=>
  bd (
  ol N m a d N 0 a) fun e=>
  bd (z0k N d e) fun f=>
  bif f then(
  some (0,7)) else(
  gd (in64 (b+1))<|
  rf N m g (b+1) e))
def nz(N:Nat)(m:Mach):Option (Int×Int):=
 bd (z07 N m) fun b=>
 bif decide (b≠0) then(
 some (0,b)) else(
 bif decide (10<(↑m.rows.length:Int)) then(
 some (0,3)) else(
 gd (okSh .i64 (↑m.rows.length:Int))<|
 gd (okM 1 (mq .i64 (1:Int) (↑m.rows.length:Int)))<|
 bd (
 ow N m N 0 (mk (mq .i64 (1:Int) (↑m.rows.length:Int)) false)) fun a=>
 rf N m N 0 a))
def sw(N:Nat)(s:(List Int))(f:Int→Option Bool):Nat→Int→Option (Ex (Unit) (Int))
 |0,_=>none
 |c+1,a=>
  bif decide (a<(↑s.length:Int)) then(
  gd (okI s a)<|
  bd (f (ix s a)) fun b=>
  bif b then(
  some (Ex.rt a)) else(
  gd (in64 (a+1))<|
  sw N s f c (a+1))) else(
  some (Ex.go ()))
def z1v(N:Nat)(s:(List Int))(f:Int→Option Bool):Option Int:=
 bd (
 sw N s f N 0) fun a=>
 Ex.on a (fun b=>
 some (-1)) some
def z0v(N:Nat)(s:(List Int))(f:Int→Option Bool):Option Bool:=
 bd (z1v N s f) fun a=>
 some (decide (0≤a))
def z7g(N:Nat)(c:Int)(p0_:Int):Option Bool:=
 some ((decide (c<0))||(decide (p0_≤c)))
def z3k(N:Nat)(w_:(List Int))(inputs:Int):Option Int:=
 bif (decide (16<inputs))||(decide (256<(↑w_.length:Int))) then(
 some 3) else(
 bd (gop (true&&((decide (inputs<1))==false)) (z0v N w_ (fun b=>z7g N b inputs))) fun a=>
 bif (decide (inputs<1))||(a.getD default) then(
 some 1) else(
 some 0))
def z3q(N:Nat)(m:Mach)(s:Int):Option Int:=
 bd (z0z N m) fun a=>
 bif decide (a≠0) then(
 some a) else(
 bif (decide (s<0))||(decide ((↑m.rows.length:Int)≤s)) then(
 some 1) else(
 some 0))
def z1b(N:Nat)(m:Mach)(w_:(List Int)):Nat→Int→Int→(List Int)→Option (Int×List Int)
 |0,_,_,_=>none
 |f+1,b,a,c=>
  bif decide (a<(↑w_.length:Int)) then(
  gd (okI w_ a)<|
  bd (z0n N) fun d=>
  bd (
  bif decide (b≠(-1)) then(
  gd (okI m.rows b)<|
  gd (okI (ix m.rows b) (ix w_ a))<|
  some ((ix (ix m.rows b) (ix w_ a)).to,(ix (ix m.rows b) (ix w_ a)).out)) else(
  some (d.to,d.out))) fun e=>
  gd (okI c a)<|
  gd (in64 (a+1))<|
  z1b N m w_ f e.1 (a+1) (up c a e.2)) else(
  some (b,c))
def z5l(N:Nat)(m:Mach)(s:Int)(w_:(List Int)):Option ((List Int)×Int):=
 gd (okM 8 (↑w_.length:Int))<|
 bd (
 z1b N m w_ N s 0 (mk (↑w_.length:Int) (0:Int))) fun a=>
 some (a.2,a.1)
def z3z(N:Nat)(m:Mach)(s:Int)(w_:(List Int)):Option (Int×Int):=
 bd (z3q N m s) fun c=>
 bif decide (c≠0) then(
 some (0,c)) else(
 bd (z3k N w_ m.inputs) fun a=>
 bif decide (a≠0) then(
 some (0,a)) else(
 bd (z5l N m s w_) fun b=>
 some (b.2,0)))
def slices_Sort_int(N:Nat)(x:List Int):Option (List Int):=
 gd (x.length<4611686018427387904) (some (z3l x))
def l8(N:Nat)(s:List Int)(a:Int):Nat→Int→Int→(List Int)→Option (Int×List Int)
 |0,_,_,_=>none
 |f+1,d,b,c=>
  bif decide (b<(↑(s.length-a.toNat:Nat):Int)) then(
  bd (
  gd (okA c a (s.length-a.toNat) b)<|
  gd (in64 (b-1))<|
  gd (okA c a (s.length-a.toNat) (b-1))<|
  bif decide ((ix c (a+b))≠(ix c (a+(b-1)))) then(
  gd (okA c a (s.length-a.toNat) b)<|
  gd (okI c d)<|
  gd (in64 (d+1))<|
  some (d+1,(up c d (ix c (a+b))))) else(
  some (d,c))) fun e=>
  gd (in64 (b+1))<|
  l8 N s a f e.1 (b+1) e.2) else(
  some (d,c))
def l6(N:Nat)(s:List Int):Nat→Int→Option (Ex (Unit) ((List Int)))
 |0,_=>none
 |c+1,b=>
  bif decide (b<(↑s.length:Int)) then(
  gd (okI s b)<|
  gd (in64 (b-1))<|
  gd (okI s (b-1))<|
  bif decide ((ix s b)=(ix s (b-1))) then(
  gd (okS s b (↑s.length:Int))<|
  bd (
  l8 N s b N b 1 s) fun a=>
  gd (okS a.2 a.1 (↑a.2.length:Int))<|
  gd (okS (z5w a.2 a.1.toNat (List.replicate (a.2.length-a.1.toNat) (0:Int))) 0 a.1)<|
  some (Ex.rt (cut (z5w a.2 a.1.toNat (List.replicate (a.2.length-a.1.toNat) (0:Int))) 0 a.1))) else(
  gd (in64 (b+1))<|
  l6 N s c (b+1))) else(
  some (Ex.go ()))
def slices_Compact_int(N:Nat)(s:List Int):Option (List Int):=
 bif decide ((↑s.length:Int)<2) then(
 some s) else(
 bd (
 l6 N s N 1) fun a=>
 Ex.on a (fun b=>
 some s) some)
def z1s(N:Nat)(m:Mach)(l_:(List Int)):Nat→Int→Option (Ex (Unit) ((List Int)×Int))
 |0,_=>none
 |b+1,a=>
  bif decide (a<(↑l_.length:Int)) then(
  gd (okI l_ a)<|
  gd (((true&&(((decide ((ix l_ a)<0))||(decide ((↑m.rows.length:Int)≤(ix l_ a))))==false))&&((decide (0<a))==true))=true→in64 (a-1))<|
  gd (((true&&(((decide ((ix l_ a)<0))||(decide ((↑m.rows.length:Int)≤(ix l_ a))))==false))&&((decide (0<a))==true))=true→okI l_ (a-1))<|
  bif ((decide ((ix l_ a)<0))||(decide ((↑m.rows.length:Int)≤(ix l_ a))))||((decide (0<a))&&(decide ((ix l_ a)≤(ix l_ (a-1))))) then(
  some (Ex.rt (([]:(List Int)),1))) else(
  gd (in64 (a+1))<|
  z1s N m l_ b (a+1))) else(
  some (Ex.go ()))
def z1r(N:Nat)(m:Mach)(l_:(List Int))(w_:(List Int)):Nat→(List Int)→Int→Option (List Int)
 |0,_,_=>none
 |d+1,b,a=>
  bif decide (a<(↑l_.length:Int)) then(
  gd (okI l_ a)<|
  bd (z3z N m (ix l_ a) w_) fun c=>
  gd (fits 8 b ([c.1]:List Int))<|
  gd (in64 (a+1))<|
  z1r N m l_ w_ d (b++([c.1]:List Int)) (a+1)) else(
  some b)
def z6u(N:Nat)(m:Mach)(l_:(List Int))(w_:(List Int)):Option ((List Int)×Int):=
 bd (z07 N m) fun g=>
 bif decide (g≠0) then(
 some (([]:(List Int)),g)) else(
 bd (
 z1s N m l_ N 0) fun e=>
 Ex.on e (fun h=>
 bd (z3k N w_ m.inputs) fun a=>
 bif decide (a≠0) then(
 some (([]:(List Int)),a)) else(
 bd (
 z1r N m l_ w_ N ([]:List Int) 0) fun f=>
 bd (slices_Sort_int N f) fun b=>
 bd (slices_Compact_int N b) fun c=>
 bd (tu N c) fun d=>
 some (d,0))) some)
def yo(N:Nat)(a:(List Int))(b:(List Int)):Nat→Int→Option (Ex (Unit) (Int))
 |0,_=>none
 |d+1,c=>
  bif decide (c<(↑a.length:Int)) then(
  gd (okI a c)<|
  gd (okI b c)<|
  bif decide ((ix a c)<(ix b c)) then(
  some (Ex.rt (-1))) else(
  gd (okI a c)<|
  gd (okI b c)<|
  bif decide ((ix b c)<(ix a c)) then(
  some (Ex.rt 1)) else(
  gd (in64 (c+1))<|
  yo N a b d (c+1)))) else(
  some (Ex.go ()))
def oh(N:Nat)(a:(List Int))(b:(List Int)):Option Int:=
 bif decide ((↑a.length:Int)≠(↑b.length:Int)) then(
 bif decide ((↑a.length:Int)<(↑b.length:Int)) then(
 some (-1)) else(
 some 1)) else(
 bd (
 yo N a b N 0) fun c=>
 Ex.on c (fun d=>
 some 0) some)
def bz(N:Nat)(a:(List (List Int)))(b:(List (List Int))):Nat→Int→Option (Ex (Unit) (Bool))
 |0,_=>none
 |e+1,c=>
  bif decide (c<(↑a.length:Int)) then(
  gd (okI a c)<|
  gd (okI b c)<|
  bd (oh N (ix a c) (ix b c)) fun d=>
  bif decide (d≠0) then(
  some (Ex.rt false)) else(
  gd (in64 (c+1))<|
  bz N a b e (c+1))) else(
  some (Ex.go ()))
def z0a(N:Nat)(a:(List (List Int)))(b:(List (List Int))):Option Bool:=
 bif decide ((↑a.length:Int)≠(↑b.length:Int)) then(
 some false) else(
 bd (
 bz N a b N 0) fun c=>
 Ex.on c (fun d=>
 some true) some)
def bu(N:Nat)(a:(List Int))(b:(List Int)):Option Bool:=
 bd (z0a N ([a]:List (List Int)) ([b]:List (List Int))) fun c=>
 some (c&&(decide ((↑a.length:Int)=(↑a.length:Int))))
def z9a(N:Nat)(m:Mach)(s:Int)(w_:(List Int)):Option ((List Int)×Int):=
 bd (z3q N m s) fun c=>
 bif decide (c≠0) then(
 some (([]:(List Int)),c)) else(
 bd (z3k N w_ m.inputs) fun a=>
 bif decide (a≠0) then(
 some (([]:(List Int)),a)) else(
 bd (z5l N m s w_) fun b=>
 some (b.1,0)))
def z04(N:Nat)(s1_:(List Int))(s2_:(List Int)):Nat→Int→Option (Ex (Unit) (Bool))
 |0,_=>none
 |b+1,a=>
  bif decide (a<(↑s1_.length:Int)) then(
  gd (okI s1_ a)<|
  gd (okI s2_ a)<|
  bif decide ((ix s1_ a)≠(ix s2_ a)) then(
  some (Ex.rt false)) else(
  gd (in64 (a+1))<|
  z04 N s1_ s2_ b (a+1))) else(
  some (Ex.go ()))
def slices_Equal_int(N:Nat)(s1_:(List Int))(s2_:(List Int)):Option Bool:=
 bif decide ((↑s1_.length:Int)≠(↑s2_.length:Int)) then(
 some false) else(
 bd (
 z04 N s1_ s2_ N 0) fun a=>
 Ex.on a (fun b=>
 some true) some)
def z2s(N:Nat)(m:Mach)(w_:(List Int))(response:(List Int)):Nat→Int→Int→Option (Ex (Int) (Int×Int))
 |0,_,_=>none
 |d+1,b,a=>
  bif decide (a<(↑m.rows.length:Int)) then(
  bd (
  bd (z9a N m a w_) fun e=>
  bd (slices_Equal_int N e.1 response) fun f=>
  bif !f then(
  some (Ex.go b)) else(
  bd (z3z N m a w_) fun c=>
  bif (decide (b≠(-1)))&&(decide (b≠c.1)) then(
  some (Ex.rt (Ex.rt (0,7)))) else(
  some (Ex.go c.1)))) fun g=>
  Ex.on g (fun h=>
  gd (in64 (a+1))<|
  z2s N m w_ response d h (a+1)) some) else(
  some (Ex.go b))
def z5z(N:Nat)(m:Mach)(w_:(List Int))(response:(List Int)):Option (Int×Int):=
 bd (z07 N m) fun d=>
 bif decide (d≠0) then(
 some (0,d)) else(
 bd (z3k N w_ m.inputs) fun a=>
 bif decide (a≠0) then(
 some (0,a)) else(
 bif decide ((↑w_.length:Int)≠(↑response.length:Int)) then(
 some (0,1)) else(
 bd (
 z2s N m w_ response N (-1) 0) fun c=>
 Ex.on c (fun b=>
 bif decide (b=(-1)) then(
 some (0,7)) else(
 some (b,0))) some)))
def z0u(N:Nat):Option Bool:=
 bd (z19 N) fun a=>
 bd (ou N (⟨a.1.inputs,a.1.outputs,a.1.rows⟩:Mach)) fun g=>
 bd (ru N (⟨a.1.inputs,a.1.outputs,a.1.rows⟩:Mach)) fun l=>
 bd (nz N (⟨a.1.inputs,a.1.outputs,a.1.rows⟩:Mach)) fun f=>
 bd (z6u N (⟨a.1.inputs,a.1.outputs,a.1.rows⟩:Mach) ([0,1,2]:List Int) ([0]:List Int)) fun h=>
 bd (z6u N (⟨a.1.inputs,a.1.outputs,a.1.rows⟩:Mach) ([1]:List Int) ([1,0]:List Int)) fun i=>
 bd (gop (true&&((((((decide (g.2≠0))||(decide (l.2≠7)))||(decide (f.2≠0)))||(decide (h.2≠0)))||(decide (i.2≠0)))==false)) (bu N g.1 ([0,0]:List Int))) fun j=>
 bd (gop (true&&((((((((decide (g.2≠0))||(decide (l.2≠7)))||(decide (f.2≠0)))||(decide (h.2≠0)))||(decide (i.2≠0)))||(!(j.getD default)))||(decide (f.1≠2)))==false)) (bu N h.1 ([0,1,2]:List Int))) fun m=>
 bd (gop (true&&(((((((((decide (g.2≠0))||(decide (l.2≠7)))||(decide (f.2≠0)))||(decide (h.2≠0)))||(decide (i.2≠0)))||(!(j.getD default)))||(decide (f.1≠2)))||(!(m.getD default)))==false)) (bu N i.1 ([2]:List Int))) fun q=>
 bif ((((((((decide (g.2≠0))||(decide (l.2≠7)))||(decide (f.2≠0)))||(decide (h.2≠0)))||(decide (i.2≠0)))||(!(j.getD default)))||(decide (f.1≠2)))||(!(m.getD default)))||(!(q.getD default)) then(
 some false) else(
 bd (z5z N (⟨a.1.inputs,a.1.outputs,a.1.rows⟩:Mach) ([0,0]:List Int) ([0,1]:List Int)) fun n=>
 bd (z5z N (⟨a.1.inputs,a.1.outputs,a.1.rows⟩:Mach) ([0]:List Int) ([0]:List Int)) fun r=>
 bd (z5z N (⟨a.1.inputs,a.1.outputs,a.1.rows⟩:Mach) ([0]:List Int) ([1]:List Int)) fun o=>
 bif ((((decide (n.2≠0))||(decide (r.2≠7)))||(decide (o.2≠0)))||(decide (n.1≠0)))||(decide (o.1≠0)) then(
 some false) else(
 bd (ru N (⟨a.2.inputs,a.2.outputs,a.2.rows⟩:Mach)) fun b=>
 bd (dw N (⟨a.2.inputs,a.2.outputs,a.2.rows⟩:Mach) 0 1) fun c=>
 bd (dw N (⟨a.2.inputs,a.2.outputs,a.2.rows⟩:Mach) 1 2) fun d=>
 bd (nz N (⟨a.2.inputs,a.2.outputs,a.2.rows⟩:Mach)) fun e=>
 bd (gop (true&&(((((decide (b.2=0))&&(decide (c.2=0)))&&(decide (d.2=0)))&&(decide (e.2=0)))==true)) (bu N b.1 ([1]:List Int))) fun k=>
 bd (gop (true&&((((((decide (b.2=0))&&(decide (c.2=0)))&&(decide (d.2=0)))&&(decide (e.2=0)))&&(k.getD default))==true)) (bu N c.1 ([1]:List Int))) fun p=>
 bd (gop (true&&(((((((decide (b.2=0))&&(decide (c.2=0)))&&(decide (d.2=0)))&&(decide (e.2=0)))&&(k.getD default))&&(p.getD default))==true)) (bu N d.1 ([0]:List Int))) fun s=>
 some ((((((((decide (b.2=0))&&(decide (c.2=0)))&&(decide (d.2=0)))&&(decide (e.2=0)))&&(k.getD default))&&(p.getD default))&&(s.getD default))&&(decide (e.1=1)))))
def z09(N:Nat)(m:Mach)(s:Int)(i:Int):Option Edge:=
 bif decide (s<0) then(
 some (⟨(-1),(-1)⟩:Edge)) else(
 gd (okI m.rows s)<|
 gd (okI (ix m.rows s) i)<|
 some (⟨(ix (ix m.rows s) i).to,(ix (ix m.rows s) i).out⟩:Edge))
def p9(N:Nat):Nat→Mach→Int→(List Int)→Option Int
 |0,_,_,_=>none
 |F+1,m,s,w_=>
  bif decide ((↑w_.length:Int)=0) then(
  some s) else(
  gd (okI w_ 0)<|
  bd (z09 N m s (ix w_ 0)) fun b=>
  gd (okS w_ 1 (↑w_.length:Int))<|
  bd ((p9 N F) m b.to (cut w_ 1 (↑w_.length:Int))) fun a=>
  some a)
def xw(N:Nat)(m:Mach)(w_:(List Int)):Nat→Int→Option (Ex (Unit) (Bool))
 |0,_=>none
 |b+1,a=>
  bif decide (a<(↑m.rows.length:Int)) then(
  bd (p9 N N m a w_) fun c=>
  bd (p9 N N m 0 w_) fun d=>
  bif decide (c≠d) then(
  some (Ex.rt false)) else(
  gd (in64 (a+1))<|
  xw N m w_ b (a+1))) else(
  some (Ex.go ()))
def fo(N:Nat)(m:Mach)(w_:(List Int)):Option Bool:=
 bd (
 xw N m w_ N 0) fun a=>
 Ex.on a (fun b=>
 some true) some
def ww(N:Nat)(b:Int):Nat→Int→(List (List Edge))→Option (List (List Edge))
 |0,_,_=>none
 |c+1,a,x23=>
  bif decide (a<b) then(
  gd (in64 (a+1))<|
  gd (okR (a+1) b)<|
  gd (fits 24 x23 [([(⟨(a+1)%b,0⟩:Edge),(⟨a,0⟩:Edge)]:List Edge)])<|
  gd (in64 (a+1))<|
  ww N b c (a+1) (x23++[([(⟨(a+1)%b,0⟩:Edge),(⟨a,0⟩:Edge)]:List Edge)])) else(
  some x23)
def kv(N:Nat):Nat→Int→Option (Ex (Unit) (Bool))
 |0,_=>none
 |i+1,a=>
  bif decide (a<14) then(
  bd (
  ww N a N 0 ([]:List (List Edge))) fun b=>
  gd (in64 (a-1))<|
  gd (okI b (a-1))<|
  gd (okI (ix b (a-1)) 1)<|
  bd (ru N (⟨2,1,(up b (a-1) (up (ix b (a-1)) 1 (⟨0,(ix (ix b (a-1)) 1).out⟩:Edge)))⟩:Mach)) fun c=>
  bd (ou N (⟨2,1,(up b (a-1) (up (ix b (a-1)) 1 (⟨0,(ix (ix b (a-1)) 1).out⟩:Edge)))⟩:Mach)) fun e=>
  bd (nz N (⟨2,1,(up b (a-1) (up (ix b (a-1)) 1 (⟨0,(ix (ix b (a-1)) 1).out⟩:Edge)))⟩:Mach)) fun f=>
  gd (in64 (a-1))<|
  bd (dw N (⟨2,1,(up b (a-1) (up (ix b (a-1)) 1 (⟨0,(ix (ix b (a-1)) 1).out⟩:Edge)))⟩:Mach) (a-1) 0) fun d=>
  bd (gop (true&&((decide (d.2≠0))==false)) (bu N d.1 ([1]:List Int))) fun g=>
  bif ((((decide (d.2≠0))||(!(g.getD default)))||(decide ((decide (12<a))≠(decide (c.2=3)))))||(decide ((decide (8<a))≠(decide (e.2=3)))))||(decide ((decide (10<a))≠(decide (f.2=3)))) then(
  some (Ex.rt false)) else(
  gd (((true&&((decide (a≤12))==true))&&((decide (c.2≠0))==false))=true→in64 (a-1))<|
  gd (((true&&((decide (a≤12))==true))&&((decide (c.2≠0))==false))=true→in64 (a-1))<|
  gd (((true&&((decide (a≤12))==true))&&((decide (c.2≠0))==false))=true→in64 ((a-1)*(a-1)))<|
  bd (gop ((true&&((decide (a≤12))==true))&&(((decide (c.2≠0))||(decide ((↑c.1.length:Int)≠((a-1)*(a-1)))))==false)) (fo N (⟨2,1,(up b (a-1) (up (ix b (a-1)) 1 (⟨0,(ix (ix b (a-1)) 1).out⟩:Edge)))⟩:Mach) c.1)) fun h=>
  bif (decide (a≤12))&&(((decide (c.2≠0))||(decide ((↑c.1.length:Int)≠((a-1)*(a-1)))))||(!(h.getD default))) then(
  some (Ex.rt false)) else(
  gd (in64 (a+1))<|
  kv N i (a+1)))) else(
  some (Ex.go ()))
def wu(N:Nat):Nat→Int→(List (List Edge))→Option (List (List Edge))
 |0,_,_=>none
 |c+1,a,b=>
  bif decide (a<64) then(
  gd (in64 (a+1))<|
  gd (okR (a+1) 64)<|
  gd (fits 24 b [([(⟨(a+1)%64,0⟩:Edge),(⟨a,0⟩:Edge)]:List Edge)])<|
  gd (in64 (a+1))<|
  wu N c (a+1) (b++[([(⟨(a+1)%64,0⟩:Edge),(⟨a,0⟩:Edge)]:List Edge)])) else(
  some b)
def lg(N:Nat):Option Bool:=
 bd (
 kv N N 2) fun i=>
 Ex.on i (fun j=>
 bd (
 wu N N 0 ([]:List (List Edge))) fun b=>
 bd (dw N (⟨2,1,b⟩:Mach) 3 4) fun f=>
 gd (okI b 63)<|
 gd (okI (ix b 63) 1)<|
 bd (dw N (⟨2,1,(up b 63 (up (ix b 63) 1 (⟨0,(ix (ix b 63) 1).out⟩:Edge)))⟩:Mach) 0 1) fun a=>
 bd (dw N (⟨2,1,(up b 63 (up (ix b 63) 1 (⟨0,(ix (ix b 63) 1).out⟩:Edge)))⟩:Mach) 64 0) fun g=>
 bd (ru N (⟨1,1,([([(⟨0,0⟩:Edge)]:List Edge)]:List (List Edge))⟩:Mach)) fun c=>
 bd (ou N (⟨1,1,([([(⟨0,0⟩:Edge)]:List Edge)]:List (List Edge))⟩:Mach)) fun d=>
 bd (nz N (⟨1,1,([([(⟨0,0⟩:Edge)]:List Edge)]:List (List Edge))⟩:Mach)) fun e=>
 gd ((true&&((((decide (f.2=7))&&(decide (a.2=0)))&&(decide ((↑a.1.length:Int)=64)))==true))=true→okI a.1 63)<|
 gd ((true&&(((((((((decide (f.2=7))&&(decide (a.2=0)))&&(decide ((↑a.1.length:Int)=64)))&&(decide ((ix a.1 63)=1)))&&(decide (g.2=1)))&&(decide (c.2=0)))&&(decide (d.2=0)))&&(decide (e.2=0)))==true))=true→in64 ((↑c.1.length:Int)+(↑d.1.length:Int)))<|
 gd ((true&&(((((((((decide (f.2=7))&&(decide (a.2=0)))&&(decide ((↑a.1.length:Int)=64)))&&(decide ((ix a.1 63)=1)))&&(decide (g.2=1)))&&(decide (c.2=0)))&&(decide (d.2=0)))&&(decide (e.2=0)))==true))=true→in64 (((↑c.1.length:Int)+(↑d.1.length:Int))+e.1))<|
 bd (gop (true&&((((((((((decide (f.2=7))&&(decide (a.2=0)))&&(decide ((↑a.1.length:Int)=64)))&&(decide ((ix a.1 63)=1)))&&(decide (g.2=1)))&&(decide (c.2=0)))&&(decide (d.2=0)))&&(decide (e.2=0)))&&(decide ((((↑c.1.length:Int)+(↑d.1.length:Int))+e.1)=0)))==true)) (z0u N)) fun h=>
 some ((((((((((decide (f.2=7))&&(decide (a.2=0)))&&(decide ((↑a.1.length:Int)=64)))&&(decide ((ix a.1 63)=1)))&&(decide (g.2=1)))&&(decide (c.2=0)))&&(decide (d.2=0)))&&(decide (e.2=0)))&&(decide ((((↑c.1.length:Int)+(↑d.1.length:Int))+e.1)=0)))&&(h.getD default))) some
end GV
end Go.Proofs.Ytjmlpkkbmnjhcaa
