import Derived.Test.YtkhihcleegljhaaGreatShTypes
set_option linter.unusedVariables false
set_option linter.unusedSimpArgs false
namespace Go.Proofs.YtkhihcleegljhaaGreat
namespace GV
set_option maxRecDepth 100000
def yo(N:Nat)(x:Sb)(a:Int):Nat→Int→(List Int)→Option (List Int)
 |0,_,_=>none
 |e+1,b,c=>
  gd (okR x.fE 7)<|
  gd (in64 (x.fE%7))<|
  bif decide (b<(x.fE%7)) then(
  bd (
  gd (okI x.fC a)<|
  gd (okSh .u16 b)<|
  gd (okR (z0a (ix x.fC a) b) 2)<|
  bif decide (((z0a (ix x.fC a) b)%2)=1) then(
  gd (okI x.fC a)<|
  gd (okSh .u16 (8:Int))<|
  gd (in64 (z0a (ix x.fC a) (8:Int)))<|
  gd (in64 ((z0a (ix x.fC a) (8:Int))+b))<|
  some ((z0a (ix x.fC a) (8:Int))+b)) else(
  some (-1))) fun d=>
  gd (fits 8 c ([min d 255]:List Int))<|
  gd (in64 (b+1))<|
  yo N x a e (b+1) (c++([min d 255]:List Int))) else(
  some c)
def dw(N:Nat)(x:Sb):Nat→Int→(List (List Int))→Option (List (List Int))
 |0,_,_=>none
 |d+1,a,b=>
  bif (decide (a<(↑x.fC.length:Int)))&&(decide (a<20)) then(
  bd (
  yo N x a N 0 ([]:List Int)) fun c=>
  gd (fits 24 b ([c]:List (List Int)))<|
  gd (in64 (a+1))<|
  dw N x d (a+1) (b++([c]:List (List Int)))) else(
  some b)
def z14(N:Nat)(x:Sb):Option Sa:=
 bd (
 dw N x N 0 ([]:List (List Int))) fun a=>
 some (⟨a⟩:Sa)
def wu(N:Nat)(x:Sa):Nat→Int→Int→Option Int
 |0,_,_=>none
 |c+1,b,a=>
  bif decide (a<(↑x.fB.length:Int)) then(
  gd (okI x.fB a)<|
  gd (in64 (a+1))<|
  wu N x c (max b (↑(ix x.fB a).length:Int)) (a+1)) else(
  some b)
def gu(N:Nat)(x:Sa):Option Int:=
 bd (
 wu N x N 0 0) fun a=>
 some a
def ax(N:Nat)(x:Sa):Nat→Int→Int→Option Int
 |0,_,_=>none
 |c+1,b,a=>
  bif decide (a<(↑x.fB.length:Int)) then(
  gd (okI x.fB a)<|
  ax N x c (IntKind.i64.wrap (b+(↑(ix x.fB a).length:Int))) (IntKind.i64.wrap (a+1))) else(
  some b)
def oq(N:Nat)(x:Sa)(a:Int):Nat→Int→Option (Ex (Unit) (Ex (Unit) (Int)))
 |0,_=>none
 |c+1,b=>
  bif decide (b<(↑(ix x.fB a).length:Int)) then(
  bd (
  gd (okI (ix x.fB a) b)<|
  bd (
  bif decide ((ix (ix x.fB a) b)<(-1)) then(
  some (Ex.go ())) else(
  bif decide (256≤(ix (ix x.fB a) b)) then(
  some (Ex.go ())) else(
  some (Ex.rt (Ex.go ()))))) fun d=>
  Ex.on d (fun f=>
  some (Ex.rt (Ex.rt (Ex.rt 1)))) some) fun e=>
  Ex.on e (fun g=>
  oq N x a c (IntKind.i64.wrap (b+1))) some) else(
  some (Ex.go ()))
def oo(N:Nat)(x:Sa)(d:Int):Nat→Int→Option (Ex (Unit) (Int))
 |0,_=>none
 |b+1,a=>
  bif decide (a<(↑x.fB.length:Int)) then(
  bd (
  gd (okI x.fB a)<|
  bif decide ((↑(ix x.fB a).length:Int)≠d) then(
  some (Ex.rt (Ex.rt 1))) else(
  oq N x a N 0)) fun c=>
  Ex.on c (fun e=>
  oo N x d b (IntKind.i64.wrap (a+1))) some) else(
  some (Ex.go ()))
def ll(N:Nat)(x:Sa):Option Int:=
 bd (gu N x) fun c=>
 bd (
 ax N x N 0 0) fun a=>
 bif ((decide (4096<(↑x.fB.length:Int)))||(decide (4096<c)))||(decide (262144<a)) then(
 some 3) else(
 bd (
 oo N x c N 0) fun b=>
 Ex.on b (fun d=>
 some 0) some)
def gm(N:Nat)(x:Sa)(is:Int→Option Bool):Nat→(List Int)→Int→Option (List Int)
 |0,_,_=>none
 |c+1,b,a=>
  bif decide (a<(↑x.fB.length:Int)) then(
  bd (
  bd (is a) fun d=>
  bif d then(
  gd (fits 8 b ([a]:List Int))<|
  some (b++([a]:List Int))) else(
  some b)) fun e=>
  gd (in64 (a+1))<|
  gm N x is c e (a+1)) else(
  some b)
def ow(N:Nat)(x:Sa)(is:Int→Option Bool):Option (List Int):=
 bd (
 gm N x is N ([]:List Int) 0) fun a=>
 some a
def ak(N:Nat)(x:Sa)(row:Int)(column:Int):Option Bool:=
 gd (okI x.fB row)<|
 gd (okI (ix x.fB row) column)<|
 some (decide ((ix (ix x.fB row) column)≠(-1)))
def vg(N:Nat)(x:Sa)(row:Int):Nat→(List Int)→Int→Option (List Int)
 |0,_,_=>none
 |c+1,b,a=>
  bif decide (a<(↑(ix x.fB row).length:Int)) then(
  bd (
  bd (ak N x row a) fun d=>
  bif d then(
  gd (fits 8 b ([a]:List Int))<|
  some (b++([a]:List Int))) else(
  some b)) fun e=>
  gd (in64 (a+1))<|
  vg N x row c e (a+1)) else(
  some b)
def yh(N:Nat)(x:Sa)(row:Int):Option (List Int):=
 bd (
 gd (okI x.fB row)<|
 vg N x row N ([]:List Int) 0) fun a=>
 some a
def xg(N:Nat)(x:Sa)(row:Int):Option Bool:=
 bd (yh N x row) fun a=>
 some (decide (0<(↑a.length:Int)))
def z5m(N:Nat)(x:Int):Option Int:=
 bd (
 bif decide (4294967296≤x) then(
 gd (okSh .u64 (32:Int))<|
 some (z0a x (32:Int),32)) else(
 some (x,0))) fun b=>
 bd (
 bif decide (65536≤b.1) then(
 gd (okSh .u64 (16:Int))<|
 gd (in64 (b.2+16))<|
 some (z0a b.1 (16:Int),b.2+16)) else(
 some (b.1,b.2))) fun c=>
 bd (
 bif decide (256≤c.1) then(
 gd (okSh .u64 (8:Int))<|
 gd (in64 (c.2+8))<|
 some (z0a c.1 (8:Int),c.2+8)) else(
 some (c.1,c.2))) fun a=>
 gd (okI ze6 (IntKind.u8.wrap a.1))<|
 gd (in64 (ix ze6 (IntKind.u8.wrap a.1)))<|
 gd (in64 (a.2+(ix ze6 (IntKind.u8.wrap a.1))))<|
 some (a.2+(ix ze6 (IntKind.u8.wrap a.1)))
def z1h(N:Nat)(x:Int):Option Int:=
 bd (z5m N x) fun a=>
 some a
def z2y(N:Nat)(x:Int):Option Bool:=
 some (decide (x≠x))
def yj(N:Nat)(x:Int)(y:Int):Option Bool:=
 bd (z2y N x) fun b=>
 bd (gop (true&&(b==true)) (z2y N y)) fun a=>
 some ((b&&(!(a.getD default)))||(decide (x<y)))
def uo(N:Nat)(a:Int):Nat→Int→(List Int)→Option (List Int)
 |0,_,_=>none
 |d+1,b,c=>
  gd ((true&&((decide (a<b))==true))=true→okI c b)<|
  gd ((true&&((decide (a<b))==true))=true→in64 (b-1))<|
  gd ((true&&((decide (a<b))==true))=true→okI c (b-1))<|
  bd (gop (true&&((decide (a<b))==true)) (yj N (ix c b) (ix c (b-1)))) fun e=>
  bif (decide (a<b))&&(e.getD default) then(
  gd (in64 (b-1))<|
  gd (in64 (b-1))<|
  gd (okI c (b-1))<|
  gd (okI c b)<|
  gd (okI c b)<|
  gd (okI c (b-1))<|
  gd (in64 (b-1))<|
  uo N a d (b-1) (up (up c b (ix c (b-1))) (b-1) (ix c b))) else(
  some c)
def ut(N:Nat)(a:Int)(b:Int):Nat→Int→(List Int)→Option (List Int)
 |0,_,_=>none
 |f+1,c,e=>
  bif decide (c<b) then(
  bd (
  uo N a N c e) fun d=>
  gd (in64 (c+1))<|
  ut N a b f (c+1) d) else(
  some e)
def mf(N:Nat)(data:List Int)(a:Int)(b:Int):Option (List Int):=
 gd (in64 (a+1))<|
 ut N a b N (a+1) data
def yz(N:Nat)(hi:Int)(first:Int):Nat→Int→(List Int)→Option (List Int)
 |0,_,_=>none
 |f+1,a,c=>
  gd (in64 ((2:Int)*a))<|
  gd (in64 (((2:Int)*a)+1))<|
  bif decide (hi≤(((2:Int)*a)+1)) then(
  some c) else(
  bd (
  gd (in64 ((((2:Int)*a)+1)+1))<|
  gd ((true&&((decide (((((2:Int)*a)+1)+1)<hi))==true))=true→in64 (first+(((2:Int)*a)+1)))<|
  gd ((true&&((decide (((((2:Int)*a)+1)+1)<hi))==true))=true→okI c (first+(((2:Int)*a)+1)))<|
  gd ((true&&((decide (((((2:Int)*a)+1)+1)<hi))==true))=true→in64 (first+(((2:Int)*a)+1)))<|
  gd ((true&&((decide (((((2:Int)*a)+1)+1)<hi))==true))=true→in64 ((first+(((2:Int)*a)+1))+1))<|
  gd ((true&&((decide (((((2:Int)*a)+1)+1)<hi))==true))=true→okI c ((first+(((2:Int)*a)+1))+1))<|
  bd (gop (true&&((decide (((((2:Int)*a)+1)+1)<hi))==true)) (yj N (ix c (first+(((2:Int)*a)+1))) (ix c ((first+(((2:Int)*a)+1))+1)))) fun d=>
  bif (decide (((((2:Int)*a)+1)+1)<hi))&&(d.getD default) then(
  gd (in64 ((((2:Int)*a)+1)+1))<|
  some ((((2:Int)*a)+1)+1)) else(
  some (((2:Int)*a)+1))) fun b=>
  gd (in64 (first+a))<|
  gd (okI c (first+a))<|
  gd (in64 (first+b))<|
  gd (okI c (first+b))<|
  bd (yj N (ix c (first+a)) (ix c (first+b))) fun e=>
  bif !e then(
  some c) else(
  gd (in64 (first+a))<|
  gd (in64 (first+b))<|
  gd (in64 (first+b))<|
  gd (okI c (first+b))<|
  gd (in64 (first+a))<|
  gd (okI c (first+a))<|
  gd (okI c (first+a))<|
  gd (okI c (first+b))<|
  yz N hi first f b (up (up c (first+a) (ix c (first+b))) (first+b) (ix c (first+a)))))
def av(N:Nat)(data:List Int)(lo:Int)(hi:Int)(first:Int):Option (List Int):=
 yz N hi first N lo data
def yw(N:Nat)(a:Int)(b:Int):Nat→Int→(List Int)→Option (List Int)
 |0,_,_=>none
 |f+1,c,d=>
  bif decide (0≤c) then(
  bd (av N d c (b-a) a) fun e=>
  gd (in64 (c-1))<|
  yw N a b f (c-1) e) else(
  some d)
def yx(N:Nat)(a:Int):Nat→Int→(List Int)→Option (List Int)
 |0,_,_=>none
 |d+1,b,c=>
  bif decide (0≤b) then(
  gd (in64 (a+b))<|
  gd (in64 (a+b))<|
  gd (okI c (a+b))<|
  gd (okI c a)<|
  gd (okI c a)<|
  gd (okI c (a+b))<|
  bd (av N (up (up c a (ix c (a+b))) (a+b) (ix c a)) 0 b a) fun e=>
  gd (in64 (b-1))<|
  yx N a d (b-1) e) else(
  some c)
def ic(N:Nat)(data:List Int)(a:Int)(b:Int):Option (List Int):=
 gd (in64 (b-a))<|
 bd (
 gd (in64 ((b-a)-1))<|
 gd (okQ ((b-a)-1) 2)<|
 yw N a b N (((b-a)-1)/2) data) fun c=>
 gd (in64 ((b-a)-1))<|
 yx N a N ((b-a)-1) c
def lc(N:Nat)(length:Int):Option Int:=
 bd (z1h N (IntKind.u64.wrap length)) fun a=>
 gd (okSh .u64 a)<|
 some (sw .u64 (1:Int) a)
def z0o(N:Nat)(r_:Int):Option (Int×Int):=
 gd (okSh .u64 (13:Int))<|
 gd (okB .u64 r_ (sw .u64 r_ (13:Int)))<|
 gd (okSh .u64 (7:Int))<|
 gd (okB .u64 (l5 r_ (sw .u64 r_ (13:Int))) (z0a (l5 r_ (sw .u64 r_ (13:Int))) (7:Int)))<|
 gd (okSh .u64 (17:Int))<|
 gd (okB .u64 (l5 (l5 r_ (sw .u64 r_ (13:Int))) (z0a (l5 r_ (sw .u64 r_ (13:Int))) (7:Int))) (sw .u64 (l5 (l5 r_ (sw .u64 r_ (13:Int))) (z0a (l5 r_ (sw .u64 r_ (13:Int))) (7:Int))) (17:Int)))<|
 some ((l5 (l5 (l5 r_ (sw .u64 r_ (13:Int))) (z0a (l5 r_ (sw .u64 r_ (13:Int))) (7:Int))) (sw .u64 (l5 (l5 r_ (sw .u64 r_ (13:Int))) (z0a (l5 r_ (sw .u64 r_ (13:Int))) (7:Int))) (17:Int))),(l5 (l5 (l5 r_ (sw .u64 r_ (13:Int))) (z0a (l5 r_ (sw .u64 r_ (13:Int))) (7:Int))) (sw .u64 (l5 (l5 r_ (sw .u64 r_ (13:Int))) (z0a (l5 r_ (sw .u64 r_ (13:Int))) (7:Int))) (17:Int))))
def uu(N:Nat)(a:Int)(b:Int)(g:Int):Nat→Int→(List Int)→Int→Option (List Int)
 |0,_,_,_=>none
 |h+1,d,c,i=>
  gd (okQ (b-a) 4)<|
  gd (in64 (((b-a)/4)*2))<|
  gd (in64 (a+(((b-a)/4)*2)))<|
  gd (in64 ((a+(((b-a)/4)*2))+1))<|
  bif decide (d≤((a+(((b-a)/4)*2))+1)) then(
  bd (z0o N i) fun e=>
  gd (okB .u64 e.1 (IntKind.u64.wrap (g-1)))<|
  gd (in64 (z4d e.1 (IntKind.u64.wrap (g-1))))<|
  bd (
  bif decide ((b-a)≤(z4d e.1 (IntKind.u64.wrap (g-1)))) then(
  gd (in64 ((z4d e.1 (IntKind.u64.wrap (g-1)))-(b-a)))<|
  some ((z4d e.1 (IntKind.u64.wrap (g-1)))-(b-a))) else(
  some (z4d e.1 (IntKind.u64.wrap (g-1))))) fun f=>
  gd (in64 (a+f))<|
  gd (in64 (a+f))<|
  gd (okI c (a+f))<|
  gd (okI c d)<|
  gd (okI c d)<|
  gd (okI c (a+f))<|
  gd (in64 (d+1))<|
  uu N a b g h (d+1) (up (up c d (ix c (a+f))) (a+f) (ix c d)) e.2) else(
  some c)
def gy(N:Nat)(data:List Int)(a:Int)(b:Int):Option (List Int):=
 gd (in64 (b-a))<|
 bif decide (8≤(b-a)) then(
 bd (lc N (b-a)) fun c=>
 gd (okQ (b-a) 4)<|
 gd (in64 (((b-a)/4)*2))<|
 gd (in64 (a+(((b-a)/4)*2)))<|
 gd (in64 ((a+(((b-a)/4)*2))-1))<|
 uu N a b c N ((a+(((b-a)/4)*2))-1) data (IntKind.u64.wrap (b-a))) else(
 some data)
def ny(N:Nat)(data:(List Int))(a:Int)(b:Int)(swaps:Int):Option (Int×Int×Int):=
 gd (okI data b)<|
 gd (okI data a)<|
 bd (yj N (ix data b) (ix data a)) fun c=>
 bif c then(
 gd (in64 (swaps+1))<|
 some (b,a,(swaps+1))) else(
 some (a,b,swaps))
def eu(N:Nat)(data:(List Int))(a:Int)(b:Int)(c:Int)(swaps:Int):Option (Int×Int):=
 bd (ny N data a b swaps) fun e=>
 bd (ny N data e.2.1 c e.2.2) fun f=>
 bd (ny N data e.1 f.1 f.2.2) fun d=>
 some (d.2.1,d.2.2)
def jv(N:Nat)(data:(List Int))(a:Int)(swaps:Int):Option (Int×Int):=
 gd (in64 (a-1))<|
 gd (in64 (a+1))<|
 bd (eu N data (a-1) a (a+1) swaps) fun b=>
 some (b.1,b.2)
def om(N:Nat)(data:(List Int))(a:Int)(b:Int):Option (Int×Int):=
 gd (in64 (b-a))<|
 gd (okQ (b-a) 4)<|
 gd (in64 (((b-a)/4)*1))<|
 gd (in64 (a+(((b-a)/4)*1)))<|
 gd (okQ (b-a) 4)<|
 gd (in64 (((b-a)/4)*2))<|
 gd (in64 (a+(((b-a)/4)*2)))<|
 gd (okQ (b-a) 4)<|
 gd (in64 (((b-a)/4)*3))<|
 gd (in64 (a+(((b-a)/4)*3)))<|
 bd (
 bif decide (8≤(b-a)) then(
 bd (
 bif decide (50≤(b-a)) then(
 bd (jv N data (a+(((b-a)/4)*1)) 0) fun e=>
 bd (jv N data (a+(((b-a)/4)*2)) e.2) fun f=>
 bd (jv N data (a+(((b-a)/4)*3)) f.2) fun g=>
 some (e.1,f.1,g.1,g.2)) else(
 some (a+(((b-a)/4)*1),a+(((b-a)/4)*2),a+(((b-a)/4)*3),0))) fun d=>
 bd (eu N data d.1 d.2.1 d.2.2.1 d.2.2.2) fun h=>
 some (h.1,h.2)) else(
 some (a+(((b-a)/4)*2),0))) fun c=>
 bif decide (c.2=0) then(
 some (c.1,1)) else(
 bif decide (c.2=12) then(
 some (c.1,2)) else(
 some (c.1,0)))
def uz(N:Nat):Nat→Int→Int→(List Int)→Option (List Int)
 |0,_,_,_=>none
 |d+1,b,c,a=>
  bif decide (b<c) then(
  gd (okI a c)<|
  gd (okI a b)<|
  gd (okI a b)<|
  gd (okI a c)<|
  gd (in64 (b+1))<|
  gd (in64 (c-1))<|
  uz N d (b+1) (c-1) (up (up a b (ix a c)) c (ix a b))) else(
  some a)
def bn(N:Nat)(data:List Int)(a:Int)(b:Int):Option (List Int):=
 gd (in64 (b-1))<|
 uz N N a (b-1) data
def kg(N:Nat)(b:Int)(c:List Int):Nat→Int→Option Int
 |0,_=>none
 |d+1,a=>
  gd ((true&&((decide (a<b))==true))=true→okI c a)<|
  gd ((true&&((decide (a<b))==true))=true→in64 (a-1))<|
  gd ((true&&((decide (a<b))==true))=true→okI c (a-1))<|
  bd (gop (true&&((decide (a<b))==true)) (yj N (ix c a) (ix c (a-1)))) fun e=>
  bif (decide (a<b))&&(!(e.getD default)) then(
  gd (in64 (a+1))<|
  kg N b c d (a+1)) else(
  some a)
def jm(N:Nat):Nat→Int→(List Int)→Option (List Int)
 |0,_,_=>none
 |c+1,a,b=>
  bif decide (1≤a) then(
  gd (okI b a)<|
  gd (in64 (a-1))<|
  gd (okI b (a-1))<|
  bd (yj N (ix b a) (ix b (a-1))) fun d=>
  bif !d then(
  some b) else(
  gd (in64 (a-1))<|
  gd (in64 (a-1))<|
  gd (okI b (a-1))<|
  gd (okI b a)<|
  gd (okI b a)<|
  gd (okI b (a-1))<|
  gd (in64 (a-1))<|
  jm N c (a-1) (up (up b a (ix b (a-1))) (a-1) (ix b a)))) else(
  some b)
def jl(N:Nat)(b:Int)(d:Int):Nat→Int→(List Int)→Option (Ex (Int×List Int) (Ex (List Int) (Bool×List Int)))
 |0,_,_=>none
 |e+1,a,c=>
  bif decide (a<b) then(
  gd (okI c a)<|
  gd (in64 (a-1))<|
  gd (okI c (a-1))<|
  bd (yj N (ix c a) (ix c (a-1))) fun f=>
  bif !f then(
  some (Ex.go (d,c))) else(
  gd (in64 (a-1))<|
  gd (in64 (a-1))<|
  gd (okI c (a-1))<|
  gd (okI c a)<|
  gd (okI c a)<|
  gd (okI c (a-1))<|
  gd (in64 (a+1))<|
  jl N b d e (a+1) (up (up c a (ix c (a-1))) (a-1) (ix c a)))) else(
  some (Ex.go (d,c)))
def ko(N:Nat)(a:Int)(b:Int):Nat→Int→Int→(List Int)→Option (Ex (List Int) (Bool×List Int))
 |0,_,_,_=>none
 |i+1,j,f,d=>
  bif decide (f<5) then(
  bd (
  bd (
  kg N b d N j) fun c=>
  bif decide (c=b) then(
  some (Ex.rt (Ex.rt (true,d)))) else(
  gd (in64 (b-a))<|
  bif decide ((b-a)<50) then(
  some (Ex.rt (Ex.rt (false,d)))) else(
  gd (in64 (c-1))<|
  gd (in64 (c-1))<|
  gd (okI d (c-1))<|
  gd (okI d c)<|
  gd (okI d c)<|
  gd (okI d (c-1))<|
  bd (
  gd (in64 (c-a))<|
  bif decide (2≤(c-a)) then(
  gd (in64 (c-1))<|
  jm N N (c-1) (up (up d c (ix d (c-1))) (c-1) (ix d c))) else(
  some (up (up d c (ix d (c-1))) (c-1) (ix d c)))) fun e=>
  gd (in64 (b-c))<|
  bif decide (2≤(b-c)) then(
  gd (in64 (c+1))<|
  jl N b c N (c+1) e) else(
  some (Ex.go (c,e)))))) fun h=>
  Ex.on h (fun g=>
  gd (in64 (f+1))<|
  ko N a b i g.1 (f+1) g.2) some) else(
  some (Ex.go d))
def uy(N:Nat)(data:List Int)(a:Int)(b:Int):Option (Bool×List Int):=
 gd (in64 (a+1))<|
 bd (
 ko N a b N (a+1) 0 data) fun c=>
 Ex.on c (fun d=>
 some (false,d)) some
def uj(N:Nat)(a:Int)(c:Int)(d:List Int):Nat→Int→Option Int
 |0,_=>none
 |e+1,b=>
  gd ((true&&((decide (b≤c))==true))=true→okI d a)<|
  gd ((true&&((decide (b≤c))==true))=true→okI d b)<|
  bd (gop (true&&((decide (b≤c))==true)) (yj N (ix d a) (ix d b))) fun f=>
  bif (decide (b≤c))&&(!(f.getD default)) then(
  gd (in64 (b+1))<|
  uj N a c d e (b+1)) else(
  some b)
def uk(N:Nat)(a:Int)(c:List Int)(d:Int):Nat→Int→Option Int
 |0,_=>none
 |e+1,b=>
  gd ((true&&((decide (d≤b))==true))=true→okI c a)<|
  gd ((true&&((decide (d≤b))==true))=true→okI c b)<|
  bd (gop (true&&((decide (d≤b))==true)) (yj N (ix c a) (ix c b))) fun f=>
  bif (decide (d≤b))&&(f.getD default) then(
  gd (in64 (b-1))<|
  uk N a c d e (b-1)) else(
  some b)
def ul(N:Nat)(a:Int):Nat→Int→Int→(List Int)→Option (Int×List Int)
 |0,_,_,_=>none
 |f+1,g,e,c=>
  bd (
  uj N a e c N g) fun d=>
  bd (
  uk N a c d N e) fun b=>
  bif decide (b<d) then(
  some (d,c)) else(
  gd (okI c b)<|
  gd (okI c d)<|
  gd (okI c d)<|
  gd (okI c b)<|
  gd (in64 (d+1))<|
  gd (in64 (b-1))<|
  ul N a f (d+1) (b-1) (up (up c d (ix c b)) b (ix c d)))
def nu(N:Nat)(data:List Int)(a:Int)(b:Int)(pivot:Int):Option (Int×List Int):=
 gd (okI data pivot)<|
 gd (okI data a)<|
 gd (okI data a)<|
 gd (okI data pivot)<|
 gd (in64 (a+1))<|
 gd (in64 (b-1))<|
 bd (
 ul N a N (a+1) (b-1) (up (up data a (ix data pivot)) pivot (ix data a))) fun c=>
 some (c.1,c.2)
def vw(N:Nat)(data:List Int)(a:Int)(b:Int)(pivot:Int):Nat→Int→Option Int
 |0,_=>none
 |d+1,c=>
  gd ((true&&((decide (c≤(b-1)))==true))=true→okI (up (up data a (ix data pivot)) pivot (ix data a)) c)<|
  gd ((true&&((decide (c≤(b-1)))==true))=true→okI (up (up data a (ix data pivot)) pivot (ix data a)) a)<|
  bd (gop (true&&((decide (c≤(b-1)))==true)) (yj N (ix (up (up data a (ix data pivot)) pivot (ix data a)) c) (ix (up (up data a (ix data pivot)) pivot (ix data a)) a))) fun e=>
  bif (decide (c≤(b-1)))&&(e.getD default) then(
  gd (in64 (c+1))<|
  vw N data a b pivot d (c+1)) else(
  some c)
def yg(N:Nat)(data:List Int)(a:Int)(pivot:Int)(c:Int):Nat→Int→Option Int
 |0,_=>none
 |d+1,b=>
  gd ((true&&((decide (c≤b))==true))=true→okI (up (up data a (ix data pivot)) pivot (ix data a)) b)<|
  gd ((true&&((decide (c≤b))==true))=true→okI (up (up data a (ix data pivot)) pivot (ix data a)) a)<|
  bd (gop (true&&((decide (c≤b))==true)) (yj N (ix (up (up data a (ix data pivot)) pivot (ix data a)) b) (ix (up (up data a (ix data pivot)) pivot (ix data a)) a))) fun e=>
  bif (decide (c≤b))&&(!(e.getD default)) then(
  gd (in64 (b-1))<|
  yg N data a pivot c d (b-1)) else(
  some b)
def vv(N:Nat)(a:Int)(c:Int)(d:List Int):Nat→Int→Option Int
 |0,_=>none
 |e+1,b=>
  gd ((true&&((decide (b≤c))==true))=true→okI d b)<|
  gd ((true&&((decide (b≤c))==true))=true→okI d a)<|
  bd (gop (true&&((decide (b≤c))==true)) (yj N (ix d b) (ix d a))) fun f=>
  bif (decide (b≤c))&&(f.getD default) then(
  gd (in64 (b+1))<|
  vv N a c d e (b+1)) else(
  some b)
def yf(N:Nat)(a:Int)(c:List Int)(d:Int):Nat→Int→Option Int
 |0,_=>none
 |e+1,b=>
  gd ((true&&((decide (d≤b))==true))=true→okI c b)<|
  gd ((true&&((decide (d≤b))==true))=true→okI c a)<|
  bd (gop (true&&((decide (d≤b))==true)) (yj N (ix c b) (ix c a))) fun f=>
  bif (decide (d≤b))&&(!(f.getD default)) then(
  gd (in64 (b-1))<|
  yf N a c d e (b-1)) else(
  some b)
def vz(N:Nat)(a:Int):Nat→Int→Int→(List Int)→Option (Int×List Int)
 |0,_,_,_=>none
 |f+1,g,e,b=>
  bd (
  vv N a e b N g) fun c=>
  bd (
  yf N a b c N e) fun d=>
  bif decide (d<c) then(
  some (d,b)) else(
  gd (okI b d)<|
  gd (okI b c)<|
  gd (okI b c)<|
  gd (okI b d)<|
  gd (in64 (c+1))<|
  gd (in64 (d-1))<|
  vz N a f (c+1) (d-1) (up (up b c (ix b d)) d (ix b c)))
def ai(N:Nat)(data:List Int)(a:Int)(b:Int)(pivot:Int):Option (Int×Bool×List Int):=
 gd (okI data pivot)<|
 gd (okI data a)<|
 gd (okI data a)<|
 gd (okI data pivot)<|
 gd (in64 (a+1))<|
 gd (in64 (b-1))<|
 bd (
 vw N data a b pivot N (a+1)) fun e=>
 bd (
 yg N data a pivot e N (b-1)) fun d=>
 bif decide (d<e) then(
 gd (okI (up (up data a (ix data pivot)) pivot (ix data a)) a)<|
 gd (okI (up (up data a (ix data pivot)) pivot (ix data a)) d)<|
 gd (okI (up (up data a (ix data pivot)) pivot (ix data a)) d)<|
 gd (okI (up (up data a (ix data pivot)) pivot (ix data a)) a)<|
 some (d,true,(up (up (up (up data a (ix data pivot)) pivot (ix data a)) d (ix (up (up data a (ix data pivot)) pivot (ix data a)) a)) a (ix (up (up data a (ix data pivot)) pivot (ix data a)) d)))) else(
 gd (okI (up (up data a (ix data pivot)) pivot (ix data a)) d)<|
 gd (okI (up (up data a (ix data pivot)) pivot (ix data a)) e)<|
 gd (okI (up (up data a (ix data pivot)) pivot (ix data a)) e)<|
 gd (okI (up (up data a (ix data pivot)) pivot (ix data a)) d)<|
 gd (in64 (e+1))<|
 gd (in64 (d-1))<|
 bd (
 vz N a N (e+1) (d-1) (up (up (up (up data a (ix data pivot)) pivot (ix data a)) e (ix (up (up data a (ix data pivot)) pivot (ix data a)) d)) d (ix (up (up data a (ix data pivot)) pivot (ix data a)) e))) fun c=>
 gd (okI c.2 a)<|
 gd (okI c.2 c.1)<|
 gd (okI c.2 c.1)<|
 gd (okI c.2 a)<|
 some (c.1,false,(up (up c.2 c.1 (ix c.2 a)) a (ix c.2 c.1))))
def um(N:Nat)(self:List Int→Int→Int→Int→Option (List Int)):Nat→Int→Int→Int→Bool→Bool→(List Int)→Option (List Int)
 |0,_,_,_,_,_,_=>none
 |o+1,b,c,m,p,v,n=>
  gd (in64 (c-b))<|
  bif decide ((c-b)≤12) then(
  bd (mf N n b c) fun q=>
  some q) else(
  bif decide (m=0) then(
  bd (ic N n b c) fun r=>
  some r) else(
  bd (
  bif !p then(
  bd (gy N n b c) fun s=>
  gd (in64 (m-1))<|
  some (m-1,s)) else(
  some (m,n))) fun d=>
  bd (om N d.2 b c) fun f=>
  bd (
  bif decide (f.2=2) then(
  bd (bn N d.2 b c) fun t=>
  gd (in64 (c-1))<|
  gd (in64 (f.1-b))<|
  gd (in64 ((c-1)-(f.1-b)))<|
  some ((c-1)-(f.1-b),1,t)) else(
  some (f.1,f.2,d.2))) fun e=>
  bd (
  bif (p&&v)&&(decide (e.2.1=1)) then(
  bd (uy N e.2.2 b c) fun h=>
  bif h.1 then(
  some (Ex.rt h.2)) else(
  some (Ex.go h.2))) else(
  some (Ex.go e.2.2))) fun u=>
  Ex.on u (fun g=>
  gd ((true&&((decide (0<b))==true))=true→in64 (b-1))<|
  gd ((true&&((decide (0<b))==true))=true→okI g (b-1))<|
  gd ((true&&((decide (0<b))==true))=true→okI g e.1)<|
  bd (gop (true&&((decide (0<b))==true)) (yj N (ix g (b-1)) (ix g e.1))) fun j=>
  bif (decide (0<b))&&(!(j.getD default)) then(
  bd (nu N g b c e.1) fun i=>
  um N self o i.1 c d.1 p v i.2) else(
  bd (ai N g b c e.1) fun a=>
  gd (in64 (a.1-b))<|
  gd (in64 (c-a.1))<|
  gd (okQ (c-b) 8)<|
  bif decide ((a.1-b)<(c-a.1)) then(
  bd (self a.2.2 b a.1 d.1) fun k=>
  gd (in64 (a.1+1))<|
  um N self o (a.1+1) c d.1 (decide (((c-b)/8)≤(a.1-b))) a.2.1 k) else(
  gd (in64 (a.1+1))<|
  bd (self a.2.2 (a.1+1) c d.1) fun l=>
  um N self o b a.1 d.1 (decide (((c-b)/8)≤(c-a.1))) a.2.1 l))) some))
def uq(N:Nat):Nat→List Int→Int→Int→Int→Option (List Int)
 |0,_,_,_,_=>none
 |F+1,data,a,b,limit=>
  um N (uq N F) N a b limit true true data
def z1n(N:Nat)(x:List Int):Option (List Int):=
 bd (z1h N (IntKind.u64.wrap (↑x.length:Int))) fun a=>
 bd (uq N N x 0 (↑x.length:Int) a) fun b=>
 some b
def mg(N:Nat)(s:List Int)(a:Int):Nat→Int→Int→(List Int)→Option (Int×List Int)
 |0,_,_,_=>none
 |f+1,d,b,c=>
  bif decide (b<(↑(s.length-a.toNat:Nat):Int)) then(
  bd (
  gd (okA c a (s.length-a.toNat) b)<|
  gd (in64 (b-1))<|
  gd (okA c a (s.length-a.toNat) (b-1))<|
  bif decide ((ix c (a+b))≠(ix c (a+(b-1)))) then(
  gd (okA c a (s.length-a.toNat) b)<|
  gd (okI c d)<|
  gd (in64 (d+1))<|
  some (d+1,(up c d (ix c (a+b))))) else(
  some (d,c))) fun e=>
  gd (in64 (b+1))<|
  mg N s a f e.1 (b+1) e.2) else(
  some (d,c))
def bv(N:Nat)(s:List Int):Nat→Int→Option (Ex (Unit) ((List Int)))
 |0,_=>none
 |c+1,b=>
  bif decide (b<(↑s.length:Int)) then(
  gd (okI s b)<|
  gd (in64 (b-1))<|
  gd (okI s (b-1))<|
  bif decide ((ix s b)=(ix s (b-1))) then(
  gd (okS s b (↑s.length:Int))<|
  bd (
  mg N s b N b 1 s) fun a=>
  gd (okS a.2 a.1 (↑a.2.length:Int))<|
  gd (okS (z2v a.2 a.1.toNat (List.replicate (a.2.length-a.1.toNat) (0:Int))) 0 a.1)<|
  some (Ex.rt (cut (z2v a.2 a.1.toNat (List.replicate (a.2.length-a.1.toNat) (0:Int))) 0 a.1))) else(
  gd (in64 (b+1))<|
  bv N s c (b+1))) else(
  some (Ex.go ()))
def z0x(N:Nat)(s:List Int):Option (List Int):=
 bif decide ((↑s.length:Int)<2) then(
 some s) else(
 bd (
 bv N s N 1) fun a=>
 Ex.on a (fun b=>
 some s) some)
def wm(N:Nat)(b:(List Int)):Nat→Int→Int→Option Int
 |0,_,_=>none
 |d+1,c,a=>
  bif decide (a<(↑b.length:Int)) then(
  gd (okI b a)<|
  gd (okSh .u64 (ix b a))<|
  gd (okB .u64 c (sw .u64 (1:Int) (ix b a)))<|
  gd (in64 (a+1))<|
  wm N b d (ior c (sw .u64 (1:Int) (ix b a))) (a+1)) else(
  some c)
def xn(N:Nat)(x:Sa)(b:(List Int)):Nat→(List Int)→Int→Option (List Int)
 |0,_,_=>none
 |e+1,c,a=>
  bif decide (a<(↑b.length:Int)) then(
  gd (okI b a)<|
  bd (
  bd (yh N x (ix b a)) fun f=>
  wm N f N 0 0) fun d=>
  gd (fits 8 c ([d]:List Int))<|
  gd (in64 (a+1))<|
  xn N x b e (c++([d]:List Int)) (a+1)) else(
  some c)
def z0h(N:Nat)(x:Sa):Option (List Int):=
 bd (
 bd (ow N x (fun d=>xg N x d)) fun a=>
 xn N x a N ([]:List Int) 0) fun e=>
 bd (z1n N e) fun b=>
 bd (z0x N b) fun c=>
 some c
def xk(N:Nat)(s:(List Int))(f:Int→Option Bool):Nat→Int→Option (Ex (Unit) (Int))
 |0,_=>none
 |c+1,a=>
  bif decide (a<(↑s.length:Int)) then(
  gd (okI s a)<|
  bd (f (ix s a)) fun b=>
  bif b then(
  some (Ex.rt a)) else(
  gd (in64 (a+1))<|
  xk N s f c (a+1))) else(
  some (Ex.go ()))
def z1a(N:Nat)(s:(List Int))(f:Int→Option Bool):Option Int:=
 bd (
 xk N s f N 0) fun a=>
 Ex.on a (fun b=>
 some (-1)) some
def lw(N:Nat)(s:(List Int))(f:Int→Option Bool):Option Bool:=
 bd (z1a N s f) fun a=>
 some (decide (0≤a))
def z1x(N:Nat)(set:Int)(p0_:Int):Option Bool:=
 gd (okB .u64 set p0_)<|
 some (decide ((z4d set p0_)=0))
def fu(N:Nat)(self:Int→Int→Int→(List Int)→Int→Option (Int×Bool))(some_:Int)(left:Int)(p0_:(List Int))(p1_:Int):Nat→Int→Option (Ex (Unit) (Int×Bool))
 |0,_=>none
 |c+1,a=>
  gd (in64 (p1_-left))<|
  bif decide (a≤(p1_-left)) then(
  gd (okSh .u64 a)<|
  gd (okB .u64 some_ (sw .u64 (1:Int) a))<|
  gd (in64 (a+1))<|
  gd (in64 (left-1))<|
  bd (self (ior some_ (sw .u64 (1:Int) a)) (a+1) (left-1) p0_ p1_) fun b=>
  bif b.2 then(
  some (Ex.rt (b.1,true))) else(
  gd (in64 (a+1))<|
  fu N self some_ left p0_ p1_ c (a+1))) else(
  some (Ex.go ()))
def pu(N:Nat):Nat→Int→Int→Int→(List Int)→Int→Option (Int×Bool)
 |0,_,_,_,_,_=>none
 |F+1,some_,from_,left,p0_,p1_=>
  bif decide (left=0) then(
  bd (lw N p0_ (fun b=>z1x N b some_)) fun c=>
  some (some_,(!c))) else(
  bd (
  fu N (pu N F) some_ left p0_ p1_ N from_) fun a=>
  Ex.on a (fun d=>
  some (0,false)) some)
def z1c(N:Nat)(s:(List Int)):Option (List Int):=
 gd (okS s 0 (↑s.length:Int))<|
 some (cut s 0 (↑s.length:Int))
def z0e(N:Nat)(d:Int)(c:Int×Bool):Nat→(List Int)→Int→Option (List Int)
 |0,_,_=>none
 |e+1,b,a=>
  bif decide (a<d) then(
  bd (
  gd (okSh .u64 a)<|
  gd (okB .u64 (z0a c.1 a) 1)<|
  bif decide ((z4d (z0a c.1 a) 1)=1) then(
  gd (fits 8 b ([a]:List Int))<|
  some (b++([a]:List Int))) else(
  some b)) fun f=>
  gd (in64 (a+1))<|
  z0e N d c e f (a+1)) else(
  some b)
def ig(N:Nat)(a:Int)(c:(List Int)):Nat→Int→Option (Ex (Unit) ((List Int)×Int))
 |0,_=>none
 |f+1,b=>
  bif decide (b<(a+1)) then(
  bd (pu N N 0 0 b c a) fun d=>
  bif d.2 then(
  bd (
  z0e N a d N ([]:List Int) 0) fun g=>
  bd (z1c N g) fun e=>
  some (Ex.rt (e,0))) else(
  gd (in64 (b+1))<|
  ig N a c f (b+1))) else(
  some (Ex.go ()))
def z18(N:Nat)(x:Sa):Option ((List Int)×Int):=
 bd (ll N x) fun d=>
 bif decide (d≠0) then(
 some (([]:(List Int)),d)) else(
 bd (gu N x) fun a=>
 bif decide (16<a) then(
 some (([]:(List Int)),3)) else(
 bd (z0h N x) fun b=>
 bd (
 gd (in64 (a+1))<|
 ig N a b N 0) fun c=>
 Ex.on c (fun e=>
 some (([]:(List Int)),0)) some))
def fq(N:Nat)(b:(List Int)):Nat→Int→(List Int)→Option (List Int)
 |0,_,_=>none
 |d+1,a,c=>
  bif decide (a<(↑b.length:Int)) then(
  gd (okI b a)<|
  gd (okI c (ix b a))<|
  gd (in64 ((ix c (ix b a))+1))<|
  gd (okI c (ix b a))<|
  gd (in64 (a+1))<|
  fq N b d (a+1) (up c (ix b a) ((ix c (ix b a))+1))) else(
  some c)
def fo(N:Nat)(x:Sa)(rows:(List Int)):Nat→Int→(List Int)→Option (List Int)
 |0,_,_=>none
 |c+1,a,b=>
  bif decide (a<(↑rows.length:Int)) then(
  bd (
  gd (okI rows a)<|
  bd (yh N x (ix rows a)) fun d=>
  fq N d N 0 b) fun e=>
  gd (in64 (a+1))<|
  fo N x rows c (a+1) e) else(
  some b)
def z2a(N:Nat)(x:Sa)(rows:(List Int)):Option (List Int):=
 bd (gu N x) fun b=>
 gd (okM 8 b)<|
 bd (
 fo N x rows N 0 (mk b (0:Int))) fun a=>
 some a
def l6(N:Nat)(x:(List Int)):Nat→Int→Int→Option Int
 |0,_,_=>none
 |c+1,b,a=>
  bif decide (a<(↑x.length:Int)) then(
  gd (okI x a)<|
  gd (in64 (a+1))<|
  l6 N x c (max b (ix x a)) (a+1)) else(
  some b)
def slices_Max_int(N:Nat)(x:(List Int)):Option Int:=
 bif decide ((↑x.length:Int)<1) then(
 none) else(
 gd (okI x 0)<|
 bd (
 l6 N x N (ix x 0) 1) fun a=>
 some a)
def oh(N:Nat)(s:(List Int))(v_:Int):Nat→Int→Option (Ex (Unit) (Int))
 |0,_=>none
 |b+1,a=>
  bif decide (a<(↑s.length:Int)) then(
  gd (okI s a)<|
  bif decide (v_=(ix s a)) then(
  some (Ex.rt a)) else(
  gd (in64 (a+1))<|
  oh N s v_ b (a+1))) else(
  some (Ex.go ()))
def slices_Index_int(N:Nat)(s:(List Int))(v_:Int):Option Int:=
 bd (
 oh N s v_ N 0) fun a=>
 Ex.on a (fun b=>
 some (-1)) some
def z2i(N:Nat)(l_:(List Int)):Option (Int×Bool):=
 bif decide ((↑l_.length:Int)=0) then(
 some (0,false)) else(
 bd (slices_Max_int N l_) fun a=>
 bd (slices_Index_int N l_ a) fun b=>
 some (b,(decide (0<a))))
def u6(N:Nat)(s:(List Int))(f:Int→Option Bool):Nat→Int→Option (Ex (Unit) (Int))
 |0,_=>none
 |c+1,a=>
  bif decide (a<(↑s.length:Int)) then(
  gd (okI s a)<|
  bd (f (ix s a)) fun b=>
  bif b then(
  some (Ex.rt a)) else(
  gd (in64 (a+1))<|
  u6 N s f c (a+1))) else(
  some (Ex.go ()))
def iq(N:Nat)(s:(List Int))(f:Int→Option Bool):Option Int:=
 bd (
 u6 N s f N 0) fun a=>
 Ex.on a (fun b=>
 some (-1)) some
def yn(N:Nat)(x:Sa)(is:Int→Option Bool):Nat→(List Int)→Int→Option (List Int)
 |0,_,_=>none
 |c+1,b,a=>
  bif decide (a<(↑x.fB.length:Int)) then(
  bd (
  bd (is a) fun d=>
  bif d then(
  gd (fits 8 b ([a]:List Int))<|
  some (b++([a]:List Int))) else(
  some b)) fun e=>
  gd (in64 (a+1))<|
  yn N x is c e (a+1)) else(
  some b)
def rz(N:Nat)(x:Sa)(is:Int→Option Bool):Option (List Int):=
 bd (
 yn N x is N ([]:List Int) 0) fun a=>
 some a
def yt(N:Nat)(b:(List Int)):Nat→Int→(List Int)→Option (List Int)
 |0,_,_=>none
 |d+1,a,c=>
  bif decide (a<(↑b.length:Int)) then(
  gd (okI b a)<|
  gd (okI c (ix b a))<|
  gd (in64 ((ix c (ix b a))+1))<|
  gd (okI c (ix b a))<|
  gd (in64 (a+1))<|
  yt N b d (a+1) (up c (ix b a) ((ix c (ix b a))+1))) else(
  some c)
def yu(N:Nat)(x:Sa)(rows:(List Int)):Nat→Int→(List Int)→Option (List Int)
 |0,_,_=>none
 |c+1,a,b=>
  bif decide (a<(↑rows.length:Int)) then(
  bd (
  gd (okI rows a)<|
  bd (yh N x (ix rows a)) fun d=>
  yt N d N 0 b) fun e=>
  gd (in64 (a+1))<|
  yu N x rows c (a+1) e) else(
  some b)
def lm(N:Nat)(x:Sa)(rows:(List Int)):Option (List Int):=
 bd (gu N x) fun b=>
 gd (okM 8 b)<|
 bd (
 yu N x rows N 0 (mk b (0:Int))) fun a=>
 some a
def z09(N:Nat)(i:Int)(p0_:Sa)(p1_:Int):Option Bool:=
 bd (ak N p0_ i p1_) fun a=>
 some a
def xq(N:Nat)(del:Int→Option Bool):Nat→Int→Int→(List Int)→Option (Int×List Int)
 |0,_,_,_=>none
 |e+1,b,c,a=>
  bif decide (c<(↑a.length:Int)) then(
  bd (
  gd (okI a c)<|
  bd (del (ix a c)) fun f=>
  bif !f then(
  gd (okI a b)<|
  gd (in64 (b+1))<|
  some (b+1,(up a b (ix a c)))) else(
  some (b,a))) fun d=>
  gd (in64 (c+1))<|
  xq N del e d.1 (c+1) d.2) else(
  some (b,a))
def ik(N:Nat)(s:List Int)(del:Int→Option Bool):Option (List Int):=
 bd (iq N s del) fun b=>
 bif decide (b=(-1)) then(
 some s) else(
 bd (
 gd (in64 (b+1))<|
 xq N del N b (b+1) s) fun a=>
 gd (okS a.2 a.1 (↑a.2.length:Int))<|
 gd (okS (z2v a.2 a.1.toNat (List.replicate (a.2.length-a.1.toNat) (0:Int))) 0 a.1)<|
 some (cut (z2v a.2 a.1.toNat (List.replicate (a.2.length-a.1.toNat) (0:Int))) 0 a.1))
def slices_Sort_int(N:Nat)(x:List Int):Option (List Int):=
 gd (x.length<4611686018427387904) (some (z2g x))
def z2m(N:Nat)(s:List Int):Option (List Int):=
 gd (okS s 0 (↑s.length:Int))<|
 some (cut s 0 (↑s.length:Int))
def z04(N:Nat)(x:Sa):Nat→(List Int)→(List Int)→Option (List Int)
 |0,_,_=>none
 |d+1,c,b=>
  bd (lm N x c) fun e=>
  bd (z2i N e) fun a=>
  bif !a.2 then(
  some b) else(
  gd (fits 8 b ([a.1]:List Int))<|
  bd (ik N c (fun g=>z09 N g x a.1)) fun f=>
  z04 N x d f (b++([a.1]:List Int)))
def z0g(N:Nat)(x:Sa):Option ((List Int)×Int):=
 bd (ll N x) fun e=>
 bif decide (e≠0) then(
 some (([]:(List Int)),e)) else(
 bd (rz N x (fun f=>xg N x f)) fun b=>
 bd (
 z04 N x N b ([]:List Int)) fun c=>
 bd (slices_Sort_int N c) fun d=>
 bd (z2m N d) fun a=>
 some (a,0))
def og(N:Nat)(s:List Int)(a:Int):Nat→Int→Int→(List Int)→Option (Int×List Int)
 |0,_,_,_=>none
 |f+1,d,b,c=>
  bif decide (b<(↑(s.length-a.toNat:Nat):Int)) then(
  bd (
  gd (okA c a (s.length-a.toNat) b)<|
  gd (in64 (b-1))<|
  gd (okA c a (s.length-a.toNat) (b-1))<|
  bif decide ((ix c (a+b))≠(ix c (a+(b-1)))) then(
  gd (okA c a (s.length-a.toNat) b)<|
  gd (okI c d)<|
  gd (in64 (d+1))<|
  some (d+1,(up c d (ix c (a+b))))) else(
  some (d,c))) fun e=>
  gd (in64 (b+1))<|
  og N s a f e.1 (b+1) e.2) else(
  some (d,c))
def dx(N:Nat)(s:List Int):Nat→Int→Option (Ex (Unit) ((List Int)))
 |0,_=>none
 |c+1,b=>
  bif decide (b<(↑s.length:Int)) then(
  gd (okI s b)<|
  gd (in64 (b-1))<|
  gd (okI s (b-1))<|
  bif decide ((ix s b)=(ix s (b-1))) then(
  gd (okS s b (↑s.length:Int))<|
  bd (
  og N s b N b 1 s) fun a=>
  gd (okS a.2 a.1 (↑a.2.length:Int))<|
  gd (okS (z2v a.2 a.1.toNat (List.replicate (a.2.length-a.1.toNat) (0:Int))) 0 a.1)<|
  some (Ex.rt (cut (z2v a.2 a.1.toNat (List.replicate (a.2.length-a.1.toNat) (0:Int))) 0 a.1))) else(
  gd (in64 (b+1))<|
  dx N s c (b+1))) else(
  some (Ex.go ()))
def slices_Compact_int(N:Nat)(s:List Int):Option (List Int):=
 bif decide ((↑s.length:Int)<2) then(
 some s) else(
 bd (
 dx N s N 1) fun a=>
 Ex.on a (fun b=>
 some s) some)
def cu(N:Nat)(x:Sa):Nat→(List Int)→Int→Option (List Int)
 |0,_,_=>none
 |d+1,a,b=>
  bif decide (b<(↑x.fB.length:Int)) then(
  bd (
  bd (yh N x b) fun c=>
  bif decide ((↑c.length:Int)=1) then(
  gd (okI c 0)<|
  gd (fits 8 a ([(ix c 0)]:List Int))<|
  some (a++([(ix c 0)]:List Int))) else(
  some a)) fun e=>
  gd (in64 (b+1))<|
  cu N x d e (b+1)) else(
  some a)
def z03(N:Nat)(x:Sa):Option ((List Int)×Int):=
 bd (ll N x) fun e=>
 bif decide (e≠0) then(
 some (([]:(List Int)),e)) else(
 bd (
 cu N x N ([]:List Int) 0) fun a=>
 bd (slices_Sort_int N a) fun b=>
 bd (slices_Compact_int N b) fun c=>
 bd (z1c N c) fun d=>
 some (d,0))
def xm(N:Nat)(x:Sa):Nat→Int→Int→Option Int
 |0,_,_=>none
 |c+1,b,a=>
  bif decide (a<(↑x.fB.length:Int)) then(
  gd (okI x.fB a)<|
  gd (in64 (a+1))<|
  xm N x c (max b (↑(ix x.fB a).length:Int)) (a+1)) else(
  some b)
def o8(N:Nat)(x:Sa):Option Int:=
 bd (
 xm N x N 0 0) fun a=>
 some a
def lq(N:Nat)(c:Int)(b:(List (List Int))):Nat→Int→(List (List Int))→Option (List (List Int))
 |0,_,_=>none
 |e+1,a,d=>
  bif decide (a<(↑b.length:Int)) then(
  gd (okI b a)<|
  gd (fits 8 ([c]:List Int) (ix b a))<|
  gd (fits 24 d ([(([c]:List Int)++(ix b a))]:List (List Int)))<|
  gd (in64 (a+1))<|
  lq N c b e (a+1) (d++([(([c]:List Int)++(ix b a))]:List (List Int)))) else(
  some d)
def lv(N:Nat)(self:Int→Int→Int→Option (List (List Int)))(columns:Int)(n:Int):Nat→(List (List Int))→Int→Option (List (List Int))
 |0,_,_=>none
 |c+1,b,a=>
  bif decide (a<columns) then(
  bd (
  gd (in64 (a+1))<|
  gd (in64 (n-1))<|
  bd (self (a+1) columns (n-1)) fun d=>
  lq N a d N 0 b) fun e=>
  gd (in64 (a+1))<|
  lv N self columns n c e (a+1)) else(
  some b)
def dz(N:Nat):Nat→Int→Int→Int→Option (List (List Int))
 |0,_,_,_=>none
 |F+1,from_,columns,n=>
  bif decide (n=0) then(
  some ([([]:List Int)]:List (List Int))) else(
  bd (
  lv N (dz N F) columns n N ([]:List (List Int)) from_) fun a=>
  some a)
def ni(N:Nat)(x:Sa)(row:Int)(column:Int):Option Bool:=
 gd (okI x.fB row)<|
 gd (okI (ix x.fB row) column)<|
 some (decide (0≤(ix (ix x.fB row) column)))
def ym(N:Nat)(x:Sa)(row:Int):Nat→Int→Option (Ex (Unit) (Bool))
 |0,_=>none
 |b+1,a=>
  gd (okI x.fB row)<|
  bif decide (a<(↑(ix x.fB row).length:Int)) then(
  bd (ni N x row a) fun c=>
  bif c then(
  some (Ex.rt true)) else(
  gd (in64 (a+1))<|
  ym N x row b (a+1))) else(
  some (Ex.go ()))
def z0q(N:Nat)(x:Sa)(row:Int):Option Bool:=
 bd (
 ym N x row N 0) fun a=>
 Ex.on a (fun b=>
 some false) some
def xz(N:Nat)(x:Sa)(l_:(List Int))(c:Int):Nat→Bool→Int→Option Bool
 |0,_,_=>none
 |d+1,b,a=>
  bif decide (a<(↑l_.length:Int)) then(
  gd ((true&&(b==false))=true→okI l_ a)<|
  bd (gop (true&&(b==false)) (ni N x c (ix l_ a))) fun e=>
  gd (in64 (a+1))<|
  xz N x l_ c d (b||(e.getD default)) (a+1)) else(
  some b)
def yl(N:Nat)(x:Sa)(l_:(List Int)):Nat→Int→Option (Ex (Unit) (Bool))
 |0,_=>none
 |b+1,a=>
  bif decide (a<(↑x.fB.length:Int)) then(
  bd (z0q N x a) fun c=>
  bd (
  xz N x l_ a N (!c) 0) fun d=>
  bif !d then(
  some (Ex.rt false)) else(
  gd (in64 (a+1))<|
  yl N x l_ b (a+1))) else(
  some (Ex.go ()))
def iw(N:Nat)(x:Sa)(l_:(List Int)):Option Bool:=
 bd (
 yl N x l_ N 0) fun a=>
 Ex.on a (fun b=>
 some true) some
def bz(N:Nat)(x:Sa)(b:(List (List Int))):Nat→Int→Option (Ex (Unit) (Ex (Unit) ((List Int))))
 |0,_=>none
 |c+1,a=>
  bif decide (a<(↑b.length:Int)) then(
  gd (okI b a)<|
  bd (iw N x (ix b a)) fun d=>
  bif d then(
  gd (okI b a)<|
  some (Ex.rt (Ex.rt (ix b a)))) else(
  gd (in64 (a+1))<|
  bz N x b c (a+1))) else(
  some (Ex.go ()))
def bu(N:Nat)(x:Sa):Nat→Int→Option (Ex (Unit) ((List Int)))
 |0,_=>none
 |b+1,a=>
  bd (o8 N x) fun c=>
  bif decide (a≤c) then(
  bd (
  bd (o8 N x) fun d=>
  bd (dz N N 0 d a) fun e=>
  bz N x e N 0) fun f=>
  Ex.on f (fun g=>
  gd (in64 (a+1))<|
  bu N x b (a+1)) some) else(
  some (Ex.go ()))
def z0w(N:Nat)(x:Sa):Option (List Int):=
 bd (
 bu N x N 0) fun a=>
 Ex.on a (fun b=>
 some ([]:(List Int))) some
def xh(N:Nat)(a:(List Int))(b:(List Int)):Nat→Int→Option (Ex (Unit) (Int))
 |0,_=>none
 |d+1,c=>
  bif decide (c<(↑a.length:Int)) then(
  gd (okI a c)<|
  gd (okI b c)<|
  bif decide ((ix a c)<(ix b c)) then(
  some (Ex.rt (-1))) else(
  gd (okI a c)<|
  gd (okI b c)<|
  bif decide ((ix b c)<(ix a c)) then(
  some (Ex.rt 1)) else(
  gd (in64 (c+1))<|
  xh N a b d (c+1)))) else(
  some (Ex.go ()))
def lg(N:Nat)(a:(List Int))(b:(List Int)):Option Int:=
 bif decide ((↑a.length:Int)≠(↑b.length:Int)) then(
 bif decide ((↑a.length:Int)<(↑b.length:Int)) then(
 some (-1)) else(
 some 1)) else(
 bd (
 xh N a b N 0) fun c=>
 Ex.on c (fun d=>
 some 0) some)
def dn(N:Nat)(a:(List (List Int)))(b:(List (List Int))):Nat→Int→Option (Ex (Unit) (Bool))
 |0,_=>none
 |e+1,c=>
  bif decide (c<(↑a.length:Int)) then(
  gd (okI a c)<|
  gd (okI b c)<|
  bd (lg N (ix a c) (ix b c)) fun d=>
  bif decide (d≠0) then(
  some (Ex.rt false)) else(
  gd (in64 (c+1))<|
  dn N a b e (c+1))) else(
  some (Ex.go ()))
def z0j(N:Nat)(a:(List (List Int)))(b:(List (List Int))):Option Bool:=
 bif decide ((↑a.length:Int)≠(↑b.length:Int)) then(
 some false) else(
 bd (
 dn N a b N 0) fun c=>
 Ex.on c (fun d=>
 some true) some)
def ky(N:Nat)(a:(List Int))(b:(List Int)):Option Bool:=
 bd (z0j N ([a]:List (List Int)) ([b]:List (List Int))) fun c=>
 some (c&&(decide ((↑a.length:Int)=(↑a.length:Int))))
def gq(N:Nat)(x:Sa)(b:List Bool)(d:Int):Nat→Bool→Int→Option Bool
 |0,_,_=>none
 |e+1,c,a=>
  bif decide (a<(↑b.length:Int)) then(
  gd ((true&&(c==true))=true→okI b a)<|
  bd (gop ((true&&(c==true))&&((ix b a)==true)) (ni N x d a)) fun f=>
  gd (in64 (a+1))<|
  gq N x b d e (c&&(!((ix b a)&&(f.getD default)))) (a+1)) else(
  some c)
def xx(N:Nat)(x:Sa)(c:List Bool)(d:Int):Nat→Int→Int→Option Int
 |0,_,_=>none
 |e+1,b,a=>
  bif decide (a<(↑x.fB.length:Int)) then(
  bd (
  bd (ni N x a d) fun f=>
  bd (
  gq N x c a N f 0) fun g=>
  bif g then(
  gd (in64 (b+1))<|
  some (b+1)) else(
  some b)) fun h=>
  gd (in64 (a+1))<|
  xx N x c d e h (a+1)) else(
  some b)
def bg(N:Nat)(x:Sa)(b:List Bool):Nat→Int→Int→Int→Option Int
 |0,_,_,_=>none
 |g+1,c,d,a=>
  bif decide (a<(↑b.length:Int)) then(
  bd (
  bd (
  xx N x b a N 0 0) fun e=>
  bif decide (d<e) then(
  some (a,e)) else(
  some (c,d))) fun f=>
  gd (in64 (a+1))<|
  bg N x b g f.1 f.2 (a+1)) else(
  some c)
def ol(N:Nat)(x:Sa):Nat→(List Bool)→Option (List Bool)
 |0,_=>none
 |c+1,a=>
  bd (
  bg N x a N (-1) 0 0) fun b=>
  bif decide (b<0) then(
  some a) else(
  gd (okI a b)<|
  ol N x c (up a b true))
def gp(N:Nat)(c:List Bool):Nat→(List Int)→Int→Option (List Int)
 |0,_,_=>none
 |d+1,b,a=>
  bif decide (a<(↑c.length:Int)) then(
  bd (
  gd (okI c a)<|
  bif (ix c a) then(
  gd (fits 8 b ([a]:List Int))<|
  some (b++([a]:List Int))) else(
  some b)) fun e=>
  gd (in64 (a+1))<|
  gp N c d e (a+1)) else(
  some b)
def z0r(N:Nat)(x:Sa):Option (List Int):=
 bd (o8 N x) fun c=>
 gd (okM 1 c)<|
 bd (
 ol N x N (mk c false)) fun b=>
 bd (
 gp N b N ([]:List Int) 0) fun a=>
 some a
def ww(N:Nat)(x:Sa)(a:Int):Nat→Int→Int→Option Int
 |0,_,_=>none
 |d+1,b,c=>
  gd (okI x.fB a)<|
  bif decide (c<(↑(ix x.fB a).length:Int)) then(
  bd (
  bd (ni N x a c) fun e=>
  bif e then(
  gd (in64 (b+1))<|
  some (b+1)) else(
  some b)) fun f=>
  gd (in64 (c+1))<|
  ww N x a d f (c+1)) else(
  some b)
def wy(N:Nat)(x:Sa)(c:Int):Nat→Bool→Int→Option Bool
 |0,_,_=>none
 |f+1,b,a=>
  bif decide (a<(↑x.fB.length:Int)) then(
  bd (
  ww N x a N 0 0) fun d=>
  bd (gop ((true&&(b==false))&&((decide (d=1))==true)) (ni N x a c)) fun e=>
  gd (in64 (a+1))<|
  wy N x c f (b||((decide (d=1))&&(e.getD default))) (a+1)) else(
  some b)
def wz(N:Nat)(x:Sa):Nat→(List Int)→Int→Option (List Int)
 |0,_,_=>none
 |c+1,b,a=>
  bd (o8 N x) fun d=>
  bif decide (a<d) then(
  bd (
  bd (
  wy N x a N false 0) fun e=>
  bif e then(
  gd (fits 8 b ([a]:List Int))<|
  some (b++([a]:List Int))) else(
  some b)) fun f=>
  gd (in64 (a+1))<|
  wz N x c f (a+1)) else(
  some b)
def z05(N:Nat)(x:Sa):Option (List Int):=
 bd (
 wz N x N ([]:List Int) 0) fun a=>
 some a
def ng(N:Nat)(s:(List Int))(f:Int→Option Bool):Option Bool:=
 bd (iq N s f) fun a=>
 some (decide (0≤a))
def z0d(N:Nat)(c:Int)(p0_:Sa)(p1_:Int):Option Bool:=
 bd (ak N p0_ p1_ c) fun a=>
 some a
def mo(N:Nat)(choice:(List Int))(b:Int):Nat→Int→Option (Ex (Unit) (Bool×Int))
 |0,_=>none
 |c+1,a=>
  bif decide (a<(↑choice.length:Int)) then(
  gd (okI choice a)<|
  gd (((true&&(((decide ((ix choice a)<0))||(decide (b≤(ix choice a))))==false))&&((decide (0<a))==true))=true→in64 (a-1))<|
  gd (((true&&(((decide ((ix choice a)<0))||(decide (b≤(ix choice a))))==false))&&((decide (0<a))==true))=true→okI choice (a-1))<|
  bif ((decide ((ix choice a)<0))||(decide (b≤(ix choice a))))||((decide (0<a))&&(decide ((ix choice a)≤(ix choice (a-1))))) then(
  some (Ex.rt (false,1))) else(
  gd (in64 (a+1))<|
  mo N choice b c (a+1))) else(
  some (Ex.go ()))
def mq(N:Nat)(x:Sa)(choice:(List Int))(b:(List Int)):Nat→Int→Option (Ex (Unit) (Bool×Int))
 |0,_=>none
 |d+1,a=>
  bif decide (a<(↑b.length:Int)) then(
  gd (okI b a)<|
  bd (ng N choice (fun e=>z0d N e x (ix b a))) fun c=>
  bif !c then(
  some (Ex.rt (false,0))) else(
  gd (in64 (a+1))<|
  mq N x choice b d (a+1))) else(
  some (Ex.go ()))
def su(N:Nat)(x:Sa)(choice:(List Int)):Option (Bool×Int):=
 bd (ll N x) fun e=>
 bif decide (e≠0) then(
 some (false,e)) else(
 bd (gu N x) fun a=>
 bd (
 mo N choice a N 0) fun b=>
 Ex.on b (fun f=>
 bd (
 bd (ow N x (fun g=>xg N x g)) fun c=>
 mq N x choice c N 0) fun d=>
 Ex.on d (fun h=>
 some (true,0)) some) some)
def af(N:Nat)(s:(List Edge))(f:Edge→Option Bool):Nat→Int→Option (Ex (Unit) (Int))
 |0,_=>none
 |c+1,a=>
  bif decide (a<(↑s.length:Int)) then(
  gd (okI s a)<|
  bd (f (ix s a)) fun b=>
  bif b then(
  some (Ex.rt a)) else(
  gd (in64 (a+1))<|
  af N s f c (a+1))) else(
  some (Ex.go ()))
def z1b(N:Nat)(s:(List Edge))(f:Edge→Option Bool):Option Int:=
 bd (
 af N s f N 0) fun a=>
 Ex.on a (fun b=>
 some (-1)) some
def z0v(N:Nat)(s:(List Edge))(f:Edge→Option Bool):Option Bool:=
 bd (z1b N s f) fun a=>
 some (decide (0≤a))
def z5a(N:Nat):Option Edge:=
 some (⟨(-1),(-1)⟩:Edge)
def z7i(N:Nat)(m:Mach)(x:Edge):Option Bool:=
 bd (z5a N) fun a=>
 some ((decide (x.to=a.to∧x.out=a.out))||((((decide (0≤x.to))&&(decide (x.to<(↑m.rows.length:Int))))&&(decide (0≤x.out)))&&(decide (x.out<m.outputs))))
def z4y(N:Nat)(x:Edge)(p0_:Mach):Option Bool:=
 bd (z7i N p0_ x) fun a=>
 some (!a)
def z1g(N:Nat)(m:Mach):Nat→Int→Option (Ex (Unit) (Int))
 |0,_=>none
 |b+1,a=>
  bif decide (a<(↑m.rows.length:Int)) then(
  gd (okI m.rows a)<|
  bd (gop (true&&((decide ((↑(ix m.rows a).length:Int)≠m.inputs))==false)) (z0v N (ix m.rows a) (fun d=>z4y N d m))) fun c=>
  bif (decide ((↑(ix m.rows a).length:Int)≠m.inputs))||(c.getD default) then(
  some (Ex.rt 1)) else(
  gd (in64 (a+1))<|
  z1g N m b (a+1))) else(
  some (Ex.go ()))
def z3d(N:Nat)(m:Mach):Option Int:=
 bif ((decide (16<m.inputs))||(decide (16<m.outputs)))||(decide (64<(↑m.rows.length:Int))) then(
 some 3) else(
 bif ((decide (m.inputs<1))||(decide (m.outputs<1)))||(decide ((↑m.rows.length:Int)<1)) then(
 some 1) else(
 bd (
 z1g N m N 0) fun a=>
 Ex.on a (fun b=>
 some 0) some))
def z7h(N:Nat)(c:Int)(p0_:Int):Option Bool:=
 some ((decide (c<0))||(decide (p0_≤c)))
def z7a(N:Nat)(w_:(List Int))(inputs:Int):Option Int:=
 bif (decide (16<inputs))||(decide (256<(↑w_.length:Int))) then(
 some 3) else(
 bd (gop (true&&((decide (inputs<1))==false)) (ng N w_ (fun b=>z7h N b inputs))) fun a=>
 bif (decide (inputs<1))||(a.getD default) then(
 some 1) else(
 some 0))
def z3f(N:Nat)(l_:(List (List Int)))(inputs:Int):Nat→Int→Option (Ex (Unit) (Int))
 |0,_=>none
 |c+1,a=>
  bif decide (a<(↑l_.length:Int)) then(
  gd (okI l_ a)<|
  bd (z7a N (ix l_ a) inputs) fun b=>
  bif decide (b≠0) then(
  some (Ex.rt b)) else(
  gd (in64 (a+1))<|
  z3f N l_ inputs c (a+1))) else(
  some (Ex.go ()))
def z9j(N:Nat)(l_:(List (List Int)))(inputs:Int):Option Int:=
 bif (decide (16<inputs))||(decide (4096<(↑l_.length:Int))) then(
 some 3) else(
 bif decide (inputs<1) then(
 some 1) else(
 bd (
 z3f N l_ inputs N 0) fun a=>
 Ex.on a (fun b=>
 some 0) some))
def cmp_isNaN_int(N:Nat)(x:Int):Option Bool:=
 some (decide (x≠x))
def cmp_Compare_int(N:Nat)(x:Int)(y:Int):Option Int:=
 bd (cmp_isNaN_int N x) fun b=>
 bd (cmp_isNaN_int N y) fun a=>
 bif b then(
 bif a then(
 some 0) else(
 some (-1))) else(
 bif a then(
 some 1) else(
 bif decide (x<y) then(
 some (-1)) else(
 bif decide (y<x) then(
 some 1) else(
 some 0))))
def z0i(N:Nat)(s1_:(List Int))(s2_:(List Int)):Nat→Int→Option (Ex (Unit) (Int))
 |0,_=>none
 |c+1,a=>
  bif decide (a<(↑s1_.length:Int)) then(
  gd (okI s1_ a)<|
  bif decide ((↑s2_.length:Int)≤a) then(
  some (Ex.rt 1)) else(
  gd (okI s2_ a)<|
  bd (cmp_Compare_int N (ix s1_ a) (ix s2_ a)) fun b=>
  bif decide (b≠0) then(
  some (Ex.rt b)) else(
  gd (in64 (a+1))<|
  z0i N s1_ s2_ c (a+1)))) else(
  some (Ex.go ()))
def z3w(N:Nat)(s1_:(List Int))(s2_:(List Int)):Option Int:=
 bd (
 z0i N s1_ s2_ N 0) fun a=>
 Ex.on a (fun b=>
 bif decide ((↑s1_.length:Int)<(↑s2_.length:Int)) then(
 some (-1)) else(
 some 0)) some
def z3n(N:Nat)(vals:(List Int)):Nat→Int→Option (Ex (Unit) (Int))
 |0,_=>none
 |b+1,a=>
  bif decide (a<(↑vals.length:Int)) then(
  gd (okI vals a)<|
  bif decide ((ix vals a)≠0) then(
  some (Ex.rt (ix vals a))) else(
  gd (in64 (a+1))<|
  z3n N vals b (a+1))) else(
  some (Ex.go ()))
def zah(N:Nat)(vals:(List Int)):Option Int:=
 bd (
 z3n N vals N 0) fun a=>
 Ex.on a (fun b=>
 some 0) some
def z7j(N:Nat)(a:(List Int))(b:(List Int)):Option Int:=
 bd (cmp_Compare_int N (↑a.length:Int) (↑b.length:Int)) fun d=>
 bd (z3w N a b) fun e=>
 bd (zah N ([d,e]:List Int)) fun c=>
 some c
def z3c(N:Nat)(l_:(List (List Int))):Nat→Int→Option (Ex (Unit) (Bool))
 |0,_=>none
 |c+1,a=>
  bif decide (a<(↑l_.length:Int)) then(
  gd (in64 (a-1))<|
  gd (okI l_ (a-1))<|
  gd (okI l_ a)<|
  bd (z7j N (ix l_ (a-1)) (ix l_ a)) fun b=>
  bif decide (0≤b) then(
  some (Ex.rt false)) else(
  gd (in64 (a+1))<|
  z3c N l_ c (a+1))) else(
  some (Ex.go ()))
def z9t(N:Nat)(l_:(List (List Int))):Option Bool:=
 bd (
 z3c N l_ N 1) fun a=>
 Ex.on a (fun b=>
 some true) some
def z2t(N:Nat)(l_:(List (List Int))):Nat→Int→Int→Option Int
 |0,_,_=>none
 |c+1,b,a=>
  bif decide (a<(↑l_.length:Int)) then(
  gd (okI l_ a)<|
  gd (in64 (b+(↑(ix l_ a).length:Int)))<|
  gd (in64 (a+1))<|
  z2t N l_ c (b+(↑(ix l_ a).length:Int)) (a+1)) else(
  some b)
def z9p(N:Nat)(l_:(List (List Int))):Option Int:=
 bd (
 z2t N l_ N 0 0) fun a=>
 some a
def z9b(N:Nat)(l_:(List (List Int)))(inputs:Int):Option Int:=
 bd (z9j N l_ inputs) fun b=>
 bif decide (b≠0) then(
 some b) else(
 bd (z9t N l_) fun c=>
 bif !c then(
 some 1) else(
 bd (z9p N l_) fun a=>
 bif decide (65536<a) then(
 some 3) else(
 some 0)))
def z6e(N:Nat)(m:Mach)(s:Int):Option Int:=
 bd (z3d N m) fun a=>
 bif decide (a≠0) then(
 some a) else(
 bif (decide (s<0))||(decide ((↑m.rows.length:Int)≤s)) then(
 some 1) else(
 some 0))
def z2d(N:Nat)(m:Mach)(w_:(List Int)):Nat→Int→Int→(List Int)→Option (Int×List Int)
 |0,_,_,_=>none
 |f+1,b,a,c=>
  bif decide (a<(↑w_.length:Int)) then(
  gd (okI w_ a)<|
  bd (z5a N) fun d=>
  bd (
  bif decide (b≠(-1)) then(
  gd (okI m.rows b)<|
  gd (okI (ix m.rows b) (ix w_ a))<|
  some ((ix (ix m.rows b) (ix w_ a)).to,(ix (ix m.rows b) (ix w_ a)).out)) else(
  some (d.to,d.out))) fun e=>
  gd (okI c a)<|
  gd (in64 (a+1))<|
  z2d N m w_ f e.1 (a+1) (up c a e.2)) else(
  some (b,c))
def z8p(N:Nat)(m:Mach)(s:Int)(w_:(List Int)):Option ((List Int)×Int):=
 gd (okM 8 (↑w_.length:Int))<|
 bd (
 z2d N m w_ N s 0 (mk (↑w_.length:Int) (0:Int))) fun a=>
 some (a.2,a.1)
def z5q(N:Nat)(m:Mach)(s:Int)(w_:(List Int)):Option ((List Int)×Int):=
 bd (z6e N m s) fun c=>
 bif decide (c≠0) then(
 some (([]:(List Int)),c)) else(
 bd (z7a N w_ m.inputs) fun a=>
 bif decide (a≠0) then(
 some (([]:(List Int)),a)) else(
 bd (z8p N m s w_) fun b=>
 some (b.1,0)))
def z1t(N:Nat)(b:(List Int)×Int)(c:(List Int)×Int):Nat→Int→Option (Ex (Unit) (Int))
 |0,_=>none
 |d+1,a=>
  bif decide (a<(↑b.1.length:Int)) then(
  gd (okI b.1 a)<|
  gd (okI c.1 a)<|
  bif decide ((ix b.1 a)≠(ix c.1 a)) then(
  some (Ex.rt a)) else(
  gd (in64 (a+1))<|
  z1t N b c d (a+1))) else(
  some (Ex.go ()))
def z7f(N:Nat)(m:Mach)(other:Mach)(w_:(List Int)):Option Int:=
 bd (z5q N m 0 w_) fun a=>
 bd (z5q N other 0 w_) fun b=>
 bd (
 z1t N a b N 0) fun c=>
 Ex.on c (fun d=>
 some (-1)) some
def z1q(N:Nat)(m:Mach)(mutants:(List Mach)):Nat→Int→Option (Ex (Unit) (Sa×Int))
 |0,_=>none
 |c+1,a=>
  bif decide (a<(↑mutants.length:Int)) then(
  gd (okI mutants a)<|
  bd (z3d N (⟨(ix mutants a).inputs,(ix mutants a).outputs,(ix mutants a).rows⟩:Mach)) fun b=>
  bif decide (b≠0) then(
  some (Ex.rt ((⟨[]⟩:Sa),b))) else(
  bif decide (((ix mutants a).inputs)≠m.inputs) then(
  some (Ex.rt ((⟨[]⟩:Sa),5))) else(
  gd (in64 (a+1))<|
  z1q N m mutants c (a+1)))) else(
  some (Ex.go ()))
def z1o(N:Nat)(m:Mach)(mutants:(List Mach))(l_:(List (List Int)))(b:Int):Nat→Int→(List (List Int))→Option (List (List Int))
 |0,_,_=>none
 |d+1,a,c=>
  bif decide (a<(↑l_.length:Int)) then(
  gd (okI l_ a)<|
  gd (okI c b)<|
  bd (z7f N m (⟨(ix mutants b).inputs,(ix mutants b).outputs,(ix mutants b).rows⟩:Mach) (ix l_ a)) fun e=>
  gd (okI (ix c b) a)<|
  gd (in64 (a+1))<|
  z1o N m mutants l_ b d (a+1) (up c b (up (ix c b) a e))) else(
  some c)
def z1s(N:Nat)(m:Mach)(mutants:(List Mach))(l_:(List (List Int))):Nat→Int→(List (List Int))→Option (List (List Int))
 |0,_,_=>none
 |c+1,a,b=>
  bif decide (a<(↑mutants.length:Int)) then(
  bd (
  gd (okI mutants a)<|
  gd (okM 8 (↑l_.length:Int))<|
  gd (okI b a)<|
  z1o N m mutants l_ a N 0 (up b a (mk (↑l_.length:Int) (0:Int)))) fun d=>
  gd (in64 (a+1))<|
  z1s N m mutants l_ c (a+1) d) else(
  some b)
def z7c(N:Nat)(m:Mach)(mutants:(List Mach))(l_:(List (List Int))):Option (Sa×Int):=
 bd (z3d N m) fun d=>
 bif decide (d≠0) then(
 some ((⟨[]⟩:Sa),d)) else(
 bif decide (4096<(↑mutants.length:Int)) then(
 some ((⟨[]⟩:Sa),3)) else(
 bd (
 z1q N m mutants N 0) fun b=>
 Ex.on b (fun e=>
 bd (z9b N l_ m.inputs) fun a=>
 bif decide (a≠0) then(
 some ((⟨[]⟩:Sa),a)) else(
 gd (in64 ((↑mutants.length:Int)*(↑l_.length:Int)))<|
 bif decide (262144<((↑mutants.length:Int)*(↑l_.length:Int))) then(
 some ((⟨[]⟩:Sa),3)) else(
 gd (okM 24 (↑mutants.length:Int))<|
 bd (
 z1s N m mutants l_ N 0 (mk (↑mutants.length:Int) ([]:List Int))) fun c=>
 some ((⟨c⟩:Sa),0)))) some))
def z3x(N:Nat)(a:Sa)(b:Sa):Option Bool:=
 bd (z0j N a.fB b.fB) fun c=>
 some c
def z15(N:Nat)(x:Sa):Nat→Int→(List Bool)→Option (List Bool)
 |0,_,_=>none
 |c+1,a,b=>
  bif decide (a<(↑(mk (↑x.fB.length:Int) false).length:Int)) then(
  bd (yh N x a) fun d=>
  gd (okI b a)<|
  gd (in64 (a+1))<|
  z15 N x c (a+1) (up b a (decide (0<(↑d.length:Int))))) else(
  some b)
def z5k(N:Nat)(x:Sa):Option ((List Bool)×Int):=
 bd (ll N x) fun b=>
 bif decide (b≠0) then(
 some (([]:(List Bool)),b)) else(
 gd (okM 1 (↑x.fB.length:Int))<|
 bd (
 z15 N x N 0 (mk (↑x.fB.length:Int) false)) fun a=>
 some (a,0))
def z5l(N:Nat)(x:Sa):Option ((List Int)×Int):=
 bd (ll N x) fun c=>
 bif decide (c≠0) then(
 some (([]:(List Int)),c)) else(
 bd (ow N x (fun d=>xg N x d)) fun a=>
 bd (z2a N x a) fun b=>
 some (b,0))
def z1l(N:Nat):Option Bool:=
 bd (z7c N (⟨1,2,([([(⟨1,0⟩:Edge)]:List Edge),([(⟨0,1⟩:Edge)]:List Edge)]:List (List Edge))⟩:Mach) ([(⟨1,2,([([(⟨1,1⟩:Edge)]:List Edge),([(⟨0,1⟩:Edge)]:List Edge)]:List (List Edge))⟩:Mach),(⟨1,2,([([(⟨1,0⟩:Edge)]:List Edge),([(⟨0,0⟩:Edge)]:List Edge)]:List (List Edge))⟩:Mach),(⟨1,2,([([(⟨1,0⟩:Edge)]:List Edge),([(⟨1,1⟩:Edge)]:List Edge)]:List (List Edge))⟩:Mach)]:List Mach) ([([0]:List Int),([0,0]:List Int),([0,0,0]:List Int)]:List (List Int))) fun b=>
 bd (gop (true&&((decide (b.2≠0))==false)) (z3x N (⟨b.1.fB⟩:Sa) (⟨([([0,0,0]:List Int),([(-1),1,1]:List Int),([(-1),(-1),2]:List Int)]:List (List Int))⟩:Sa))) fun s=>
 bif (decide (b.2≠0))||(!(s.getD default)) then(
 some false) else(
 bd (z5k N (⟨b.1.fB⟩:Sa)) fun a=>
 bd (z5l N (⟨b.1.fB⟩:Sa)) fun d=>
 bd (z03 N (⟨b.1.fB⟩:Sa)) fun e=>
 bd (z18 N (⟨b.1.fB⟩:Sa)) fun f=>
 bd (z0g N (⟨b.1.fB⟩:Sa)) fun g=>
 gd ((true&&(((((((decide (a.2≠0))||(decide (d.2≠0)))||(decide (e.2≠0)))||(decide (f.2≠0)))||(decide (g.2≠0)))||(decide ((↑a.1.length:Int)≠3)))==false))=true→okI a.1 0)<|
 gd ((true&&((((((((decide (a.2≠0))||(decide (d.2≠0)))||(decide (e.2≠0)))||(decide (f.2≠0)))||(decide (g.2≠0)))||(decide ((↑a.1.length:Int)≠3)))||(!(ix a.1 0)))==false))=true→okI a.1 1)<|
 gd ((true&&(((((((((decide (a.2≠0))||(decide (d.2≠0)))||(decide (e.2≠0)))||(decide (f.2≠0)))||(decide (g.2≠0)))||(decide ((↑a.1.length:Int)≠3)))||(!(ix a.1 0)))||(!(ix a.1 1)))==false))=true→okI a.1 2)<|
 bd (gop (true&&((((((((((decide (a.2≠0))||(decide (d.2≠0)))||(decide (e.2≠0)))||(decide (f.2≠0)))||(decide (g.2≠0)))||(decide ((↑a.1.length:Int)≠3)))||(!(ix a.1 0)))||(!(ix a.1 1)))||(!(ix a.1 2)))==false)) (ky N d.1 ([1,2,3]:List Int))) fun m=>
 bd (gop (true&&(((((((((((decide (a.2≠0))||(decide (d.2≠0)))||(decide (e.2≠0)))||(decide (f.2≠0)))||(decide (g.2≠0)))||(decide ((↑a.1.length:Int)≠3)))||(!(ix a.1 0)))||(!(ix a.1 1)))||(!(ix a.1 2)))||(!(m.getD default)))==false)) (ky N e.1 ([2]:List Int))) fun o=>
 bd (gop (true&&((((((((((((decide (a.2≠0))||(decide (d.2≠0)))||(decide (e.2≠0)))||(decide (f.2≠0)))||(decide (g.2≠0)))||(decide ((↑a.1.length:Int)≠3)))||(!(ix a.1 0)))||(!(ix a.1 1)))||(!(ix a.1 2)))||(!(m.getD default)))||(!(o.getD default)))==false)) (ky N f.1 ([2]:List Int))) fun q=>
 bd (gop (true&&(((((((((((((decide (a.2≠0))||(decide (d.2≠0)))||(decide (e.2≠0)))||(decide (f.2≠0)))||(decide (g.2≠0)))||(decide ((↑a.1.length:Int)≠3)))||(!(ix a.1 0)))||(!(ix a.1 1)))||(!(ix a.1 2)))||(!(m.getD default)))||(!(o.getD default)))||(!(q.getD default)))==false)) (ky N g.1 ([2]:List Int))) fun t=>
 bif ((((((((((((decide (a.2≠0))||(decide (d.2≠0)))||(decide (e.2≠0)))||(decide (f.2≠0)))||(decide (g.2≠0)))||(decide ((↑a.1.length:Int)≠3)))||(!(ix a.1 0)))||(!(ix a.1 1)))||(!(ix a.1 2)))||(!(m.getD default)))||(!(o.getD default)))||(!(q.getD default)))||(!(t.getD default)) then(
 some false) else(
 bd (su N (⟨b.1.fB⟩:Sa) ([0,1]:List Int)) fun c=>
 bd (su N (⟨b.1.fB⟩:Sa) ([1,0]:List Int)) fun l=>
 bd (z18 N (⟨([([0,0,(-1),(-1)]:List Int),([0,(-1),0,(-1)]:List Int),([0,(-1),(-1),(-1)]:List Int),([(-1),0,(-1),0]:List Int),([(-1),(-1),0,0]:List Int)]:List (List Int))⟩:Sa)) fun h=>
 bd (z0g N (⟨([([0,0,(-1),(-1)]:List Int),([0,(-1),0,(-1)]:List Int),([0,(-1),(-1),(-1)]:List Int),([(-1),0,(-1),0]:List Int),([(-1),(-1),0,0]:List Int)]:List (List Int))⟩:Sa)) fun i=>
 bd (z0g N (⟨([([(-1),0,0]:List Int),([0,0,(-1)]:List Int),([0,(-1),(-1)]:List Int),([(-1),(-1),0]:List Int)]:List (List Int))⟩:Sa)) fun j=>
 bd (z03 N (⟨([([(-1),0,0]:List Int),([0,0,(-1)]:List Int),([0,(-1),(-1)]:List Int),([(-1),(-1),0]:List Int)]:List (List Int))⟩:Sa)) fun k=>
 bd (gop (true&&((((((((decide (c.2=0))&&(decide (l.2=1)))&&(decide (h.2=0)))&&(decide (i.2=0)))&&(decide (j.2=0)))&&(decide (k.2=0)))&&(!c.1))==true)) (ky N h.1 ([0,3]:List Int))) fun n=>
 bd (gop (true&&(((((((((decide (c.2=0))&&(decide (l.2=1)))&&(decide (h.2=0)))&&(decide (i.2=0)))&&(decide (j.2=0)))&&(decide (k.2=0)))&&(!c.1))&&(n.getD default))==true)) (ky N i.1 ([0,3]:List Int))) fun p=>
 bd (gop (true&&((((((((((decide (c.2=0))&&(decide (l.2=1)))&&(decide (h.2=0)))&&(decide (i.2=0)))&&(decide (j.2=0)))&&(decide (k.2=0)))&&(!c.1))&&(n.getD default))&&(p.getD default))==true)) (ky N j.1 ([0,2]:List Int))) fun r=>
 bd (gop (true&&(((((((((((decide (c.2=0))&&(decide (l.2=1)))&&(decide (h.2=0)))&&(decide (i.2=0)))&&(decide (j.2=0)))&&(decide (k.2=0)))&&(!c.1))&&(n.getD default))&&(p.getD default))&&(r.getD default))==true)) (ky N k.1 ([0,2]:List Int))) fun u=>
 some (((((((((((decide (c.2=0))&&(decide (l.2=1)))&&(decide (h.2=0)))&&(decide (i.2=0)))&&(decide (j.2=0)))&&(decide (k.2=0)))&&(!c.1))&&(n.getD default))&&(p.getD default))&&(r.getD default))&&(u.getD default))))
def uf(N:Nat)(d:(List Int)×Int)(e:(List Int)×Int)(c:Int):Nat→Bool→Int→Option Bool
 |0,_,_=>none
 |f+1,b,a=>
  bif decide (a<(↑d.1.length:Int)) then(
  gd ((true&&(b==false))=true→okI d.1 a)<|
  gd ((true&&(b==false))=true→okI e.1 c)<|
  gd (in64 (a+1))<|
  uf N d e c f (b||(decide ((ix d.1 a)=(ix e.1 c)))) (a+1)) else(
  some b)
def u7(N:Nat)(d:(List Int)×Int)(e:(List Int)×Int)(c:Int):Nat→Bool→Int→Option Bool
 |0,_,_=>none
 |f+1,b,a=>
  bif decide (a<(↑d.1.length:Int)) then(
  gd ((true&&(b==false))=true→okI d.1 a)<|
  gd ((true&&(b==false))=true→okI e.1 c)<|
  gd (in64 (a+1))<|
  u7 N d e c f (b||(decide ((ix d.1 a)=(ix e.1 c)))) (a+1)) else(
  some b)
def ug(N:Nat)(c:(List Int)×Int)(d:(List Int)×Int)(b:(List Int)×Int):Nat→Int→Option (Ex (Unit) (Bool))
 |0,_=>none
 |e+1,a=>
  bif decide (a<(↑b.1.length:Int)) then(
  bd (
  uf N c b a N false 0) fun f=>
  bd (
  u7 N d b a N false 0) fun g=>
  bif (!f)||(!g) then(
  some (Ex.rt false)) else(
  gd (in64 (a+1))<|
  ug N c d b e (a+1))) else(
  some (Ex.go ()))
def ib(N:Nat)(x:Sb):Option Bool:=
 bd (z14 N x) fun e=>
 bd (z18 N (⟨e.fB⟩:Sa)) fun a=>
 bd (z0g N (⟨e.fB⟩:Sa)) fun b=>
 bd (z03 N (⟨e.fB⟩:Sa)) fun c=>
 bd (gop (true&&((((decide (a.2≠0))||(decide (b.2≠0)))||(decide (c.2≠0)))==false)) (z0w N (⟨e.fB⟩:Sa))) fun m=>
 bd (gop (true&&((((decide (a.2≠0))||(decide (b.2≠0)))||(decide (c.2≠0)))==false)) (ky N a.1 (m.getD default))) fun d=>
 bd (gop (true&&(((((decide (a.2≠0))||(decide (b.2≠0)))||(decide (c.2≠0)))||(!(d.getD default)))==false)) (z0r N (⟨e.fB⟩:Sa))) fun n=>
 bd (gop (true&&(((((decide (a.2≠0))||(decide (b.2≠0)))||(decide (c.2≠0)))||(!(d.getD default)))==false)) (ky N b.1 (n.getD default))) fun h=>
 bd (gop (true&&((((((decide (a.2≠0))||(decide (b.2≠0)))||(decide (c.2≠0)))||(!(d.getD default)))||(!(h.getD default)))==false)) (z05 N (⟨e.fB⟩:Sa))) fun i=>
 bd (gop (true&&((((((decide (a.2≠0))||(decide (b.2≠0)))||(decide (c.2≠0)))||(!(d.getD default)))||(!(h.getD default)))==false)) (ky N c.1 (i.getD default))) fun j=>
 bif (((((decide (a.2≠0))||(decide (b.2≠0)))||(decide (c.2≠0)))||(!(d.getD default)))||(!(h.getD default)))||(!(j.getD default)) then(
 some false) else(
 bd (su N (⟨e.fB⟩:Sa) a.1) fun f=>
 bd (su N (⟨e.fB⟩:Sa) b.1) fun g=>
 bif ((((decide (f.2≠0))||(decide (g.2≠0)))||(!f.1))||(!g.1))||(decide ((↑b.1.length:Int)<(↑a.1.length:Int))) then(
 some false) else(
 bd (
 ug N a b c N 0) fun k=>
 Ex.on k (fun o=>
 bd (z1l N) fun l=>
 some l) some))
end GV
end Go.Proofs.YtkhihcleegljhaaGreat
