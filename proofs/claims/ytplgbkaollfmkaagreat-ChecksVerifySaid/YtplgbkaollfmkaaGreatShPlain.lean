import Derived.Test.YtplgbkaollfmkaaGreatShTypes
set_option linter.unusedVariables false
set_option linter.unusedSimpArgs false
namespace Go.Proofs.YtplgbkaollfmkaaGreat
namespace GV
set_option maxRecDepth 100000
def z0y(N:Nat)(l_:(List Int))(k:Int):Option Int:=
 bif decide (k<(↑l_.length:Int)) then(
 gd (okI l_ k)<|
 gd (in64 (ix l_ k))<|
 some (ix l_ k)) else(
 some 0)
def nu(N:Nat)(x:Sd)(b:Int):Nat→(List Edge)→Int→Option (List Edge)
 |0,_,_=>none
 |e+1,d,a=>
  bif decide (a<((1:Int)+(x.fA%3))) then(
  gd (in64 (b*((1:Int)+(x.fA%3))))<|
  gd (in64 ((b*((1:Int)+(x.fA%3)))+a))<|
  bd (z0y N x.fD ((b*((1:Int)+(x.fA%3)))+a)) fun c=>
  gd (okQ c ((1:Int)+(x.fB%6)))<|
  gd (okR (c/((1:Int)+(x.fB%6))) ((1:Int)+(x.fC%3)))<|
  gd (fits 16 d ([(⟨(-1),(c/((1:Int)+(x.fB%6)))%((1:Int)+(x.fC%3))⟩:Edge)]:List Edge))<|
  gd (in64 (a+1))<|
  nu N x b e (d++([(⟨(-1),(c/((1:Int)+(x.fB%6)))%((1:Int)+(x.fC%3))⟩:Edge)]:List Edge)) (a+1)) else(
  some d)
def p8(N:Nat)(x:Sd):Nat→Int→(List (List Edge))→Option (List (List Edge))
 |0,_,_=>none
 |d+1,a,b=>
  bif decide (a<((1:Int)+(x.fB%6))) then(
  bd (
  nu N x a N ([]:List Edge) 0) fun c=>
  gd (fits 24 b [c])<|
  gd (in64 (a+1))<|
  p8 N x d (a+1) (b++[c])) else(
  some b)
def yn(N:Nat)(x:Sd)(d:Int)(b:List (List Edge)):Nat→(List Int)→Int→Option (List Int)
 |0,_,_=>none
 |e+1,c,a=>
  gd (in64 (d*((1:Int)+(x.fA%3))))<|
  bif decide (a<(d*((1:Int)+(x.fA%3)))) then(
  bd (
  gd (okQ a ((1:Int)+(x.fA%3)))<|
  gd (okI b (a/((1:Int)+(x.fA%3))))<|
  gd (okR a ((1:Int)+(x.fA%3)))<|
  gd (okI (ix b (a/((1:Int)+(x.fA%3)))) (a%((1:Int)+(x.fA%3))))<|
  bif decide (((ix (ix b (a/((1:Int)+(x.fA%3)))) (a%((1:Int)+(x.fA%3)))).to)<0) then(
  gd (fits 8 c ([a]:List Int))<|
  some (c++([a]:List Int))) else(
  some c)) fun f=>
  gd (in64 (a+1))<|
  yn N x d b e f (a+1)) else(
  some c)
def mg(N:Nat)(x:Sd):Nat→Int→(List (List Edge))→Option (List (List Edge))
 |0,_,_=>none
 |e+1,a,c=>
  bif decide (a<((1:Int)+(x.fB%6))) then(
  bd (
  yn N x a c N ([]:List Int) 0) fun d=>
  gd (okI d 0)<|
  bd (
  gd (in64 (a-1))<|
  bif decide ((a-1)<(↑x.fI.length:Int)) then(
  gd (in64 (a-1))<|
  gd (okI x.fI (a-1))<|
  gd (in64 (ix x.fI (a-1)))<|
  gd (okR (ix x.fI (a-1)) (↑d.length:Int))<|
  gd (okI d ((ix x.fI (a-1))%(↑d.length:Int)))<|
  some (ix d ((ix x.fI (a-1))%(↑d.length:Int)))) else(
  some (ix d 0))) fun b=>
  gd (okQ b ((1:Int)+(x.fA%3)))<|
  gd (okI c (b/((1:Int)+(x.fA%3))))<|
  gd (okR b ((1:Int)+(x.fA%3)))<|
  gd (okI (ix c (b/((1:Int)+(x.fA%3)))) (b%((1:Int)+(x.fA%3))))<|
  gd (in64 (a+1))<|
  mg N x e (a+1) (up c (b/((1:Int)+(x.fA%3))) (up (ix c (b/((1:Int)+(x.fA%3)))) (b%((1:Int)+(x.fA%3))) (⟨a,(ix (ix c (b/((1:Int)+(x.fA%3)))) (b%((1:Int)+(x.fA%3)))).out⟩:Edge)))) else(
  some c)
def yo(N:Nat)(x:Sd)(a:Int):Nat→Int→(List (List Edge))→Option (List (List Edge))
 |0,_,_=>none
 |e+1,b,c=>
  bif decide (b<((1:Int)+(x.fA%3))) then(
  bd (
  gd (okI c a)<|
  gd (okI (ix c a) b)<|
  bif decide (((ix (ix c a) b).to)<0) then(
  gd (okI c a)<|
  gd (in64 (a*((1:Int)+(x.fA%3))))<|
  gd (in64 ((a*((1:Int)+(x.fA%3)))+b))<|
  bd (z0y N x.fD ((a*((1:Int)+(x.fA%3)))+b)) fun d=>
  gd (okR d ((1:Int)+(x.fB%6)))<|
  gd (okI (ix c a) b)<|
  some (up c a (up (ix c a) b (⟨d%((1:Int)+(x.fB%6)),(ix (ix c a) b).out⟩:Edge)))) else(
  some c)) fun f=>
  gd (in64 (b+1))<|
  yo N x a e (b+1) f) else(
  some c)
def nz(N:Nat)(x:Sd):Nat→Int→(List (List Edge))→Option (List (List Edge))
 |0,_,_=>none
 |c+1,a,b=>
  bif decide (a<((1:Int)+(x.fB%6))) then(
  bd (
  yo N x a N 0 b) fun d=>
  gd (in64 (a+1))<|
  nz N x c (a+1) d) else(
  some b)
def z4i(N:Nat)(x:Sd):Option Mach:=
 gd (okR x.fB 6)<|
 gd (in64 (x.fB%6))<|
 gd (in64 ((1:Int)+(x.fB%6)))<|
 gd (okR x.fA 3)<|
 gd (in64 (x.fA%3))<|
 gd (in64 ((1:Int)+(x.fA%3)))<|
 gd (okR x.fC 3)<|
 gd (in64 (x.fC%3))<|
 gd (in64 ((1:Int)+(x.fC%3)))<|
 bd (
 p8 N x N 0 ([]:List (List Edge))) fun c=>
 bd (
 mg N x N 1 c) fun a=>
 bd (
 nz N x N 0 a) fun b=>
 some (⟨(1:Int)+(x.fA%3),(1:Int)+(x.fC%3),b⟩:Mach)
def yf(N:Nat)(m:Mach)(marked:(List (List Bool)))(s:Int)(t:Int):Nat→Int→Option (Ex (Unit) (Int))
 |0,_=>none
 |b+1,a=>
  bif decide (a<m.inputs) then(
  gd (okI m.rows s)<|
  gd (okI (ix m.rows s) a)<|
  gd (okI m.rows t)<|
  gd (okI (ix m.rows t) a)<|
  gd (((true&&((decide (((ix (ix m.rows s) a).out)≠((ix (ix m.rows t) a).out)))==false))&&(((decide (0≤((ix (ix m.rows s) a).to)))&&(decide (0≤((ix (ix m.rows t) a).to))))==true))=true→okI marked ((ix (ix m.rows s) a).to))<|
  gd (((true&&((decide (((ix (ix m.rows s) a).out)≠((ix (ix m.rows t) a).out)))==false))&&(((decide (0≤((ix (ix m.rows s) a).to)))&&(decide (0≤((ix (ix m.rows t) a).to))))==true))=true→okI (ix marked ((ix (ix m.rows s) a).to)) ((ix (ix m.rows t) a).to))<|
  bif (decide (((ix (ix m.rows s) a).out)≠((ix (ix m.rows t) a).out)))||(((decide (0≤((ix (ix m.rows s) a).to)))&&(decide (0≤((ix (ix m.rows t) a).to))))&&(ix (ix marked ((ix (ix m.rows s) a).to)) ((ix (ix m.rows t) a).to))) then(
  some (Ex.rt 1)) else(
  gd (in64 (a+1))<|
  yf N m marked s t b (a+1))) else(
  some (Ex.go ()))
def z3d(N:Nat)(m:Mach)(marked:(List (List Bool)))(s:Int)(t:Int):Option Int:=
 bd (
 yf N m marked s t N 0) fun a=>
 Ex.on a (fun b=>
 some 0) some
def gm(N:Nat)(m:Mach):Nat→(List (List Bool))→Int→Option (List (List Bool))
 |0,_,_=>none
 |c+1,a,b=>
  bif decide (b<(↑m.rows.length:Int)) then(
  gd (okM 1 (↑m.rows.length:Int))<|
  gd (fits 24 a [(mk (↑m.rows.length:Int) false)])<|
  gd (in64 (b+1))<|
  gm N m c (a++[(mk (↑m.rows.length:Int) false)]) (b+1)) else(
  some a)
def gp(N:Nat)(m:Mach)(d:List (List Bool))(b:Int):Nat→Int→(List (List Bool))→Option (List (List Bool))
 |0,_,_=>none
 |e+1,a,c=>
  bif decide (a<(↑m.rows.length:Int)) then(
  gd (okI c b)<|
  gd (okI d b)<|
  gd (okI (ix d b) a)<|
  bd (gop (true&&((ix (ix d b) a)==false)) (z3d N m d b a)) fun f=>
  gd (okI (ix c b) a)<|
  gd (in64 (a+1))<|
  gp N m d b e (a+1) (up c b (up (ix c b) a ((ix (ix d b) a)||(decide ((f.getD default)=1)))))) else(
  some c)
def gu(N:Nat)(m:Mach)(c:List (List Bool)):Nat→(List (List Bool))→Int→Option (List (List Bool))
 |0,_,_=>none
 |d+1,b,a=>
  bif decide (a<(↑m.rows.length:Int)) then(
  bd (
  gd (okM 1 (↑m.rows.length:Int))<|
  gd (fits 24 b [(mk (↑m.rows.length:Int) false)])<|
  gp N m c a N 0 (b++[(mk (↑m.rows.length:Int) false)])) fun e=>
  gd (in64 (a+1))<|
  gu N m c d e (a+1)) else(
  some b)
def gz(N:Nat)(m:Mach)(k:Int):Nat→(List (List Bool))→Int→Option (List (List Bool))
 |0,_,_=>none
 |c+1,b,a=>
  bif decide (a<k) then(
  bd (
  gu N m b N ([]:List (List Bool)) 0) fun d=>
  gd (in64 (a+1))<|
  gz N m k c d (a+1)) else(
  some b)
def z19(N:Nat)(m:Mach)(k:Int):Option (List (List Bool)):=
 bd (
 gm N m N ([]:List (List Bool)) 0) fun a=>
 bd (
 gz N m k N a 0) fun b=>
 some b
def um(N:Nat)(marked:(List (List Bool)))(c:List Int)(b:Int):Nat→Int→Int→Option Int
 |0,_,_=>none
 |e+1,d,a=>
  bif decide (a<b) then(
  bd (
  gd (okI marked b)<|
  gd (okI (ix marked b) a)<|
  bif !(ix (ix marked b) a) then(
  gd (okI c a)<|
  some (ix c a)) else(
  some d)) fun f=>
  gd (in64 (a+1))<|
  um N marked c b e f (a+1)) else(
  some d)
def vz(N:Nat)(marked:(List (List Bool))):Nat→(List Int)→Int→Int→Option (List Int)
 |0,_,_,_=>none
 |f+1,a,b,c=>
  bif decide (c<(↑marked.length:Int)) then(
  bd (
  um N marked a c N (-1) 0) fun e=>
  bd (
  bif decide (e<0) then(
  gd (in64 (b+1))<|
  some (b+1,b)) else(
  some (b,e))) fun d=>
  gd (fits 8 a ([d.2]:List Int))<|
  gd (in64 (c+1))<|
  vz N marked f (a++([d.2]:List Int)) d.1 (c+1)) else(
  some a)
def lm(N:Nat)(marked:(List (List Bool))):Option (List Int):=
 bd (
 vz N marked N ([]:List Int) 0 0) fun a=>
 some a
def z5a(N:Nat)(m:Mach)(k:Int):Option (List Int):=
 bd (z19 N m k) fun b=>
 bd (lm N b) fun a=>
 some a
def l6(N:Nat)(m:Mach):Option (List Int):=
 bd (z5a N m (↑m.rows.length:Int)) fun a=>
 some a
def z2a(N:Nat)(m:Mach)(s:Int)(i:Int):Option Edge:=
 bif decide (s<0) then(
 some (⟨(-1),(-1)⟩:Edge)) else(
 gd (okI m.rows s)<|
 gd (okI (ix m.rows s) i)<|
 some (⟨(ix (ix m.rows s) i).to,(ix (ix m.rows s) i).out⟩:Edge))
def ww(N:Nat):Nat→Mach→Int→(List Int)→Option Int
 |0,_,_,_=>none
 |F+1,m,s,w_=>
  bif decide ((↑w_.length:Int)=0) then(
  some s) else(
  gd (okI w_ 0)<|
  bd (z2a N m s (ix w_ 0)) fun b=>
  gd (okS w_ 1 (↑w_.length:Int))<|
  bd ((ww N F) m b.to (cut w_ 1 (↑w_.length:Int))) fun a=>
  some a)
def bz(N:Nat)(inputs:Int):Nat→Int→(List Int)→Option (Ex (List Int) ((List Int)))
 |0,_,_=>none
 |c+1,a,b=>
  bif decide (0≤a) then(
  gd (okI b a)<|
  gd (in64 ((ix b a)+1))<|
  bif decide (((ix b a)+1)<inputs) then(
  gd (okI b a)<|
  gd (in64 ((ix b a)+1))<|
  gd (okI b a)<|
  some (Ex.rt (up b a ((ix b a)+1)))) else(
  gd (okI b a)<|
  gd (in64 (a-1))<|
  bz N inputs c (a-1) (up b a 0))) else(
  some (Ex.go b))
def z2c(N:Nat)(w_:(List Int))(inputs:Int):Option (List Int):=
 gd (fits 8 ([]:List Int) w_)<|
 bd (
 gd (in64 ((↑(([]:List Int)++w_).length:Int)-1))<|
 bz N inputs N ((↑(([]:List Int)++w_).length:Int)-1) (([]:List Int)++w_)) fun b=>
 Ex.on b (fun a=>
 gd (fits 8 a ([0]:List Int))<|
 some (a++([0]:List Int))) some
def vw(N:Nat)(m:Mach)(from_:Int):Nat→(List Int)→(List (List Int))→(List Bool)→Option (List (List Int)×List Bool)
 |0,_,_,_=>none
 |g+1,c,d,b=>
  bif decide ((↑c.length:Int)<(↑m.rows.length:Int)) then(
  bd (
  bd (ww N N m from_ c) fun a=>
  gd ((true&&((decide (0≤a))==true))=true→okI b a)<|
  bif (decide (0≤a))&&(!(ix b a)) then(
  gd (okI b a)<|
  gd (okI d a)<|
  some ((up d a c),(up b a true))) else(
  some (d,b))) fun e=>
  bd (z2c N c m.inputs) fun f=>
  vw N m from_ g f e.1 e.2) else(
  some (d,b))
def z1o(N:Nat)(m:Mach)(from_:Int):Option ((List (List Int))×(List Bool)):=
 gd (okM 24 (↑m.rows.length:Int))<|
 gd (okM 1 (↑m.rows.length:Int))<|
 bd (
 vw N m from_ N ([]:List Int) (mk (↑m.rows.length:Int) ([]:List Int)) (mk (↑m.rows.length:Int) false)) fun a=>
 some (a.1,a.2)
def z2x(N:Nat)(m:Mach):Option ((List (List Int))×(List Bool)):=
 bd (z1o N m 0) fun a=>
 some (a.1,a.2)
def mf(N:Nat)(a:(List Int))(b:(List Int)):Nat→Int→Option (Ex (Unit) (Int))
 |0,_=>none
 |d+1,c=>
  bif decide (c<(↑a.length:Int)) then(
  gd (okI a c)<|
  gd (okI b c)<|
  bif decide ((ix a c)≠(ix b c)) then(
  gd (okI a c)<|
  gd (okI b c)<|
  bif decide ((ix a c)<(ix b c)) then(
  some (Ex.rt 1)) else(
  some (Ex.rt 0))) else(
  gd (in64 (c+1))<|
  mf N a b d (c+1))) else(
  some (Ex.go ()))
def z0w(N:Nat)(a:(List Int))(b:(List Int)):Option Int:=
 bif decide ((↑a.length:Int)≠(↑b.length:Int)) then(
 bif decide ((↑a.length:Int)<(↑b.length:Int)) then(
 some 1) else(
 some 0)) else(
 bd (
 mf N a b N 0) fun c=>
 Ex.on c (fun d=>
 some 0) some)
def di(N:Nat)(d:(List (List Int))×(List Bool))(b:List Int)(c:Int):Nat→Int→Option Int
 |0,_=>none
 |e+1,a=>
  gd ((true&&((decide (a<(↑b.length:Int)))==true))=true→okI b a)<|
  gd ((true&&((decide (a<(↑b.length:Int)))==true))=true→okI d.1 (ix b a))<|
  gd ((true&&((decide (a<(↑b.length:Int)))==true))=true→okI d.1 c)<|
  bd (gop (true&&((decide (a<(↑b.length:Int)))==true)) (z0w N (ix d.1 (ix b a)) (ix d.1 c))) fun f=>
  bif (decide (a<(↑b.length:Int)))&&(decide ((f.getD default)=1)) then(
  gd (in64 (a+1))<|
  di N d b c e (a+1)) else(
  some a)
def dw(N:Nat)(d:(List (List Int))×(List Bool)):Nat→(List Int)→Int→Option (List Int)
 |0,_,_=>none
 |e+1,a,b=>
  bif decide (b<(↑d.1.length:Int)) then(
  bd (
  gd (okI d.2 b)<|
  bif !(ix d.2 b) then(
  some a) else(
  bd (
  di N d a b N 0) fun c=>
  gd (okS a 0 c)<|
  gd (fits 8 ([]:List Int) (cut a 0 c))<|
  gd (fits 8 (([]:List Int)++(cut a 0 c)) ([b]:List Int))<|
  gd (okS a c (↑a.length:Int))<|
  gd (fits 8 ((([]:List Int)++(cut a 0 c))++([b]:List Int)) (cut a c (↑a.length:Int)))<|
  some (((([]:List Int)++(cut a 0 c))++([b]:List Int))++(cut a c (↑a.length:Int))))) fun f=>
  gd (in64 (b+1))<|
  dw N d e f (b+1)) else(
  some a)
def z3o(N:Nat)(m:Mach):Option (List Int):=
 bd (z2x N m) fun b=>
 bd (
 dw N b N ([]:List Int) 0) fun a=>
 some a
def bi(N:Nat)(d:(List Int))(a:(List Int))(c:Int):Nat→Int→Int→Option Int
 |0,_,_=>none
 |f+1,e,b=>
  bif decide (b<c) then(
  bd (
  gd (okI a b)<|
  gd (okI d (ix a b))<|
  gd (okI a c)<|
  gd (okI d (ix a c))<|
  bif decide ((ix d (ix a b))=(ix d (ix a c))) then(
  some 1) else(
  some e)) fun g=>
  gd (in64 (b+1))<|
  bi N d a c f g (b+1)) else(
  some e)
def gy(N:Nat)(g:(List Int))(b:(List Int)):Nat→(List Int)→Int→Option (List Int)
 |0,_,_=>none
 |d+1,c,a=>
  bif decide (a<(↑b.length:Int)) then(
  bd (
  bd (
  bi N g b a N 0 0) fun e=>
  bif decide (e=0) then(
  gd (okI b a)<|
  gd (fits 8 c ([(ix b a)]:List Int))<|
  some (c++([(ix b a)]:List Int))) else(
  some c)) fun f=>
  gd (in64 (a+1))<|
  gy N g b d f (a+1)) else(
  some c)
def z10(N:Nat)(m:Mach):Option (List Int):=
 bd (l6 N m) fun c=>
 bd (z3o N m) fun a=>
 bd (
 gy N c a N ([]:List Int) 0) fun b=>
 some b
def xu(N:Nat)(m:Mach)(a:Int):Nat→Int→(List Bool)→Option (List Bool)
 |0,_,_=>none
 |d+1,b,c=>
  bif decide (b<m.inputs) then(
  bd (
  gd (okI m.rows a)<|
  gd (okI (ix m.rows a) b)<|
  gd (okI c a)<|
  bif (ix c a)&&(decide (0≤((ix (ix m.rows a) b).to))) then(
  gd (okI c ((ix (ix m.rows a) b).to))<|
  some (up c ((ix (ix m.rows a) b).to) true)) else(
  some c)) fun e=>
  gd (in64 (b+1))<|
  xu N m a d (b+1) e) else(
  some c)
def xg(N:Nat)(m:Mach):Nat→Int→(List Bool)→Option (List Bool)
 |0,_,_=>none
 |c+1,a,b=>
  bif decide (a<(↑m.rows.length:Int)) then(
  bd (
  xu N m a N 0 b) fun d=>
  gd (in64 (a+1))<|
  xg N m c (a+1) d) else(
  some b)
def ng(N:Nat)(m:Mach):Nat→Int→(List Bool)→Option (List Bool)
 |0,_,_=>none
 |c+1,a,b=>
  bif decide (a<(↑m.rows.length:Int)) then(
  bd (
  xg N m N 0 b) fun d=>
  gd (in64 (a+1))<|
  ng N m c (a+1) d) else(
  some b)
def av(N:Nat)(m:Mach)(from_:Int):Option (List Bool):=
 gd (okM 1 (↑m.rows.length:Int))<|
 gd (okI (mk (↑m.rows.length:Int) false) from_)<|
 bd (
 ng N m N 0 (up (mk (↑m.rows.length:Int) false) from_ true)) fun a=>
 some a
def af(N:Nat)(e:(List Int))(d:(List Int))(c:(List Bool))(a:Int):Nat→Int→Int→Option Int
 |0,_,_=>none
 |g+1,f,b=>
  bif decide (b<(↑d.length:Int)) then(
  bd (
  gd (okI c a)<|
  gd ((true&&((ix c a)==true))=true→okI d b)<|
  gd ((true&&((ix c a)==true))=true→okI e (ix d b))<|
  gd ((true&&((ix c a)==true))=true→okI e a)<|
  bif (ix c a)&&(decide ((ix e (ix d b))=(ix e a))) then(
  some b) else(
  some f)) fun h=>
  gd (in64 (b+1))<|
  af N e d c a g h (b+1)) else(
  some f)
def oo(N:Nat)(f:(List Int))(c:(List Int))(d:(List Bool)):Nat→(List Int)→Int→Option (List Int)
 |0,_,_=>none
 |g+1,b,a=>
  bif decide (a<(↑f.length:Int)) then(
  bd (
  af N f c d a N (-1) 0) fun e=>
  gd (fits 8 b ([e]:List Int))<|
  gd (in64 (a+1))<|
  oo N f c d g (b++([e]:List Int)) (a+1)) else(
  some b)
def z4z(N:Nat)(m:Mach):Option (List Int):=
 bd (l6 N m) fun d=>
 bd (z10 N m) fun a=>
 bd (av N m 0) fun b=>
 bd (
 oo N d a b N ([]:List Int) 0) fun c=>
 some c
def xc(N:Nat)(m:Mach)(c:(List Int))(e:(List Int))(a:Int):Nat→(List Edge)→Int→Option (List Edge)
 |0,_,_=>none
 |g+1,f,b=>
  bif decide (b<m.inputs) then(
  gd (okI c a)<|
  gd (okI m.rows (ix c a))<|
  gd (okI (ix m.rows (ix c a)) b)<|
  bd (
  bif decide (0≤((ix (ix m.rows (ix c a)) b).to)) then(
  gd (okI e ((ix (ix m.rows (ix c a)) b).to))<|
  some (ix e ((ix (ix m.rows (ix c a)) b).to))) else(
  some ((ix (ix m.rows (ix c a)) b).to))) fun d=>
  gd (fits 16 f ([(⟨d,(ix (ix m.rows (ix c a)) b).out⟩:Edge)]:List Edge))<|
  gd (in64 (b+1))<|
  xc N m c e a g (f++([(⟨d,(ix (ix m.rows (ix c a)) b).out⟩:Edge)]:List Edge)) (b+1)) else(
  some f)
def xq(N:Nat)(m:Mach)(e:(List Int))(c:(List Int)):Nat→Int→(List (List Edge))→Option (List (List Edge))
 |0,_,_=>none
 |f+1,a,b=>
  bif decide (a<(↑e.length:Int)) then(
  bd (
  xc N m e c a N ([]:List Edge) 0) fun d=>
  gd (fits 24 b ([d]:List (List Edge)))<|
  gd (in64 (a+1))<|
  xq N m e c f (a+1) (b++([d]:List (List Edge)))) else(
  some b)
def z1y(N:Nat)(m:Mach):Option Mach:=
 bd (z10 N m) fun c=>
 bd (z4z N m) fun a=>
 bd (
 xq N m c a N 0 ([]:List (List Edge))) fun b=>
 some (⟨m.inputs,m.outputs,b⟩:Mach)
def z0v(N:Nat)(x:Sm):Option Mach:=
 gd (okR x.fO.fB 5)<|
 bd (z4i N (⟨x.fO.fB%5,x.fO.fA,x.fO.fC,x.fO.fI,x.fO.fD⟩:Sd)) fun b=>
 bd (z1y N b) fun a=>
 some (⟨a.inputs,a.outputs,a.rows⟩:Mach)
def ak(N:Nat)(w_:(List Int))(inputs:Int)(most:Int):Nat→(List Int)→Int→Option (List Int)
 |0,_,_=>none
 |c+1,b,a=>
  bif (decide (a<(↑w_.length:Int)))&&(decide (a<most)) then(
  gd (okI w_ a)<|
  gd (in64 (ix w_ a))<|
  gd (okR (ix w_ a) inputs)<|
  gd (fits 8 b ([(ix w_ a)%inputs]:List Int))<|
  gd (in64 (a+1))<|
  ak N w_ inputs most c (b++([(ix w_ a)%inputs]:List Int)) (a+1)) else(
  some b)
def z01(N:Nat)(w_:(List Int))(inputs:Int)(most:Int):Option (List Int):=
 bd (
 ak N w_ inputs most N ([]:List Int) 0) fun a=>
 some a
def lw(N:Nat)(x:Sg):Option (Mach×(List Int)):=
 bd (z0v N x.fAa) fun a=>
 bd (z01 N x.fU a.inputs 6) fun b=>
 some ((⟨a.inputs,a.outputs,a.rows⟩:Mach),b)
def uz(N:Nat)(s:(List Edge))(f:Edge→Option Bool):Nat→Int→Option (Ex (Unit) (Int))
 |0,_=>none
 |c+1,a=>
  bif decide (a<(↑s.length:Int)) then(
  gd (okI s a)<|
  bd (f (ix s a)) fun b=>
  bif b then(
  some (Ex.rt a)) else(
  gd (in64 (a+1))<|
  uz N s f c (a+1))) else(
  some (Ex.go ()))
def z0f(N:Nat)(s:(List Edge))(f:Edge→Option Bool):Option Int:=
 bd (
 uz N s f N 0) fun a=>
 Ex.on a (fun b=>
 some (-1)) some
def rq(N:Nat)(s:(List Edge))(f:Edge→Option Bool):Option Bool:=
 bd (z0f N s f) fun a=>
 some (decide (0≤a))
def z3t(N:Nat):Option Edge:=
 some (⟨(-1),(-1)⟩:Edge)
def zc6(N:Nat)(m:Mach)(x:Edge):Option Bool:=
 bd (z3t N) fun a=>
 some ((decide (x.to=a.to∧x.out=a.out))||((((decide (0≤x.to))&&(decide (x.to<(↑m.rows.length:Int))))&&(decide (0≤x.out)))&&(decide (x.out<m.outputs))))
def z94(N:Nat)(x:Edge)(p0_:Mach):Option Bool:=
 bd (zc6 N p0_ x) fun a=>
 some (!a)
def lg(N:Nat)(m:Mach):Nat→Int→Option (Ex (Unit) (Int))
 |0,_=>none
 |b+1,a=>
  bif decide (a<(↑m.rows.length:Int)) then(
  gd (okI m.rows a)<|
  bd (gop (true&&((decide ((↑(ix m.rows a).length:Int)≠m.inputs))==false)) (rq N (ix m.rows a) (fun d=>z94 N d m))) fun c=>
  bif (decide ((↑(ix m.rows a).length:Int)≠m.inputs))||(c.getD default) then(
  some (Ex.rt 1)) else(
  gd (in64 (a+1))<|
  lg N m b (a+1))) else(
  some (Ex.go ()))
def z00(N:Nat)(m:Mach):Option Int:=
 bif ((decide (16<m.inputs))||(decide (16<m.outputs)))||(decide (64<(↑m.rows.length:Int))) then(
 some 3) else(
 bif ((decide (m.inputs<1))||(decide (m.outputs<1)))||(decide ((↑m.rows.length:Int)<1)) then(
 some 1) else(
 bd (
 lg N m N 0) fun a=>
 Ex.on a (fun b=>
 some 0) some))
def zac(N:Nat)(m:Mach):Option (Mach×Mach×Mach):=
 some (m,m,m)
def z8q(N:Nat)(m:Mach):Option Mach:=
 some m
def ic(N:Nat)(σ:Type)(B:((Int×Int)×Edge)→σ→Option (Bool×σ))(p0_:Mach)(c:Int):Nat→σ→Int→Option (Ex (σ) (σ))
 |0,_,_=>none
 |e+1,d,a=>
  bif decide (a<(↑(ix p0_.rows c).length:Int)) then(
  gd (okI (ix p0_.rows c) a)<|
  bd (B (((c,a):(Int×Int)),(⟨(ix (ix p0_.rows c) a).to,(ix (ix p0_.rows c) a).out⟩:Edge)) d) fun b=>
  bif !b.1 then(
  some (Ex.rt b.2)) else(
  gd (in64 (a+1))<|
  ic N σ B p0_ c e b.2 (a+1))) else(
  some (Ex.go d))
def fw(N:Nat)(σ:Type)(B:((Int×Int)×Edge)→σ→Option (Bool×σ))(p0_:Mach):Nat→σ→Int→Option σ
 |0,_,_=>none
 |e+1,d,a=>
  bif decide (a<(↑p0_.rows.length:Int)) then(
  bd (
  gd (okI p0_.rows a)<|
  ic N σ B p0_ a N d 0) fun b=>
  Ex.on b (fun c=>
  gd (in64 (a+1))<|
  fw N σ B p0_ e c (a+1)) some) else(
  some d)
def z5n(N:Nat)(p0_:Mach)(σ:Type)(B:((Int×Int)×Edge)→σ→Option (Bool×σ))(s0:σ):Option σ:=
 fw N σ B p0_ N s0 0
def z0u(N:Nat)(s:(List (Int×Int))):Option (List (Int×Int)):=
 gd (okS s 0 (↑s.length:Int))<|
 some (cut s 0 (↑s.length:Int))
def z4b(N:Nat)(m:Mach):Option (List (Int×Int)):=
 bd (z8q N m) fun f=>
 bd (z5n N f (List (Int×Int)) (fun a b=>
 bd (z3t N) fun c=>
 bif decide (a.2.to=c.to∧a.2.out=c.out) then(
 gd (fits 16 b ([((a.1.1,a.1.2):(Int×Int))]:List (Int×Int)))<|
 some (true,(b++([((a.1.1,a.1.2):(Int×Int))]:List (Int×Int))))) else(
 some (true,b))) ([]:List (Int×Int))) fun d=>
 bd (z0u N d) fun e=>
 some e
def z4x(N:Nat)(m:Mach):Option (Bool×Int):=
 bd (z00 N m) fun b=>
 bif decide (b≠0) then(
 some (false,b)) else(
 bd (z4b N m) fun a=>
 some ((decide ((↑a.length:Int)=0)),0))
def z5d(N:Nat)(p0_:Mach):Option Bool:=
 bd (z4x N p0_) fun a=>
 some a.1
def mq(N:Nat)(self:Int→List Bool→Mach→Option (List Bool))(s:Int)(p1_:Mach):Nat→Int→(List Bool)→Option (List Bool)
 |0,_,_=>none
 |c+1,a,b=>
  bif decide (a<(↑(ix p1_.rows s).length:Int)) then(
  gd (okI (ix p1_.rows s) a)<|
  bd (self ((ix (ix p1_.rows s) a).to) b p1_) fun d=>
  gd (in64 (a+1))<|
  mq N self s p1_ c (a+1) d) else(
  some b)
def cz(N:Nat):Nat→Int→List Bool→Mach→Option (List Bool)
 |0,_,_,_=>none
 |F+1,s,p0_,p1_=>
  gd ((true&&((decide (s=(-1)))==false))=true→okI p0_ s)<|
  bif (decide (s=(-1)))||(ix p0_ s) then(
  some p0_) else(
  gd (okI p0_ s)<|
  gd (okI p1_.rows s)<|
  mq N (cz N F) s p1_ N 0 (up p0_ s true))
def ol(N:Nat)(s:(List Bool))(v_:Bool):Nat→Int→Option (Ex (Unit) (Int))
 |0,_=>none
 |b+1,a=>
  bif decide (a<(↑s.length:Int)) then(
  gd (okI s a)<|
  bif decide (v_=(ix s a)) then(
  some (Ex.rt a)) else(
  gd (in64 (a+1))<|
  ol N s v_ b (a+1))) else(
  some (Ex.go ()))
def z4u(N:Nat)(s:(List Bool))(v_:Bool):Option Int:=
 bd (
 ol N s v_ N 0) fun a=>
 Ex.on a (fun b=>
 some (-1)) some
def z2v(N:Nat)(s:(List Bool))(v_:Bool):Option Bool:=
 bd (z4u N s v_) fun a=>
 some (decide (0≤a))
def z2d(N:Nat)(m:Mach):Option (Bool×Int):=
 bd (z00 N m) fun c=>
 bif decide (c≠0) then(
 some (false,c)) else(
 gd (okM 1 (↑m.rows.length:Int))<|
 bd (cz N N 0 (mk (↑m.rows.length:Int) false) m) fun a=>
 bd (z2v N a false) fun b=>
 some ((!b),0))
def z4w(N:Nat)(p0_:Mach):Option Bool:=
 bd (z2d N p0_) fun a=>
 some a.1
def z8u(N:Nat)(m:Mach):Option Mach:=
 some m
def rf(N:Nat)(m:Mach)(p:(List Int))(s:Int):Nat→Int→(Arr 16 (Int×Int))→Option (Arr 16 (Int×Int))
 |0,_,_=>none
 |c+1,a,b=>
  bif decide (a<(↑(ix m.rows s).length:Int)) then(
  bd (
  gd (okI (ix m.rows s) a)<|
  gd (okI b.1 a)<|
  bif decide (((ix (ix m.rows s) a).to)≠(-1)) then(
  gd (okI p ((ix (ix m.rows s) a).to))<|
  gd (okI (z5o b a (((ix (ix m.rows s) a).out,(-1)):(Int×Int))).1 a)<|
  some (z5o (z5o b a (((ix (ix m.rows s) a).out,(-1)):(Int×Int))) a (((ix (z5o b a (((ix (ix m.rows s) a).out,(-1)):(Int×Int))).1 a).1,(ix p ((ix (ix m.rows s) a).to))):(Int×Int)))) else(
  some (z5o b a (((ix (ix m.rows s) a).out,(-1)):(Int×Int))))) fun d=>
  gd (in64 (a+1))<|
  rf N m p s c (a+1) d) else(
  some b)
def z8w(N:Nat)(m:Mach)(p:(List Int))(s:Int):Option (Arr 16 (Int×Int)):=
 bd (
 gd (okI m.rows s)<|
 rf N m p s N 0 (zbu 16 (List.replicate 16 (((0:Int),(0:Int)):(Int×Int))))) fun a=>
 some a
def su(N:Nat)(m:Mach)(p:(List Int)):Nat→Int→(List (Sb×Int))→(List Int)→Option (List Int)
 |0,_,_,_=>none
 |f+1,a,b,c=>
  bif decide (a<(↑p.length:Int)) then(
  gd (okI p a)<|
  bd (z8w N m p a) fun d=>
  bd (
  bif !(z8n b (⟨(ix p a),d⟩:Sb)) then(
  some (zad b (⟨(ix p a),d⟩:Sb) (↑b.length:Int))) else(
  some b)) fun e=>
  gd (okI c a)<|
  gd (in64 (a+1))<|
  su N m p f (a+1) e (up c a (z7w (0:Int) e (⟨(ix p a),d⟩:Sb)))) else(
  some c)
def z5x(N:Nat)(m:Mach)(p:(List Int)):Option (List Int):=
 gd (okM 8 (↑p.length:Int))<|
 bd (
 su N m p N 0 ([]:List (Sb×Int)) (mk (↑p.length:Int) (0:Int))) fun a=>
 some a
def ax(N:Nat)(s1_:(List Int))(s2_:(List Int)):Nat→Int→Option (Ex (Unit) (Bool))
 |0,_=>none
 |b+1,a=>
  bif decide (a<(↑s1_.length:Int)) then(
  gd (okI s1_ a)<|
  gd (okI s2_ a)<|
  bif decide ((ix s1_ a)≠(ix s2_ a)) then(
  some (Ex.rt false)) else(
  gd (in64 (a+1))<|
  ax N s1_ s2_ b (a+1))) else(
  some (Ex.go ()))
def slices_Equal_int(N:Nat)(s1_:(List Int))(s2_:(List Int)):Option Bool:=
 bif decide ((↑s1_.length:Int)≠(↑s2_.length:Int)) then(
 some false) else(
 bd (
 ax N s1_ s2_ N 0) fun a=>
 Ex.on a (fun b=>
 some true) some)
def z0j(N:Nat)(σ:Type)(B:(List Int)→σ→Option (Bool×σ))(p0_:Mach):Nat→σ→(List Int)→Option σ
 |0,_,_=>none
 |d+1,e,b=>
  bd (B b e) fun a=>
  bif a.1 then(
  bd (z5x N p0_ b) fun c=>
  bd (slices_Equal_int N b c) fun f=>
  bif f then(
  some a.2) else(
  z0j N σ B p0_ d a.2 c)) else(
  some a.2)
def z7c(N:Nat)(p0_:Mach)(σ:Type)(B:(List Int)→σ→Option (Bool×σ))(s0:σ):Option σ:=
 gd (okM 8 (↑p0_.rows.length:Int))<|
 z0j N σ B p0_ N s0 (mk (↑p0_.rows.length:Int) (0:Int))
def z6a(N:Nat)(m:Mach):Option ((List Int)×Int×Int):=
 bd (z00 N m) fun a=>
 bif decide (a≠0) then(
 some (([]:(List Int)),0,a)) else(
 bd (z8u N m) fun d=>
 bd (z7c N d ((List Int)×Int) (fun e b=>
 gd (in64 (b.2+1))<|
 some (true,(e,b.2+1))) (([]:(List Int)),(-1))) fun c=>
 some (c.1,c.2,0))
def l9(N:Nat)(x:(List Int)):Nat→Int→Int→Option Int
 |0,_,_=>none
 |c+1,b,a=>
  bif decide (a<(↑x.length:Int)) then(
  gd (okI x a)<|
  gd (in64 (a+1))<|
  l9 N x c (max b (ix x a)) (a+1)) else(
  some b)
def slices_Max_int(N:Nat)(x:(List Int)):Option Int:=
 bif decide ((↑x.length:Int)<1) then(
 none) else(
 gd (okI x 0)<|
 bd (
 l9 N x N (ix x 0) 1) fun a=>
 some a)
def z5b(N:Nat)(p0_:Mach):Option Bool:=
 bd (z6a N p0_) fun a=>
 bd (slices_Max_int N a.1) fun b=>
 gd (in64 ((↑a.1.length:Int)-1))<|
 some (decide (b=((↑a.1.length:Int)-1)))
def z5l(N:Nat)(m:Mach):Option Int:=
 bd (z00 N m) fun e=>
 bif decide (e≠0) then(
 some e) else(
 bd (zac N m) fun a=>
 bd (z5d N a.1) fun b=>
 bif !b then(
 some 9) else(
 bd (z4w N a.2.1) fun c=>
 bif !c then(
 some 11) else(
 bd (z5b N a.2.2) fun d=>
 bif !d then(
 some 12) else(
 some 0))))
def bn(N:Nat)(s:(List Int))(f:Int→Option Bool):Nat→Int→Option (Ex (Unit) (Int))
 |0,_=>none
 |c+1,a=>
  bif decide (a<(↑s.length:Int)) then(
  gd (okI s a)<|
  bd (f (ix s a)) fun b=>
  bif b then(
  some (Ex.rt a)) else(
  gd (in64 (a+1))<|
  bn N s f c (a+1))) else(
  some (Ex.go ()))
def z2u(N:Nat)(s:(List Int))(f:Int→Option Bool):Option Int:=
 bd (
 bn N s f N 0) fun a=>
 Ex.on a (fun b=>
 some (-1)) some
def lq(N:Nat)(s:(List Int))(f:Int→Option Bool):Option Bool:=
 bd (z2u N s f) fun a=>
 some (decide (0≤a))
def zc7(N:Nat)(c:Int)(p0_:Int):Option Bool:=
 some ((decide (c<0))||(decide (p0_≤c)))
def z8f(N:Nat)(w_:(List Int))(inputs:Int):Option Int:=
 bif (decide (16<inputs))||(decide (256<(↑w_.length:Int))) then(
 some 3) else(
 bd (gop (true&&((decide (inputs<1))==false)) (lq N w_ (fun b=>zc7 N b inputs))) fun a=>
 bif (decide (inputs<1))||(a.getD default) then(
 some 1) else(
 some 0))
def z8g(N:Nat)(m:Mach):Option Int:=
 bd (z2d N m) fun a=>
 bif (decide (a.2=0))&&(!a.1) then(
 some 11) else(
 some a.2)
def zbr(N:Nat)(m:Mach)(s:Int):Option (Mach×Int):=
 some (m,s)
def z14(N:Nat)(σ:Type)(B:Sn→σ→Option (Bool×σ))(p0_:Mach)(p1_:Int):Nat→σ→Int→Option σ
 |0,_,_=>none
 |d+1,b,a=>
  bif decide (a<(↑(ix p0_.rows p1_).length:Int)) then(
  bd (
  gd (okI (ix p0_.rows p1_) a)<|
  bif decide (((ix (ix p0_.rows p1_) a).to)≠(-1)) then(
  bd (B (⟨a,(ix (ix p0_.rows p1_) a).to⟩:Sn) b) fun c=>
  bif !c.1 then(
  some (Ex.rt c.2)) else(
  some (Ex.go c.2))) else(
  some (Ex.go b))) fun e=>
  Ex.on e (fun f=>
  gd (in64 (a+1))<|
  z14 N σ B p0_ p1_ d f (a+1)) some) else(
  some b)
def z7k(N:Nat)(p0_:Mach)(p1_:Int)(σ:Type)(B:Sn→σ→Option (Bool×σ))(s0:σ):Option σ:=
 gd (okI p0_.rows p1_)<|
 z14 N σ B p0_ p1_ N s0 0
def z4d(N:Nat)(m:Mach):Nat→(List Bool)→(List Int)→Option (List Bool)
 |0,_,_=>none
 |g+1,d,a=>
  bif decide (0<(↑a.length:Int)) then(
  gd (in64 ((↑a.length:Int)-1))<|
  gd (okI a ((↑a.length:Int)-1))<|
  gd (in64 ((↑a.length:Int)-1))<|
  gd (okS a 0 ((↑a.length:Int)-1))<|
  bd (zbr N m (ix a ((↑a.length:Int)-1))) fun e=>
  bd (z7k N e.1 e.2 (List Bool×List Int) (fun c b=>
  gd (okI b.1 c.fP)<|
  bif !(ix b.1 c.fP) then(
  gd (okI b.1 c.fP)<|
  gd (fits 8 b.2 ([c.fP]:List Int))<|
  some (true,((up b.1 c.fP true),(b.2++([c.fP]:List Int))))) else(
  some (true,(b.1,b.2)))) (d,(cut a 0 ((↑a.length:Int)-1)))) fun f=>
  z4d N m g f.1 f.2) else(
  some d)
def z9u(N:Nat)(m:Mach)(s:Int):Option (List Bool):=
 gd (okM 1 (↑m.rows.length:Int))<|
 gd (okI (mk (↑m.rows.length:Int) false) s)<|
 bd (
 z4d N m N (up (mk (↑m.rows.length:Int) false) s true) ([s]:List Int)) fun a=>
 some a
def z1f(N:Nat)(m:Mach):Nat→Int→(List (List Bool))→Option (List (List Bool))
 |0,_,_=>none
 |c+1,a,b=>
  bif decide (a<(↑(mk (↑m.rows.length:Int) ([]:List Bool)).length:Int)) then(
  bd (z9u N m a) fun d=>
  gd (okI b a)<|
  gd (in64 (a+1))<|
  z1f N m c (a+1) (up b a d)) else(
  some b)
def z4j(N:Nat)(c:List (List Bool))(a:Int):Nat→(List Int)→Option (List Int)
 |0,_=>none
 |d+1,b=>
  gd (okI c a)<|
  gd (okI b a)<|
  gd (okI (ix c a) (ix b a))<|
  gd ((true&&((!(ix (ix c a) (ix b a)))==false))=true→okI b a)<|
  gd ((true&&((!(ix (ix c a) (ix b a)))==false))=true→okI c (ix b a))<|
  gd ((true&&((!(ix (ix c a) (ix b a)))==false))=true→okI (ix c (ix b a)) a)<|
  bif (!(ix (ix c a) (ix b a)))||(!(ix (ix c (ix b a)) a)) then(
  gd (okI b a)<|
  gd (in64 ((ix b a)+1))<|
  gd (okI b a)<|
  z4j N c a d (up b a ((ix b a)+1))) else(
  some b)
def z1b(N:Nat)(m:Mach)(b:List (List Bool)):Nat→Int→(List Int)→Option (List Int)
 |0,_,_=>none
 |d+1,a,c=>
  bif decide (a<(↑(mk (↑m.rows.length:Int) (0:Int)).length:Int)) then(
  bd (
  z4j N b a N c) fun e=>
  gd (in64 (a+1))<|
  z1b N m b d (a+1) e) else(
  some c)
def z9l(N:Nat)(m:Mach):Option (List Int):=
 gd (okM 24 (↑m.rows.length:Int))<|
 bd (
 z1f N m N 0 (mk (↑m.rows.length:Int) ([]:List Bool))) fun a=>
 gd (okM 8 (↑m.rows.length:Int))<|
 bd (
 z1b N m a N 0 (mk (↑m.rows.length:Int) (0:Int))) fun b=>
 some b
def ig(N:Nat)(s:(List Int)):Option (List Int):=
 gd (okS s 0 (↑s.length:Int))<|
 some (cut s 0 (↑s.length:Int))
def z5j(N:Nat)(s:(List (List Int))):Option (List (List Int)):=
 gd (okS s 0 (↑s.length:Int))<|
 some (cut s 0 (↑s.length:Int))
def z1l(N:Nat)(b:(List Int))(d:Int):Nat→(List Int)→Int→Option (List Int)
 |0,_,_=>none
 |e+1,c,a=>
  bif decide (a<(↑b.length:Int)) then(
  bd (
  gd (okI b a)<|
  bif decide ((ix b a)=d) then(
  gd (fits 8 c ([a]:List Int))<|
  some (c++([a]:List Int))) else(
  some c)) fun f=>
  gd (in64 (a+1))<|
  z1l N b d e f (a+1)) else(
  some c)
def z1d(N:Nat)(b:(List Int)):Nat→(List (List Int))→Int→Option (List (List Int))
 |0,_,_=>none
 |e+1,c,a=>
  bif decide (a<(↑b.length:Int)) then(
  bd (
  gd (okI b a)<|
  bif decide ((ix b a)≠a) then(
  some c) else(
  bd (
  z1l N b a N ([]:List Int) 0) fun f=>
  bd (ig N f) fun d=>
  gd (fits 24 c ([d]:List (List Int)))<|
  some (c++([d]:List (List Int))))) fun g=>
  gd (in64 (a+1))<|
  z1d N b e g (a+1)) else(
  some c)
def za2(N:Nat)(m:Mach):Option ((List (List Int))×Int):=
 bd (z8g N m) fun d=>
 bif decide (d≠0) then(
 some (([]:(List (List Int))),d)) else(
 bd (z9l N m) fun b=>
 bd (
 z1d N b N ([]:List (List Int)) 0) fun c=>
 bd (z5j N c) fun a=>
 some (a,0))
def z6t(N:Nat)(m:Mach)(s:Int):Option Int:=
 bd (z00 N m) fun a=>
 bif decide (a≠0) then(
 some a) else(
 bif (decide (s<0))||(decide ((↑m.rows.length:Int)≤s)) then(
 some 1) else(
 some 0))
def z1q(N:Nat)(m:Mach)(w_:(List Int)):Nat→Int→Int→(List Int)→Option (Int×List Int)
 |0,_,_,_=>none
 |f+1,b,a,c=>
  bif decide (a<(↑w_.length:Int)) then(
  gd (okI w_ a)<|
  bd (z3t N) fun d=>
  bd (
  bif decide (b≠(-1)) then(
  gd (okI m.rows b)<|
  gd (okI (ix m.rows b) (ix w_ a))<|
  some ((ix (ix m.rows b) (ix w_ a)).to,(ix (ix m.rows b) (ix w_ a)).out)) else(
  some (d.to,d.out))) fun e=>
  gd (okI c a)<|
  gd (in64 (a+1))<|
  z1q N m w_ f e.1 (a+1) (up c a e.2)) else(
  some (b,c))
def z8z(N:Nat)(m:Mach)(s:Int)(w_:(List Int)):Option ((List Int)×Int):=
 gd (okM 8 (↑w_.length:Int))<|
 bd (
 z1q N m w_ N s 0 (mk (↑w_.length:Int) (0:Int))) fun a=>
 some (a.2,a.1)
def z8s(N:Nat)(m:Mach)(s:Int)(w_:(List Int)):Option ((List Int)×Int):=
 bd (z6t N m s) fun c=>
 bif decide (c≠0) then(
 some (([]:(List Int)),c)) else(
 bd (z8f N w_ m.inputs) fun a=>
 bif decide (a≠0) then(
 some (([]:(List Int)),a)) else(
 bd (z8z N m s w_) fun b=>
 some (b.1,0)))
def yz(N:Nat)(s:(List (List Int)))(f:(List Int)→Option Bool):Nat→Int→Option (Ex (Unit) (Int))
 |0,_=>none
 |c+1,a=>
  bif decide (a<(↑s.length:Int)) then(
  gd (okI s a)<|
  bd (f (ix s a)) fun b=>
  bif b then(
  some (Ex.rt a)) else(
  gd (in64 (a+1))<|
  yz N s f c (a+1))) else(
  some (Ex.go ()))
def z4m(N:Nat)(s:(List (List Int)))(f:(List Int)→Option Bool):Option Int:=
 bd (
 yz N s f N 0) fun a=>
 Ex.on a (fun b=>
 some (-1)) some
def z0r(N:Nat)(s:(List (List Int)))(f:(List Int)→Option Bool):Option Bool:=
 bd (z4m N s f) fun a=>
 some (decide (0≤a))
def zal(N:Nat)(r_:(List Int))(p0_:(List Int)):Option Bool:=
 bd (slices_Equal_int N r_ p0_) fun a=>
 some a
def z2h(N:Nat)(m:Mach)(d:(List Int)):Nat→(List (List Int))→Int→Option (Ex (Unit) (Int))
 |0,_,_=>none
 |e+1,b,a=>
  bif decide (a<(↑m.rows.length:Int)) then(
  bd (z8s N m a d) fun c=>
  bd (z0r N b (fun g=>zal N g c.1)) fun f=>
  bif f then(
  some (Ex.rt 12)) else(
  gd (fits 24 b ([c.1]:List (List Int)))<|
  gd (in64 (a+1))<|
  z2h N m d e (b++([c.1]:List (List Int))) (a+1))) else(
  some (Ex.go ()))
def z6r(N:Nat)(m:Mach)(d:(List Int)):Option Int:=
 bd (z5l N m) fun e=>
 bif decide (e≠0) then(
 some e) else(
 bd (z8f N d m.inputs) fun b=>
 bif decide (b≠0) then(
 some b) else(
 bd (za2 N m) fun a=>
 bif decide (a.2≠0) then(
 some a.2) else(
 bif decide (1<(↑a.1.length:Int)) then(
 some 7) else(
 bd (
 z2h N m d N ([]:List (List Int)) 0) fun c=>
 Ex.on c (fun f=>
 some 0) some))))
def zcc(N:Nat)(i:Int)(p0_:Mach):Option Bool:=
 some ((decide (i<0))||(decide (p0_.inputs≤i)))
def z81(N:Nat)(m:Mach)(w_:(List Int)):Option Int:=
 bif decide (1024<(↑w_.length:Int)) then(
 some 3) else(
 bd (lq N w_ (fun a=>zcc N a m)) fun b=>
 bif b then(
 some 1) else(
 some 0))
def mi(N:Nat)(i:Int)(j:Int)(t_3_:(List Int))(t_5_:List Bool):Nat→Int→(List Bool)→Option (List Bool)
 |0,_,_=>none
 |d+1,a,b=>
  gd (in64 ((max i j)+a))<|
  gd ((true&&((decide (((max i j)+a)<(↑t_3_.length:Int)))==true))=true→in64 (i+a))<|
  gd ((true&&((decide (((max i j)+a)<(↑t_3_.length:Int)))==true))=true→okI t_3_ (i+a))<|
  gd ((true&&((decide (((max i j)+a)<(↑t_3_.length:Int)))==true))=true→in64 (j+a))<|
  gd ((true&&((decide (((max i j)+a)<(↑t_3_.length:Int)))==true))=true→okI t_3_ (j+a))<|
  bif (decide (((max i j)+a)<(↑t_3_.length:Int)))&&(decide ((ix t_3_ (i+a))=(ix t_3_ (j+a)))) then(
  bd (
  gd (in64 (i+a))<|
  gd (in64 ((i+a)+1))<|
  gd (okI t_5_ ((i+a)+1))<|
  bif (ix t_5_ ((i+a)+1)) then(
  gd (in64 (j+a))<|
  gd (in64 ((j+a)+1))<|
  gd (okI b ((j+a)+1))<|
  some (up b ((j+a)+1) true)) else(
  some b)) fun c=>
  gd (in64 (a+1))<|
  mi N i j t_3_ t_5_ d (a+1) c) else(
  some b)
def z2n(N:Nat)(i:Int)(j:Int)(t_0_:Int)(t_1_:Int)(t_2_:(List (List Edge)))(t_3_:(List Int))(t_4_:List Int)(t_5_:List Bool)(t_6_:List Bool):Option (List Bool):=
 mi N i j t_3_ t_5_ N 0 t_6_
def z09(N:Nat)(m:Mach)(w_:(List Int)):Nat→Int→(List Int)→Option (List Int)
 |0,_,_=>none
 |c+1,a,b=>
  bif decide (a<(↑w_.length:Int)) then(
  gd (okI w_ a)<|
  gd (okI b a)<|
  gd (okI m.rows (ix b a))<|
  gd (okI (ix m.rows (ix b a)) (ix w_ a))<|
  gd (fits 8 b ([(ix (ix m.rows (ix b a)) (ix w_ a)).to]:List Int))<|
  gd (in64 (a+1))<|
  z09 N m w_ c (a+1) (b++([(ix (ix m.rows (ix b a)) (ix w_ a)).to]:List Int))) else(
  some b)
def z0b(N:Nat)(d:(List Int))(w_:(List Int))(f:List Int):Nat→Int→(List Bool)→(List Bool)→Option (List Bool×List Bool)
 |0,_,_,_=>none
 |g+1,a,b,c=>
  bif decide (a<(↑f.length:Int)) then(
  gd (in64 (a+(↑d.length:Int)))<|
  gd ((true&&((decide ((a+(↑d.length:Int))≤(↑w_.length:Int)))==true))=true→in64 (a+(↑d.length:Int)))<|
  gd ((true&&((decide ((a+(↑d.length:Int))≤(↑w_.length:Int)))==true))=true→okS w_ a (a+(↑d.length:Int)))<|
  bd (gop (true&&((decide ((a+(↑d.length:Int))≤(↑w_.length:Int)))==true)) (slices_Equal_int N (cut w_ a (a+(↑d.length:Int))) d)) fun e=>
  gd (okI b a)<|
  gd (okI (up b a ((decide ((a+(↑d.length:Int))≤(↑w_.length:Int)))&&(e.getD default))) a)<|
  gd (okI c a)<|
  gd (in64 (a+1))<|
  z0b N d w_ f g (a+1) (up b a ((decide ((a+(↑d.length:Int))≤(↑w_.length:Int)))&&(e.getD default))) (up c a (ix (up b a ((decide ((a+(↑d.length:Int))≤(↑w_.length:Int)))&&(e.getD default))) a))) else(
  some (b,c))
def z0d(N:Nat)(m:Mach)(w_:(List Int))(d:List Int)(c:List Bool×List Bool)(b:Int):Nat→Int→(List Bool)→Option (List Bool)
 |0,_,_=>none
 |f+1,a,e=>
  bif decide (a<(↑d.length:Int)) then(
  bd (
  gd ((true&&((decide (a≠b))==true))=true→okI c.1 a)<|
  gd ((true&&(((decide (a≠b))&&(ix c.1 a))==true))=true→okI c.1 b)<|
  gd ((true&&((((decide (a≠b))&&(ix c.1 a))&&(ix c.1 b))==true))=true→okI d a)<|
  gd ((true&&((((decide (a≠b))&&(ix c.1 a))&&(ix c.1 b))==true))=true→okI d b)<|
  bif (((decide (a≠b))&&(ix c.1 a))&&(ix c.1 b))&&(decide ((ix d a)=(ix d b))) then(
  bd (z2n N a b m.inputs m.outputs m.rows w_ d c.1 e) fun g=>
  some g) else(
  some e)) fun h=>
  gd (in64 (a+1))<|
  z0d N m w_ d c b f (a+1) h) else(
  some e)
def ry(N:Nat)(m:Mach)(w_:(List Int))(d:List Int)(b:List Bool×List Bool):Nat→Int→(List Bool)→Option (List Bool)
 |0,_,_=>none
 |e+1,a,c=>
  bif decide (a<(↑d.length:Int)) then(
  bd (
  z0d N m w_ d b a N 0 c) fun f=>
  gd (in64 (a+1))<|
  ry N m w_ d b e (a+1) f) else(
  some c)
def z2k(N:Nat)(m:Mach)(d:(List Int))(w_:(List Int)):Option ((Option Sj)×Int):=
 bd (z6r N m d) fun f=>
 bif decide (f≠0) then(
 some ((none:(Option Sj)),f)) else(
 bd (z81 N m w_) fun c=>
 bif decide (c≠0) then(
 some ((none:(Option Sj)),c)) else(
 gd (in64 ((↑w_.length:Int)+1))<|
 gd (okM 8 ((↑w_.length:Int)+1)∧0≤(1:Int)∧(1:Int)≤(↑w_.length:Int)+1)<|
 gd (in64 ((↑w_.length:Int)+1))<|
 gd (okM 1 ((↑w_.length:Int)+1))<|
 gd (in64 ((↑w_.length:Int)+1))<|
 gd (okM 1 ((↑w_.length:Int)+1))<|
 bd (
 z09 N m w_ N 0 (mk 1 (0:Int))) fun b=>
 bd (
 z0b N d w_ b N 0 (mk ((↑w_.length:Int)+1) false) (mk ((↑w_.length:Int)+1) false)) fun a=>
 bd (
 ry N m w_ b a N 0 a.2) fun e=>
 some ((some (⟨(⟨m.inputs,m.outputs,m.rows⟩:Mach),w_,b,a.1,e⟩:Sj)),0)))
def rz(N:Nat)(w_:(List Int))(b:(Option Sj)×Int):Nat→Int→(List Bool)→(List ((Int×Int)×Bool))→Option (Sj×List Bool×List ((Int×Int)×Bool))
 |0,_,_,_=>none
 |f+1,a,c,d=>
  bif decide (a<(↑((b.1.getD default).fM).length:Int)) then(
  bd (
  gd (okI ((b.1.getD default).fM) a)<|
  gd (okI c (ix ((b.1.getD default).fM) a))<|
  gd ((true&&((ix c (ix ((b.1.getD default).fM) a))==false))=true→okI ((b.1.getD default).fAb) a)<|
  gd (okI c (ix ((b.1.getD default).fM) a))<|
  gd ((true&&((decide (a<(↑w_.length:Int)))==true))=true→okI ((b.1.getD default).fJ) a)<|
  gd ((true&&(((decide (a<(↑w_.length:Int)))&&(ix ((b.1.getD default).fJ) a))==true))=true→in64 (a+1))<|
  gd ((true&&(((decide (a<(↑w_.length:Int)))&&(ix ((b.1.getD default).fJ) a))==true))=true→okI ((b.1.getD default).fJ) (a+1))<|
  bif ((decide (a<(↑w_.length:Int)))&&(ix ((b.1.getD default).fJ) a))&&(ix ((b.1.getD default).fJ) (a+1)) then(
  gd (okI w_ a)<|
  some ((up c (ix ((b.1.getD default).fM) a) ((ix c (ix ((b.1.getD default).fM) a))||(ix ((b.1.getD default).fAb) a))),(zad d (((ix ((b.1.getD default).fM) a),(ix w_ a)):(Int×Int)) true))) else(
  some ((up c (ix ((b.1.getD default).fM) a) ((ix c (ix ((b.1.getD default).fM) a))||(ix ((b.1.getD default).fAb) a))),d))) fun e=>
  gd (in64 (a+1))<|
  rz N w_ b f (a+1) e.1 e.2) else(
  some ((b.1.getD default),c,d))
def z0a(N:Nat)(m:Mach)(e:Sj×List Bool×List ((Int×Int)×Bool))(b:Int)(d:List Int):Nat→Int→(List (Int×Int))→Option (List Int×List (Int×Int))
 |0,_,_=>none
 |f+1,a,c=>
  bif decide (a<m.inputs) then(
  bd (
  bif !(z7w false e.2.2 ((b,a):(Int×Int))) then(
  gd (fits 16 c ([((b,a):(Int×Int))]:List (Int×Int)))<|
  some (c++([((b,a):(Int×Int))]:List (Int×Int)))) else(
  some c)) fun g=>
  gd (in64 (a+1))<|
  z0a N m e b d f (a+1) g) else(
  some (d,c))
def z0e(N:Nat)(m:Mach)(c:Sj×List Bool×List ((Int×Int)×Bool)):Nat→Int→(List Int)→(List (Int×Int))→Option (List Int×List (Int×Int))
 |0,_,_,_=>none
 |f+1,a,b,d=>
  bif decide (a<(↑m.rows.length:Int)) then(
  bd (
  bd (
  gd (okI c.2.1 a)<|
  bif !(ix c.2.1 a) then(
  gd (fits 8 b ([a]:List Int))<|
  some (b++([a]:List Int))) else(
  some b)) fun g=>
  z0a N m c a g N 0 d) fun e=>
  gd (in64 (a+1))<|
  z0e N m c f (a+1) e.1 e.2) else(
  some (b,d))
def z2j(N:Nat)(m:Mach)(d:(List Int))(w_:(List Int)):Option (Sa×Int):=
 bd (z2k N m d w_) fun f=>
 bif decide (f.2≠0) then(
 some ((⟨false,[],[]⟩:Sa),f.2)) else(
 gd (okM 1 (↑m.rows.length:Int))<|
 bd (
 gd (f.1.isSome=true)<|
 rz N w_ f N 0 (mk (↑m.rows.length:Int) false) ([]:List ((Int×Int)×Bool))) fun b=>
 gd (okI b.1.fJ 0)<|
 bd (
 z0e N m b N 0 ([]:List Int) ([]:List (Int×Int))) fun a=>
 bd (ig N a.1) fun c=>
 bd (z0u N a.2) fun e=>
 some ((⟨(ix b.1.fJ 0),c,e⟩:Sa),0))
def xn(N:Nat)(m:Mach)(b:Int):Nat→Int→Option (Ex (Unit) (Ex (Unit) (Int)))
 |0,_=>none
 |c+1,a=>
  bif decide (a<m.inputs) then(
  bd (
  gd (okI m.rows b)<|
  gd (okI (ix m.rows b) a)<|
  bif (decide (((ix (ix m.rows b) a).to)=(-1)))&&(decide (((ix (ix m.rows b) a).out)=(-1))) then(
  some (Ex.go ())) else(
  bif (((decide (((ix (ix m.rows b) a).to)<0))||(decide ((↑m.rows.length:Int)≤((ix (ix m.rows b) a).to))))||(decide (((ix (ix m.rows b) a).out)<0)))||(decide (m.outputs≤((ix (ix m.rows b) a).out))) then(
  some (Ex.rt (Ex.rt (Ex.rt 1)))) else(
  some (Ex.go ())))) fun d=>
  Ex.on d (fun e=>
  gd (in64 (a+1))<|
  xn N m b c (a+1)) some) else(
  some (Ex.go ()))
def yc(N:Nat)(m:Mach):Nat→Int→Option (Ex (Unit) (Int))
 |0,_=>none
 |b+1,a=>
  bif decide (a<(↑m.rows.length:Int)) then(
  bd (
  gd (okI m.rows a)<|
  bif decide ((↑(ix m.rows a).length:Int)≠m.inputs) then(
  some (Ex.rt (Ex.rt 1))) else(
  xn N m a N 0)) fun c=>
  Ex.on c (fun d=>
  gd (in64 (a+1))<|
  yc N m b (a+1)) some) else(
  some (Ex.go ()))
def z3n(N:Nat)(m:Mach):Option Int:=
 bif ((decide (16<m.inputs))||(decide (16<m.outputs)))||(decide (64<(↑m.rows.length:Int))) then(
 some 3) else(
 bif ((decide (m.inputs<1))||(decide (m.outputs<1)))||(decide ((↑m.rows.length:Int)=0)) then(
 some 1) else(
 bd (
 yc N m N 0) fun a=>
 Ex.on a (fun b=>
 some 0) some))
def yx(N:Nat)(m:Mach)(b:Int):Nat→Int→Int→Option Int
 |0,_,_=>none
 |d+1,c,a=>
  bif decide (a<m.inputs) then(
  bd (
  gd (okI m.rows b)<|
  gd (okI (ix m.rows b) a)<|
  bif decide (0≤((ix (ix m.rows b) a).to)) then(
  gd (in64 (c+1))<|
  some (c+1)) else(
  some c)) fun e=>
  gd (in64 (a+1))<|
  yx N m b d e (a+1)) else(
  some c)
def ni(N:Nat)(m:Mach):Nat→Int→Int→Option Int
 |0,_,_=>none
 |d+1,b,a=>
  bif decide (a<(↑m.rows.length:Int)) then(
  bd (
  yx N m a N b 0) fun c=>
  gd (in64 (a+1))<|
  ni N m d c (a+1)) else(
  some b)
def z1x(N:Nat)(m:Mach):Option Int:=
 bd (
 ni N m N 0 0) fun a=>
 some a
def z1h(N:Nat)(m:Mach):Option Bool:=
 bd (z1x N m) fun a=>
 gd (in64 ((↑m.rows.length:Int)*m.inputs))<|
 some (decide (a=((↑m.rows.length:Int)*m.inputs)))
def vv(N:Nat)(b:(List Bool)):Nat→Int→Option (Ex (Unit) (Bool))
 |0,_=>none
 |c+1,a=>
  bif decide (a<(↑b.length:Int)) then(
  gd (okI b a)<|
  bif !(ix b a) then(
  some (Ex.rt false)) else(
  gd (in64 (a+1))<|
  vv N b c (a+1))) else(
  some (Ex.go ()))
def z15(N:Nat)(m:Mach):Option Bool:=
 bd (av N m 0) fun b=>
 bd (
 vv N b N 0) fun a=>
 Ex.on a (fun c=>
 some true) some
def bv(N:Nat)(a:(List Int))(c:Int):Nat→Int→Option (Ex (Unit) (Ex (Unit) (Int)))
 |0,_=>none
 |d+1,b=>
  bif decide (b<c) then(
  gd (okI a c)<|
  gd (okI a b)<|
  bif decide ((ix a c)=(ix a b)) then(
  some (Ex.rt (Ex.rt 12))) else(
  gd (in64 (b+1))<|
  bv N a c d (b+1))) else(
  some (Ex.go ()))
def xz(N:Nat)(b:(List Int)):Nat→Int→Option (Ex (Unit) (Int))
 |0,_=>none
 |c+1,a=>
  bif decide (a<(↑b.length:Int)) then(
  bd (
  bv N b a N 0) fun d=>
  Ex.on d (fun e=>
  gd (in64 (a+1))<|
  xz N b c (a+1)) some) else(
  some (Ex.go ()))
def z2s(N:Nat)(m:Mach):Option Int:=
 bd (z3n N m) fun e=>
 bif decide (e≠0) then(
 some e) else(
 bd (z1h N m) fun a=>
 bif !a then(
 some 9) else(
 bd (z15 N m) fun b=>
 bif !b then(
 some 11) else(
 bd (l6 N m) fun c=>
 bd (
 xz N c N 0) fun d=>
 Ex.on d (fun f=>
 some 0) some)))
def gq(N:Nat)(m:Mach)(w_:(List Int)):Nat→Int→Option (Ex (Unit) (Bool))
 |0,_=>none
 |b+1,a=>
  bif decide (a<(↑w_.length:Int)) then(
  gd (okI w_ a)<|
  gd ((true&&((decide ((ix w_ a)<0))==false))=true→okI w_ a)<|
  bif (decide ((ix w_ a)<0))||(decide (m.inputs≤(ix w_ a))) then(
  some (Ex.rt false)) else(
  gd (in64 (a+1))<|
  gq N m w_ b (a+1))) else(
  some (Ex.go ()))
def z2r(N:Nat)(m:Mach)(w_:(List Int)):Option Bool:=
 bd (
 gq N m w_ N 0) fun a=>
 Ex.on a (fun b=>
 some true) some
def dm(N:Nat)(m:Mach)(a:Int):Nat→Int→(List Bool)→Option (List Bool)
 |0,_,_=>none
 |d+1,b,c=>
  gd ((true&&((decide (b<m.inputs))==true))=true→okI c a)<|
  bif (decide (b<m.inputs))&&(ix c a) then(
  bd (
  gd (okI m.rows a)<|
  gd (okI (ix m.rows a) b)<|
  bif decide (((ix (ix m.rows a) b).to)≠(-1)) then(
  gd (okI c ((ix (ix m.rows a) b).to))<|
  some (up c ((ix (ix m.rows a) b).to) true)) else(
  some c)) fun e=>
  gd (in64 (b+1))<|
  dm N m a d (b+1) e) else(
  some c)
def pu(N:Nat)(m:Mach):Nat→Int→(List Bool)→Option (List Bool)
 |0,_,_=>none
 |c+1,a,b=>
  bif decide (a<(↑m.rows.length:Int)) then(
  bd (
  dm N m a N 0 b) fun d=>
  gd (in64 (a+1))<|
  pu N m c (a+1) d) else(
  some b)
def pz(N:Nat)(m:Mach)(steps:Int):Nat→Int→(List Bool)→Option (List Bool)
 |0,_,_=>none
 |c+1,a,b=>
  bif decide (a<steps) then(
  bd (
  pu N m N 0 b) fun d=>
  gd (in64 (a+1))<|
  pz N m steps c (a+1) d) else(
  some b)
def l5(N:Nat)(m:Mach)(s:Int)(t:Int)(steps:Int):Option Bool:=
 bif decide (s=t) then(
 some true) else(
 gd (okM 1 (↑m.rows.length:Int))<|
 gd (okI (mk (↑m.rows.length:Int) false) s)<|
 bd (
 pz N m steps N 0 (up (mk (↑m.rows.length:Int) false) s true)) fun a=>
 gd (okI a t)<|
 some (ix a t))
def dh(N:Nat)(m:Mach)(b:Int):Nat→Bool→(List Int)→Int→Option (Bool×List Int)
 |0,_,_,_=>none
 |g+1,d,c,a=>
  bif decide (a<(↑m.rows.length:Int)) then(
  bd (
  bd (l5 N m b a (↑m.rows.length:Int)) fun e=>
  bd (gop (true&&(e==true)) (l5 N m a b (↑m.rows.length:Int))) fun h=>
  bif e&&(h.getD default) then(
  gd (fits 8 c ([a]:List Int))<|
  some (d&&(decide (b≤a)),(c++([a]:List Int)))) else(
  some (d,c))) fun f=>
  gd (in64 (a+1))<|
  dh N m b g f.1 f.2 (a+1)) else(
  some (d,c))
def ai(N:Nat)(m:Mach):Nat→(List (List Int))→Int→Option (List (List Int))
 |0,_,_=>none
 |d+1,a,b=>
  bif decide (b<(↑m.rows.length:Int)) then(
  bd (
  bd (
  dh N m b N true ([]:List Int) 0) fun c=>
  bif c.1 then(
  gd (fits 24 a ([c.2]:List (List Int)))<|
  some (a++([c.2]:List (List Int)))) else(
  some a)) fun e=>
  gd (in64 (b+1))<|
  ai N m d e (b+1)) else(
  some a)
def z3k(N:Nat)(m:Mach):Option (List (List Int)):=
 bd (
 ai N m N ([]:List (List Int)) 0) fun a=>
 some a
def iw(N:Nat)(m:Mach)(w_:(List Int)):Nat→Int→(List Int)→Int→Option (List Int)
 |0,_,_,_=>none
 |d+1,e,b,a=>
  bif decide (a<(↑w_.length:Int)) then(
  gd (okI w_ a)<|
  bd (z2a N m e (ix w_ a)) fun c=>
  gd (fits 8 b ([c.out]:List Int))<|
  gd (in64 (a+1))<|
  iw N m w_ d c.to (b++([c.out]:List Int)) (a+1)) else(
  some b)
def z1k(N:Nat)(m:Mach)(s:Int)(w_:(List Int)):Option (List Int):=
 bd (
 iw N m w_ N s ([]:List Int) 0) fun a=>
 some a
def xe(N:Nat)(a:(List Int))(b:(List Int)):Nat→Int→Option (Ex (Unit) (Int))
 |0,_=>none
 |d+1,c=>
  bif decide (c<(↑a.length:Int)) then(
  gd (okI a c)<|
  gd (okI b c)<|
  bif decide ((ix a c)<(ix b c)) then(
  some (Ex.rt (-1))) else(
  gd (okI a c)<|
  gd (okI b c)<|
  bif decide ((ix b c)<(ix a c)) then(
  some (Ex.rt 1)) else(
  gd (in64 (c+1))<|
  xe N a b d (c+1)))) else(
  some (Ex.go ()))
def z1v(N:Nat)(a:(List Int))(b:(List Int)):Option Int:=
 bif decide ((↑a.length:Int)<(↑b.length:Int)) then(
 some (-1)) else(
 bif decide ((↑b.length:Int)<(↑a.length:Int)) then(
 some 1) else(
 bd (
 xe N a b N 0) fun c=>
 Ex.on c (fun d=>
 some 0) some))
def wm(N:Nat)(a:(List Int))(b:(List Int)):Option Bool:=
 bd (z1v N a b) fun c=>
 some (decide (c=0))
def aa(N:Nat)(m:Mach)(d:(List Int))(b:Int):Nat→Int→Option (Ex (Unit) (Ex (Unit) (Int)))
 |0,_=>none
 |c+1,a=>
  bif decide (a<b) then(
  bd (z1k N m b d) fun e=>
  bd (z1k N m a d) fun f=>
  bd (wm N e f) fun g=>
  bif g then(
  some (Ex.rt (Ex.rt 12))) else(
  gd (in64 (a+1))<|
  aa N m d b c (a+1))) else(
  some (Ex.go ()))
def oq(N:Nat)(m:Mach)(d:(List Int)):Nat→Int→Option (Ex (Unit) (Int))
 |0,_=>none
 |b+1,a=>
  bif decide (a<(↑m.rows.length:Int)) then(
  bd (
  aa N m d a N 0) fun c=>
  Ex.on c (fun e=>
  gd (in64 (a+1))<|
  oq N m d b (a+1)) some) else(
  some (Ex.go ()))
def z3a(N:Nat)(m:Mach)(d:(List Int)):Option Int:=
 bd (z2s N m) fun e=>
 bif decide (e≠0) then(
 some e) else(
 bif decide (256<(↑d.length:Int)) then(
 some 3) else(
 bd (z2r N m d) fun a=>
 bif !a then(
 some 1) else(
 bd (z3k N m) fun b=>
 bif decide (1<(↑b.length:Int)) then(
 some 7) else(
 bd (
 oq N m d N 0) fun c=>
 Ex.on c (fun f=>
 some 0) some))))
def z6n(N:Nat):Option Mach:=
 some (⟨2,2,([([(⟨1,0⟩:Edge),(⟨0,0⟩:Edge)]:List Edge),([(⟨0,1⟩:Edge),(⟨1,0⟩:Edge)]:List Edge)]:List (List Edge))⟩:Mach)
def z0t(N:Nat)(m:Mach)(b:Int)(c:List Int):Nat→Int→(List (List Int))→(List Bool)→(List Int)→Option (List (List Int)×List Bool×List Int)
 |0,_,_,_,_=>none
 |i+1,a,d,e,g=>
  bif decide (a<(↑(ix m.rows (ix c b)).length:Int)) then(
  bd (
  gd (okI (ix m.rows (ix c b)) a)<|
  gd (okI e ((ix (ix m.rows (ix c b)) a).to))<|
  bif !(ix e ((ix (ix m.rows (ix c b)) a).to)) then(
  gd (okI e ((ix (ix m.rows (ix c b)) a).to))<|
  gd (okI d (ix c b))<|
  bd (ig N (ix d (ix c b))) fun h=>
  gd (fits 8 h ([a]:List Int))<|
  gd (okI d ((ix (ix m.rows (ix c b)) a).to))<|
  gd (fits 8 g ([(ix (ix m.rows (ix c b)) a).to]:List Int))<|
  some ((up d ((ix (ix m.rows (ix c b)) a).to) (h++([a]:List Int))),(up e ((ix (ix m.rows (ix c b)) a).to) true),(g++([(ix (ix m.rows (ix c b)) a).to]:List Int)))) else(
  some (d,e,g))) fun f=>
  gd (in64 (a+1))<|
  z0t N m b c i (a+1) f.1 f.2.1 f.2.2) else(
  some (d,e,g))
def z1r(N:Nat)(m:Mach):Nat→Int→(List (List Int))→(List Bool)→(List Int)→Option (List (List Int))
 |0,_,_,_,_=>none
 |e+1,a,d,f,b=>
  bif decide (a<(↑b.length:Int)) then(
  bd (
  gd (okI b a)<|
  gd (okI m.rows (ix b a))<|
  z0t N m a b N 0 d f b) fun c=>
  gd (in64 (a+1))<|
  z1r N m e (a+1) c.1 c.2.1 c.2.2) else(
  some d)
def z7a(N:Nat)(m:Mach)(s:Int):Option (List (List Int)):=
 gd (okM 24 (↑m.rows.length:Int))<|
 gd (okM 1 (↑m.rows.length:Int))<|
 gd (okI (mk (↑m.rows.length:Int) false) s)<|
 bd (
 z1r N m N 0 (mk (↑m.rows.length:Int) ([]:List Int)) (up (mk (↑m.rows.length:Int) false) s true) ([s]:List Int)) fun a=>
 some a
def z6l(N:Nat)(s:Int)(x_0_:Int)(x_1_:Int)(x_2_:(List (List Edge)))(x_3_:(List Int))(x_4_:List Int)(x_5_:(List (List (List Int))))(x_69_:Int)(x_70_:Int):Option (List (List (List Int))):=
 bd (z7a N (⟨x_0_,x_1_,x_2_⟩:Mach) s) fun a=>
 gd ((0:Int)≤s∧s<(64:Nat))<|
 some (up x_5_ s a)
def ib(N:Nat)(l_:(List (List Int)))(x_2_:(List (List Edge)))(c:Int):Nat→Int→Int→Option Int
 |0,_,_=>none
 |d+1,a,b=>
  bif decide (a<(↑(ix l_ c).length:Int)) then(
  gd (okI (ix l_ c) a)<|
  gd (okI x_2_ b)<|
  gd (okI (ix x_2_ b) (ix (ix l_ c) a))<|
  gd (in64 (a+1))<|
  ib N l_ x_2_ c d (a+1) ((ix (ix x_2_ b) (ix (ix l_ c) a)).to)) else(
  some b)
def fq(N:Nat)(l_:(List (List Int)))(x_2_:(List (List Edge))):Nat→Int→Int→(List Int)→Option (Int×List Int)
 |0,_,_,_=>none
 |e+1,a,d,b=>
  bif decide (a<(↑l_.length:Int)) then(
  gd (okI l_ a)<|
  bd (
  ib N l_ x_2_ a N 0 d) fun c=>
  gd (fits 8 b (ix l_ a))<|
  gd (in64 (a+1))<|
  fq N l_ x_2_ e (a+1) c (b++(ix l_ a))) else(
  some (d,b))
def ay(N:Nat)(x_2_:(List (List Edge)))(x_3_:(List Int)):Nat→Int→Int→Option Int
 |0,_,_=>none
 |c+1,a,b=>
  bif decide (a<(↑x_3_.length:Int)) then(
  gd (okI x_3_ a)<|
  gd (okI x_2_ b)<|
  gd (okI (ix x_2_ b) (ix x_3_ a))<|
  gd (in64 (a+1))<|
  ay N x_2_ x_3_ c (a+1) ((ix (ix x_2_ b) (ix x_3_ a)).to)) else(
  some b)
def z11(N:Nat)(l_:(List (List Int)))(x_0_:Int)(x_1_:Int)(x_2_:(List (List Edge)))(x_3_:(List Int))(x_4_:List Int)(x_5_:(List (List (List Int))))(x_69_:Int)(x_70_:Int):Option (List Int×Int×Int):=
 bd (
 fq N l_ x_2_ N 0 x_69_ x_4_) fun a=>
 bd (
 ay N x_2_ x_3_ N 0 a.1) fun b=>
 gd (fits 8 a.2 x_3_)<|
 some ((a.2++x_3_),b,a.1)
def z07(N:Nat)(m:Mach)(d:(List Int)):Nat→Int→(List Int)→(List (List (List Int)))→Option (List Int×(List (List (List Int))))
 |0,_,_,_=>none
 |e+1,a,b,c=>
  bif decide (a<(↑m.rows.length:Int)) then(
  bd (z6l N a m.inputs m.outputs m.rows d b c 0 0) fun f=>
  gd (in64 (a+1))<|
  z07 N m d e (a+1) b f) else(
  some (b,c))
def z06(N:Nat)(m:Mach)(d:(List Int))(c:List Int×(List (List (List Int)))):Nat→Int→Int→Int→(List Int)→(List Sc)→Option (Int×Int×List Int×List Sc)
 |0,_,_,_,_,_=>none
 |i+1,a,b,e,h,f=>
  bif decide (a<(↑m.rows.length:Int)) then(
  gd (in64 (a+1))<|
  gd (okR (a+1) (↑m.rows.length:Int))<|
  gd ((0:Int)≤b∧b<(64:Nat))<|
  gd (okI (ix c.2 b) ((a+1)%(↑m.rows.length:Int)))<|
  gd (okI f ((a+1)%(↑m.rows.length:Int)))<|
  gd (okI (up f ((a+1)%(↑m.rows.length:Int)) (⟨e,(ix (ix c.2 b) ((a+1)%(↑m.rows.length:Int)))⟩:Sc)) ((a+1)%(↑m.rows.length:Int)))<|
  bd (z11 N ([(ix (up f ((a+1)%(↑m.rows.length:Int)) (⟨e,(ix (ix c.2 b) ((a+1)%(↑m.rows.length:Int)))⟩:Sc)) ((a+1)%(↑m.rows.length:Int))).fV]:List (List Int)) m.inputs m.outputs m.rows d h c.2 b e) fun g=>
  gd (in64 (a+1))<|
  z06 N m d c i (a+1) g.2.1 g.2.2 g.1 (up f ((a+1)%(↑m.rows.length:Int)) (⟨e,(ix (ix c.2 b) ((a+1)%(↑m.rows.length:Int)))⟩:Sc))) else(
  some (b,e,h,f))
def z0s(N:Nat)(m:Mach)(d:(List Int))(h:List Int×(List (List (List Int))))(c:Int×Int×List Int×List Sc)(a:Int):Nat→Int→Int→Int→(List Int)→Option (Ex (Int×Int×List Int) (Ex (Int×Int×List Int) ((List Int)×Int)))
 |0,_,_,_,_=>none
 |l+1,e,b,f,i=>
  bif decide (e<m.inputs) then(
  bd (
  gd (okI c.2.2.2 a)<|
  bif decide (f≠((ix c.2.2.2 a).fQ)) then(
  gd ((0:Int)≤b∧b<(64:Nat))<|
  gd (okI c.2.2.2 a)<|
  gd (okI (ix h.2 b) ((ix c.2.2.2 a).fQ))<|
  bd (z11 N ([(ix (ix h.2 b) ((ix c.2.2.2 a).fQ))]:List (List Int)) m.inputs m.outputs m.rows d i h.2 b f) fun j=>
  some (j.2.1,j.2.2,j.1)) else(
  some (b,f,i))) fun k=>
  gd (okI c.2.2.2 a)<|
  bd (z11 N ([(ix c.2.2.2 a).fV,([e]:List Int)]:List (List Int)) m.inputs m.outputs m.rows d k.2.2 h.2 k.1 k.2.1) fun g=>
  bif decide (1024<(↑g.1.length:Int)) then(
  some (Ex.rt (Ex.rt (([]:(List Int)),3)))) else(
  gd (in64 (e+1))<|
  z0s N m d h c a l (e+1) g.2.1 g.2.2 g.1)) else(
  some (Ex.go (b,f,i)))
def z1p(N:Nat)(m:Mach)(d:(List Int))(g:List Int×(List (List (List Int))))(h:Int×Int×List Int×List Sc):Nat→Int→Int→Int→(List Int)→Option (Ex (Int×Int×List Int) ((List Int)×Int))
 |0,_,_,_,_=>none
 |i+1,a,c,e,f=>
  bif decide (a<(↑m.rows.length:Int)) then(
  bd (
  z0s N m d g h a N 0 c e f) fun j=>
  Ex.on j (fun b=>
  gd (in64 (a+1))<|
  z1p N m d g h i (a+1) b.1 b.2.1 b.2.2) some) else(
  some (Ex.go (c,e,f)))
def z4v(N:Nat)(m:Mach)(d:(List Int)):Option ((List Int)×Int):=
 bd (z6r N m d) fun h=>
 bif decide (h≠0) then(
 some (([]:(List Int)),h)) else(
 bd (
 z07 N m d N 0 ([]:List Int) ((List.replicate 64 []):List (List (List Int)))) fun a=>
 bd (z11 N ([]:(List (List Int))) m.inputs m.outputs m.rows d a.1 a.2 0 0) fun c=>
 gd (okM 32 (↑m.rows.length:Int))<|
 bd (
 z06 N m d a N 0 c.2.1 c.2.2 c.1 (mk (↑m.rows.length:Int) (⟨(0:Int),([]:List Int)⟩:Sc))) fun b=>
 bd (
 z1p N m d a b N 0 b.1 b.2.1 b.2.2.1) fun e=>
 Ex.on e (fun f=>
 bd (ig N f.2.2) fun g=>
 some (g,0)) some)
def z8p(N:Nat)(s:List Int):Option (List Int):=
 gd (okS s 0 (↑s.length:Int))<|
 some (cut s 0 (↑s.length:Int))
def z7u(N:Nat)(s:(List Int)):Option (List Int):=
 gd (fits 8 ([]:List Int) s)<|
 some (([]:List Int)++s)
def z1u(N:Nat)(marks:(List Bool)):Nat→Int→(List Int)→Option (List Int)
 |0,_,_=>none
 |c+1,a,b=>
  bif decide (a<(↑marks.length:Int)) then(
  bd (
  gd (okI marks a)<|
  bif !(ix marks a) then(
  gd (okI b a)<|
  some (up b a (-1))) else(
  some b)) fun d=>
  gd (in64 (a+1))<|
  z1u N marks c (a+1) d) else(
  some b)
def z5r(N:Nat)(t:Sj)(marks:(List Bool)):Option (List Int):=
 bd (z7u N t.fM) fun c=>
 bd (z8p N c) fun a=>
 bd (
 z1u N marks N 0 a) fun b=>
 some b
def z8t(N:Nat)(m:Mach)(d:(List Int))(w_:(List Int)):Option ((List Int)×Int):=
 bd (z2k N m d w_) fun a=>
 bif decide (a.2≠0) then(
 some (([]:(List Int)),a.2)) else(
 gd (a.1.isSome=true)<|
 bd (z5r N (a.1.getD default) ((a.1.getD default).fAb)) fun b=>
 some (b,0))
def zdw(N:Nat)(m:Mach)(d:(List Int))(w_:(List Int)):Option ((List Int)×Int):=
 bd (z2k N m d w_) fun a=>
 bif decide (a.2≠0) then(
 some (([]:(List Int)),a.2)) else(
 gd (a.1.isSome=true)<|
 bd (z5r N (a.1.getD default) ((a.1.getD default).fJ)) fun b=>
 some (b,0))
def z4f(N:Nat)(m:Mach)(w_:(List Int)):Nat→Int→Int→(List Int)→Option (List Int)
 |0,_,_,_=>none
 |e+1,b,a,c=>
  bif decide (a<(↑w_.length:Int)) then(
  gd (okI w_ a)<|
  bd (
  bif decide (b≠(-1)) then(
  gd (okI m.rows b)<|
  gd (okI (ix m.rows b) (ix w_ a))<|
  some ((ix (ix m.rows b) (ix w_ a)).to,(ix (ix m.rows b) (ix w_ a)).out)) else(
  some ((-1),(-1)))) fun d=>
  gd (c.length+([d.2]:List Int).length≤(↑w_.length:Int).toNat)<|
  gd (in64 (a+1))<|
  z4f N m w_ e d.1 (a+1) (c++([d.2]:List Int))) else(
  some c)
def za9(N:Nat)(m:Mach)(w_:(List Int)):Option ((List Int)×Int):=
 bd (z00 N m) fun c=>
 bif decide (c≠0) then(
 some (([]:(List Int)),c)) else(
 bd (z81 N m w_) fun a=>
 bif decide (a≠0) then(
 some (([]:(List Int)),a)) else(
 gd (okM 8 (↑w_.length:Int)∧0≤(0:Int)∧(0:Int)≤(↑w_.length:Int))<|
 bd (
 z4f N m w_ N 0 0 (mk 0 (0:Int))) fun b=>
 gd (b.length=(↑w_.length:Int).toNat)<|
 some (b,0)))
def au(N:Nat)(a:Sa)(b:Sa):Nat→Int→Option (Ex (Unit) (Bool))
 |0,_=>none
 |d+1,c=>
  bif decide (c<(↑a.fD.length:Int)) then(
  gd (okI a.fD c)<|
  gd (okI b.fD c)<|
  bif decide (¬(((ix a.fD c).1)=((ix b.fD c).1)∧((ix a.fD c).2)=((ix b.fD c).2))) then(
  some (Ex.rt false)) else(
  gd (in64 (c+1))<|
  au N a b d (c+1))) else(
  some (Ex.go ()))
def z2e(N:Nat)(a:Sa)(b:Sa):Option Bool:=
 bd (gop (true&&((decide (a.fF≠b.fF))==false)) (wm N a.fB b.fB)) fun c=>
 bif ((decide (a.fF≠b.fF))||(!(c.getD default)))||(decide ((↑a.fD.length:Int)≠(↑b.fD.length:Int))) then(
 some false) else(
 bd (
 au N a b N 0) fun d=>
 Ex.on d (fun e=>
 some true) some)
def z0k(N:Nat):Option Bool:=
 bd (z6n N) fun c=>
 bd (z4v N (⟨c.inputs,c.outputs,c.rows⟩:Mach) ([0]:List Int)) fun e=>
 bd (z8t N (⟨c.inputs,c.outputs,c.rows⟩:Mach) ([0]:List Int) ([0,1,0,0,0]:List Int)) fun f=>
 bd (zdw N (⟨c.inputs,c.outputs,c.rows⟩:Mach) ([0]:List Int) ([0,1,0,0,0]:List Int)) fun g=>
 bd (z2j N (⟨c.inputs,c.outputs,c.rows⟩:Mach) ([0]:List Int) ([0,1,0,0,0]:List Int)) fun a=>
 bd (za9 N (⟨c.inputs,c.outputs,c.rows⟩:Mach) ([0,0,1,0]:List Int)) fun h=>
 bd (gop (true&&((((((decide (e.2=0))&&(decide (f.2=0)))&&(decide (g.2=0)))&&(decide (a.2=0)))&&(decide (h.2=0)))==true)) (wm N e.1 ([0,0,0,0,0,0,1,0,0,0,1,0]:List Int))) fun b=>
 bd (gop (true&&(((((((decide (e.2=0))&&(decide (f.2=0)))&&(decide (g.2=0)))&&(decide (a.2=0)))&&(decide (h.2=0)))&&(b.getD default))==true)) (wm N f.1 ([0,(-1),1,0,1,(-1)]:List Int))) fun d=>
 bd (gop (true&&((((((((decide (e.2=0))&&(decide (f.2=0)))&&(decide (g.2=0)))&&(decide (a.2=0)))&&(decide (h.2=0)))&&(b.getD default))&&(d.getD default))==true)) (wm N g.1 ([0,1,1,0,1,0]:List Int))) fun i=>
 bd (gop (true&&(((((((((decide (e.2=0))&&(decide (f.2=0)))&&(decide (g.2=0)))&&(decide (a.2=0)))&&(decide (h.2=0)))&&(b.getD default))&&(d.getD default))&&(i.getD default))==true)) (z2e N (⟨a.1.fF,a.1.fB,a.1.fD⟩:Sa) (⟨true,([]:(List Int)),([((0,1):(Int×Int))]:List (Int×Int))⟩:Sa))) fun j=>
 bd (gop (true&&((((((((((decide (e.2=0))&&(decide (f.2=0)))&&(decide (g.2=0)))&&(decide (a.2=0)))&&(decide (h.2=0)))&&(b.getD default))&&(d.getD default))&&(i.getD default))&&(j.getD default))==true)) (wm N h.1 ([0,1,0,0]:List Int))) fun k=>
 bd (gop (true&&(((((((((((decide (e.2=0))&&(decide (f.2=0)))&&(decide (g.2=0)))&&(decide (a.2=0)))&&(decide (h.2=0)))&&(b.getD default))&&(d.getD default))&&(i.getD default))&&(j.getD default))&&(k.getD default))==true)) (z6r N (⟨c.inputs,c.outputs,c.rows⟩:Mach) ([1]:List Int))) fun l=>
 bd (gop (true&&((((((((((((decide (e.2=0))&&(decide (f.2=0)))&&(decide (g.2=0)))&&(decide (a.2=0)))&&(decide (h.2=0)))&&(b.getD default))&&(d.getD default))&&(i.getD default))&&(j.getD default))&&(k.getD default))&&(decide ((l.getD default)=12)))==true)) (z6r N (⟨c.inputs,c.outputs,c.rows⟩:Mach) ([]:(List Int)))) fun m=>
 some ((((((((((((decide (e.2=0))&&(decide (f.2=0)))&&(decide (g.2=0)))&&(decide (a.2=0)))&&(decide (h.2=0)))&&(b.getD default))&&(d.getD default))&&(i.getD default))&&(j.getD default))&&(k.getD default))&&(decide ((l.getD default)=12)))&&(decide ((m.getD default)=12)))
def mo(N:Nat)(m:Mach)(w_:(List Int)):Nat→Int→(List Int)→Option (List Int)
 |0,_,_=>none
 |c+1,a,b=>
  bif decide (a<(↑w_.length:Int)) then(
  gd (okI b a)<|
  gd (okI m.rows (ix b a))<|
  gd (okI w_ a)<|
  gd (okI (ix m.rows (ix b a)) (ix w_ a))<|
  gd (fits 8 b ([(ix (ix m.rows (ix b a)) (ix w_ a)).to]:List Int))<|
  gd (in64 (a+1))<|
  mo N m w_ c (a+1) (b++([(ix (ix m.rows (ix b a)) (ix w_ a)).to]:List Int))) else(
  some b)
def z02(N:Nat)(m:Mach)(w_:(List Int)):Option (List Int):=
 bd (
 mo N m w_ N 0 ([0]:List Int)) fun a=>
 some a
def pg(N:Nat)(m:Mach)(w_:(List Int)):Nat→Int→(List Int)→Option (List Int)
 |0,_,_=>none
 |c+1,a,b=>
  bif decide (a<(↑w_.length:Int)) then(
  gd (okI b a)<|
  gd (okI m.rows (ix b a))<|
  gd (okI w_ a)<|
  gd (okI (ix m.rows (ix b a)) (ix w_ a))<|
  gd (fits 8 b ([(ix (ix m.rows (ix b a)) (ix w_ a)).to]:List Int))<|
  gd (in64 (a+1))<|
  pg N m w_ c (a+1) (b++([(ix (ix m.rows (ix b a)) (ix w_ a)).to]:List Int))) else(
  some b)
def z1g(N:Nat)(m:Mach)(w_:(List Int)):Option (List Int):=
 bd (
 pg N m w_ N 0 ([0]:List Int)) fun a=>
 some a
def yu(N:Nat)(d:(List Int))(w_:(List Int)):Nat→Int→(List Int)→Option (List Int)
 |0,_,_=>none
 |c+1,a,b=>
  bif decide (a≤(↑w_.length:Int)) then(
  bd (
  gd (in64 (a+(↑d.length:Int)))<|
  gd ((true&&((decide ((↑w_.length:Int)<(a+(↑d.length:Int))))==false))=true→in64 (a+(↑d.length:Int)))<|
  gd ((true&&((decide ((↑w_.length:Int)<(a+(↑d.length:Int))))==false))=true→okS w_ a (a+(↑d.length:Int)))<|
  bd (gop (true&&((decide ((↑w_.length:Int)<(a+(↑d.length:Int))))==false)) (wm N (cut w_ a (a+(↑d.length:Int))) d)) fun e=>
  bif (decide ((↑w_.length:Int)<(a+(↑d.length:Int))))||(!(e.getD default)) then(
  gd (okI b a)<|
  some (up b a (-1))) else(
  some b)) fun f=>
  gd (in64 (a+1))<|
  yu N d w_ c (a+1) f) else(
  some b)
def fo(N:Nat)(m:Mach)(d:(List Int))(w_:(List Int)):Option (List Int):=
 bd (z1g N m w_) fun b=>
 bd (
 yu N d w_ N 0 b) fun a=>
 some a
def xh(N:Nat)(w_:(List Int))(id_:(List Int))(k:Int)(b:Int):Nat→Int→Option (Ex (Unit) (Ex (Unit) (Bool)))
 |0,_=>none
 |c+1,a=>
  gd (in64 (a+k))<|
  gd (in64 ((a+k)-b))<|
  gd ((true&&((decide (((a+k)-b)≤(↑w_.length:Int)))==true))=true→okI id_ b)<|
  bif (decide (((a+k)-b)≤(↑w_.length:Int)))&&(decide ((ix id_ b)≠(-1))) then(
  gd ((true&&((decide (a≠b))==true))=true→okI id_ a)<|
  gd ((true&&((decide (a≠b))==true))=true→okI id_ b)<|
  gd ((true&&(((decide (a≠b))&&(decide ((ix id_ a)=(ix id_ b))))==true))=true→in64 (a+k))<|
  gd ((true&&(((decide (a≠b))&&(decide ((ix id_ a)=(ix id_ b))))==true))=true→in64 ((a+k)-b))<|
  gd ((true&&(((decide (a≠b))&&(decide ((ix id_ a)=(ix id_ b))))==true))=true→okI id_ ((a+k)-b))<|
  gd ((true&&((((decide (a≠b))&&(decide ((ix id_ a)=(ix id_ b))))&&(decide ((ix id_ ((a+k)-b))≠(-1))))==true))=true→in64 (a+k))<|
  gd ((true&&((((decide (a≠b))&&(decide ((ix id_ a)=(ix id_ b))))&&(decide ((ix id_ ((a+k)-b))≠(-1))))==true))=true→in64 ((a+k)-b))<|
  gd ((true&&((((decide (a≠b))&&(decide ((ix id_ a)=(ix id_ b))))&&(decide ((ix id_ ((a+k)-b))≠(-1))))==true))=true→okS w_ a ((a+k)-b))<|
  gd ((true&&((((decide (a≠b))&&(decide ((ix id_ a)=(ix id_ b))))&&(decide ((ix id_ ((a+k)-b))≠(-1))))==true))=true→okS w_ b k)<|
  bd (gop (true&&((((decide (a≠b))&&(decide ((ix id_ a)=(ix id_ b))))&&(decide ((ix id_ ((a+k)-b))≠(-1))))==true)) (wm N (cut w_ a ((a+k)-b)) (cut w_ b k))) fun d=>
  bif (((decide (a≠b))&&(decide ((ix id_ a)=(ix id_ b))))&&(decide ((ix id_ ((a+k)-b))≠(-1))))&&(d.getD default) then(
  some (Ex.rt (Ex.rt true))) else(
  gd (in64 (a+1))<|
  xh N w_ id_ k b c (a+1))) else(
  some (Ex.go ()))
def xk(N:Nat)(w_:(List Int))(id_:(List Int))(k:Int):Nat→Int→Option (Ex (Unit) (Bool))
 |0,_=>none
 |c+1,a=>
  bif decide (a<k) then(
  bd (
  xh N w_ id_ k a N 0) fun b=>
  Ex.on b (fun d=>
  gd (in64 (a+1))<|
  xk N w_ id_ k c (a+1)) some) else(
  some (Ex.go ()))
def z1w(N:Nat)(w_:(List Int))(id_:(List Int))(k:Int):Option Bool:=
 bd (
 xk N w_ id_ k N 0) fun a=>
 Ex.on a (fun b=>
 some false) some
def oz(N:Nat)(w_:(List Int))(d:(List Int))(b:(List Int)):Nat→(List Int)→Int→Option (List Int)
 |0,_,_=>none
 |e+1,c,a=>
  bif decide (a≤(↑w_.length:Int)) then(
  bd (
  gd (okI b a)<|
  bd (gop (true&&((decide ((ix b a)≠(-1)))==false)) (z1w N w_ b a)) fun f=>
  bif (decide ((ix b a)≠(-1)))||(f.getD default) then(
  gd (okI d a)<|
  gd (fits 8 c ([(ix d a)]:List Int))<|
  some (c++([(ix d a)]:List Int))) else(
  gd (fits 8 c ([(-1)]:List Int))<|
  some (c++([(-1)]:List Int)))) fun g=>
  gd (in64 (a+1))<|
  oz N w_ d b e g (a+1)) else(
  some c)
def z3l(N:Nat)(m:Mach)(d:(List Int))(w_:(List Int)):Option (List Int):=
 bd (z02 N m w_) fun c=>
 bd (fo N m d w_) fun a=>
 bd (
 oz N w_ c a N ([]:List Int) 0) fun b=>
 some b
def xx(N:Nat)(d:(List Int))(c:Int):Nat→Bool→Int→Option Bool
 |0,_,_=>none
 |e+1,b,a=>
  bif decide (a<(↑d.length:Int)) then(
  gd ((true&&(b==false))=true→okI d a)<|
  gd (in64 (a+1))<|
  xx N d c e (b||(decide ((ix d a)=c))) (a+1)) else(
  some b)
def bq(N:Nat)(w_:(List Int))(c:(List Int))(e:Int)(d:Int):Nat→Bool→Int→Option Bool
 |0,_,_=>none
 |f+1,b,a=>
  bif decide (a<(↑w_.length:Int)) then(
  gd ((true&&(b==false))=true→okI c a)<|
  gd (((true&&(b==false))&&((decide ((ix c a)=e))==true))=true→okI w_ a)<|
  gd (((true&&(b==false))&&(((decide ((ix c a)=e))&&(decide ((ix w_ a)=d)))==true))=true→in64 (a+1))<|
  gd (((true&&(b==false))&&(((decide ((ix c a)=e))&&(decide ((ix w_ a)=d)))==true))=true→okI c (a+1))<|
  gd (in64 (a+1))<|
  bq N w_ c e d f (b||(((decide ((ix c a)=e))&&(decide ((ix w_ a)=d)))&&(decide ((ix c (a+1))≠(-1))))) (a+1)) else(
  some b)
def bf(N:Nat)(m:Mach)(w_:(List Int))(e:(List Int))(c:Int)(d:List Int):Nat→Int→(List (Int×Int))→Option (List Int×List (Int×Int))
 |0,_,_=>none
 |f+1,a,b=>
  bif decide (a<m.inputs) then(
  bd (
  bd (
  bq N w_ e c a N false 0) fun g=>
  bif !g then(
  gd (fits 16 b ([((c,a):(Int×Int))]:List (Int×Int)))<|
  some (b++([((c,a):(Int×Int))]:List (Int×Int)))) else(
  some b)) fun h=>
  gd (in64 (a+1))<|
  bf N m w_ e c d f (a+1) h) else(
  some (d,b))
def bu(N:Nat)(m:Mach)(w_:(List Int))(i:(List Int))(c:(List Int)):Nat→Int→(List Int)→(List (Int×Int))→Option (List Int×List (Int×Int))
 |0,_,_,_=>none
 |g+1,a,b,d=>
  bif decide (a<(↑m.rows.length:Int)) then(
  bd (
  bd (
  xx N i a N false 0) fun h=>
  bd (
  bif !h then(
  gd (fits 8 b ([a]:List Int))<|
  some (b++([a]:List Int))) else(
  some b)) fun e=>
  bf N m w_ c a e N 0 d) fun f=>
  gd (in64 (a+1))<|
  bu N m w_ i c g (a+1) f.1 f.2) else(
  some (b,d))
def z2t(N:Nat)(m:Mach)(d:(List Int))(w_:(List Int)):Option Sa:=
 bd (fo N m d w_) fun c=>
 bd (z3l N m d w_) fun a=>
 gd (okI a 0)<|
 bd (
 bu N m w_ c a N 0 ([]:List Int) ([]:List (Int×Int))) fun b=>
 some (⟨decide ((ix a 0)=0),b.1,b.2⟩:Sa)
def z03(N:Nat)(x:Sg)(w_:(List Int)):Option Bool:=
 bd (lw N x) fun b=>
 bd (z01 N w_ b.1.inputs 40) fun d=>
 bd (z2j N (⟨b.1.inputs,b.1.outputs,b.1.rows⟩:Mach) b.2 d) fun a=>
 bd (z3a N (⟨b.1.inputs,b.1.outputs,b.1.rows⟩:Mach) b.2) fun c=>
 bif decide (c≠0) then(
 bd (gop (true&&((decide (a.2=c))==true)) (z0k N)) fun f=>
 some ((decide (a.2=c))&&(f.getD default))) else(
 bd (gop (true&&((decide (a.2=0))==true)) (z2t N (⟨b.1.inputs,b.1.outputs,b.1.rows⟩:Mach) b.2 d)) fun g=>
 bd (gop (true&&((decide (a.2=0))==true)) (z2e N (⟨a.1.fF,a.1.fB,a.1.fD⟩:Sa) (g.getD default))) fun e=>
 bd (gop (true&&(((((decide (a.2=0))&&(e.getD default))&&(decide ((↑a.1.fB.length:Int)=(↑a.1.fB.length:Int))))&&(decide ((↑a.1.fD.length:Int)=(↑a.1.fD.length:Int))))==true)) (z0k N)) fun h=>
 some (((((decide (a.2=0))&&(e.getD default))&&(decide ((↑a.1.fB.length:Int)=(↑a.1.fB.length:Int))))&&(decide ((↑a.1.fD.length:Int)=(↑a.1.fD.length:Int))))&&(h.getD default)))
def r9(N:Nat)(x:Sk):Option Int:=
 bd (z02 N x.fAi x.fV) fun a=>
 gd (in64 ((↑a.length:Int)-1))<|
 gd (okI a ((↑a.length:Int)-1))<|
 some (ix a ((↑a.length:Int)-1))
def bg(N:Nat)(w_:(List Int))(x_0_:Int)(x_1_:Int)(x_2_:(List (List Edge)))(x_3_:(List Int))(x_4_:List Int)(x_5_:Int):Option (List Int):=
 gd (fits 8 x_4_ w_)<|
 some (x_4_++w_)
def mh(N:Nat)(x_0_:Int)(x_1_:Int)(x_2_:(List (List Edge)))(x_3_:(List Int))(x_4_:List Int)(x_5_:Int):Option (List Int×Int):=
 bd (r9 N (⟨(⟨x_0_,x_1_,x_2_⟩:Mach),x_3_,x_4_,x_5_⟩:Sk)) fun a=>
 bd (bg N x_3_ x_0_ x_1_ x_2_ x_3_ x_4_ a) fun b=>
 some (b,a)
def ny(N:Nat)(m:Mach)(s:Int)(d:Int)(e:Int)(c:List (List Int)):Nat→Bool→Int→Option Bool
 |0,_,_=>none
 |f+1,a,b=>
  bif decide (b<(↑c.length:Int)) then(
  gd ((true&&(a==true))=true→okI c b)<|
  bd (gop (true&&(a==true)) (ww N N m s (ix c b))) fun g=>
  bd (gop (true&&(a==true)) (ww N N m s ((([]:List Int)++(ix c d))++([e]:List Int)))) fun h=>
  gd (in64 (b+1))<|
  ny N m s d e c f (a&&(decide ((g.getD default)≠(h.getD default)))) (b+1)) else(
  some a)
def ma(N:Nat)(m:Mach)(s:Int)(b:Int):Nat→Int→(List (List Int))→Option (Ex (List (List Int)) (Ex (Unit) ((List Int))))
 |0,_,_=>none
 |e+1,c,a=>
  bif decide (c<m.inputs) then(
  bd (
  gd (okI a b)<|
  gd (fits 8 ([]:List Int) (ix a b))<|
  gd (fits 8 (([]:List Int)++(ix a b)) ([c]:List Int))<|
  bd (
  ny N m s b c a N true 0) fun d=>
  bif d then(
  gd (fits 24 a ([((([]:List Int)++(ix a b))++([c]:List Int))]:List (List Int)))<|
  some (a++([((([]:List Int)++(ix a b))++([c]:List Int))]:List (List Int)))) else(
  some a)) fun f=>
  gd (in64 (c+1))<|
  ma N m s b e (c+1) f) else(
  some (Ex.go a))
def l7(N:Nat)(m:Mach)(s:Int)(t:Int):Nat→Int→(List (List Int))→Option (Ex (Unit) ((List Int)))
 |0,_,_=>none
 |c+1,a,b=>
  bif decide (a<(↑b.length:Int)) then(
  bd (
  gd (okI b a)<|
  bd (ww N N m s (ix b a)) fun d=>
  bif decide (d=t) then(
  gd (okI b a)<|
  some (Ex.rt (Ex.rt (ix b a)))) else(
  ma N m s a N 0 b)) fun e=>
  Ex.on e (fun f=>
  gd (in64 (a+1))<|
  l7 N m s t c (a+1) f) some) else(
  some (Ex.go ()))
def sj(N:Nat)(m:Mach)(s:Int)(t:Int):Option (List Int):=
 bd (
 l7 N m s t N 0 ([([]:List Int)]:List (List Int))) fun a=>
 Ex.on a (fun b=>
 some ([]:(List Int))) some
def df(N:Nat)(m:Mach)(d:(List Int)):Nat→Int→Int→(List Int)→(List Int)→(List (List Int))→Option (Int×List Int×List Int×List (List Int))
 |0,_,_,_,_,_=>none
 |j+1,a,b,f,g,c=>
  bif decide (a≤(↑m.rows.length:Int)) then(
  gd (okR a (↑m.rows.length:Int))<|
  gd (okI g (a%(↑m.rows.length:Int)))<|
  bd (r9 N (⟨(⟨m.inputs,m.outputs,m.rows⟩:Mach),d,f,b⟩:Sk)) fun k=>
  bd (sj N (⟨m.inputs,m.outputs,m.rows⟩:Mach) k (a%(↑m.rows.length:Int))) fun h=>
  gd (okI c (a%(↑m.rows.length:Int)))<|
  gd (okI (up c (a%(↑m.rows.length:Int)) h) (a%(↑m.rows.length:Int)))<|
  bd (bg N (ix (up c (a%(↑m.rows.length:Int)) h) (a%(↑m.rows.length:Int))) m.inputs m.outputs m.rows d f b) fun i=>
  bd (mh N m.inputs m.outputs m.rows d i b) fun e=>
  gd (in64 (a+1))<|
  df N m d j (a+1) e.2 e.1 (up g (a%(↑m.rows.length:Int)) b) (up c (a%(↑m.rows.length:Int)) h)) else(
  some (b,f,g,c))
def dx(N:Nat)(m:Mach)(d:(List Int))(c:Int×List Int×List Int×List (List Int))(a:Int):Nat→Int→Int→(List Int)→Option (Int×List Int)
 |0,_,_,_=>none
 |j+1,e,b,f=>
  bif decide (e<m.inputs) then(
  bd (
  gd (okI c.2.2.1 a)<|
  bif decide (b≠(ix c.2.2.1 a)) then(
  bd (r9 N (⟨(⟨m.inputs,m.outputs,m.rows⟩:Mach),d,f,b⟩:Sk)) fun k=>
  gd (okI c.2.2.1 a)<|
  bd (sj N (⟨m.inputs,m.outputs,m.rows⟩:Mach) k (ix c.2.2.1 a)) fun l=>
  bd (bg N l m.inputs m.outputs m.rows d f b) fun n=>
  bd (mh N m.inputs m.outputs m.rows d n b) fun h=>
  some (h.2,h.1)) else(
  some (b,f))) fun g=>
  gd (okI c.2.2.2 a)<|
  bd (bg N (ix c.2.2.2 a) m.inputs m.outputs m.rows d g.2 g.1) fun o=>
  bd (bg N ([e]:List Int) m.inputs m.outputs m.rows d o g.1) fun p=>
  bd (mh N m.inputs m.outputs m.rows d p g.1) fun i=>
  gd (in64 (e+1))<|
  dx N m d c a j (e+1) i.2 i.1) else(
  some (b,f))
def ah(N:Nat)(m:Mach)(d:(List Int))(f:Int×List Int×List Int×List (List Int)):Nat→Int→Int→(List Int)→Option (Int×List Int)
 |0,_,_,_=>none
 |g+1,a,b,c=>
  bif decide (a<(↑m.rows.length:Int)) then(
  bd (
  dx N m d f a N 0 b c) fun e=>
  gd (in64 (a+1))<|
  ah N m d f g (a+1) e.1 e.2) else(
  some (b,c))
def z3j(N:Nat)(m:Mach)(d:(List Int)):Option (List Int):=
 bd (mh N m.inputs m.outputs m.rows d ([]:List Int) 0) fun b=>
 gd (okM 8 (↑m.rows.length:Int))<|
 gd (okM 24 (↑m.rows.length:Int))<|
 bd (
 df N m d N 1 b.2 b.1 (mk (↑m.rows.length:Int) (0:Int)) (mk (↑m.rows.length:Int) ([]:List Int))) fun a=>
 bd (
 ah N m d a N 0 a.1 a.2.1) fun c=>
 some c.2
def z3q(N:Nat)(x:Sa):Option Bool:=
 gd ((true&&(x.fF==true))=true→in64 ((↑x.fB.length:Int)+(↑x.fD.length:Int)))<|
 some (x.fF&&(decide (((↑x.fB.length:Int)+(↑x.fD.length:Int))=0)))
def z0i(N:Nat)(x:Sg):Option Bool:=
 bd (lw N x) fun b=>
 bd (z4v N (⟨b.1.inputs,b.1.outputs,b.1.rows⟩:Mach) b.2) fun a=>
 bd (z3a N (⟨b.1.inputs,b.1.outputs,b.1.rows⟩:Mach) b.2) fun f=>
 bif decide (f≠0) then(
 bd (gop (true&&(((decide (a.2=f))&&(decide ((↑a.1.length:Int)=0)))==true)) (z0k N)) fun h=>
 some (((decide (a.2=f))&&(decide ((↑a.1.length:Int)=0)))&&(h.getD default))) else(
 bd (gop (true&&((decide (a.2≠0))==false)) (z3j N (⟨b.1.inputs,b.1.outputs,b.1.rows⟩:Mach) b.2)) fun i=>
 bd (gop (true&&((decide (a.2≠0))==false)) (wm N a.1 (i.getD default))) fun d=>
 gd ((true&&((((decide (a.2≠0))||(!(d.getD default)))||(decide ((↑a.1.length:Int)≠(↑a.1.length:Int))))==false))=true→in64 ((↑b.1.rows.length:Int)*b.1.inputs))<|
 gd ((true&&((((decide (a.2≠0))||(!(d.getD default)))||(decide ((↑a.1.length:Int)≠(↑a.1.length:Int))))==false))=true→in64 (((↑b.1.rows.length:Int)*b.1.inputs)+(↑b.1.rows.length:Int)))<|
 gd ((true&&((((decide (a.2≠0))||(!(d.getD default)))||(decide ((↑a.1.length:Int)≠(↑a.1.length:Int))))==false))=true→in64 ((((↑b.1.rows.length:Int)*b.1.inputs)+(↑b.1.rows.length:Int))+1))<|
 gd ((true&&((((decide (a.2≠0))||(!(d.getD default)))||(decide ((↑a.1.length:Int)≠(↑a.1.length:Int))))==false))=true→in64 ((2:Int)*(↑b.1.rows.length:Int)))<|
 gd ((true&&((((decide (a.2≠0))||(!(d.getD default)))||(decide ((↑a.1.length:Int)≠(↑a.1.length:Int))))==false))=true→in64 ((2:Int)*(↑b.2.length:Int)))<|
 gd ((true&&((((decide (a.2≠0))||(!(d.getD default)))||(decide ((↑a.1.length:Int)≠(↑a.1.length:Int))))==false))=true→in64 (((2:Int)*(↑b.1.rows.length:Int))+((2:Int)*(↑b.2.length:Int))))<|
 gd ((true&&((((decide (a.2≠0))||(!(d.getD default)))||(decide ((↑a.1.length:Int)≠(↑a.1.length:Int))))==false))=true→in64 (((((↑b.1.rows.length:Int)*b.1.inputs)+(↑b.1.rows.length:Int))+1)*(((2:Int)*(↑b.1.rows.length:Int))+((2:Int)*(↑b.2.length:Int)))))<|
 bif (((decide (a.2≠0))||(!(d.getD default)))||(decide ((↑a.1.length:Int)≠(↑a.1.length:Int))))||(decide ((((((↑b.1.rows.length:Int)*b.1.inputs)+(↑b.1.rows.length:Int))+1)*(((2:Int)*(↑b.1.rows.length:Int))+((2:Int)*(↑b.2.length:Int))))<(↑a.1.length:Int))) then(
 some false) else(
 bd (z2j N (⟨b.1.inputs,b.1.outputs,b.1.rows⟩:Mach) b.2 a.1) fun c=>
 bd (gop (true&&((decide (c.2=0))==true)) (z3q N (⟨c.1.fF,c.1.fB,c.1.fD⟩:Sa))) fun e=>
 bd (gop (true&&(((decide (c.2=0))&&(e.getD default))==true)) (z0k N)) fun g=>
 some (((decide (c.2=0))&&(e.getD default))&&(g.getD default))))
end GV
end Go.Proofs.YtplgbkaollfmkaaGreat
