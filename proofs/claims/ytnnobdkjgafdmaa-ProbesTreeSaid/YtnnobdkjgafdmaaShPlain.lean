import Derived.Test.YtnnobdkjgafdmaaShTypes
set_option linter.unusedVariables false
set_option linter.unusedSimpArgs false
set_option linter.unusedSectionVars false
namespace Go.Proofs.Ytnnobdkjgafdmaa
namespace GV
set_option maxRecDepth 100000
def z0k(N:Nat)(l_:(List Int))(k:Int):Option Int:=
 bif decide (k<(↑l_.length:Int)) then(
 gd (okI l_ k)<|
 gd (in64 (ix l_ k))<|
 some (ix l_ k)) else(
 some 0)
def dn(N:Nat)(x:Sg)(b:Int):Nat→(List Edge)→Int→Option (List Edge)
 |0,_,_=>none
 |e+1,d,a=>
  bif decide (a<((1:Int)+(x.fD%3))) then(
  gd (in64 (b*((1:Int)+(x.fD%3))))<|
  gd (in64 ((b*((1:Int)+(x.fD%3)))+a))<|
  bd (z0k N x.fJ ((b*((1:Int)+(x.fD%3)))+a)) fun c=>
  gd (okQ c ((1:Int)+(x.fG%6)))<|
  gd (okR (c/((1:Int)+(x.fG%6))) ((1:Int)+(x.fF%3)))<|
  gd (fits 16 d ([(⟨(-1),(c/((1:Int)+(x.fG%6)))%((1:Int)+(x.fF%3))⟩:Edge)]:List Edge))<|
  gd (in64 (a+1))<|
  dn N x b e (d++([(⟨(-1),(c/((1:Int)+(x.fG%6)))%((1:Int)+(x.fF%3))⟩:Edge)]:List Edge)) (a+1)) else(
  some d)
def gy(N:Nat)(x:Sg):Nat→Int→(List (List Edge))→Option (List (List Edge))
 |0,_,_=>none
 |d+1,a,b=>
  bif decide (a<((1:Int)+(x.fG%6))) then(
  bd (
  dn N x a N ([]:List Edge) 0) fun c=>
  gd (fits 24 b [c])<|
  gd (in64 (a+1))<|
  gy N x d (a+1) (b++[c])) else(
  some b)
def yz(N:Nat)(x:Sg)(d:Int)(b:List (List Edge)):Nat→(List Int)→Int→Option (List Int)
 |0,_,_=>none
 |e+1,c,a=>
  gd (in64 (d*((1:Int)+(x.fD%3))))<|
  bif decide (a<(d*((1:Int)+(x.fD%3)))) then(
  bd (
  gd (okQ a ((1:Int)+(x.fD%3)))<|
  gd (okI b (a/((1:Int)+(x.fD%3))))<|
  gd (okR a ((1:Int)+(x.fD%3)))<|
  gd (okI (ix b (a/((1:Int)+(x.fD%3)))) (a%((1:Int)+(x.fD%3))))<|
  bif decide (((ix (ix b (a/((1:Int)+(x.fD%3)))) (a%((1:Int)+(x.fD%3)))).to)<0) then(
  gd (fits 8 c ([a]:List Int))<|
  some (c++([a]:List Int))) else(
  some c)) fun f=>
  gd (in64 (a+1))<|
  yz N x d b e f (a+1)) else(
  some c)
def dz(N:Nat)(x:Sg):Nat→Int→(List (List Edge))→Option (List (List Edge))
 |0,_,_=>none
 |e+1,a,c=>
  bif decide (a<((1:Int)+(x.fG%6))) then(
  bd (
  yz N x a c N ([]:List Int) 0) fun d=>
  gd (okI d 0)<|
  bd (
  gd (in64 (a-1))<|
  bif decide ((a-1)<(↑x.fH.length:Int)) then(
  gd (in64 (a-1))<|
  gd (okI x.fH (a-1))<|
  gd (in64 (ix x.fH (a-1)))<|
  gd (okR (ix x.fH (a-1)) (↑d.length:Int))<|
  gd (okI d ((ix x.fH (a-1))%(↑d.length:Int)))<|
  some (ix d ((ix x.fH (a-1))%(↑d.length:Int)))) else(
  some (ix d 0))) fun b=>
  gd (okQ b ((1:Int)+(x.fD%3)))<|
  gd (okI c (b/((1:Int)+(x.fD%3))))<|
  gd (okR b ((1:Int)+(x.fD%3)))<|
  gd (okI (ix c (b/((1:Int)+(x.fD%3)))) (b%((1:Int)+(x.fD%3))))<|
  gd (in64 (a+1))<|
  dz N x e (a+1) (up c (b/((1:Int)+(x.fD%3))) (up (ix c (b/((1:Int)+(x.fD%3)))) (b%((1:Int)+(x.fD%3))) (⟨a,(ix (ix c (b/((1:Int)+(x.fD%3)))) (b%((1:Int)+(x.fD%3)))).out⟩:Edge)))) else(
  some c)
def yx(N:Nat)(x:Sg)(a:Int):Nat→Int→(List (List Edge))→Option (List (List Edge))
 |0,_,_=>none
 |e+1,b,c=>
  bif decide (b<((1:Int)+(x.fD%3))) then(
  bd (
  gd (okI c a)<|
  gd (okI (ix c a) b)<|
  bif decide (((ix (ix c a) b).to)<0) then(
  gd (okI c a)<|
  gd (in64 (a*((1:Int)+(x.fD%3))))<|
  gd (in64 ((a*((1:Int)+(x.fD%3)))+b))<|
  bd (z0k N x.fJ ((a*((1:Int)+(x.fD%3)))+b)) fun d=>
  gd (okR d ((1:Int)+(x.fG%6)))<|
  gd (okI (ix c a) b)<|
  some (up c a (up (ix c a) b (⟨d%((1:Int)+(x.fG%6)),(ix (ix c a) b).out⟩:Edge)))) else(
  some c)) fun f=>
  gd (in64 (b+1))<|
  yx N x a e (b+1) f) else(
  some c)
def dw(N:Nat)(x:Sg):Nat→Int→(List (List Edge))→Option (List (List Edge))
 |0,_,_=>none
 |c+1,a,b=>
  bif decide (a<((1:Int)+(x.fG%6))) then(
  bd (
  yx N x a N 0 b) fun d=>
  gd (in64 (a+1))<|
  dw N x c (a+1) d) else(
  some b)
def z3a(N:Nat)(x:Sg):Option Mach:=
 gd (okR x.fG 6)<|
 gd (in64 (x.fG%6))<|
 gd (in64 ((1:Int)+(x.fG%6)))<|
 gd (okR x.fD 3)<|
 gd (in64 (x.fD%3))<|
 gd (in64 ((1:Int)+(x.fD%3)))<|
 gd (okR x.fF 3)<|
 gd (in64 (x.fF%3))<|
 gd (in64 ((1:Int)+(x.fF%3)))<|
 bd (
 gy N x N 0 ([]:List (List Edge))) fun c=>
 bd (
 dz N x N 1 c) fun a=>
 bd (
 dw N x N 0 a) fun b=>
 some (⟨(1:Int)+(x.fD%3),(1:Int)+(x.fF%3),b⟩:Mach)
def yj(N:Nat)(m:Mach)(marked:(List (List Bool)))(s:Int)(t:Int):Nat→Int→Option (Ex (Unit) (Int))
 |0,_=>none
 |b+1,a=>
  bif decide (a<m.inputs) then(
  gd (okI m.rows s)<|
  gd (okI (ix m.rows s) a)<|
  gd (okI m.rows t)<|
  gd (okI (ix m.rows t) a)<|
  gd (((true&&((decide (((ix (ix m.rows s) a).out)≠((ix (ix m.rows t) a).out)))==false))&&(((decide (0≤((ix (ix m.rows s) a).to)))&&(decide (0≤((ix (ix m.rows t) a).to))))==true))=true→okI marked ((ix (ix m.rows s) a).to))<|
  gd (((true&&((decide (((ix (ix m.rows s) a).out)≠((ix (ix m.rows t) a).out)))==false))&&(((decide (0≤((ix (ix m.rows s) a).to)))&&(decide (0≤((ix (ix m.rows t) a).to))))==true))=true→okI (ix marked ((ix (ix m.rows s) a).to)) ((ix (ix m.rows t) a).to))<|
  bif (decide (((ix (ix m.rows s) a).out)≠((ix (ix m.rows t) a).out)))||(((decide (0≤((ix (ix m.rows s) a).to)))&&(decide (0≤((ix (ix m.rows t) a).to))))&&(ix (ix marked ((ix (ix m.rows s) a).to)) ((ix (ix m.rows t) a).to))) then(
  some (Ex.rt 1)) else(
  gd (in64 (a+1))<|
  yj N m marked s t b (a+1))) else(
  some (Ex.go ()))
def z2e(N:Nat)(m:Mach)(marked:(List (List Bool)))(s:Int)(t:Int):Option Int:=
 bd (
 yj N m marked s t N 0) fun a=>
 Ex.on a (fun b=>
 some 0) some
def xz(N:Nat)(m:Mach):Nat→(List (List Bool))→Int→Option (List (List Bool))
 |0,_,_=>none
 |c+1,a,b=>
  bif decide (b<(↑m.rows.length:Int)) then(
  gd (okM 1 (↑m.rows.length:Int))<|
  gd (fits 24 a [(mk (↑m.rows.length:Int) false)])<|
  gd (in64 (b+1))<|
  xz N m c (a++[(mk (↑m.rows.length:Int) false)]) (b+1)) else(
  some a)
def gu(N:Nat)(m:Mach)(d:List (List Bool))(b:Int):Nat→Int→(List (List Bool))→Option (List (List Bool))
 |0,_,_=>none
 |e+1,a,c=>
  bif decide (a<(↑m.rows.length:Int)) then(
  gd (okI c b)<|
  gd (okI d b)<|
  gd (okI (ix d b) a)<|
  bd (gop (true&&((ix (ix d b) a)==false)) (z2e N m d b a)) fun f=>
  gd (okI (ix c b) a)<|
  gd (in64 (a+1))<|
  gu N m d b e (a+1) (up c b (up (ix c b) a ((ix (ix d b) a)||(decide ((f.getD default)=1)))))) else(
  some c)
def xx(N:Nat)(m:Mach)(c:List (List Bool)):Nat→(List (List Bool))→Int→Option (List (List Bool))
 |0,_,_=>none
 |d+1,b,a=>
  bif decide (a<(↑m.rows.length:Int)) then(
  bd (
  gd (okM 1 (↑m.rows.length:Int))<|
  gd (fits 24 b [(mk (↑m.rows.length:Int) false)])<|
  gu N m c a N 0 (b++[(mk (↑m.rows.length:Int) false)])) fun e=>
  gd (in64 (a+1))<|
  xx N m c d e (a+1)) else(
  some b)
def xy(N:Nat)(m:Mach)(k:Int):Nat→(List (List Bool))→Int→Option (List (List Bool))
 |0,_,_=>none
 |c+1,b,a=>
  bif decide (a<k) then(
  bd (
  xx N m b N ([]:List (List Bool)) 0) fun d=>
  gd (in64 (a+1))<|
  xy N m k c d (a+1)) else(
  some b)
def z0j(N:Nat)(m:Mach)(k:Int):Option (List (List Bool)):=
 bd (
 xz N m N ([]:List (List Bool)) 0) fun a=>
 bd (
 xy N m k N a 0) fun b=>
 some b
def uo(N:Nat)(marked:(List (List Bool)))(c:List Int)(b:Int):Nat→Int→Int→Option Int
 |0,_,_=>none
 |e+1,d,a=>
  bif decide (a<b) then(
  bd (
  gd (okI marked b)<|
  gd (okI (ix marked b) a)<|
  bif !(ix (ix marked b) a) then(
  gd (okI c a)<|
  some (ix c a)) else(
  some d)) fun f=>
  gd (in64 (a+1))<|
  uo N marked c b e f (a+1)) else(
  some d)
def yl(N:Nat)(marked:(List (List Bool))):Nat→(List Int)→Int→Int→Option (List Int)
 |0,_,_,_=>none
 |f+1,a,b,c=>
  bif decide (c<(↑marked.length:Int)) then(
  bd (
  uo N marked a c N (-1) 0) fun e=>
  bd (
  bif decide (e<0) then(
  gd (in64 (b+1))<|
  some (b+1,b)) else(
  some (b,e))) fun d=>
  gd (fits 8 a ([d.2]:List Int))<|
  gd (in64 (c+1))<|
  yl N marked f (a++([d.2]:List Int)) d.1 (c+1)) else(
  some a)
def fw(N:Nat)(marked:(List (List Bool))):Option (List Int):=
 bd (
 yl N marked N ([]:List Int) 0 0) fun a=>
 some a
def z4g(N:Nat)(m:Mach)(k:Int):Option (List Int):=
 bd (z0j N m k) fun b=>
 bd (fw N b) fun a=>
 some a
def z05(N:Nat)(m:Mach):Option (List Int):=
 bd (z4g N m (↑m.rows.length:Int)) fun a=>
 some a
def z3m(N:Nat)(m:Mach)(s:Int)(i:Int):Option Edge:=
 bif decide (s<0) then(
 some (⟨(-1),(-1)⟩:Edge)) else(
 gd (okI m.rows s)<|
 gd (okI (ix m.rows s) i)<|
 some (⟨(ix (ix m.rows s) i).to,(ix (ix m.rows s) i).out⟩:Edge))
def sj(N:Nat):Nat→Mach→Int→(List Int)→Option Int
 |0,_,_,_=>none
 |F+1,m,s,w_=>
  bif decide ((↑w_.length:Int)=0) then(
  some s) else(
  gd (okI w_ 0)<|
  bd (z3m N m s (ix w_ 0)) fun b=>
  gd (okS w_ 1 (↑w_.length:Int))<|
  bd ((sj N F) m b.to (cut w_ 1 (↑w_.length:Int))) fun a=>
  some a)
def gz(N:Nat)(inputs:Int):Nat→Int→(List Int)→Option (Ex (List Int) ((List Int)))
 |0,_,_=>none
 |c+1,a,b=>
  bif decide (0≤a) then(
  gd (okI b a)<|
  gd (in64 ((ix b a)+1))<|
  bif decide (((ix b a)+1)<inputs) then(
  gd (okI b a)<|
  gd (in64 ((ix b a)+1))<|
  gd (okI b a)<|
  some (Ex.rt (up b a ((ix b a)+1)))) else(
  gd (okI b a)<|
  gd (in64 (a-1))<|
  gz N inputs c (a-1) (up b a 0))) else(
  some (Ex.go b))
def z1f(N:Nat)(w_:(List Int))(inputs:Int):Option (List Int):=
 gd (fits 8 ([]:List Int) w_)<|
 bd (
 gd (in64 ((↑(([]:List Int)++w_).length:Int)-1))<|
 gz N inputs N ((↑(([]:List Int)++w_).length:Int)-1) (([]:List Int)++w_)) fun b=>
 Ex.on b (fun a=>
 gd (fits 8 a ([0]:List Int))<|
 some (a++([0]:List Int))) some
def yg(N:Nat)(m:Mach)(from_:Int):Nat→(List Int)→(List (List Int))→(List Bool)→Option (List (List Int)×List Bool)
 |0,_,_,_=>none
 |g+1,c,d,b=>
  bif decide ((↑c.length:Int)<(↑m.rows.length:Int)) then(
  bd (
  bd (sj N N m from_ c) fun a=>
  gd ((true&&((decide (0≤a))==true))=true→okI b a)<|
  bif (decide (0≤a))&&(!(ix b a)) then(
  gd (okI b a)<|
  gd (okI d a)<|
  some ((up d a c),(up b a true))) else(
  some (d,b))) fun e=>
  bd (z1f N c m.inputs) fun f=>
  yg N m from_ g f e.1 e.2) else(
  some (d,b))
def z10(N:Nat)(m:Mach)(from_:Int):Option ((List (List Int))×(List Bool)):=
 gd (okM 24 (↑m.rows.length:Int))<|
 gd (okM 1 (↑m.rows.length:Int))<|
 bd (
 yg N m from_ N ([]:List Int) (mk (↑m.rows.length:Int) ([]:List Int)) (mk (↑m.rows.length:Int) false)) fun a=>
 some (a.1,a.2)
def z1v(N:Nat)(m:Mach):Option ((List (List Int))×(List Bool)):=
 bd (z10 N m 0) fun a=>
 some (a.1,a.2)
def dx(N:Nat)(a:(List Int))(b:(List Int)):Nat→Int→Option (Ex (Unit) (Int))
 |0,_=>none
 |d+1,c=>
  bif decide (c<(↑a.length:Int)) then(
  gd (okI a c)<|
  gd (okI b c)<|
  bif decide ((ix a c)≠(ix b c)) then(
  gd (okI a c)<|
  gd (okI b c)<|
  bif decide ((ix a c)<(ix b c)) then(
  some (Ex.rt 1)) else(
  some (Ex.rt 0))) else(
  gd (in64 (c+1))<|
  dx N a b d (c+1))) else(
  some (Ex.go ()))
def z0i(N:Nat)(a:(List Int))(b:(List Int)):Option Int:=
 bif decide ((↑a.length:Int)≠(↑b.length:Int)) then(
 bif decide ((↑a.length:Int)<(↑b.length:Int)) then(
 some 1) else(
 some 0)) else(
 bd (
 dx N a b N 0) fun c=>
 Ex.on c (fun d=>
 some 0) some)
def bu(N:Nat)(d:(List (List Int))×(List Bool))(b:List Int)(c:Int):Nat→Int→Option Int
 |0,_=>none
 |e+1,a=>
  gd ((true&&((decide (a<(↑b.length:Int)))==true))=true→okI b a)<|
  gd ((true&&((decide (a<(↑b.length:Int)))==true))=true→okI d.1 (ix b a))<|
  gd ((true&&((decide (a<(↑b.length:Int)))==true))=true→okI d.1 c)<|
  bd (gop (true&&((decide (a<(↑b.length:Int)))==true)) (z0i N (ix d.1 (ix b a)) (ix d.1 c))) fun f=>
  bif (decide (a<(↑b.length:Int)))&&(decide ((f.getD default)=1)) then(
  gd (in64 (a+1))<|
  bu N d b c e (a+1)) else(
  some a)
def bq(N:Nat)(d:(List (List Int))×(List Bool)):Nat→(List Int)→Int→Option (List Int)
 |0,_,_=>none
 |e+1,a,b=>
  bif decide (b<(↑d.1.length:Int)) then(
  bd (
  gd (okI d.2 b)<|
  bif !(ix d.2 b) then(
  some a) else(
  bd (
  bu N d a b N 0) fun c=>
  gd (okS a 0 c)<|
  gd (fits 8 ([]:List Int) (cut a 0 c))<|
  gd (fits 8 (([]:List Int)++(cut a 0 c)) ([b]:List Int))<|
  gd (okS a c (↑a.length:Int))<|
  gd (fits 8 ((([]:List Int)++(cut a 0 c))++([b]:List Int)) (cut a c (↑a.length:Int)))<|
  some (((([]:List Int)++(cut a 0 c))++([b]:List Int))++(cut a c (↑a.length:Int))))) fun f=>
  gd (in64 (b+1))<|
  bq N d e f (b+1)) else(
  some a)
def z2f(N:Nat)(m:Mach):Option (List Int):=
 bd (z1v N m) fun b=>
 bd (
 bq N b N ([]:List Int) 0) fun a=>
 some a
def gm(N:Nat)(d:(List Int))(a:(List Int))(c:Int):Nat→Int→Int→Option Int
 |0,_,_=>none
 |f+1,e,b=>
  bif decide (b<c) then(
  bd (
  gd (okI a b)<|
  gd (okI d (ix a b))<|
  gd (okI a c)<|
  gd (okI d (ix a c))<|
  bif decide ((ix d (ix a b))=(ix d (ix a c))) then(
  some 1) else(
  some e)) fun g=>
  gd (in64 (b+1))<|
  gm N d a c f g (b+1)) else(
  some e)
def xu(N:Nat)(g:(List Int))(b:(List Int)):Nat→(List Int)→Int→Option (List Int)
 |0,_,_=>none
 |d+1,c,a=>
  bif decide (a<(↑b.length:Int)) then(
  bd (
  bd (
  gm N g b a N 0 0) fun e=>
  bif decide (e=0) then(
  gd (okI b a)<|
  gd (fits 8 c ([(ix b a)]:List Int))<|
  some (c++([(ix b a)]:List Int))) else(
  some c)) fun f=>
  gd (in64 (a+1))<|
  xu N g b d f (a+1)) else(
  some c)
def z0p(N:Nat)(m:Mach):Option (List Int):=
 bd (z05 N m) fun c=>
 bd (z2f N m) fun a=>
 bd (
 xu N c a N ([]:List Int) 0) fun b=>
 some b
def xe(N:Nat)(m:Mach)(a:Int):Nat→Int→(List Bool)→Option (List Bool)
 |0,_,_=>none
 |d+1,b,c=>
  bif decide (b<m.inputs) then(
  bd (
  gd (okI m.rows a)<|
  gd (okI (ix m.rows a) b)<|
  gd (okI c a)<|
  bif (ix c a)&&(decide (0≤((ix (ix m.rows a) b).to))) then(
  gd (okI c ((ix (ix m.rows a) b).to))<|
  some (up c ((ix (ix m.rows a) b).to) true)) else(
  some c)) fun e=>
  gd (in64 (b+1))<|
  xe N m a d (b+1) e) else(
  some c)
def xq(N:Nat)(m:Mach):Nat→Int→(List Bool)→Option (List Bool)
 |0,_,_=>none
 |c+1,a,b=>
  bif decide (a<(↑m.rows.length:Int)) then(
  bd (
  xe N m a N 0 b) fun d=>
  gd (in64 (a+1))<|
  xq N m c (a+1) d) else(
  some b)
def bz(N:Nat)(m:Mach):Nat→Int→(List Bool)→Option (List Bool)
 |0,_,_=>none
 |c+1,a,b=>
  bif decide (a<(↑m.rows.length:Int)) then(
  bd (
  xq N m N 0 b) fun d=>
  gd (in64 (a+1))<|
  bz N m c (a+1) d) else(
  some b)
def z04(N:Nat)(m:Mach)(from_:Int):Option (List Bool):=
 gd (okM 1 (↑m.rows.length:Int))<|
 gd (okI (mk (↑m.rows.length:Int) false) from_)<|
 bd (
 bz N m N 0 (up (mk (↑m.rows.length:Int) false) from_ true)) fun a=>
 some a
def tu(N:Nat)(e:(List Int))(d:(List Int))(c:(List Bool))(a:Int):Nat→Int→Int→Option Int
 |0,_,_=>none
 |g+1,f,b=>
  bif decide (b<(↑d.length:Int)) then(
  bd (
  gd (okI c a)<|
  gd ((true&&((ix c a)==true))=true→okI d b)<|
  gd ((true&&((ix c a)==true))=true→okI e (ix d b))<|
  gd ((true&&((ix c a)==true))=true→okI e a)<|
  bif (ix c a)&&(decide ((ix e (ix d b))=(ix e a))) then(
  some b) else(
  some f)) fun h=>
  gd (in64 (b+1))<|
  tu N e d c a g h (b+1)) else(
  some f)
def mq(N:Nat)(f:(List Int))(c:(List Int))(d:(List Bool)):Nat→(List Int)→Int→Option (List Int)
 |0,_,_=>none
 |g+1,b,a=>
  bif decide (a<(↑f.length:Int)) then(
  bd (
  tu N f c d a N (-1) 0) fun e=>
  gd (fits 8 b ([e]:List Int))<|
  gd (in64 (a+1))<|
  mq N f c d g (b++([e]:List Int)) (a+1)) else(
  some b)
def z4f(N:Nat)(m:Mach):Option (List Int):=
 bd (z05 N m) fun d=>
 bd (z0p N m) fun a=>
 bd (z04 N m 0) fun b=>
 bd (
 mq N d a b N ([]:List Int) 0) fun c=>
 some c
def xk(N:Nat)(m:Mach)(c:(List Int))(e:(List Int))(a:Int):Nat→(List Edge)→Int→Option (List Edge)
 |0,_,_=>none
 |g+1,f,b=>
  bif decide (b<m.inputs) then(
  gd (okI c a)<|
  gd (okI m.rows (ix c a))<|
  gd (okI (ix m.rows (ix c a)) b)<|
  bd (
  bif decide (0≤((ix (ix m.rows (ix c a)) b).to)) then(
  gd (okI e ((ix (ix m.rows (ix c a)) b).to))<|
  some (ix e ((ix (ix m.rows (ix c a)) b).to))) else(
  some ((ix (ix m.rows (ix c a)) b).to))) fun d=>
  gd (fits 16 f ([(⟨d,(ix (ix m.rows (ix c a)) b).out⟩:Edge)]:List Edge))<|
  gd (in64 (b+1))<|
  xk N m c e a g (f++([(⟨d,(ix (ix m.rows (ix c a)) b).out⟩:Edge)]:List Edge)) (b+1)) else(
  some f)
def xh(N:Nat)(m:Mach)(e:(List Int))(c:(List Int)):Nat→Int→(List (List Edge))→Option (List (List Edge))
 |0,_,_=>none
 |f+1,a,b=>
  bif decide (a<(↑e.length:Int)) then(
  bd (
  xk N m e c a N ([]:List Edge) 0) fun d=>
  gd (fits 24 b ([d]:List (List Edge)))<|
  gd (in64 (a+1))<|
  xh N m e c f (a+1) (b++([d]:List (List Edge)))) else(
  some b)
def z1a(N:Nat)(m:Mach):Option Mach:=
 bd (z0p N m) fun c=>
 bd (z4f N m) fun a=>
 bd (
 xh N m c a N 0 ([]:List (List Edge))) fun b=>
 some (⟨m.inputs,m.outputs,b⟩:Mach)
def z1g(N:Nat)(x:Sj):Option Mach:=
 gd (okR x.fM.fG 5)<|
 bd (z3a N (⟨x.fM.fG%5,x.fM.fD,x.fM.fF,x.fM.fH,x.fM.fJ⟩:Sg)) fun b=>
 bd (z1a N b) fun a=>
 some (⟨a.inputs,a.outputs,a.rows⟩:Mach)
def wy(N:Nat)(s:(List Edge))(f:Edge→Option Bool):Nat→Int→Option (Ex (Unit) (Int))
 |0,_=>none
 |c+1,a=>
  bif decide (a<(↑s.length:Int)) then(
  gd (okI s a)<|
  bd (f (ix s a)) fun b=>
  bif b then(
  some (Ex.rt a)) else(
  gd (in64 (a+1))<|
  wy N s f c (a+1))) else(
  some (Ex.go ()))
def lu(N:Nat)(s:(List Edge))(f:Edge→Option Bool):Option Int:=
 bd (
 wy N s f N 0) fun a=>
 Ex.on a (fun b=>
 some (-1)) some
def ib(N:Nat)(s:(List Edge))(f:Edge→Option Bool):Option Bool:=
 bd (lu N s f) fun a=>
 some (decide (0≤a))
def z5m(N:Nat):Option Edge:=
 some (⟨(-1),(-1)⟩:Edge)
def zbz(N:Nat)(m:Mach)(x:Edge):Option Bool:=
 bd (z5m N) fun a=>
 some ((decide (x.to=a.to∧x.out=a.out))||((((decide (0≤x.to))&&(decide (x.to<(↑m.rows.length:Int))))&&(decide (0≤x.out)))&&(decide (x.out<m.outputs))))
def z99(N:Nat)(x:Edge)(p0_:Mach):Option Bool:=
 bd (zbz N p0_ x) fun a=>
 some (!a)
def rq(N:Nat)(m:Mach):Nat→Int→Option (Ex (Unit) (Int))
 |0,_=>none
 |b+1,a=>
  bif decide (a<(↑m.rows.length:Int)) then(
  gd (okI m.rows a)<|
  bd (gop (true&&((decide ((↑(ix m.rows a).length:Int)≠m.inputs))==false)) (ib N (ix m.rows a) (fun d=>z99 N d m))) fun c=>
  bif (decide ((↑(ix m.rows a).length:Int)≠m.inputs))||(c.getD default) then(
  some (Ex.rt 1)) else(
  gd (in64 (a+1))<|
  rq N m b (a+1))) else(
  some (Ex.go ()))
def z0u(N:Nat)(m:Mach):Option Int:=
 bif ((decide (16<m.inputs))||(decide (16<m.outputs)))||(decide (64<(↑m.rows.length:Int))) then(
 some 3) else(
 bif ((decide (m.inputs<1))||(decide (m.outputs<1)))||(decide ((↑m.rows.length:Int)<1)) then(
 some 1) else(
 bd (
 rq N m N 0) fun a=>
 Ex.on a (fun b=>
 some 0) some))
def z9y(N:Nat)(m:Mach):Option (Mach×Mach×Mach):=
 some (m,m,m)
def z7z(N:Nat)(m:Mach):Option Mach:=
 some m
def aa(N:Nat)(σ:Type)(B:((Int×Int)×Edge)→σ→Option (Bool×σ))(p0_:Mach)(c:Int):Nat→σ→Int→Option (Ex (σ) (σ))
 |0,_,_=>none
 |e+1,d,a=>
  bif decide (a<(↑(ix p0_.rows c).length:Int)) then(
  gd (okI (ix p0_.rows c) a)<|
  bd (B (((c,a):(Int×Int)),(⟨(ix (ix p0_.rows c) a).to,(ix (ix p0_.rows c) a).out⟩:Edge)) d) fun b=>
  bif !b.1 then(
  some (Ex.rt b.2)) else(
  gd (in64 (a+1))<|
  aa N σ B p0_ c e b.2 (a+1))) else(
  some (Ex.go d))
def si(N:Nat)(σ:Type)(B:((Int×Int)×Edge)→σ→Option (Bool×σ))(p0_:Mach):Nat→σ→Int→Option σ
 |0,_,_=>none
 |e+1,d,a=>
  bif decide (a<(↑p0_.rows.length:Int)) then(
  bd (
  gd (okI p0_.rows a)<|
  aa N σ B p0_ a N d 0) fun b=>
  Ex.on b (fun c=>
  gd (in64 (a+1))<|
  si N σ B p0_ e c (a+1)) some) else(
  some d)
def z4u(N:Nat)(p0_:Mach)(σ:Type)(B:((Int×Int)×Edge)→σ→Option (Bool×σ))(s0:σ):Option σ:=
 si N σ B p0_ N s0 0
def z4y(N:Nat)(s:(List (Int×Int))):Option (List (Int×Int)):=
 gd (okS s 0 (↑s.length:Int))<|
 some (cut s 0 (↑s.length:Int))
def z3i(N:Nat)(m:Mach):Option (List (Int×Int)):=
 bd (z7z N m) fun f=>
 bd (z4u N f (List (Int×Int)) (fun a b=>
 bd (z5m N) fun c=>
 bif decide (a.2.to=c.to∧a.2.out=c.out) then(
 gd (fits 16 b ([((a.1.1,a.1.2):(Int×Int))]:List (Int×Int)))<|
 some (true,(b++([((a.1.1,a.1.2):(Int×Int))]:List (Int×Int))))) else(
 some (true,b))) ([]:List (Int×Int))) fun d=>
 bd (z4y N d) fun e=>
 some e
def z4a(N:Nat)(m:Mach):Option (Bool×Int):=
 bd (z0u N m) fun b=>
 bif decide (b≠0) then(
 some (false,b)) else(
 bd (z3i N m) fun a=>
 some ((decide ((↑a.length:Int)=0)),0))
def z3x(N:Nat)(p0_:Mach):Option Bool:=
 bd (z4a N p0_) fun a=>
 some a.1
def ng(N:Nat)(self:Int→List Bool→Mach→Option (List Bool))(s:Int)(p1_:Mach):Nat→Int→(List Bool)→Option (List Bool)
 |0,_,_=>none
 |c+1,a,b=>
  bif decide (a<(↑(ix p1_.rows s).length:Int)) then(
  gd (okI (ix p1_.rows s) a)<|
  bd (self ((ix (ix p1_.rows s) a).to) b p1_) fun d=>
  gd (in64 (a+1))<|
  ng N self s p1_ c (a+1) d) else(
  some b)
def p9(N:Nat):Nat→Int→List Bool→Mach→Option (List Bool)
 |0,_,_,_=>none
 |F+1,s,p0_,p1_=>
  gd ((true&&((decide (s=(-1)))==false))=true→okI p0_ s)<|
  bif (decide (s=(-1)))||(ix p0_ s) then(
  some p0_) else(
  gd (okI p0_ s)<|
  gd (okI p1_.rows s)<|
  ng N (p9 N F) s p1_ N 0 (up p0_ s true))
def mr(N:Nat)(s:(List Bool))(v_:Bool):Nat→Int→Option (Ex (Unit) (Int))
 |0,_=>none
 |b+1,a=>
  bif decide (a<(↑s.length:Int)) then(
  gd (okI s a)<|
  bif decide (v_=(ix s a)) then(
  some (Ex.rt a)) else(
  gd (in64 (a+1))<|
  mr N s v_ b (a+1))) else(
  some (Ex.go ()))
def z3s(N:Nat)(s:(List Bool))(v_:Bool):Option Int:=
 bd (
 mr N s v_ N 0) fun a=>
 Ex.on a (fun b=>
 some (-1)) some
def z1u(N:Nat)(s:(List Bool))(v_:Bool):Option Bool:=
 bd (z3s N s v_) fun a=>
 some (decide (0≤a))
def z3e(N:Nat)(m:Mach):Option (Bool×Int):=
 bd (z0u N m) fun c=>
 bif decide (c≠0) then(
 some (false,c)) else(
 gd (okM 1 (↑m.rows.length:Int))<|
 bd (p9 N N 0 (mk (↑m.rows.length:Int) false) m) fun a=>
 bd (z1u N a false) fun b=>
 some ((!b),0))
def z3u(N:Nat)(p0_:Mach):Option Bool:=
 bd (z3e N p0_) fun a=>
 some a.1
def z8b(N:Nat)(m:Mach):Option Mach:=
 some m
def ay(N:Nat)(m:Mach)(p:(List Int))(s:Int):Nat→Int→(Arr 16 (Int×Int))→Option (Arr 16 (Int×Int))
 |0,_,_=>none
 |c+1,a,b=>
  bif decide (a<(↑(ix m.rows s).length:Int)) then(
  bd (
  gd (okI (ix m.rows s) a)<|
  gd (okI b.1 a)<|
  bif decide (((ix (ix m.rows s) a).to)≠(-1)) then(
  gd (okI p ((ix (ix m.rows s) a).to))<|
  gd (okI (z0g b a (((ix (ix m.rows s) a).out,(-1)):(Int×Int))).1 a)<|
  some (z0g (z0g b a (((ix (ix m.rows s) a).out,(-1)):(Int×Int))) a (((ix (z0g b a (((ix (ix m.rows s) a).out,(-1)):(Int×Int))).1 a).1,(ix p ((ix (ix m.rows s) a).to))):(Int×Int)))) else(
  some (z0g b a (((ix (ix m.rows s) a).out,(-1)):(Int×Int))))) fun d=>
  gd (in64 (a+1))<|
  ay N m p s c (a+1) d) else(
  some b)
def z8g(N:Nat)(m:Mach)(p:(List Int))(s:Int):Option (Arr 16 (Int×Int)):=
 bd (
 gd (okI m.rows s)<|
 ay N m p s N 0 (lq 16 (List.replicate 16 (((0:Int),(0:Int)):(Int×Int))))) fun a=>
 some a
def ak(N:Nat)(m:Mach)(p:(List Int)):Nat→Int→(List (Sd×Int))→(List Int)→Option (List Int)
 |0,_,_,_=>none
 |f+1,a,b,c=>
  bif decide (a<(↑p.length:Int)) then(
  gd (okI p a)<|
  bd (z8g N m p a) fun d=>
  bd (
  bif !(z8d b (⟨(ix p a),d⟩:Sd)) then(
  some (z8z b (⟨(ix p a),d⟩:Sd) (↑b.length:Int))) else(
  some b)) fun e=>
  gd (okI c a)<|
  gd (in64 (a+1))<|
  ak N m p f (a+1) e (up c a (z7i (0:Int) e (⟨(ix p a),d⟩:Sd)))) else(
  some c)
def z5j(N:Nat)(m:Mach)(p:(List Int)):Option (List Int):=
 gd (okM 8 (↑p.length:Int))<|
 bd (
 ak N m p N 0 ([]:List (Sd×Int)) (mk (↑p.length:Int) (0:Int))) fun a=>
 some a
def oz(N:Nat)(s1_:(List Int))(s2_:(List Int)):Nat→Int→Option (Ex (Unit) (Bool))
 |0,_=>none
 |b+1,a=>
  bif decide (a<(↑s1_.length:Int)) then(
  gd (okI s1_ a)<|
  gd (okI s2_ a)<|
  bif decide ((ix s1_ a)≠(ix s2_ a)) then(
  some (Ex.rt false)) else(
  gd (in64 (a+1))<|
  oz N s1_ s2_ b (a+1))) else(
  some (Ex.go ()))
def slices_Equal_int(N:Nat)(s1_:(List Int))(s2_:(List Int)):Option Bool:=
 bif decide ((↑s1_.length:Int)≠(↑s2_.length:Int)) then(
 some false) else(
 bd (
 oz N s1_ s2_ N 0) fun a=>
 Ex.on a (fun b=>
 some true) some)
def z00(N:Nat)(σ:Type)(B:(List Int)→σ→Option (Bool×σ))(p0_:Mach):Nat→σ→(List Int)→Option σ
 |0,_,_=>none
 |d+1,e,b=>
  bd (B b e) fun a=>
  bif a.1 then(
  bd (z5j N p0_ b) fun c=>
  bd (slices_Equal_int N b c) fun f=>
  bif f then(
  some a.2) else(
  z00 N σ B p0_ d a.2 c)) else(
  some a.2)
def z6i(N:Nat)(p0_:Mach)(σ:Type)(B:(List Int)→σ→Option (Bool×σ))(s0:σ):Option σ:=
 gd (okM 8 (↑p0_.rows.length:Int))<|
 z00 N σ B p0_ N s0 (mk (↑p0_.rows.length:Int) (0:Int))
def z5h(N:Nat)(m:Mach):Option ((List Int)×Int×Int):=
 bd (z0u N m) fun a=>
 bif decide (a≠0) then(
 some (([]:(List Int)),0,a)) else(
 bd (z8b N m) fun d=>
 bd (z6i N d ((List Int)×Int) (fun e b=>
 gd (in64 (b.2+1))<|
 some (true,(e,b.2+1))) (([]:(List Int)),(-1))) fun c=>
 some (c.1,c.2,0))
def ry(N:Nat)(x:(List Int)):Nat→Int→Int→Option Int
 |0,_,_=>none
 |c+1,b,a=>
  bif decide (a<(↑x.length:Int)) then(
  gd (okI x a)<|
  gd (in64 (a+1))<|
  ry N x c (max b (ix x a)) (a+1)) else(
  some b)
def slices_Max_int(N:Nat)(x:(List Int)):Option Int:=
 bif decide ((↑x.length:Int)<1) then(
 none) else(
 gd (okI x 0)<|
 bd (
 ry N x N (ix x 0) 1) fun a=>
 some a)
def z4c(N:Nat)(p0_:Mach):Option Bool:=
 bd (z5h N p0_) fun a=>
 bd (slices_Max_int N a.1) fun b=>
 gd (in64 ((↑a.1.length:Int)-1))<|
 some (decide (b=((↑a.1.length:Int)-1)))
def z4s(N:Nat)(m:Mach):Option Int:=
 bd (z0u N m) fun e=>
 bif decide (e≠0) then(
 some e) else(
 bd (z9y N m) fun a=>
 bd (z3x N a.1) fun b=>
 bif !b then(
 some 9) else(
 bd (z3u N a.2.1) fun c=>
 bif !c then(
 some 11) else(
 bd (z4c N a.2.2) fun d=>
 bif !d then(
 some 12) else(
 some 0))))
def z2m(N:Nat)(m:Mach):Option Int:=
 bd (z4s N m) fun a=>
 bif decide (a≠0) then(
 some a) else(
 bif decide (6<(↑m.rows.length:Int)) then(
 some 3) else(
 some 0))
def af(N:Nat)(n:Int):Nat→Int→(Arr 6 Int)→Option (Arr 6 Int)
 |0,_,_=>none
 |c+1,a,b=>
  bif decide (a<n) then(
  gd (okSh .u16 (8:Int))<|
  gd (okSh .u16 n)<|
  gd (okB .u16 (lh .u16 (IntKind.u16.wrap a) (8:Int)) (IntKind.u16.wrap ((lh .u16 (1:Int) n)-1)))<|
  gd (okI b.1 a)<|
  gd (in64 (a+1))<|
  af N n c (a+1) (z0g b a (ior (lh .u16 (IntKind.u16.wrap a) (8:Int)) (IntKind.u16.wrap ((lh .u16 (1:Int) n)-1))))) else(
  some b)
def z8a(N:Nat)(n:Int):Option (Arr 6 Int):=
 bd (
 af N n N 0 (lq 6 (List.replicate 6 (0:Int)))) fun a=>
 some a
def lg(N:Nat)(counts:Int):Nat→Int→(Arr 6 Int)→Option (Arr 6 Int)
 |0,_,_=>none
 |d+1,b,a=>
  bif decide (b<6) then(
  bd (
  gd (okSh .u16 b)<|
  gd (okB .u16 (ow counts b) 1)<|
  bif decide ((z2t (ow counts b) 1)=0) then(
  gd (okI a.1 b)<|
  some (z0g a b 0)) else(
  some a)) fun c=>
  gd (in64 (b+1))<|
  lg N counts d (b+1) c) else(
  some a)
def z3g(N:Nat)(v_:(Arr 6 Int))(counts:Int):Option (Arr 6 Int):=
 bd (
 lg N counts N 0 v_) fun a=>
 some a
def z07(N:Nat)(x:Int):Option Int:=
 gd (okSh .u16 (8:Int))<|
 gd (okI strT1 (ow x (8:Int)))<|
 gd (okB .u16 x 255)<|
 gd (okI strT1 (z2t x 255))<|
 gd (in64 (IntKind.u8.wrap ((ix strT1 (ow x (8:Int)))+(ix strT1 (z2t x 255)))))<|
 some (IntKind.u8.wrap ((ix strT1 (ow x (8:Int)))+(ix strT1 (z2t x 255))))
def z0y(N:Nat)(v_:(Arr 6 Int))(counts:Int):Nat→Int→Option (Ex (Unit) (Bool))
 |0,_=>none
 |c+1,a=>
  bif decide (a<6) then(
  gd (okSh .u16 a)<|
  gd (okB .u16 (ow counts a) 1)<|
  gd ((true&&((decide ((z2t (ow counts a) 1)=1))==true))=true→okI v_.1 a)<|
  gd ((true&&((decide ((z2t (ow counts a) 1)=1))==true))=true→okB .u16 (ix v_.1 a) 255)<|
  bd (gop (true&&((decide ((z2t (ow counts a) 1)=1))==true)) (z07 N (z2t (ix v_.1 a) 255))) fun b=>
  bif (decide ((z2t (ow counts a) 1)=1))&&(decide (1<(b.getD default))) then(
  some (Ex.rt false)) else(
  gd (in64 (a+1))<|
  z0y N v_ counts c (a+1))) else(
  some (Ex.go ()))
def z3t(N:Nat)(v_:(Arr 6 Int))(counts:Int):Option Bool:=
 bd (
 z0y N v_ counts N 0) fun a=>
 Ex.on a (fun b=>
 some true) some
def z3r(N:Nat)(s:(List Int)):Option (List Int):=
 gd (okS s 0 (↑s.length:Int))<|
 some (cut s 0 (↑s.length:Int))
def z15(N:Nat)(m:Mach)(v_:(Arr 6 Int))(i:Int)(counts:Int)(b:Int)(d:(Arr 6 Int)):Nat→Int→Int→Option (Ex (Int) (Ex ((Arr 6 Int)) ((Arr 6 Int)×Bool)))
 |0,_,_=>none
 |e+1,c,a=>
  bif decide (a<(↑m.rows.length:Int)) then(
  bd (
  gd (okI m.rows a)<|
  gd (okI (ix m.rows a) i)<|
  gd (okI v_.1 b)<|
  gd (okSh .u16 a)<|
  gd (okB .u16 (ow (ix v_.1 b) a) 1)<|
  bif (decide ((z2t (ow (ix v_.1 b) a) 1)=0))||(decide (((ix (ix m.rows a) i).out)≠((ix (ix m.rows (ow (ix v_.1 b) (8:Int))) i).out))) then(
  some (Ex.go c)) else(
  gd ((true&&((decide (((ix (ix m.rows a) i).to)=((ix (ix m.rows (ow (ix v_.1 b) (8:Int))) i).to)))==true))=true→okI v_.1 b)<|
  gd ((true&&((decide (((ix (ix m.rows a) i).to)=((ix (ix m.rows (ow (ix v_.1 b) (8:Int))) i).to)))==true))=true→okSh .u16 (8:Int))<|
  gd ((true&&((decide (((ix (ix m.rows a) i).to)=((ix (ix m.rows (ow (ix v_.1 b) (8:Int))) i).to)))==true))=true→in64 (ow (ix v_.1 b) (8:Int)))<|
  gd ((true&&(((decide (((ix (ix m.rows a) i).to)=((ix (ix m.rows (ow (ix v_.1 b) (8:Int))) i).to)))&&(decide (a≠(ow (ix v_.1 b) (8:Int)))))==true))=true→okSh .u16 b)<|
  gd ((true&&(((decide (((ix (ix m.rows a) i).to)=((ix (ix m.rows (ow (ix v_.1 b) (8:Int))) i).to)))&&(decide (a≠(ow (ix v_.1 b) (8:Int)))))==true))=true→okB .u16 (ow counts b) 1)<|
  bif ((decide (((ix (ix m.rows a) i).to)=((ix (ix m.rows (ow (ix v_.1 b) (8:Int))) i).to)))&&(decide (a≠(ow (ix v_.1 b) (8:Int)))))&&(decide ((z2t (ow counts b) 1)=1)) then(
  some (Ex.rt (Ex.rt (Ex.rt (d,false))))) else(
  gd (okSh .u16 ((ix (ix m.rows a) i).to))<|
  gd (okB .u16 c (lh .u16 (1:Int) ((ix (ix m.rows a) i).to)))<|
  some (Ex.go (ior c (lh .u16 (1:Int) ((ix (ix m.rows a) i).to))))))) fun f=>
  Ex.on f (fun g=>
  gd (in64 (a+1))<|
  z15 N m v_ i counts b d e g (a+1)) some) else(
  some (Ex.go c))
def z16(N:Nat)(m:Mach)(v_:(Arr 6 Int))(i:Int)(counts:Int):Nat→Int→(Arr 6 Int)→Option (Ex ((Arr 6 Int)) ((Arr 6 Int)×Bool))
 |0,_,_=>none
 |d+1,a,b=>
  bif decide (a<(↑m.rows.length:Int)) then(
  gd (okI v_.1 a)<|
  gd (okSh .u16 (8:Int))<|
  gd (okI m.rows (ow (ix v_.1 a) (8:Int)))<|
  gd (okI (ix m.rows (ow (ix v_.1 a) (8:Int))) i)<|
  bd (
  z15 N m v_ i counts a b N 0 0) fun e=>
  Ex.on e (fun c=>
  gd (okSh .u16 (8:Int))<|
  gd (okB .u16 (lh .u16 (IntKind.u16.wrap ((ix (ix m.rows (ow (ix v_.1 a) (8:Int))) i).to)) (8:Int)) c)<|
  gd (okI b.1 a)<|
  gd (in64 (a+1))<|
  z16 N m v_ i counts d (a+1) (z0g b a (ior (lh .u16 (IntKind.u16.wrap ((ix (ix m.rows (ow (ix v_.1 a) (8:Int))) i).to)) (8:Int)) c))) some) else(
  some (Ex.go b))
def z3y(N:Nat)(m:Mach)(v_:(Arr 6 Int))(i:Int)(counts:Int):Option ((Arr 6 Int)×Bool):=
 bd (
 z16 N m v_ i counts N 0 v_) fun a=>
 Ex.on a (fun b=>
 some (b,true)) some
def z0b(N:Nat)(counts:Int)(b:List Sc):Nat→Int→Option (Ex (Unit) (Ex (Unit) ((List Int)×Int)))
 |0,_=>none
 |c+1,a=>
  bif decide (a<(↑b.length:Int)) then(
  gd (okI b a)<|
  bd (z3t N ((ix b a).fI) counts) fun d=>
  bif d then(
  bd (z3r N ((ix b a).fU)) fun e=>
  some (Ex.rt (Ex.rt (e,0)))) else(
  gd (in64 (a+1))<|
  z0b N counts b c (a+1))) else(
  some (Ex.go ()))
def ig(N:Nat)(m:Mach)(counts:Int)(most:Int)(i:List Sc)(j:Int)(e:Int):Nat→Int→(List ((Arr 6 Int)×Bool))→(List Sc)→Option (List ((Arr 6 Int)×Bool)×List Sc)
 |0,_,_,_=>none
 |k+1,a,b,c=>
  bif decide (a<m.inputs) then(
  bd (
  bd (z3y N m ((ix i e).fI) a counts) fun g=>
  bd (z3g N g.1 counts) fun d=>
  bif (g.2&&(!(z7i false b d)))&&(decide (j<most)) then(
  bd (z3r N ((ix i e).fU)) fun f=>
  gd (fits 8 f ([a]:List Int))<|
  gd (fits 40 c ([(⟨d,(f++([a]:List Int))⟩:Sc)]:List Sc))<|
  some ((z8z b d true),(c++([(⟨d,(f++([a]:List Int))⟩:Sc)]:List Sc)))) else(
  some (b,c))) fun h=>
  gd (in64 (a+1))<|
  ig N m counts most i j e k (a+1) h.1 h.2) else(
  some (b,c))
def ma(N:Nat)(m:Mach)(counts:Int)(most:Int)(b:List Sc)(f:Int):Nat→(List Sc)→Int→(List ((Arr 6 Int)×Bool))→Option (List Sc×List ((Arr 6 Int)×Bool))
 |0,_,_,_=>none
 |g+1,c,a,d=>
  bif decide (a<(↑b.length:Int)) then(
  bd (
  gd (okI b a)<|
  ig N m counts most b f a N 0 d c) fun e=>
  gd (in64 (a+1))<|
  ma N m counts most b f g e.2 (a+1) e.1) else(
  some (c,d))
def z0c(N:Nat)(m:Mach)(counts:Int)(most:Int):Nat→(List Sc)→Int→(List ((Arr 6 Int)×Bool))→Option (Ex (Unit) ((List Int)×Int))
 |0,_,_,_=>none
 |d+1,a,b,e=>
  bif decide (0<(↑a.length:Int)) then(
  bd (
  z0b N counts a N 0) fun f=>
  Ex.on f (fun g=>
  bd (
  ma N m counts most a b N ([]:List Sc) 0 e) fun c=>
  gd (in64 (b+1))<|
  z0c N m counts most d c.1 (b+1) c.2) some) else(
  some (Ex.go ()))
def z5e(N:Nat)(m:Mach)(counts:Int)(most:Int):Option ((List Int)×Int):=
 bd (z8a N (↑m.rows.length:Int)) fun b=>
 bd (z3g N b counts) fun a=>
 gd (okI ([(⟨a,[]⟩:Sc)]:List Sc) 0)<|
 bd (
 z0c N m counts most N ([(⟨a,[]⟩:Sc)]:List Sc) 0 (z8z ([]:List ((Arr 6 Int)×Bool)) ((ix ([(⟨a,[]⟩:Sc)]:List Sc) 0).fI) true)) fun c=>
 Ex.on c (fun d=>
 some (([]:(List Int)),7)) some
def zaw(N:Nat)(m:Mach)(s:Int)(most:Int):Option ((List Int)×Int):=
 bd (z2m N m) fun b=>
 bif decide (b≠0) then(
 some (([]:(List Int)),b)) else(
 bif (((decide (s<0))||(decide ((↑m.rows.length:Int)≤s)))||(decide (most<0)))||(decide (256<most)) then(
 some (([]:(List Int)),1)) else(
 gd (okSh .u16 s)<|
 bd (z5e N m (lh .u16 (1:Int) s) most) fun a=>
 some (a.1,a.2)))
def z2o(N:Nat)(m:Mach)(most:Int):Option ((List Int)×Int):=
 bd (z2m N m) fun b=>
 bif decide (b≠0) then(
 some (([]:(List Int)),b)) else(
 bif (decide (most<0))||(decide (256<most)) then(
 some (([]:(List Int)),1)) else(
 gd (okSh .u16 (↑m.rows.length:Int))<|
 bd (z5e N m (IntKind.u16.wrap ((lh .u16 (1:Int) (↑m.rows.length:Int))-1)) most) fun a=>
 some (a.1,a.2)))
def xn(N:Nat)(a:(List Int))(b:(List Int)):Nat→Int→Option (Ex (Unit) (Int))
 |0,_=>none
 |d+1,c=>
  bif decide (c<(↑a.length:Int)) then(
  gd (okI a c)<|
  gd (okI b c)<|
  bif decide ((ix a c)<(ix b c)) then(
  some (Ex.rt (-1))) else(
  gd (okI a c)<|
  gd (okI b c)<|
  bif decide ((ix b c)<(ix a c)) then(
  some (Ex.rt 1)) else(
  gd (in64 (c+1))<|
  xn N a b d (c+1)))) else(
  some (Ex.go ()))
def z1c(N:Nat)(a:(List Int))(b:(List Int)):Option Int:=
 bif decide ((↑a.length:Int)≠(↑b.length:Int)) then(
 bif decide ((↑a.length:Int)<(↑b.length:Int)) then(
 some (-1)) else(
 some 1)) else(
 bd (
 xn N a b N 0) fun c=>
 Ex.on c (fun d=>
 some 0) some)
def ol(N:Nat)(a:(List (List Int)))(b:(List (List Int))):Nat→Int→Option (Ex (Unit) (Bool))
 |0,_=>none
 |e+1,c=>
  bif decide (c<(↑a.length:Int)) then(
  gd (okI a c)<|
  gd (okI b c)<|
  bd (z1c N (ix a c) (ix b c)) fun d=>
  bif decide (d≠0) then(
  some (Ex.rt false)) else(
  gd (in64 (c+1))<|
  ol N a b e (c+1))) else(
  some (Ex.go ()))
def z1i(N:Nat)(a:(List (List Int)))(b:(List (List Int))):Option Bool:=
 bif decide ((↑a.length:Int)≠(↑b.length:Int)) then(
 some false) else(
 bd (
 ol N a b N 0) fun c=>
 Ex.on c (fun d=>
 some true) some)
def z2y(N:Nat)(a:(List Int))(b:(List Int)):Option Bool:=
 bd (z1i N ([a]:List (List Int)) ([b]:List (List Int))) fun c=>
 some (c&&(decide ((↑a.length:Int)=(↑a.length:Int))))
def z5p(N:Nat):Option Mach:=
 some (⟨2,2,([([(⟨1,0⟩:Edge),(⟨0,0⟩:Edge)]:List Edge),([(⟨2,0⟩:Edge),(⟨1,1⟩:Edge)]:List Edge),([(⟨0,1⟩:Edge),(⟨2,0⟩:Edge)]:List Edge)]:List (List Edge))⟩:Mach)
def l7(N:Nat)(l_:(Arr 64 Int))(block:Int)(h_:Int):Option Bool:=
 bd (z07 N block) fun a=>
 gd ((true&&((decide (a<2))==false))=true→okI l_.1 block)<|
 gd (((true&&((decide (a<2))==false))&&((decide (0<(ix l_.1 block)))==true))=true→okI l_.1 block)<|
 some ((decide (a<2))||((decide (0<(ix l_.1 block)))&&(decide ((ix l_.1 block)<h_))))
def z18(N:Nat)(m:Mach)(block:Int)(i:Int):Nat→Int→(Arr 16 Int)→Option (Ex ((Arr 16 Int)) ((Arr 16 Int)×Bool))
 |0,_,_=>none
 |c+1,a,b=>
  bif decide (a<(↑m.rows.length:Int)) then(
  bd (
  gd (okSh .u16 a)<|
  gd (okB .u16 (ow block a) 1)<|
  bif decide ((z2t (ow block a) 1)=0) then(
  some (Ex.go b)) else(
  gd (okI m.rows a)<|
  gd (okI (ix m.rows a) i)<|
  gd (okI b.1 ((ix (ix m.rows a) i).out))<|
  gd (okSh .u16 ((ix (ix m.rows a) i).to))<|
  gd (okB .u16 (ow (ix b.1 ((ix (ix m.rows a) i).out)) ((ix (ix m.rows a) i).to)) 1)<|
  bif decide ((z2t (ow (ix b.1 ((ix (ix m.rows a) i).out)) ((ix (ix m.rows a) i).to)) 1)=1) then(
  some (Ex.rt (Ex.rt (b,false)))) else(
  gd (okI b.1 ((ix (ix m.rows a) i).out))<|
  gd (okSh .u16 ((ix (ix m.rows a) i).to))<|
  gd (okB .u16 (ix b.1 ((ix (ix m.rows a) i).out)) (lh .u16 (1:Int) ((ix (ix m.rows a) i).to)))<|
  gd (okI b.1 ((ix (ix m.rows a) i).out))<|
  some (Ex.go (z0g b ((ix (ix m.rows a) i).out) (ior (ix b.1 ((ix (ix m.rows a) i).out)) (lh .u16 (1:Int) ((ix (ix m.rows a) i).to)))))))) fun d=>
  Ex.on d (fun e=>
  gd (in64 (a+1))<|
  z18 N m block i c (a+1) e) some) else(
  some (Ex.go b))
def z88(N:Nat)(m:Mach)(block:Int)(i:Int):Option ((Arr 16 Int)×Bool):=
 bd (
 z18 N m block i N 0 (lq 16 (List.replicate 16 (0:Int)))) fun a=>
 Ex.on a (fun b=>
 some (b,true)) some
def w9(N:Nat)(l_:(Arr 64 Int))(h_:Int)(c:(Arr 16 Int)×Bool):Nat→Bool→Int→Option Bool
 |0,_,_=>none
 |d+1,b,a=>
  bif decide (a<16) then(
  gd (okI c.1.1 a)<|
  bd (gop (true&&(b==true)) (l7 N l_ (ix c.1.1 a) h_)) fun e=>
  gd (in64 (a+1))<|
  w9 N l_ h_ c d (b&&(e.getD default)) (a+1)) else(
  some b)
def l5(N:Nat)(l_:(Arr 64 Int))(m:Mach)(block:Int)(i:Int)(h_:Int):Option Bool:=
 bd (z88 N m block i) fun b=>
 bd (
 w9 N l_ h_ b N b.2 0) fun a=>
 some a
def z01(N:Nat)(m:Mach)(d:Int)(e:(Arr 64 Int))(f:Bool)(a:Int)(b:(Arr 64 Int)):Nat→Int→Option (Bool×(Arr 64 Int))
 |0,_=>none
 |g+1,c=>
  bif decide (c<m.inputs) then(
  bd (l5 N e m a c d) fun h=>
  bif h then(
  gd (okI b.1 a)<|
  some (true,(z0g b a d))) else(
  gd (in64 (c+1))<|
  z01 N m d e f a b g (c+1))) else(
  some (f,b))
def gp(N:Nat)(m:Mach)(b:Int)(c:(Arr 64 Int)):Nat→Bool→Int→(Arr 64 Int)→Option (Bool×(Arr 64 Int))
 |0,_,_,_=>none
 |g+1,d,a,e=>
  bif decide (a<(lh .u16 (1:Int) (↑m.rows.length:Int))) then(
  bd (
  bd (l7 N c a b) fun h=>
  bif h then(
  some (d,e)) else(
  z01 N m b c d a e N 0)) fun f=>
  gp N m b c g f.1 (IntKind.u16.wrap (a+1)) f.2) else(
  some (d,e))
def fe(N:Nat)(m:Mach):Nat→Int→Bool→(Arr 64 Int)→Option (Arr 64 Int)
 |0,_,_,_=>none
 |d+1,a,e,b=>
  bif e then(
  bd (
  gd (okSh .u16 (↑m.rows.length:Int))<|
  gp N m a b N false 0 b) fun c=>
  gd (in64 (a+1))<|
  fe N m d (a+1) c.1 c.2) else(
  some b)
def z5z(N:Nat)(m:Mach):Option (Arr 64 Int):=
 bd (
 fe N m N 1 true (lq 64 (List.replicate 64 (0:Int)))) fun a=>
 some a
def dh(N:Nat)(p1_:Mach):Nat→Int→(List Int)→Option (List Int)
 |0,_,_=>none
 |c+1,a,b=>
  bif decide (a<(↑(mk p1_.outputs (0:Int)).length:Int)) then(
  gd (okI b a)<|
  gd (in64 (a+1))<|
  dh N p1_ c (a+1) (up b a (-1))) else(
  some b)
def pz(N:Nat)(now:(List Int)):Nat→Int→Int→Option Int
 |0,_,_=>none
 |c+1,b,a=>
  bif decide (a<(↑now.length:Int)) then(
  gd (okI now a)<|
  gd (okSh .u16 (ix now a))<|
  gd (okB .u16 b (lh .u16 (1:Int) (ix now a)))<|
  gd (in64 (a+1))<|
  pz N now c (ior b (lh .u16 (1:Int) (ix now a))) (a+1)) else(
  some b)
def z02(N:Nat)(p1_:Mach)(p2_:(Arr 64 Int))(b:Int):Nat→Int→Option Int
 |0,_=>none
 |c+1,a=>
  gd (okI p2_.1 b)<|
  bd (l5 N p2_ p1_ b a (ix p2_.1 b)) fun d=>
  bif !d then(
  gd (in64 (a+1))<|
  z02 N p1_ p2_ b c (a+1)) else(
  some a)
def xw(N:Nat)(now:(List Int))(from_:(List Int))(p1_:Mach)(b:Int)(e:Int):Nat→(List Int)→(List Int)→Int→Option (List Int×List Int)
 |0,_,_,_=>none
 |g+1,c,d,a=>
  bif decide (a<(↑now.length:Int)) then(
  bd (
  gd (okI now a)<|
  gd (okI p1_.rows (ix now a))<|
  gd (okI (ix p1_.rows (ix now a)) b)<|
  bif decide (((ix (ix p1_.rows (ix now a)) b).out)=e) then(
  gd (okI p1_.rows (ix now a))<|
  gd (okI (ix p1_.rows (ix now a)) b)<|
  gd (fits 8 c ([(ix (ix p1_.rows (ix now a)) b).to]:List Int))<|
  gd (okI from_ a)<|
  gd (fits 8 d ([(ix from_ a)]:List Int))<|
  some ((c++([(ix (ix p1_.rows (ix now a)) b).to]:List Int)),(d++([(ix from_ a)]:List Int)))) else(
  some (c,d))) fun f=>
  gd (in64 (a+1))<|
  xw N now from_ p1_ b e g f.1 f.2 (a+1)) else(
  some (c,d))
def df(N:Nat)(self:(List Int)→(List Int)→List Sa→Mach→(Arr 64 Int)→Option (Int×List Sa))(now:(List Int))(from_:(List Int))(p0_:List Sa)(p1_:Mach)(p2_:(Arr 64 Int))(f:List Int)(c:Int):Nat→Int→(List Sa)→Option (List Sa)
 |0,_,_=>none
 |g+1,a,d=>
  bif decide (a<(↑((up (p0_++[(⟨(-1),(-1),f⟩:Sa)]) (↑p0_.length:Int) (⟨c,(ix (p0_++[(⟨(-1),(-1),f⟩:Sa)]) (↑p0_.length:Int)).fE,(ix (p0_++[(⟨(-1),(-1),f⟩:Sa)]) (↑p0_.length:Int)).fC⟩:Sa)).getD p0_.length default).fC.length:Int)) then(
  bd (
  bd (
  xw N now from_ p1_ c a N ([]:List Int) ([]:List Int) 0) fun e=>
  bif decide (0<(↑e.1.length:Int)) then(
  bd (self e.1 e.2 d p1_ p2_) fun b=>
  gd (okI (b.2.getD p0_.length default).fC a)<|
  some (b.2.set p0_.length (⟨(b.2.getD p0_.length default).fB,(b.2.getD p0_.length default).fE,up (b.2.getD p0_.length default).fC a b.1⟩:Sa))) else(
  some d)) fun h=>
  gd (in64 (a+1))<|
  df N self now from_ p0_ p1_ p2_ f c g (a+1) h) else(
  some d)
def mi(N:Nat):Nat→(List Int)→(List Int)→List Sa→Mach→(Arr 64 Int)→Option (Int×List Sa)
 |0,_,_,_,_,_=>none
 |F+1,now,from_,p0_,p1_,p2_=>
  gd (okM 8 p1_.outputs)<|
  bd (
  dh N p1_ N 0 (mk p1_.outputs (0:Int))) fun a=>
  gd (fits 40 p0_ [(⟨(-1),(-1),a⟩:Sa)])<|
  bif decide ((↑now.length:Int)=1) then(
  gd (okI from_ 0)<|
  gd (okI (p0_++[(⟨(-1),(-1),a⟩:Sa)]) (↑p0_.length:Int))<|
  some ((↑p0_.length:Int),(up (p0_++[(⟨(-1),(-1),a⟩:Sa)]) (↑p0_.length:Int) (⟨(ix (p0_++[(⟨(-1),(-1),a⟩:Sa)]) (↑p0_.length:Int)).fB,(ix from_ 0),(ix (p0_++[(⟨(-1),(-1),a⟩:Sa)]) (↑p0_.length:Int)).fC⟩:Sa)))) else(
  bd (
  pz N now N 0 0) fun d=>
  bd (
  z02 N p1_ p2_ d N 0) fun b=>
  gd (okI (p0_++[(⟨(-1),(-1),a⟩:Sa)]) (↑p0_.length:Int))<|
  bd (
  df N (mi N F) now from_ p0_ p1_ p2_ a b N 0 (up (p0_++[(⟨(-1),(-1),a⟩:Sa)]) (↑p0_.length:Int) (⟨b,(ix (p0_++[(⟨(-1),(-1),a⟩:Sa)]) (↑p0_.length:Int)).fE,(ix (p0_++[(⟨(-1),(-1),a⟩:Sa)]) (↑p0_.length:Int)).fC⟩:Sa))) fun c=>
  some ((↑p0_.length:Int),c))
def z0m(N:Nat)(s:(List Sa)):Option (List Sa):=
 gd (okS s 0 (↑s.length:Int))<|
 some (cut s 0 (↑s.length:Int))
def ah(N:Nat)(m:Mach):Nat→(List Int)→Int→Option (List Int)
 |0,_,_=>none
 |c+1,b,a=>
  bif decide (a<(↑m.rows.length:Int)) then(
  gd (fits 8 b ([a]:List Int))<|
  gd (in64 (a+1))<|
  ah N m c (b++([a]:List Int)) (a+1)) else(
  some b)
def z5c(N:Nat)(m:Mach):Option (Sb×Int):=
 bd (z2m N m) fun f=>
 bif decide (f≠0) then(
 some ((⟨[]⟩:Sb),f)) else(
 bd (z5z N m) fun a=>
 gd (okSh .u16 (↑m.rows.length:Int))<|
 bd (l7 N a (IntKind.u16.wrap ((lh .u16 (1:Int) (↑m.rows.length:Int))-1)) 64) fun d=>
 bif !d then(
 some ((⟨[]⟩:Sb),7)) else(
 bd (
 ah N m N ([]:List Int) 0) fun b=>
 bd (mi N N b b ([]:List Sa) m a) fun e=>
 bd (z0m N e.2) fun c=>
 some ((⟨c⟩:Sb),0)))
def z4q(N:Nat)(input:Int)(next:(List Int)):Option Sa:=
 some (⟨input,(-1),next⟩:Sa)
def z3f(N:Nat)(s:Int):Option Sa:=
 some (⟨(-1),s,([(-1),(-1)]:List Int)⟩:Sa)
def ax(N:Nat)(t:Sb)(outputs:(List Int)):Nat→Int→Int→Option (Ex (Int) (Int×Int))
 |0,_,_=>none
 |c+1,b,a=>
  bif decide (a<(↑outputs.length:Int)) then(
  gd (okI outputs a)<|
  gd (okI t.fA b)<|
  bif decide (((ix t.fA b).fB)=(-1)) then(
  some (Ex.rt (0,16))) else(
  gd ((true&&(((decide ((ix outputs a)<0))||(decide ((↑((ix t.fA b).fC).length:Int)≤(ix outputs a))))==false))=true→okI ((ix t.fA b).fC) (ix outputs a))<|
  gd ((true&&((((decide ((ix outputs a)<0))||(decide ((↑((ix t.fA b).fC).length:Int)≤(ix outputs a))))||(decide ((ix ((ix t.fA b).fC) (ix outputs a))<0)))==false))=true→okI ((ix t.fA b).fC) (ix outputs a))<|
  bif (((decide ((ix outputs a)<0))||(decide ((↑((ix t.fA b).fC).length:Int)≤(ix outputs a))))||(decide ((ix ((ix t.fA b).fC) (ix outputs a))<0)))||(decide ((↑t.fA.length:Int)≤(ix ((ix t.fA b).fC) (ix outputs a)))) then(
  some (Ex.rt (0,7))) else(
  gd (okI ((ix t.fA b).fC) (ix outputs a))<|
  gd (in64 (a+1))<|
  ax N t outputs c (ix ((ix t.fA b).fC) (ix outputs a)) (a+1)))) else(
  some (Ex.go b))
def z0f(N:Nat)(t:Sb)(outputs:(List Int)):Option (Int×Int):=
 bif decide ((↑t.fA.length:Int)=0) then(
 some (0,4)) else(
 bd (
 ax N t outputs N 0 0) fun b=>
 Ex.on b (fun a=>
 gd (okI t.fA a)<|
 bif decide (((ix t.fA a).fB)=(-1)) then(
 some (((ix t.fA a).fE),0)) else(
 some (0,16))) some)
def oo(N:Nat)(a:Sb)(b:Sb):Nat→Int→Option (Ex (Unit) (Bool))
 |0,_=>none
 |d+1,c=>
  bif decide (c<(↑a.fA.length:Int)) then(
  gd (okI a.fA c)<|
  gd (okI b.fA c)<|
  gd ((true&&((decide (((ix a.fA c).fB)≠((ix b.fA c).fB)))==false))=true→okI a.fA c)<|
  gd ((true&&((decide (((ix a.fA c).fB)≠((ix b.fA c).fB)))==false))=true→okI b.fA c)<|
  gd ((true&&(((decide (((ix a.fA c).fB)≠((ix b.fA c).fB)))||(decide (((ix a.fA c).fE)≠((ix b.fA c).fE))))==false))=true→okI a.fA c)<|
  gd ((true&&(((decide (((ix a.fA c).fB)≠((ix b.fA c).fB)))||(decide (((ix a.fA c).fE)≠((ix b.fA c).fE))))==false))=true→okI b.fA c)<|
  bd (gop (true&&(((decide (((ix a.fA c).fB)≠((ix b.fA c).fB)))||(decide (((ix a.fA c).fE)≠((ix b.fA c).fE))))==false)) (z1i N ([(ix a.fA c).fC]:List (List Int)) ([(ix b.fA c).fC]:List (List Int)))) fun e=>
  bif ((decide (((ix a.fA c).fB)≠((ix b.fA c).fB)))||(decide (((ix a.fA c).fE)≠((ix b.fA c).fE))))||(!(e.getD default)) then(
  some (Ex.rt false)) else(
  gd (in64 (c+1))<|
  oo N a b d (c+1))) else(
  some (Ex.go ()))
def z1e(N:Nat)(a:Sb)(b:Sb):Option Bool:=
 bif decide ((↑a.fA.length:Int)≠(↑b.fA.length:Int)) then(
 some false) else(
 bd (
 oo N a b N 0) fun c=>
 Ex.on c (fun d=>
 some true) some)
def mg(N:Nat)(t:Sb)(a:Int):Nat→Int→(List Int)→Option (Ex (List Int) (Ex (List Int) (Int)))
 |0,_,_=>none
 |d+1,b,c=>
  bif decide (b<(↑((ix t.fA a).fC).length:Int)) then(
  bd (
  gd (okI ((ix t.fA a).fC) b)<|
  bif decide ((ix ((ix t.fA a).fC) b)=(-1)) then(
  some (Ex.go c)) else(
  bif (decide ((ix ((ix t.fA a).fC) b)≤a))||(decide ((↑t.fA.length:Int)≤(ix ((ix t.fA a).fC) b))) then(
  some (Ex.rt (Ex.rt (Ex.rt 0)))) else(
  gd (okI c a)<|
  gd (okI c (ix ((ix t.fA a).fC) b))<|
  gd (in64 ((ix c (ix ((ix t.fA a).fC) b))+1))<|
  gd (okI c a)<|
  some (Ex.go (up c a (max (ix c a) ((ix c (ix ((ix t.fA a).fC) b))+1))))))) fun e=>
  Ex.on e (fun f=>
  gd (in64 (b+1))<|
  mg N t a d (b+1) f) some) else(
  some (Ex.go c))
def z1h(N:Nat)(t:Sb):Nat→Int→(List Int)→Option (Ex (List Int) (Int))
 |0,_,_=>none
 |c+1,a,b=>
  bif decide (0≤a) then(
  bd (
  gd (okI t.fA a)<|
  mg N t a N 0 b) fun d=>
  Ex.on d (fun e=>
  gd (in64 (a-1))<|
  z1h N t c (a-1) e) some) else(
  some (Ex.go b))
def z1m(N:Nat)(t:Sb):Option Int:=
 gd (okM 8 (↑t.fA.length:Int))<|
 bd (
 gd (in64 ((↑t.fA.length:Int)-1))<|
 z1h N t N ((↑t.fA.length:Int)-1) (mk (↑t.fA.length:Int) (0:Int))) fun b=>
 Ex.on b (fun a=>
 bif decide ((↑a.length:Int)=0) then(
 some 0) else(
 gd (okI a 0)<|
 some (ix a 0))) some
def z13(N:Nat):Option Bool:=
 bd (z5p N) fun b=>
 bd (zaw N (⟨b.inputs,b.outputs,b.rows⟩:Mach) 2 3) fun e=>
 bd (zaw N (⟨b.inputs,b.outputs,b.rows⟩:Mach) 0 3) fun f=>
 bd (zaw N (⟨b.inputs,b.outputs,b.rows⟩:Mach) 0 1) fun n=>
 bd (z2o N (⟨b.inputs,b.outputs,b.rows⟩:Mach) 3) fun g=>
 bd (z2o N (⟨b.inputs,b.outputs,b.rows⟩:Mach) 1) fun o=>
 bd (gop (true&&((((((decide (e.2≠0))||(decide (f.2≠0)))||(decide (n.2≠7)))||(decide (g.2≠0)))||(decide (o.2≠7)))==false)) (z2y N e.1 ([0]:List Int))) fun r=>
 bd (gop (true&&(((((((decide (e.2≠0))||(decide (f.2≠0)))||(decide (n.2≠7)))||(decide (g.2≠0)))||(decide (o.2≠7)))||(!(r.getD default)))==false)) (z2y N f.1 ([0,0]:List Int))) fun p=>
 bd (gop (true&&((((((((decide (e.2≠0))||(decide (f.2≠0)))||(decide (n.2≠7)))||(decide (g.2≠0)))||(decide (o.2≠7)))||(!(r.getD default)))||(!(p.getD default)))==false)) (z2y N g.1 ([0,0]:List Int))) fun s=>
 bif (((((((decide (e.2≠0))||(decide (f.2≠0)))||(decide (n.2≠7)))||(decide (g.2≠0)))||(decide (o.2≠7)))||(!(r.getD default)))||(!(p.getD default)))||(!(s.getD default)) then(
 some false) else(
 bd (z5c N (⟨b.inputs,b.outputs,b.rows⟩:Mach)) fun a=>
 bd (z4q N 0 ([1,4]:List Int)) fun h=>
 bd (z4q N 0 ([2,3]:List Int)) fun i=>
 bd (z3f N 0) fun j=>
 bd (z3f N 1) fun k=>
 bd (z3f N 2) fun l=>
 bd (z0f N (⟨a.1.fA⟩:Sb) ([0,1]:List Int)) fun c=>
 bd (z0f N (⟨a.1.fA⟩:Sb) ([1]:List Int)) fun d=>
 bd (z0f N (⟨a.1.fA⟩:Sb) ([0]:List Int)) fun m=>
 bd (gop (true&&(((((decide (a.2=0))&&(decide (c.2=0)))&&(decide (d.2=0)))&&(decide (m.2=16)))==true)) (z1e N (⟨a.1.fA⟩:Sb) (⟨([(⟨h.fB,h.fE,h.fC⟩:Sa),(⟨i.fB,i.fE,i.fC⟩:Sa),(⟨j.fB,j.fE,j.fC⟩:Sa),(⟨k.fB,k.fE,k.fC⟩:Sa),(⟨l.fB,l.fE,l.fC⟩:Sa)]:List Sa)⟩:Sb))) fun q=>
 bd (gop (true&&((((((decide (a.2=0))&&(decide (c.2=0)))&&(decide (d.2=0)))&&(decide (m.2=16)))&&(q.getD default))==true)) (z1m N (⟨a.1.fA⟩:Sb))) fun t=>
 some ((((((((decide (a.2=0))&&(decide (c.2=0)))&&(decide (d.2=0)))&&(decide (m.2=16)))&&(q.getD default))&&(decide ((t.getD default)=2)))&&(decide (c.1=1)))&&(decide (d.1=2))))
def cz(N:Nat)(n:Int):Nat→(List Int)→Int→Option (List Int)
 |0,_,_=>none
 |d+1,b,a=>
  gd (okSh .i64 a)<|
  bif decide (0<(ow n a)) then(
  bd (
  gd (okSh .i64 a)<|
  gd (okR (ow n a) 2)<|
  bif decide (((ow n a)%2)=1) then(
  gd (fits 8 b ([a]:List Int))<|
  some (b++([a]:List Int))) else(
  some b)) fun c=>
  gd (in64 (a+1))<|
  cz N n d c (a+1)) else(
  some b)
def l8(N:Nat)(n:Int):Option (List Int):=
 bd (
 cz N n N ([]:List Int) 0) fun a=>
 some a
def tq(N:Nat)(m:Mach)(block:(List Int))(i:Int)(a:Int)(b:List (List Int)):Nat→Int→Option (Ex (Unit) (Ex (List (List Int)) ((List (List Int))×Bool)))
 |0,_=>none
 |d+1,c=>
  gd (okI b ((ix (ix m.rows (ix block a)) i).out))<|
  bif decide (c<(↑(ix b ((ix (ix m.rows (ix block a)) i).out)).length:Int)) then(
  gd (okI b ((ix (ix m.rows (ix block a)) i).out))<|
  gd (okI (ix b ((ix (ix m.rows (ix block a)) i).out)) c)<|
  bif decide ((ix (ix b ((ix (ix m.rows (ix block a)) i).out)) c)=((ix (ix m.rows (ix block a)) i).to)) then(
  some (Ex.rt (Ex.rt (([]:(List (List Int))),false)))) else(
  gd (in64 (c+1))<|
  tq N m block i a b d (c+1))) else(
  some (Ex.go ()))
def o9(N:Nat)(m:Mach)(block:(List Int))(i:Int):Nat→Int→(List (List Int))→Option (Ex (List (List Int)) ((List (List Int))×Bool))
 |0,_,_=>none
 |c+1,a,b=>
  bif decide (a<(↑block.length:Int)) then(
  gd (okI block a)<|
  gd (okI m.rows (ix block a))<|
  gd (okI (ix m.rows (ix block a)) i)<|
  bd (
  tq N m block i a b N 0) fun d=>
  Ex.on d (fun e=>
  gd (okI b ((ix (ix m.rows (ix block a)) i).out))<|
  gd (fits 8 (ix b ((ix (ix m.rows (ix block a)) i).out)) ([(ix (ix m.rows (ix block a)) i).to]:List Int))<|
  gd (okI b ((ix (ix m.rows (ix block a)) i).out))<|
  gd (in64 (a+1))<|
  o9 N m block i c (a+1) (up b ((ix (ix m.rows (ix block a)) i).out) ((ix b ((ix (ix m.rows (ix block a)) i).out))++([(ix (ix m.rows (ix block a)) i).to]:List Int)))) some) else(
  some (Ex.go b))
def z2g(N:Nat)(m:Mach)(block:(List Int))(i:Int):Option ((List (List Int))×Bool):=
 gd (okM 24 m.outputs)<|
 bd (
 o9 N m block i N 0 (mk m.outputs ([]:List Int))) fun a=>
 Ex.on a (fun b=>
 some (b,true)) some
def wm(N:Nat)(block:(List Int)):Nat→Int→Int→Option Int
 |0,_,_=>none
 |c+1,b,a=>
  bif decide (a<(↑block.length:Int)) then(
  gd (okI block a)<|
  gd (okSh .i64 (ix block a))<|
  gd (in64 (b+(lh .i64 (1:Int) (ix block a))))<|
  gd (in64 (a+1))<|
  wm N block c (b+(lh .i64 (1:Int) (ix block a))) (a+1)) else(
  some b)
def z1k(N:Nat)(block:(List Int)):Option Int:=
 bd (
 wm N block N 0 0) fun a=>
 some a
def uk(N:Nat)(h_:(List Int))(level:Int)(d:(List (List Int))×Bool):Nat→Bool→Int→Option Bool
 |0,_,_=>none
 |e+1,c,a=>
  bif decide (a<(↑d.1.length:Int)) then(
  gd (okI d.1 a)<|
  bd (z1k N (ix d.1 a)) fun b=>
  gd (okI h_ b)<|
  gd (in64 (a+1))<|
  uk N h_ level d e ((c&&(decide (0≤(ix h_ b))))&&(decide ((ix h_ b)<level))) (a+1)) else(
  some c)
def iy(N:Nat)(m:Mach)(h_:(List Int))(block:(List Int))(i:Int)(level:Int):Option Bool:=
 bd (z2g N m block i) fun b=>
 bd (
 uk N h_ level b N b.2 0) fun a=>
 some a
def uu(N:Nat):Nat→Int→(List Int)→Option (List Int)
 |0,_,_=>none
 |c+1,a,b=>
  bif decide (a<(↑b.length:Int)) then(
  bd (
  gd (okI b a)<|
  bd (l8 N a) fun d=>
  bif decide ((↑d.length:Int)<2) then(
  gd (okI (up b a (-1)) a)<|
  some (up (up b a (-1)) a 0)) else(
  some (up b a (-1)))) fun e=>
  gd (in64 (a+1))<|
  uu N c (a+1) e) else(
  some b)
def xg(N:Nat)(m:Mach)(e:Int)(c:List Int)(d:List Int)(b:Int):Nat→Int→Option (List Int)
 |0,_=>none
 |f+1,a=>
  gd ((true&&((decide (a<m.inputs))==true))=true→okI c b)<|
  bif (decide (a<m.inputs))&&(decide ((ix c b)<0)) then(
  bd (l8 N b) fun g=>
  bd (iy N m c g a e) fun h=>
  bif h then(
  gd (fits 8 d ([b]:List Int))<|
  some (d++([b]:List Int))) else(
  gd (in64 (a+1))<|
  xg N m e c d b f (a+1))) else(
  some d)
def ut(N:Nat)(m:Mach)(c:Int)(b:List Int):Nat→(List Int)→Int→Option (List Int)
 |0,_,_=>none
 |e+1,d,a=>
  bif decide (a<(↑b.length:Int)) then(
  bd (
  xg N m c b d a N 0) fun f=>
  gd (in64 (a+1))<|
  ut N m c b e f (a+1)) else(
  some d)
def uq(N:Nat)(d:Int)(b:List Int):Nat→Int→(List Int)→Option (List Int)
 |0,_,_=>none
 |e+1,a,c=>
  bif decide (a<(↑b.length:Int)) then(
  gd (okI b a)<|
  gd (okI c (ix b a))<|
  gd (in64 (a+1))<|
  uq N d b e (a+1) (up c (ix b a) d)) else(
  some c)
def p8(N:Nat)(m:Mach):Nat→Int→(List Int)→Option (List Int)
 |0,_,_=>none
 |e+1,a,b=>
  bif decide (a≤(↑b.length:Int)) then(
  bd (
  ut N m a b N ([]:List Int) 0) fun d=>
  bd (
  uq N a d N 0 b) fun c=>
  bif decide ((↑d.length:Int)=0) then(
  some c) else(
  gd (in64 (a+1))<|
  p8 N m e (a+1) c)) else(
  some b)
def om(N:Nat)(m:Mach):Option (List Int):=
 gd (okSh .i64 (↑m.rows.length:Int))<|
 gd (okM 8 (lh .i64 (1:Int) (↑m.rows.length:Int)))<|
 bd (
 uu N N 0 (mk (lh .i64 (1:Int) (↑m.rows.length:Int)) (0:Int))) fun a=>
 bd (
 p8 N m N 1 a) fun b=>
 some b
def yc(N:Nat)(m:Mach):Nat→Int→(List Int)→Option (List Int)
 |0,_,_=>none
 |c+1,a,b=>
  bif decide (a<m.outputs) then(
  gd (fits 8 b ([(-1)]:List Int))<|
  gd (in64 (a+1))<|
  yc N m c (a+1) (b++([(-1)]:List Int))) else(
  some b)
def oq(N:Nat)(m:Mach)(h_:(List Int))(now:(List Int)):Nat→Int→Option Int
 |0,_=>none
 |c+1,a=>
  bd (z1k N now) fun b=>
  gd (okI h_ b)<|
  bd (iy N m h_ now a (ix h_ b)) fun d=>
  bif !d then(
  gd (in64 (a+1))<|
  oq N m h_ now c (a+1)) else(
  some a)
def wh(N:Nat)(m:Mach)(now:(List Int))(from_:(List Int))(d:Int)(e:Int):Nat→(List Int)→(List Int)→Int→Option (List Int×List Int)
 |0,_,_,_=>none
 |g+1,b,c,a=>
  bif decide (a<(↑now.length:Int)) then(
  bd (
  gd (okI now a)<|
  gd (okI m.rows (ix now a))<|
  gd (okI (ix m.rows (ix now a)) d)<|
  bif decide (((ix (ix m.rows (ix now a)) d).out)=e) then(
  gd (okI now a)<|
  gd (okI m.rows (ix now a))<|
  gd (okI (ix m.rows (ix now a)) d)<|
  gd (fits 8 b ([(ix (ix m.rows (ix now a)) d).to]:List Int))<|
  gd (okI from_ a)<|
  gd (fits 8 c ([(ix from_ a)]:List Int))<|
  some ((b++([(ix (ix m.rows (ix now a)) d).to]:List Int)),(c++([(ix from_ a)]:List Int)))) else(
  some (b,c))) fun f=>
  gd (in64 (a+1))<|
  wh N m now from_ d e g f.1 f.2 (a+1)) else(
  some (b,c))
def y5(N:Nat)(self:Mach→(List Int)→(List Int)→(List Int)→Int→Option (List Sa))(m:Mach)(h_:(List Int))(now:(List Int))(from_:(List Int))(number:Int)(g:Int):Nat→(List Sa)→Int→(List Int)→Option (List Sa×List Int)
 |0,_,_,_=>none
 |h+1,b,a,c=>
  bif decide (a<m.outputs) then(
  bd (
  bd (
  wh N m now from_ g a N ([]:List Int) ([]:List Int) 0) fun d=>
  bif decide (0<(↑d.1.length:Int)) then(
  gd (in64 (number+1))<|
  gd (in64 ((number+1)+(↑b.length:Int)))<|
  gd (okI c a)<|
  gd (okI (up c a ((number+1)+(↑b.length:Int))) a)<|
  bd (self m h_ d.1 d.2 (ix (up c a ((number+1)+(↑b.length:Int))) a)) fun e=>
  gd (fits 40 b e)<|
  some ((up c a ((number+1)+(↑b.length:Int))),(b++e))) else(
  some (c,b))) fun f=>
  gd (in64 (a+1))<|
  y5 N self m h_ now from_ number g h f.2 (a+1) f.1) else(
  some (b,c))
def vg(N:Nat):Nat→Mach→(List Int)→(List Int)→(List Int)→Int→Option (List Sa)
 |0,_,_,_,_,_=>none
 |F+1,m,h_,now,from_,number=>
  bd (
  yc N m N 0 ([]:List Int)) fun c=>
  bif decide ((↑now.length:Int)=1) then(
  gd (okI from_ 0)<|
  some ([(⟨(-1),(ix from_ 0),c⟩:Sa)]:List Sa)) else(
  bd (
  oq N m h_ now N 0) fun b=>
  bd (
  y5 N (vg N F) m h_ now from_ number b N ([]:List Sa) 0 c) fun a=>
  gd (fits 40 ([(⟨b,(-1),a.2⟩:Sa)]:List Sa) a.1)<|
  some (([(⟨b,(-1),a.2⟩:Sa)]:List Sa)++a.1))
def ww(N:Nat)(m:Mach):Nat→(List Int)→Int→Option (List Int)
 |0,_,_=>none
 |c+1,b,a=>
  bif decide (a<(↑m.rows.length:Int)) then(
  gd (fits 8 b ([a]:List Int))<|
  gd (in64 (a+1))<|
  ww N m c (b++([a]:List Int)) (a+1)) else(
  some b)
def z14(N:Nat)(m:Mach):Option (Sb×Bool):=
 bd (om N m) fun a=>
 gd (in64 ((↑a.length:Int)-1))<|
 gd (okI a ((↑a.length:Int)-1))<|
 bif decide ((ix a ((↑a.length:Int)-1))<0) then(
 some ((⟨[]⟩:Sb),false)) else(
 bd (
 ww N m N ([]:List Int) 0) fun b=>
 bd (vg N N m a b b 0) fun c=>
 some ((⟨c⟩:Sb),true))
def gq(N:Nat)(s:(List Int))(f:Int→Option Bool):Nat→Int→Option (Ex (Unit) (Int))
 |0,_=>none
 |c+1,a=>
  bif decide (a<(↑s.length:Int)) then(
  gd (okI s a)<|
  bd (f (ix s a)) fun b=>
  bif b then(
  some (Ex.rt a)) else(
  gd (in64 (a+1))<|
  gq N s f c (a+1))) else(
  some (Ex.go ()))
def z1q(N:Nat)(s:(List Int))(f:Int→Option Bool):Option Int:=
 bd (
 gq N s f N 0) fun a=>
 Ex.on a (fun b=>
 some (-1)) some
def z0o(N:Nat)(s:(List Int))(f:Int→Option Bool):Option Bool:=
 bd (z1q N s f) fun a=>
 some (decide (0≤a))
def zb8(N:Nat)(k:Int):Option Bool:=
 some (decide (k≠(-1)))
def z6n(N:Nat)(m:Mach)(n:Sa):Option Bool:=
 bif decide ((↑n.fC.length:Int)≠m.outputs) then(
 some false) else(
 bif decide (n.fB=(-1)) then(
 bd (z0o N n.fC (fun b=>zb8 N b)) fun a=>
 some (((!a)&&(decide (0≤n.fE)))&&(decide (n.fE<(↑m.rows.length:Int))))) else(
 some (((decide (0≤n.fB))&&(decide (n.fB<m.inputs)))&&(decide (n.fE=(-1))))))
def z4p(N:Nat)(s:(List Int)):Option (List Int):=
 some s
def og(N:Nat)(σ:Type)(B:(Int×Int)→σ→Option (Bool×σ))(p0_:(List Int)):Nat→σ→Int→Option σ
 |0,_,_=>none
 |d+1,c,b=>
  bif decide (0≤b) then(
  gd (okI p0_ b)<|
  bd (B (b,(ix p0_ b)) c) fun a=>
  bif !a.1 then(
  some a.2) else(
  gd (in64 (b-1))<|
  og N σ B p0_ d a.2 (b-1))) else(
  some c)
def z1b(N:Nat)(p0_:(List Int))(σ:Type)(B:(Int×Int)→σ→Option (Bool×σ))(s0:σ):Option σ:=
 gd (in64 ((↑p0_.length:Int)-1))<|
 og N σ B p0_ N s0 ((↑p0_.length:Int)-1)
def z1w(N:Nat)(m:Mach)(l_:(List Sa)):Nat→Int→(List Int)→Option (Ex (List Int) (Bool))
 |0,_,_=>none
 |e+1,b,a=>
  bif decide (b<(↑l_.length:Int)) then(
  gd (okI l_ b)<|
  gd ((true&&((decide ((↑a.length:Int)=0))==false))=true→in64 ((↑a.length:Int)-1))<|
  gd ((true&&((decide ((↑a.length:Int)=0))==false))=true→okI a ((↑a.length:Int)-1))<|
  bd (gop (true&&(((decide ((↑a.length:Int)=0))||(decide ((ix a ((↑a.length:Int)-1))≠b)))==false)) (z6n N m (⟨(ix l_ b).fB,(ix l_ b).fE,(ix l_ b).fC⟩:Sa))) fun f=>
  bif ((decide ((↑a.length:Int)=0))||(decide ((ix a ((↑a.length:Int)-1))≠b)))||(!(f.getD default)) then(
  some (Ex.rt false)) else(
  gd (in64 ((↑a.length:Int)-1))<|
  gd (okS a 0 ((↑a.length:Int)-1))<|
  bd (z4p N ((ix l_ b).fC)) fun g=>
  bd (z1b N g (List Int) (fun c d=>
  bif decide (c.2≠(-1)) then(
  gd (fits 8 d ([c.2]:List Int))<|
  some (true,(d++([c.2]:List Int)))) else(
  some (true,d))) (cut a 0 ((↑a.length:Int)-1))) fun h=>
  gd (in64 (b+1))<|
  z1w N m l_ e (b+1) h)) else(
  some (Ex.go a))
def z9j(N:Nat)(m:Mach)(l_:(List Sa)):Option Bool:=
 bd (
 z1w N m l_ N 0 ([0]:List Int)) fun a=>
 Ex.on a (fun b=>
 some (decide ((↑b.length:Int)=0))) some
def z0e(N:Nat)(m:Mach)(t:Sb):Nat→Int→Int→Option Int
 |0,_,_=>none
 |c+1,b,a=>
  gd ((true&&((decide (a≠(-1)))==true))=true→okI t.fA a)<|
  bif (decide (a≠(-1)))&&(decide (((ix t.fA a).fB)≠(-1))) then(
  gd (okI m.rows b)<|
  gd (okI t.fA a)<|
  gd (okI (ix m.rows b) ((ix t.fA a).fB))<|
  gd (okI t.fA a)<|
  gd (okI ((ix t.fA a).fC) ((ix (ix m.rows b) ((ix t.fA a).fB)).out))<|
  z0e N m t c ((ix (ix m.rows b) ((ix t.fA a).fB)).to) (ix ((ix t.fA a).fC) ((ix (ix m.rows b) ((ix t.fA a).fB)).out))) else(
  some a)
def z0d(N:Nat)(m:Mach)(t:Sb):Nat→Int→Option (Ex (Unit) (Int))
 |0,_=>none
 |c+1,a=>
  bif decide (a<(↑m.rows.length:Int)) then(
  bd (
  z0e N m t N a 0) fun b=>
  gd ((true&&((decide (b=(-1)))==false))=true→okI t.fA b)<|
  bif (decide (b=(-1)))||(decide (((ix t.fA b).fE)≠a)) then(
  some (Ex.rt 19)) else(
  gd (in64 (a+1))<|
  z0d N m t c (a+1))) else(
  some (Ex.go ()))
def z5b(N:Nat)(m:Mach)(t:Sb):Option Int:=
 bd (z2m N m) fun a=>
 bif decide (a≠0) then(
 some a) else(
 bd (gop (true&&((decide (1024<(↑t.fA.length:Int)))==false)) (z9j N m t.fA)) fun b=>
 bif (decide (1024<(↑t.fA.length:Int)))||(!(b.getD default)) then(
 some 4) else(
 bd (
 z0d N m t N 0) fun c=>
 Ex.on c (fun d=>
 some 0) some))
def vz(N:Nat)(e:Mach)(b:Sb×Int):Nat→(List Int)→Int→Int→Option (List Int)
 |0,_,_,_=>none
 |f+1,d,c,a=>
  gd (okI b.1.fA a)<|
  bif decide (((ix b.1.fA a).fB)≠(-1)) then(
  gd (okI e.rows c)<|
  gd (okI b.1.fA a)<|
  gd (okI (ix e.rows c) ((ix b.1.fA a).fB))<|
  gd (fits 8 d ([(ix (ix e.rows c) ((ix b.1.fA a).fB)).out]:List Int))<|
  gd (okI b.1.fA a)<|
  gd (okI ((ix b.1.fA a).fC) ((ix (ix e.rows c) ((ix b.1.fA a).fB)).out))<|
  vz N e b f (d++([(ix (ix e.rows c) ((ix b.1.fA a).fB)).out]:List Int)) ((ix (ix e.rows c) ((ix b.1.fA a).fB)).to) (ix ((ix b.1.fA a).fC) ((ix (ix e.rows c) ((ix b.1.fA a).fB)).out))) else(
  some d)
def vv(N:Nat)(f:Mach)(c:Sb×Int):Nat→Int→Option (Ex (Unit) (Bool))
 |0,_=>none
 |d+1,a=>
  bif decide (a<(↑f.rows.length:Int)) then(
  bd (
  vz N f c N ([]:List Int) a 0) fun e=>
  bd (z0f N (⟨c.1.fA⟩:Sb) e) fun b=>
  bif (decide (b.1≠a))||(decide (b.2≠0)) then(
  some (Ex.rt false)) else(
  gd (in64 (a+1))<|
  vv N f c d (a+1))) else(
  some (Ex.go ()))
def z08(N:Nat)(x:Sj):Option Bool:=
 bd (z1g N x) fun c=>
 bd (z5c N (⟨c.inputs,c.outputs,c.rows⟩:Mach)) fun a=>
 bd (z14 N (⟨c.inputs,c.outputs,c.rows⟩:Mach)) fun g=>
 bd (z2o N (⟨c.inputs,c.outputs,c.rows⟩:Mach) 6) fun d=>
 bif !g.2 then(
 bd (gop (true&&((((decide (a.2=7))&&(decide ((↑a.1.fA.length:Int)=0)))&&(decide (d.2=7)))==true)) (z13 N)) fun l=>
 some ((((decide (a.2=7))&&(decide ((↑a.1.fA.length:Int)=0)))&&(decide (d.2=7)))&&(l.getD default))) else(
 bd (gop (true&&((decide (a.2≠0))==false)) (z1e N (⟨a.1.fA⟩:Sb) (⟨g.1.fA⟩:Sb))) fun f=>
 bd (gop (true&&((((decide (a.2≠0))||(!(f.getD default)))||(decide ((↑a.1.fA.length:Int)≠(↑a.1.fA.length:Int))))==false)) (z5b N (⟨c.inputs,c.outputs,c.rows⟩:Mach) (⟨a.1.fA⟩:Sb))) fun e=>
 bd (gop ((true&&(((((decide (a.2≠0))||(!(f.getD default)))||(decide ((↑a.1.fA.length:Int)≠(↑a.1.fA.length:Int))))||(decide ((e.getD default)≠0)))==false))&&((decide (d.2=0))==true)) (z1m N (⟨a.1.fA⟩:Sb))) fun h=>
 bif ((((decide (a.2≠0))||(!(f.getD default)))||(decide ((↑a.1.fA.length:Int)≠(↑a.1.fA.length:Int))))||(decide ((e.getD default)≠0)))||((decide (d.2=0))&&(decide ((↑d.1.length:Int)<(h.getD default)))) then(
 some false) else(
 bd (om N (⟨c.inputs,c.outputs,c.rows⟩:Mach)) fun b=>
 bd (z1m N (⟨a.1.fA⟩:Sb)) fun i=>
 gd (in64 ((↑b.length:Int)-1))<|
 gd (okI b ((↑b.length:Int)-1))<|
 bif decide (i≠(ix b ((↑b.length:Int)-1))) then(
 some false) else(
 bd (
 vv N c a N 0) fun j=>
 Ex.on j (fun m=>
 bd (z13 N) fun k=>
 some k) some)))
end GV
end Go.Proofs.Ytnnobdkjgafdmaa
