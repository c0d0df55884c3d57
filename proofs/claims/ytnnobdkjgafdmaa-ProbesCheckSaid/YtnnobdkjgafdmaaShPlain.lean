import Derived.Test.YtnnobdkjgafdmaaShTypes
set_option linter.unusedVariables false
set_option linter.unusedSimpArgs false
set_option linter.unusedSectionVars false
namespace Go.Proofs.Ytnnobdkjgafdmaa
namespace GV
set_option maxRecDepth 100000
def au(N:Nat)(l_:(List Int))(k:Int):Option Int:=
 bif decide (k<(↑l_.length:Int)) then(
 gd (okI l_ k)<|
 gd (in64 (ix l_ k))<|
 some (ix l_ k)) else(
 some 0)
def xx(N:Nat)(x:Sg)(b:Int):Nat→(List Edge)→Int→Option (List Edge)
 |0,_,_=>none
 |e+1,d,a=>
  bif decide (a<((1:Int)+(x.fE%3))) then(
  gd (in64 (b*((1:Int)+(x.fE%3))))<|
  gd (in64 ((b*((1:Int)+(x.fE%3)))+a))<|
  bd (au N x.fJ ((b*((1:Int)+(x.fE%3)))+a)) fun c=>
  gd (okQ c ((1:Int)+(x.fG%6)))<|
  gd (okR (c/((1:Int)+(x.fG%6))) ((1:Int)+(x.fF%3)))<|
  gd (fits 16 d ([(⟨(-1),(c/((1:Int)+(x.fG%6)))%((1:Int)+(x.fF%3))⟩:Edge)]:List Edge))<|
  gd (in64 (a+1))<|
  xx N x b e (d++([(⟨(-1),(c/((1:Int)+(x.fG%6)))%((1:Int)+(x.fF%3))⟩:Edge)]:List Edge)) (a+1)) else(
  some d)
def yt(N:Nat)(x:Sg):Nat→Int→(List (List Edge))→Option (List (List Edge))
 |0,_,_=>none
 |d+1,a,b=>
  bif decide (a<((1:Int)+(x.fG%6))) then(
  bd (
  xx N x a N ([]:List Edge) 0) fun c=>
  gd (fits 24 b [c])<|
  gd (in64 (a+1))<|
  yt N x d (a+1) (b++[c])) else(
  some b)
def wu(N:Nat)(x:Sg)(d:Int)(b:List (List Edge)):Nat→(List Int)→Int→Option (List Int)
 |0,_,_=>none
 |e+1,c,a=>
  gd (in64 (d*((1:Int)+(x.fE%3))))<|
  bif decide (a<(d*((1:Int)+(x.fE%3)))) then(
  bd (
  gd (okQ a ((1:Int)+(x.fE%3)))<|
  gd (okI b (a/((1:Int)+(x.fE%3))))<|
  gd (okR a ((1:Int)+(x.fE%3)))<|
  gd (okI (ix b (a/((1:Int)+(x.fE%3)))) (a%((1:Int)+(x.fE%3))))<|
  bif decide (((ix (ix b (a/((1:Int)+(x.fE%3)))) (a%((1:Int)+(x.fE%3)))).to)<0) then(
  gd (fits 8 c ([a]:List Int))<|
  some (c++([a]:List Int))) else(
  some c)) fun f=>
  gd (in64 (a+1))<|
  wu N x d b e f (a+1)) else(
  some c)
def xu(N:Nat)(x:Sg):Nat→Int→(List (List Edge))→Option (List (List Edge))
 |0,_,_=>none
 |e+1,a,c=>
  bif decide (a<((1:Int)+(x.fG%6))) then(
  bd (
  wu N x a c N ([]:List Int) 0) fun d=>
  gd (okI d 0)<|
  bd (
  gd (in64 (a-1))<|
  bif decide ((a-1)<(↑x.fH.length:Int)) then(
  gd (in64 (a-1))<|
  gd (okI x.fH (a-1))<|
  gd (in64 (ix x.fH (a-1)))<|
  gd (okR (ix x.fH (a-1)) (↑d.length:Int))<|
  gd (okI d ((ix x.fH (a-1))%(↑d.length:Int)))<|
  some (ix d ((ix x.fH (a-1))%(↑d.length:Int)))) else(
  some (ix d 0))) fun b=>
  gd (okQ b ((1:Int)+(x.fE%3)))<|
  gd (okI c (b/((1:Int)+(x.fE%3))))<|
  gd (okR b ((1:Int)+(x.fE%3)))<|
  gd (okI (ix c (b/((1:Int)+(x.fE%3)))) (b%((1:Int)+(x.fE%3))))<|
  gd (in64 (a+1))<|
  xu N x e (a+1) (up c (b/((1:Int)+(x.fE%3))) (up (ix c (b/((1:Int)+(x.fE%3)))) (b%((1:Int)+(x.fE%3))) (⟨a,(ix (ix c (b/((1:Int)+(x.fE%3)))) (b%((1:Int)+(x.fE%3)))).out⟩:Edge)))) else(
  some c)
def wm(N:Nat)(x:Sg)(a:Int):Nat→Int→(List (List Edge))→Option (List (List Edge))
 |0,_,_=>none
 |e+1,b,c=>
  bif decide (b<((1:Int)+(x.fE%3))) then(
  bd (
  gd (okI c a)<|
  gd (okI (ix c a) b)<|
  bif decide (((ix (ix c a) b).to)<0) then(
  gd (okI c a)<|
  gd (in64 (a*((1:Int)+(x.fE%3))))<|
  gd (in64 ((a*((1:Int)+(x.fE%3)))+b))<|
  bd (au N x.fJ ((a*((1:Int)+(x.fE%3)))+b)) fun d=>
  gd (okR d ((1:Int)+(x.fG%6)))<|
  gd (okI (ix c a) b)<|
  some (up c a (up (ix c a) b (⟨d%((1:Int)+(x.fG%6)),(ix (ix c a) b).out⟩:Edge)))) else(
  some c)) fun f=>
  gd (in64 (b+1))<|
  wm N x a e (b+1) f) else(
  some c)
def xw(N:Nat)(x:Sg):Nat→Int→(List (List Edge))→Option (List (List Edge))
 |0,_,_=>none
 |c+1,a,b=>
  bif decide (a<((1:Int)+(x.fG%6))) then(
  bd (
  wm N x a N 0 b) fun d=>
  gd (in64 (a+1))<|
  xw N x c (a+1) d) else(
  some b)
def z0r(N:Nat)(x:Sg):Option Mach:=
 gd (okR x.fG 6)<|
 gd (in64 (x.fG%6))<|
 gd (in64 ((1:Int)+(x.fG%6)))<|
 gd (okR x.fE 3)<|
 gd (in64 (x.fE%3))<|
 gd (in64 ((1:Int)+(x.fE%3)))<|
 gd (okR x.fF 3)<|
 gd (in64 (x.fF%3))<|
 gd (in64 ((1:Int)+(x.fF%3)))<|
 bd (
 yt N x N 0 ([]:List (List Edge))) fun c=>
 bd (
 xu N x N 1 c) fun a=>
 bd (
 xw N x N 0 a) fun b=>
 some (⟨(1:Int)+(x.fE%3),(1:Int)+(x.fF%3),b⟩:Mach)
def uq(N:Nat)(m:Mach)(marked:(List (List Bool)))(s:Int)(t:Int):Nat→Int→Option (Ex (Unit) (Int))
 |0,_=>none
 |b+1,a=>
  bif decide (a<m.inputs) then(
  gd (okI m.rows s)<|
  gd (okI (ix m.rows s) a)<|
  gd (okI m.rows t)<|
  gd (okI (ix m.rows t) a)<|
  gd (((true&&((decide (((ix (ix m.rows s) a).out)≠((ix (ix m.rows t) a).out)))==false))&&(((decide (0≤((ix (ix m.rows s) a).to)))&&(decide (0≤((ix (ix m.rows t) a).to))))==true))=true→okI marked ((ix (ix m.rows s) a).to))<|
  gd (((true&&((decide (((ix (ix m.rows s) a).out)≠((ix (ix m.rows t) a).out)))==false))&&(((decide (0≤((ix (ix m.rows s) a).to)))&&(decide (0≤((ix (ix m.rows t) a).to))))==true))=true→okI (ix marked ((ix (ix m.rows s) a).to)) ((ix (ix m.rows t) a).to))<|
  bif (decide (((ix (ix m.rows s) a).out)≠((ix (ix m.rows t) a).out)))||(((decide (0≤((ix (ix m.rows s) a).to)))&&(decide (0≤((ix (ix m.rows t) a).to))))&&(ix (ix marked ((ix (ix m.rows s) a).to)) ((ix (ix m.rows t) a).to))) then(
  some (Ex.rt 1)) else(
  gd (in64 (a+1))<|
  uq N m marked s t b (a+1))) else(
  some (Ex.go ()))
def z05(N:Nat)(m:Mach)(marked:(List (List Bool)))(s:Int)(t:Int):Option Int:=
 bd (
 uq N m marked s t N 0) fun a=>
 Ex.on a (fun b=>
 some 0) some
def ym(N:Nat)(m:Mach):Nat→(List (List Bool))→Int→Option (List (List Bool))
 |0,_,_=>none
 |c+1,a,b=>
  bif decide (b<(↑m.rows.length:Int)) then(
  gd (okM 1 (↑m.rows.length:Int))<|
  gd (fits 24 a [(mk (↑m.rows.length:Int) false)])<|
  gd (in64 (b+1))<|
  ym N m c (a++[(mk (↑m.rows.length:Int) false)]) (b+1)) else(
  some a)
def y5(N:Nat)(m:Mach)(d:List (List Bool))(b:Int):Nat→Int→(List (List Bool))→Option (List (List Bool))
 |0,_,_=>none
 |e+1,a,c=>
  bif decide (a<(↑m.rows.length:Int)) then(
  gd (okI c b)<|
  gd (okI d b)<|
  gd (okI (ix d b) a)<|
  bd (gop (true&&((ix (ix d b) a)==false)) (z05 N m d b a)) fun f=>
  gd (okI (ix c b) a)<|
  gd (in64 (a+1))<|
  y5 N m d b e (a+1) (up c b (up (ix c b) a ((ix (ix d b) a)||(decide ((f.getD default)=1)))))) else(
  some c)
def yl(N:Nat)(m:Mach)(c:List (List Bool)):Nat→(List (List Bool))→Int→Option (List (List Bool))
 |0,_,_=>none
 |d+1,b,a=>
  bif decide (a<(↑m.rows.length:Int)) then(
  bd (
  gd (okM 1 (↑m.rows.length:Int))<|
  gd (fits 24 b [(mk (↑m.rows.length:Int) false)])<|
  y5 N m c a N 0 (b++[(mk (↑m.rows.length:Int) false)])) fun e=>
  gd (in64 (a+1))<|
  yl N m c d e (a+1)) else(
  some b)
def yj(N:Nat)(m:Mach)(k:Int):Nat→(List (List Bool))→Int→Option (List (List Bool))
 |0,_,_=>none
 |c+1,b,a=>
  bif decide (a<k) then(
  bd (
  yl N m b N ([]:List (List Bool)) 0) fun d=>
  gd (in64 (a+1))<|
  yj N m k c d (a+1)) else(
  some b)
def ak(N:Nat)(m:Mach)(k:Int):Option (List (List Bool)):=
 bd (
 ym N m N ([]:List (List Bool)) 0) fun a=>
 bd (
 yj N m k N a 0) fun b=>
 some b
def u7(N:Nat)(marked:(List (List Bool)))(c:List Int)(b:Int):Nat→Int→Int→Option Int
 |0,_,_=>none
 |e+1,d,a=>
  bif decide (a<b) then(
  bd (
  gd (okI marked b)<|
  gd (okI (ix marked b) a)<|
  bif !(ix (ix marked b) a) then(
  gd (okI c a)<|
  some (ix c a)) else(
  some d)) fun f=>
  gd (in64 (a+1))<|
  u7 N marked c b e f (a+1)) else(
  some d)
def uu(N:Nat)(marked:(List (List Bool))):Nat→(List Int)→Int→Int→Option (List Int)
 |0,_,_,_=>none
 |f+1,a,b,c=>
  bif decide (c<(↑marked.length:Int)) then(
  bd (
  u7 N marked a c N (-1) 0) fun e=>
  bd (
  bif decide (e<0) then(
  gd (in64 (b+1))<|
  some (b+1,b)) else(
  some (b,e))) fun d=>
  gd (fits 8 a ([d.2]:List Int))<|
  gd (in64 (c+1))<|
  uu N marked f (a++([d.2]:List Int)) d.1 (c+1)) else(
  some a)
def mg(N:Nat)(marked:(List (List Bool))):Option (List Int):=
 bd (
 uu N marked N ([]:List Int) 0 0) fun a=>
 some a
def z1d(N:Nat)(m:Mach)(k:Int):Option (List Int):=
 bd (ak N m k) fun b=>
 bd (mg N b) fun a=>
 some a
def oq(N:Nat)(m:Mach):Option (List Int):=
 bd (z1d N m (↑m.rows.length:Int)) fun a=>
 some a
def z0o(N:Nat)(m:Mach)(s:Int)(i:Int):Option Edge:=
 bif decide (s<0) then(
 some (⟨(-1),(-1)⟩:Edge)) else(
 gd (okI m.rows s)<|
 gd (okI (ix m.rows s) i)<|
 some (⟨(ix (ix m.rows s) i).to,(ix (ix m.rows s) i).out⟩:Edge))
def cz(N:Nat):Nat→Mach→Int→(List Int)→Option Int
 |0,_,_,_=>none
 |F+1,m,s,w_=>
  bif decide ((↑w_.length:Int)=0) then(
  some s) else(
  gd (okI w_ 0)<|
  bd (z0o N m s (ix w_ 0)) fun b=>
  gd (okS w_ 1 (↑w_.length:Int))<|
  bd ((cz N F) m b.to (cut w_ 1 (↑w_.length:Int))) fun a=>
  some a)
def yn(N:Nat)(inputs:Int):Nat→Int→(List Int)→Option (Ex (List Int) ((List Int)))
 |0,_,_=>none
 |c+1,a,b=>
  bif decide (0≤a) then(
  gd (okI b a)<|
  gd (in64 ((ix b a)+1))<|
  bif decide (((ix b a)+1)<inputs) then(
  gd (okI b a)<|
  gd (in64 ((ix b a)+1))<|
  gd (okI b a)<|
  some (Ex.rt (up b a ((ix b a)+1)))) else(
  gd (okI b a)<|
  gd (in64 (a-1))<|
  yn N inputs c (a-1) (up b a 0))) else(
  some (Ex.go b))
def fw(N:Nat)(w_:(List Int))(inputs:Int):Option (List Int):=
 gd (fits 8 ([]:List Int) w_)<|
 bd (
 gd (in64 ((↑(([]:List Int)++w_).length:Int)-1))<|
 yn N inputs N ((↑(([]:List Int)++w_).length:Int)-1) (([]:List Int)++w_)) fun b=>
 Ex.on b (fun a=>
 gd (fits 8 a ([0]:List Int))<|
 some (a++([0]:List Int))) some
def uw(N:Nat)(m:Mach)(from_:Int):Nat→(List Int)→(List (List Int))→(List Bool)→Option (List (List Int)×List Bool)
 |0,_,_,_=>none
 |g+1,c,d,b=>
  bif decide ((↑c.length:Int)<(↑m.rows.length:Int)) then(
  bd (
  bd (cz N N m from_ c) fun a=>
  gd ((true&&((decide (0≤a))==true))=true→okI b a)<|
  bif (decide (0≤a))&&(!(ix b a)) then(
  gd (okI b a)<|
  gd (okI d a)<|
  some ((up d a c),(up b a true))) else(
  some (d,b))) fun e=>
  bd (fw N c m.inputs) fun f=>
  uw N m from_ g f e.1 e.2) else(
  some (d,b))
def su(N:Nat)(m:Mach)(from_:Int):Option ((List (List Int))×(List Bool)):=
 gd (okM 24 (↑m.rows.length:Int))<|
 gd (okM 1 (↑m.rows.length:Int))<|
 bd (
 uw N m from_ N ([]:List Int) (mk (↑m.rows.length:Int) ([]:List Int)) (mk (↑m.rows.length:Int) false)) fun a=>
 some (a.1,a.2)
def lg(N:Nat)(m:Mach):Option ((List (List Int))×(List Bool)):=
 bd (su N m 0) fun a=>
 some (a.1,a.2)
def xq(N:Nat)(a:(List Int))(b:(List Int)):Nat→Int→Option (Ex (Unit) (Int))
 |0,_=>none
 |d+1,c=>
  bif decide (c<(↑a.length:Int)) then(
  gd (okI a c)<|
  gd (okI b c)<|
  bif decide ((ix a c)≠(ix b c)) then(
  gd (okI a c)<|
  gd (okI b c)<|
  bif decide ((ix a c)<(ix b c)) then(
  some (Ex.rt 1)) else(
  some (Ex.rt 0))) else(
  gd (in64 (c+1))<|
  xq N a b d (c+1))) else(
  some (Ex.go ()))
def ai(N:Nat)(a:(List Int))(b:(List Int)):Option Int:=
 bif decide ((↑a.length:Int)≠(↑b.length:Int)) then(
 bif decide ((↑a.length:Int)<(↑b.length:Int)) then(
 some 1) else(
 some 0)) else(
 bd (
 xq N a b N 0) fun c=>
 Ex.on c (fun d=>
 some 0) some)
def yx(N:Nat)(d:(List (List Int))×(List Bool))(b:List Int)(c:Int):Nat→Int→Option Int
 |0,_=>none
 |e+1,a=>
  gd ((true&&((decide (a<(↑b.length:Int)))==true))=true→okI b a)<|
  gd ((true&&((decide (a<(↑b.length:Int)))==true))=true→okI d.1 (ix b a))<|
  gd ((true&&((decide (a<(↑b.length:Int)))==true))=true→okI d.1 c)<|
  bd (gop (true&&((decide (a<(↑b.length:Int)))==true)) (ai N (ix d.1 (ix b a)) (ix d.1 c))) fun f=>
  bif (decide (a<(↑b.length:Int)))&&(decide ((f.getD default)=1)) then(
  gd (in64 (a+1))<|
  yx N d b c e (a+1)) else(
  some a)
def xc(N:Nat)(d:(List (List Int))×(List Bool)):Nat→(List Int)→Int→Option (List Int)
 |0,_,_=>none
 |e+1,a,b=>
  bif decide (b<(↑d.1.length:Int)) then(
  bd (
  gd (okI d.2 b)<|
  bif !(ix d.2 b) then(
  some a) else(
  bd (
  yx N d a b N 0) fun c=>
  gd (okS a 0 c)<|
  gd (fits 8 ([]:List Int) (cut a 0 c))<|
  gd (fits 8 (([]:List Int)++(cut a 0 c)) ([b]:List Int))<|
  gd (okS a c (↑a.length:Int))<|
  gd (fits 8 ((([]:List Int)++(cut a 0 c))++([b]:List Int)) (cut a c (↑a.length:Int)))<|
  some (((([]:List Int)++(cut a 0 c))++([b]:List Int))++(cut a c (↑a.length:Int))))) fun f=>
  gd (in64 (b+1))<|
  xc N d e f (b+1)) else(
  some a)
def z06(N:Nat)(m:Mach):Option (List Int):=
 bd (lg N m) fun b=>
 bd (
 xc N b N ([]:List Int) 0) fun a=>
 some a
def yc(N:Nat)(d:(List Int))(a:(List Int))(c:Int):Nat→Int→Int→Option Int
 |0,_,_=>none
 |f+1,e,b=>
  bif decide (b<c) then(
  bd (
  gd (okI a b)<|
  gd (okI d (ix a b))<|
  gd (okI a c)<|
  gd (okI d (ix a c))<|
  bif decide ((ix d (ix a b))=(ix d (ix a c))) then(
  some 1) else(
  some e)) fun g=>
  gd (in64 (b+1))<|
  yc N d a c f g (b+1)) else(
  some e)
def yg(N:Nat)(g:(List Int))(b:(List Int)):Nat→(List Int)→Int→Option (List Int)
 |0,_,_=>none
 |d+1,c,a=>
  bif decide (a<(↑b.length:Int)) then(
  bd (
  bd (
  yc N g b a N 0 0) fun e=>
  bif decide (e=0) then(
  gd (okI b a)<|
  gd (fits 8 c ([(ix b a)]:List Int))<|
  some (c++([(ix b a)]:List Int))) else(
  some c)) fun f=>
  gd (in64 (a+1))<|
  yg N g b d f (a+1)) else(
  some c)
def ic(N:Nat)(m:Mach):Option (List Int):=
 bd (oq N m) fun c=>
 bd (z06 N m) fun a=>
 bd (
 yg N c a N ([]:List Int) 0) fun b=>
 some b
def vk(N:Nat)(m:Mach)(a:Int):Nat→Int→(List Bool)→Option (List Bool)
 |0,_,_=>none
 |d+1,b,c=>
  bif decide (b<m.inputs) then(
  bd (
  gd (okI m.rows a)<|
  gd (okI (ix m.rows a) b)<|
  gd (okI c a)<|
  bif (ix c a)&&(decide (0≤((ix (ix m.rows a) b).to))) then(
  gd (okI c ((ix (ix m.rows a) b).to))<|
  some (up c ((ix (ix m.rows a) b).to) true)) else(
  some c)) fun e=>
  gd (in64 (b+1))<|
  vk N m a d (b+1) e) else(
  some c)
def vw(N:Nat)(m:Mach):Nat→Int→(List Bool)→Option (List Bool)
 |0,_,_=>none
 |c+1,a,b=>
  bif decide (a<(↑m.rows.length:Int)) then(
  bd (
  vk N m a N 0 b) fun d=>
  gd (in64 (a+1))<|
  vw N m c (a+1) d) else(
  some b)
def xg(N:Nat)(m:Mach):Nat→Int→(List Bool)→Option (List Bool)
 |0,_,_=>none
 |c+1,a,b=>
  bif decide (a<(↑m.rows.length:Int)) then(
  bd (
  vw N m N 0 b) fun d=>
  gd (in64 (a+1))<|
  xg N m c (a+1) d) else(
  some b)
def om(N:Nat)(m:Mach)(from_:Int):Option (List Bool):=
 gd (okM 1 (↑m.rows.length:Int))<|
 gd (okI (mk (↑m.rows.length:Int) false) from_)<|
 bd (
 xg N m N 0 (up (mk (↑m.rows.length:Int) false) from_ true)) fun a=>
 some a
def gz(N:Nat)(e:(List Int))(d:(List Int))(c:(List Bool))(a:Int):Nat→Int→Int→Option Int
 |0,_,_=>none
 |g+1,f,b=>
  bif decide (b<(↑d.length:Int)) then(
  bd (
  gd (okI c a)<|
  gd ((true&&((ix c a)==true))=true→okI d b)<|
  gd ((true&&((ix c a)==true))=true→okI e (ix d b))<|
  gd ((true&&((ix c a)==true))=true→okI e a)<|
  bif (ix c a)&&(decide ((ix e (ix d b))=(ix e a))) then(
  some b) else(
  some f)) fun h=>
  gd (in64 (b+1))<|
  gz N e d c a g h (b+1)) else(
  some f)
def bf(N:Nat)(f:(List Int))(c:(List Int))(d:(List Bool)):Nat→(List Int)→Int→Option (List Int)
 |0,_,_=>none
 |g+1,b,a=>
  bif decide (a<(↑f.length:Int)) then(
  bd (
  gz N f c d a N (-1) 0) fun e=>
  gd (fits 8 b ([e]:List Int))<|
  gd (in64 (a+1))<|
  bf N f c d g (b++([e]:List Int)) (a+1)) else(
  some b)
def z1m(N:Nat)(m:Mach):Option (List Int):=
 bd (oq N m) fun d=>
 bd (ic N m) fun a=>
 bd (om N m 0) fun b=>
 bd (
 bf N d a b N ([]:List Int) 0) fun c=>
 some c
def vg(N:Nat)(m:Mach)(c:(List Int))(e:(List Int))(a:Int):Nat→(List Edge)→Int→Option (List Edge)
 |0,_,_=>none
 |g+1,f,b=>
  bif decide (b<m.inputs) then(
  gd (okI c a)<|
  gd (okI m.rows (ix c a))<|
  gd (okI (ix m.rows (ix c a)) b)<|
  bd (
  bif decide (0≤((ix (ix m.rows (ix c a)) b).to)) then(
  gd (okI e ((ix (ix m.rows (ix c a)) b).to))<|
  some (ix e ((ix (ix m.rows (ix c a)) b).to))) else(
  some ((ix (ix m.rows (ix c a)) b).to))) fun d=>
  gd (fits 16 f ([(⟨d,(ix (ix m.rows (ix c a)) b).out⟩:Edge)]:List Edge))<|
  gd (in64 (b+1))<|
  vg N m c e a g (f++([(⟨d,(ix (ix m.rows (ix c a)) b).out⟩:Edge)]:List Edge)) (b+1)) else(
  some f)
def vv(N:Nat)(m:Mach)(e:(List Int))(c:(List Int)):Nat→Int→(List (List Edge))→Option (List (List Edge))
 |0,_,_=>none
 |f+1,a,b=>
  bif decide (a<(↑e.length:Int)) then(
  bd (
  vg N m e c a N ([]:List Edge) 0) fun d=>
  gd (fits 24 b ([d]:List (List Edge)))<|
  gd (in64 (a+1))<|
  vv N m e c f (a+1) (b++([d]:List (List Edge)))) else(
  some b)
def rq(N:Nat)(m:Mach):Option Mach:=
 bd (ic N m) fun c=>
 bd (z1m N m) fun a=>
 bd (
 vv N m c a N 0 ([]:List (List Edge))) fun b=>
 some (⟨m.inputs,m.outputs,b⟩:Mach)
def l6(N:Nat)(x:Sj):Option Mach:=
 gd (okR x.fK.fG 5)<|
 bd (z0r N (⟨x.fK.fG%5,x.fK.fE,x.fK.fF,x.fK.fH,x.fK.fJ⟩:Sg)) fun b=>
 bd (rq N b) fun a=>
 some (⟨a.inputs,a.outputs,a.rows⟩:Mach)
def uh(N:Nat)(s:(List Edge))(f:Edge→Option Bool):Nat→Int→Option (Ex (Unit) (Int))
 |0,_=>none
 |c+1,a=>
  bif decide (a<(↑s.length:Int)) then(
  gd (okI s a)<|
  bd (f (ix s a)) fun b=>
  bif b then(
  some (Ex.rt a)) else(
  gd (in64 (a+1))<|
  uh N s f c (a+1))) else(
  some (Ex.go ()))
def o9(N:Nat)(s:(List Edge))(f:Edge→Option Bool):Option Int:=
 bd (
 uh N s f N 0) fun a=>
 Ex.on a (fun b=>
 some (-1)) some
def dn(N:Nat)(s:(List Edge))(f:Edge→Option Bool):Option Bool:=
 bd (o9 N s f) fun a=>
 some (decide (0≤a))
def z3d(N:Nat):Option Edge:=
 some (⟨(-1),(-1)⟩:Edge)
def z9k(N:Nat)(m:Mach)(x:Edge):Option Bool:=
 bd (z3d N) fun a=>
 some ((decide (x.to=a.to∧x.out=a.out))||((((decide (0≤x.to))&&(decide (x.to<(↑m.rows.length:Int))))&&(decide (0≤x.out)))&&(decide (x.out<m.outputs))))
def z6f(N:Nat)(x:Edge)(p0_:Mach):Option Bool:=
 bd (z9k N p0_ x) fun a=>
 some (!a)
def mf(N:Nat)(m:Mach):Nat→Int→Option (Ex (Unit) (Int))
 |0,_=>none
 |b+1,a=>
  bif decide (a<(↑m.rows.length:Int)) then(
  gd (okI m.rows a)<|
  bd (gop (true&&((decide ((↑(ix m.rows a).length:Int)≠m.inputs))==false)) (dn N (ix m.rows a) (fun d=>z6f N d m))) fun c=>
  bif (decide ((↑(ix m.rows a).length:Int)≠m.inputs))||(c.getD default) then(
  some (Ex.rt 1)) else(
  gd (in64 (a+1))<|
  mf N m b (a+1))) else(
  some (Ex.go ()))
def iw(N:Nat)(m:Mach):Option Int:=
 bif ((decide (16<m.inputs))||(decide (16<m.outputs)))||(decide (64<(↑m.rows.length:Int))) then(
 some 3) else(
 bif ((decide (m.inputs<1))||(decide (m.outputs<1)))||(decide ((↑m.rows.length:Int)<1)) then(
 some 1) else(
 bd (
 mf N m N 0) fun a=>
 Ex.on a (fun b=>
 some 0) some))
def z7o(N:Nat)(m:Mach):Option (Mach×Mach×Mach):=
 some (m,m,m)
def z5v(N:Nat)(m:Mach):Option Mach:=
 some m
def p8(N:Nat)(σ:Type)(B:((Int×Int)×Edge)→σ→Option (Bool×σ))(p0_:Mach)(c:Int):Nat→σ→Int→Option (Ex (σ) (σ))
 |0,_,_=>none
 |e+1,d,a=>
  bif decide (a<(↑(ix p0_.rows c).length:Int)) then(
  gd (okI (ix p0_.rows c) a)<|
  bd (B (((c,a):(Int×Int)),(⟨(ix (ix p0_.rows c) a).to,(ix (ix p0_.rows c) a).out⟩:Edge)) d) fun b=>
  bif !b.1 then(
  some (Ex.rt b.2)) else(
  gd (in64 (a+1))<|
  p8 N σ B p0_ c e b.2 (a+1))) else(
  some (Ex.go d))
def nu(N:Nat)(σ:Type)(B:((Int×Int)×Edge)→σ→Option (Bool×σ))(p0_:Mach):Nat→σ→Int→Option σ
 |0,_,_=>none
 |e+1,d,a=>
  bif decide (a<(↑p0_.rows.length:Int)) then(
  bd (
  gd (okI p0_.rows a)<|
  p8 N σ B p0_ a N d 0) fun b=>
  Ex.on b (fun c=>
  gd (in64 (a+1))<|
  nu N σ B p0_ e c (a+1)) some) else(
  some d)
def z1u(N:Nat)(p0_:Mach)(σ:Type)(B:((Int×Int)×Edge)→σ→Option (Bool×σ))(s0:σ):Option σ:=
 nu N σ B p0_ N s0 0
def z2i(N:Nat)(s:(List (Int×Int))):Option (List (Int×Int)):=
 gd (okS s 0 (↑s.length:Int))<|
 some (cut s 0 (↑s.length:Int))
def z0e(N:Nat)(m:Mach):Option (List (Int×Int)):=
 bd (z5v N m) fun f=>
 bd (z1u N f (List (Int×Int)) (fun a b=>
 bd (z3d N) fun c=>
 bif decide (a.2.to=c.to∧a.2.out=c.out) then(
 gd (fits 16 b ([((a.1.1,a.1.2):(Int×Int))]:List (Int×Int)))<|
 some (true,(b++([((a.1.1,a.1.2):(Int×Int))]:List (Int×Int))))) else(
 some (true,b))) ([]:List (Int×Int))) fun d=>
 bd (z2i N d) fun e=>
 some e
def z1l(N:Nat)(m:Mach):Option (Bool×Int):=
 bd (iw N m) fun b=>
 bif decide (b≠0) then(
 some (false,b)) else(
 bd (z0e N m) fun a=>
 some ((decide ((↑a.length:Int)=0)),0))
def z15(N:Nat)(p0_:Mach):Option Bool:=
 bd (z1l N p0_) fun a=>
 some a.1
def xy(N:Nat)(self:Int→List Bool→Mach→Option (List Bool))(s:Int)(p1_:Mach):Nat→Int→(List Bool)→Option (List Bool)
 |0,_,_=>none
 |c+1,a,b=>
  bif decide (a<(↑(ix p1_.rows s).length:Int)) then(
  gd (okI (ix p1_.rows s) a)<|
  bd (self ((ix (ix p1_.rows s) a).to) b p1_) fun d=>
  gd (in64 (a+1))<|
  xy N self s p1_ c (a+1) d) else(
  some b)
def xk(N:Nat):Nat→Int→List Bool→Mach→Option (List Bool)
 |0,_,_,_=>none
 |F+1,s,p0_,p1_=>
  gd ((true&&((decide (s=(-1)))==false))=true→okI p0_ s)<|
  bif (decide (s=(-1)))||(ix p0_ s) then(
  some p0_) else(
  gd (okI p0_ s)<|
  gd (okI p1_.rows s)<|
  xy N (xk N F) s p1_ N 0 (up p0_ s true))
def gy(N:Nat)(s:(List Bool))(v_:Bool):Nat→Int→Option (Ex (Unit) (Int))
 |0,_=>none
 |b+1,a=>
  bif decide (a<(↑s.length:Int)) then(
  gd (okI s a)<|
  bif decide (v_=(ix s a)) then(
  some (Ex.rt a)) else(
  gd (in64 (a+1))<|
  gy N s v_ b (a+1))) else(
  some (Ex.go ()))
def z1e(N:Nat)(s:(List Bool))(v_:Bool):Option Int:=
 bd (
 gy N s v_ N 0) fun a=>
 Ex.on a (fun b=>
 some (-1)) some
def lh(N:Nat)(s:(List Bool))(v_:Bool):Option Bool:=
 bd (z1e N s v_) fun a=>
 some (decide (0≤a))
def z0n(N:Nat)(m:Mach):Option (Bool×Int):=
 bd (iw N m) fun c=>
 bif decide (c≠0) then(
 some (false,c)) else(
 gd (okM 1 (↑m.rows.length:Int))<|
 bd (xk N N 0 (mk (↑m.rows.length:Int) false) m) fun a=>
 bd (lh N a false) fun b=>
 some ((!b),0))
def z11(N:Nat)(p0_:Mach):Option Bool:=
 bd (z0n N p0_) fun a=>
 some a.1
def z5s(N:Nat)(m:Mach):Option Mach:=
 some m
def dw(N:Nat)(m:Mach)(p:(List Int))(s:Int):Nat→Int→(Arr 16 (Int×Int))→Option (Arr 16 (Int×Int))
 |0,_,_=>none
 |c+1,a,b=>
  bif decide (a<(↑(ix m.rows s).length:Int)) then(
  bd (
  gd (okI (ix m.rows s) a)<|
  gd (okI b.1 a)<|
  bif decide (((ix (ix m.rows s) a).to)≠(-1)) then(
  gd (okI p ((ix (ix m.rows s) a).to))<|
  gd (okI (l8 b a (((ix (ix m.rows s) a).out,(-1)):(Int×Int))).1 a)<|
  some (l8 (l8 b a (((ix (ix m.rows s) a).out,(-1)):(Int×Int))) a (((ix (l8 b a (((ix (ix m.rows s) a).out,(-1)):(Int×Int))).1 a).1,(ix p ((ix (ix m.rows s) a).to))):(Int×Int)))) else(
  some (l8 b a (((ix (ix m.rows s) a).out,(-1)):(Int×Int))))) fun d=>
  gd (in64 (a+1))<|
  dw N m p s c (a+1) d) else(
  some b)
def z5h(N:Nat)(m:Mach)(p:(List Int))(s:Int):Option (Arr 16 (Int×Int)):=
 bd (
 gd (okI m.rows s)<|
 dw N m p s N 0 (ah 16 (List.replicate 16 (((0:Int),(0:Int)):(Int×Int))))) fun a=>
 some a
def df(N:Nat)(m:Mach)(p:(List Int)):Nat→Int→(List (Sc×Int))→(List Int)→Option (List Int)
 |0,_,_,_=>none
 |f+1,a,b,c=>
  bif decide (a<(↑p.length:Int)) then(
  gd (okI p a)<|
  bd (z5h N m p a) fun d=>
  bd (
  bif !(z5m b (⟨(ix p a),d⟩:Sc)) then(
  some (zac b (⟨(ix p a),d⟩:Sc) (↑b.length:Int))) else(
  some b)) fun e=>
  gd (okI c a)<|
  gd (in64 (a+1))<|
  df N m p f (a+1) e (up c a (z8m (0:Int) e (⟨(ix p a),d⟩:Sc)))) else(
  some c)
def z2o(N:Nat)(m:Mach)(p:(List Int)):Option (List Int):=
 gd (okM 8 (↑p.length:Int))<|
 bd (
 df N m p N 0 ([]:List (Sc×Int)) (mk (↑p.length:Int) (0:Int))) fun a=>
 some a
def bv(N:Nat)(s1_:(List Int))(s2_:(List Int)):Nat→Int→Option (Ex (Unit) (Bool))
 |0,_=>none
 |b+1,a=>
  bif decide (a<(↑s1_.length:Int)) then(
  gd (okI s1_ a)<|
  gd (okI s2_ a)<|
  bif decide ((ix s1_ a)≠(ix s2_ a)) then(
  some (Ex.rt false)) else(
  gd (in64 (a+1))<|
  bv N s1_ s2_ b (a+1))) else(
  some (Ex.go ()))
def slices_Equal_int(N:Nat)(s1_:(List Int))(s2_:(List Int)):Option Bool:=
 bif decide ((↑s1_.length:Int)≠(↑s2_.length:Int)) then(
 some false) else(
 bd (
 bv N s1_ s2_ N 0) fun a=>
 Ex.on a (fun b=>
 some true) some)
def oh(N:Nat)(σ:Type)(B:(List Int)→σ→Option (Bool×σ))(p0_:Mach):Nat→σ→(List Int)→Option σ
 |0,_,_=>none
 |d+1,e,b=>
  bd (B b e) fun a=>
  bif a.1 then(
  bd (z2o N p0_ b) fun c=>
  bd (slices_Equal_int N b c) fun f=>
  bif f then(
  some a.2) else(
  oh N σ B p0_ d a.2 c)) else(
  some a.2)
def z4a(N:Nat)(p0_:Mach)(σ:Type)(B:(List Int)→σ→Option (Bool×σ))(s0:σ):Option σ:=
 gd (okM 8 (↑p0_.rows.length:Int))<|
 oh N σ B p0_ N s0 (mk (↑p0_.rows.length:Int) (0:Int))
def z2q(N:Nat)(m:Mach):Option ((List Int)×Int×Int):=
 bd (iw N m) fun a=>
 bif decide (a≠0) then(
 some (([]:(List Int)),0,a)) else(
 bd (z5s N m) fun d=>
 bd (z4a N d ((List Int)×Int) (fun e b=>
 gd (in64 (b.2+1))<|
 some (true,(e,b.2+1))) (([]:(List Int)),(-1))) fun c=>
 some (c.1,c.2,0))
def ma(N:Nat)(x:(List Int)):Nat→Int→Int→Option Int
 |0,_,_=>none
 |c+1,b,a=>
  bif decide (a<(↑x.length:Int)) then(
  gd (okI x a)<|
  gd (in64 (a+1))<|
  ma N x c (max b (ix x a)) (a+1)) else(
  some b)
def slices_Max_int(N:Nat)(x:(List Int)):Option Int:=
 bif decide ((↑x.length:Int)<1) then(
 none) else(
 gd (okI x 0)<|
 bd (
 ma N x N (ix x 0) 1) fun a=>
 some a)
def z18(N:Nat)(p0_:Mach):Option Bool:=
 bd (z2q N p0_) fun a=>
 bd (slices_Max_int N a.1) fun b=>
 gd (in64 ((↑a.1.length:Int)-1))<|
 some (decide (b=((↑a.1.length:Int)-1)))
def z1v(N:Nat)(m:Mach):Option Int:=
 bd (iw N m) fun e=>
 bif decide (e≠0) then(
 some e) else(
 bd (z7o N m) fun a=>
 bd (z15 N a.1) fun b=>
 bif !b then(
 some 9) else(
 bd (z11 N a.2.1) fun c=>
 bif !c then(
 some 11) else(
 bd (z18 N a.2.2) fun d=>
 bif !d then(
 some 12) else(
 some 0))))
def z09(N:Nat)(m:Mach):Option Int:=
 bd (z1v N m) fun a=>
 bif decide (a≠0) then(
 some a) else(
 bif decide (6<(↑m.rows.length:Int)) then(
 some 3) else(
 some 0))
def z2n(N:Nat)(n:Int):Nat→Int→(Arr 6 Int)→Option (Arr 6 Int)
 |0,_,_=>none
 |c+1,a,b=>
  bif decide (a<n) then(
  gd (okSh .u16 (8:Int))<|
  gd (okSh .u16 n)<|
  gd (okB .u16 (z1q .u16 (IntKind.u16.wrap a) (8:Int)) (IntKind.u16.wrap ((z1q .u16 (1:Int) n)-1)))<|
  gd (okI b.1 a)<|
  gd (in64 (a+1))<|
  z2n N n c (a+1) (l8 b a (ior (z1q .u16 (IntKind.u16.wrap a) (8:Int)) (IntKind.u16.wrap ((z1q .u16 (1:Int) n)-1))))) else(
  some b)
def zbc(N:Nat)(n:Int):Option (Arr 6 Int):=
 bd (
 z2n N n N 0 (ah 6 (List.replicate 6 (0:Int)))) fun a=>
 some a
def z4k(N:Nat)(counts:Int):Nat→Int→(Arr 6 Int)→Option (Arr 6 Int)
 |0,_,_=>none
 |d+1,b,a=>
  bif decide (b<6) then(
  bd (
  gd (okSh .u16 b)<|
  gd (okB .u16 (mi counts b) 1)<|
  bif decide ((z7m (mi counts b) 1)=0) then(
  gd (okI a.1 b)<|
  some (l8 a b 0)) else(
  some a)) fun c=>
  gd (in64 (b+1))<|
  z4k N counts d (b+1) c) else(
  some a)
def zaq(N:Nat)(v_:(Arr 6 Int))(counts:Int):Option (Arr 6 Int):=
 bd (
 z4k N counts N 0 v_) fun a=>
 some a
def z0u(N:Nat)(x:Int):Option Int:=
 gd (okSh .u16 (8:Int))<|
 gd (okI z5z (mi x (8:Int)))<|
 gd (okB .u16 x 255)<|
 gd (okI z5z (z7m x 255))<|
 gd (in64 (IntKind.u8.wrap ((ix z5z (mi x (8:Int)))+(ix z5z (z7m x 255)))))<|
 some (IntKind.u8.wrap ((ix z5z (mi x (8:Int)))+(ix z5z (z7m x 255))))
def z3q(N:Nat)(v_:(Arr 6 Int))(counts:Int):Nat→Int→Option (Ex (Unit) (Bool))
 |0,_=>none
 |c+1,a=>
  bif decide (a<6) then(
  gd (okSh .u16 a)<|
  gd (okB .u16 (mi counts a) 1)<|
  gd ((true&&((decide ((z7m (mi counts a) 1)=1))==true))=true→okI v_.1 a)<|
  gd ((true&&((decide ((z7m (mi counts a) 1)=1))==true))=true→okB .u16 (ix v_.1 a) 255)<|
  bd (gop (true&&((decide ((z7m (mi counts a) 1)=1))==true)) (z0u N (z7m (ix v_.1 a) 255))) fun b=>
  bif (decide ((z7m (mi counts a) 1)=1))&&(decide (1<(b.getD default))) then(
  some (Ex.rt false)) else(
  gd (in64 (a+1))<|
  z3q N v_ counts c (a+1))) else(
  some (Ex.go ()))
def zc2(N:Nat)(v_:(Arr 6 Int))(counts:Int):Option Bool:=
 bd (
 z3q N v_ counts N 0) fun a=>
 Ex.on a (fun b=>
 some true) some
def z4p(N:Nat)(s:(List Int)):Option (List Int):=
 gd (okS s 0 (↑s.length:Int))<|
 some (cut s 0 (↑s.length:Int))
def z2x(N:Nat)(m:Mach)(v_:(Arr 6 Int))(i:Int)(counts:Int)(b:Int)(d:(Arr 6 Int)):Nat→Int→Int→Option (Ex (Int) (Ex ((Arr 6 Int)) ((Arr 6 Int)×Bool)))
 |0,_,_=>none
 |e+1,c,a=>
  bif decide (a<(↑m.rows.length:Int)) then(
  bd (
  gd (okI m.rows a)<|
  gd (okI (ix m.rows a) i)<|
  gd (okI v_.1 b)<|
  gd (okSh .u16 a)<|
  gd (okB .u16 (mi (ix v_.1 b) a) 1)<|
  bif (decide ((z7m (mi (ix v_.1 b) a) 1)=0))||(decide (((ix (ix m.rows a) i).out)≠((ix (ix m.rows (mi (ix v_.1 b) (8:Int))) i).out))) then(
  some (Ex.go c)) else(
  gd ((true&&((decide (((ix (ix m.rows a) i).to)=((ix (ix m.rows (mi (ix v_.1 b) (8:Int))) i).to)))==true))=true→okI v_.1 b)<|
  gd ((true&&((decide (((ix (ix m.rows a) i).to)=((ix (ix m.rows (mi (ix v_.1 b) (8:Int))) i).to)))==true))=true→okSh .u16 (8:Int))<|
  gd ((true&&((decide (((ix (ix m.rows a) i).to)=((ix (ix m.rows (mi (ix v_.1 b) (8:Int))) i).to)))==true))=true→in64 (mi (ix v_.1 b) (8:Int)))<|
  gd ((true&&(((decide (((ix (ix m.rows a) i).to)=((ix (ix m.rows (mi (ix v_.1 b) (8:Int))) i).to)))&&(decide (a≠(mi (ix v_.1 b) (8:Int)))))==true))=true→okSh .u16 b)<|
  gd ((true&&(((decide (((ix (ix m.rows a) i).to)=((ix (ix m.rows (mi (ix v_.1 b) (8:Int))) i).to)))&&(decide (a≠(mi (ix v_.1 b) (8:Int)))))==true))=true→okB .u16 (mi counts b) 1)<|
  bif ((decide (((ix (ix m.rows a) i).to)=((ix (ix m.rows (mi (ix v_.1 b) (8:Int))) i).to)))&&(decide (a≠(mi (ix v_.1 b) (8:Int)))))&&(decide ((z7m (mi counts b) 1)=1)) then(
  some (Ex.rt (Ex.rt (Ex.rt (d,false))))) else(
  gd (okSh .u16 ((ix (ix m.rows a) i).to))<|
  gd (okB .u16 c (z1q .u16 (1:Int) ((ix (ix m.rows a) i).to)))<|
  some (Ex.go (ior c (z1q .u16 (1:Int) ((ix (ix m.rows a) i).to))))))) fun f=>
  Ex.on f (fun g=>
  gd (in64 (a+1))<|
  z2x N m v_ i counts b d e g (a+1)) some) else(
  some (Ex.go c))
def z2w(N:Nat)(m:Mach)(v_:(Arr 6 Int))(i:Int)(counts:Int):Nat→Int→(Arr 6 Int)→Option (Ex ((Arr 6 Int)) ((Arr 6 Int)×Bool))
 |0,_,_=>none
 |d+1,a,b=>
  bif decide (a<(↑m.rows.length:Int)) then(
  gd (okI v_.1 a)<|
  gd (okSh .u16 (8:Int))<|
  gd (okI m.rows (mi (ix v_.1 a) (8:Int)))<|
  gd (okI (ix m.rows (mi (ix v_.1 a) (8:Int))) i)<|
  bd (
  z2x N m v_ i counts a b N 0 0) fun e=>
  Ex.on e (fun c=>
  gd (okSh .u16 (8:Int))<|
  gd (okB .u16 (z1q .u16 (IntKind.u16.wrap ((ix (ix m.rows (mi (ix v_.1 a) (8:Int))) i).to)) (8:Int)) c)<|
  gd (okI b.1 a)<|
  gd (in64 (a+1))<|
  z2w N m v_ i counts d (a+1) (l8 b a (ior (z1q .u16 (IntKind.u16.wrap ((ix (ix m.rows (mi (ix v_.1 a) (8:Int))) i).to)) (8:Int)) c))) some) else(
  some (Ex.go b))
def zbd(N:Nat)(m:Mach)(v_:(Arr 6 Int))(i:Int)(counts:Int):Option ((Arr 6 Int)×Bool):=
 bd (
 z2w N m v_ i counts N 0 v_) fun a=>
 Ex.on a (fun b=>
 some (b,true)) some
def z2p(N:Nat)(counts:Int)(b:List Sd):Nat→Int→Option (Ex (Unit) (Ex (Unit) ((List Int)×Int)))
 |0,_=>none
 |c+1,a=>
  bif decide (a<(↑b.length:Int)) then(
  gd (okI b a)<|
  bd (zc2 N ((ix b a).fI) counts) fun d=>
  bif d then(
  bd (z4p N ((ix b a).fQ)) fun e=>
  some (Ex.rt (Ex.rt (e,0)))) else(
  gd (in64 (a+1))<|
  z2p N counts b c (a+1))) else(
  some (Ex.go ()))
def z2t(N:Nat)(m:Mach)(counts:Int)(most:Int)(i:List Sd)(j:Int)(e:Int):Nat→Int→(List ((Arr 6 Int)×Bool))→(List Sd)→Option (List ((Arr 6 Int)×Bool)×List Sd)
 |0,_,_,_=>none
 |k+1,a,b,c=>
  bif decide (a<m.inputs) then(
  bd (
  bd (zbd N m ((ix i e).fI) a counts) fun g=>
  bd (zaq N g.1 counts) fun d=>
  bif (g.2&&(!(z8m false b d)))&&(decide (j<most)) then(
  bd (z4p N ((ix i e).fQ)) fun f=>
  gd (fits 8 f ([a]:List Int))<|
  gd (fits 40 c ([(⟨d,(f++([a]:List Int))⟩:Sd)]:List Sd))<|
  some ((zac b d true),(c++([(⟨d,(f++([a]:List Int))⟩:Sd)]:List Sd)))) else(
  some (b,c))) fun h=>
  gd (in64 (a+1))<|
  z2t N m counts most i j e k (a+1) h.1 h.2) else(
  some (b,c))
def z2s(N:Nat)(m:Mach)(counts:Int)(most:Int)(b:List Sd)(f:Int):Nat→(List Sd)→Int→(List ((Arr 6 Int)×Bool))→Option (List Sd×List ((Arr 6 Int)×Bool))
 |0,_,_,_=>none
 |g+1,c,a,d=>
  bif decide (a<(↑b.length:Int)) then(
  bd (
  gd (okI b a)<|
  z2t N m counts most b f a N 0 d c) fun e=>
  gd (in64 (a+1))<|
  z2s N m counts most b f g e.2 (a+1) e.1) else(
  some (c,d))
def z2y(N:Nat)(m:Mach)(counts:Int)(most:Int):Nat→(List Sd)→Int→(List ((Arr 6 Int)×Bool))→Option (Ex (Unit) ((List Int)×Int))
 |0,_,_,_=>none
 |d+1,a,b,e=>
  bif decide (0<(↑a.length:Int)) then(
  bd (
  z2p N counts a N 0) fun f=>
  Ex.on f (fun g=>
  bd (
  z2s N m counts most a b N ([]:List Sd) 0 e) fun c=>
  gd (in64 (b+1))<|
  z2y N m counts most d c.1 (b+1) c.2) some) else(
  some (Ex.go ()))
def z7x(N:Nat)(m:Mach)(counts:Int)(most:Int):Option ((List Int)×Int):=
 bd (zbc N (↑m.rows.length:Int)) fun b=>
 bd (zaq N b counts) fun a=>
 gd (okI ([(⟨a,[]⟩:Sd)]:List Sd) 0)<|
 bd (
 z2y N m counts most N ([(⟨a,[]⟩:Sd)]:List Sd) 0 (zac ([]:List ((Arr 6 Int)×Bool)) ((ix ([(⟨a,[]⟩:Sd)]:List Sd) 0).fI) true)) fun c=>
 Ex.on c (fun d=>
 some (([]:(List Int)),7)) some
def z8g(N:Nat)(m:Mach)(s:Int)(most:Int):Option ((List Int)×Int):=
 bd (z09 N m) fun b=>
 bif decide (b≠0) then(
 some (([]:(List Int)),b)) else(
 bif (((decide (s<0))||(decide ((↑m.rows.length:Int)≤s)))||(decide (most<0)))||(decide (256<most)) then(
 some (([]:(List Int)),1)) else(
 gd (okSh .u16 s)<|
 bd (z7x N m (z1q .u16 (1:Int) s) most) fun a=>
 some (a.1,a.2)))
def z6t(N:Nat)(m:Mach)(most:Int):Option ((List Int)×Int):=
 bd (z09 N m) fun b=>
 bif decide (b≠0) then(
 some (([]:(List Int)),b)) else(
 bif (decide (most<0))||(decide (256<most)) then(
 some (([]:(List Int)),1)) else(
 gd (okSh .u16 (↑m.rows.length:Int))<|
 bd (z7x N m (IntKind.u16.wrap ((z1q .u16 (1:Int) (↑m.rows.length:Int))-1)) most) fun a=>
 some (a.1,a.2)))
def aa(N:Nat)(a:(List Int))(b:(List Int)):Nat→Int→Option (Ex (Unit) (Int))
 |0,_=>none
 |d+1,c=>
  bif decide (c<(↑a.length:Int)) then(
  gd (okI a c)<|
  gd (okI b c)<|
  bif decide ((ix a c)<(ix b c)) then(
  some (Ex.rt (-1))) else(
  gd (okI a c)<|
  gd (okI b c)<|
  bif decide ((ix b c)<(ix a c)) then(
  some (Ex.rt 1)) else(
  gd (in64 (c+1))<|
  aa N a b d (c+1)))) else(
  some (Ex.go ()))
def z3h(N:Nat)(a:(List Int))(b:(List Int)):Option Int:=
 bif decide ((↑a.length:Int)≠(↑b.length:Int)) then(
 bif decide ((↑a.length:Int)<(↑b.length:Int)) then(
 some (-1)) else(
 some 1)) else(
 bd (
 aa N a b N 0) fun c=>
 Ex.on c (fun d=>
 some 0) some)
def ry(N:Nat)(a:(List (List Int)))(b:(List (List Int))):Nat→Int→Option (Ex (Unit) (Bool))
 |0,_=>none
 |e+1,c=>
  bif decide (c<(↑a.length:Int)) then(
  gd (okI a c)<|
  gd (okI b c)<|
  bd (z3h N (ix a c) (ix b c)) fun d=>
  bif decide (d≠0) then(
  some (Ex.rt false)) else(
  gd (in64 (c+1))<|
  ry N a b e (c+1))) else(
  some (Ex.go ()))
def z2j(N:Nat)(a:(List (List Int)))(b:(List (List Int))):Option Bool:=
 bif decide ((↑a.length:Int)≠(↑b.length:Int)) then(
 some false) else(
 bd (
 ry N a b N 0) fun c=>
 Ex.on c (fun d=>
 some true) some)
def z0i(N:Nat)(a:(List Int))(b:(List Int)):Option Bool:=
 bd (z2j N ([a]:List (List Int)) ([b]:List (List Int))) fun c=>
 some (c&&(decide ((↑a.length:Int)=(↑a.length:Int))))
def z3g(N:Nat):Option Mach:=
 some (⟨2,2,([([(⟨1,0⟩:Edge),(⟨0,0⟩:Edge)]:List Edge),([(⟨2,0⟩:Edge),(⟨1,1⟩:Edge)]:List Edge),([(⟨0,1⟩:Edge),(⟨2,0⟩:Edge)]:List Edge)]:List (List Edge))⟩:Mach)
def z0p(N:Nat)(l_:(Arr 64 Int))(block:Int)(h_:Int):Option Bool:=
 bd (z0u N block) fun a=>
 gd ((true&&((decide (a<2))==false))=true→okI l_.1 block)<|
 gd (((true&&((decide (a<2))==false))&&((decide (0<(ix l_.1 block)))==true))=true→okI l_.1 block)<|
 some ((decide (a<2))||((decide (0<(ix l_.1 block)))&&(decide ((ix l_.1 block)<h_))))
def z2r(N:Nat)(m:Mach)(block:Int)(i:Int):Nat→Int→(Arr 16 Int)→Option (Ex ((Arr 16 Int)) ((Arr 16 Int)×Bool))
 |0,_,_=>none
 |c+1,a,b=>
  bif decide (a<(↑m.rows.length:Int)) then(
  bd (
  gd (okSh .u16 a)<|
  gd (okB .u16 (mi block a) 1)<|
  bif decide ((z7m (mi block a) 1)=0) then(
  some (Ex.go b)) else(
  gd (okI m.rows a)<|
  gd (okI (ix m.rows a) i)<|
  gd (okI b.1 ((ix (ix m.rows a) i).out))<|
  gd (okSh .u16 ((ix (ix m.rows a) i).to))<|
  gd (okB .u16 (mi (ix b.1 ((ix (ix m.rows a) i).out)) ((ix (ix m.rows a) i).to)) 1)<|
  bif decide ((z7m (mi (ix b.1 ((ix (ix m.rows a) i).out)) ((ix (ix m.rows a) i).to)) 1)=1) then(
  some (Ex.rt (Ex.rt (b,false)))) else(
  gd (okI b.1 ((ix (ix m.rows a) i).out))<|
  gd (okSh .u16 ((ix (ix m.rows a) i).to))<|
  gd (okB .u16 (ix b.1 ((ix (ix m.rows a) i).out)) (z1q .u16 (1:Int) ((ix (ix m.rows a) i).to)))<|
  gd (okI b.1 ((ix (ix m.rows a) i).out))<|
  some (Ex.go (l8 b ((ix (ix m.rows a) i).out) (ior (ix b.1 ((ix (ix m.rows a) i).out)) (z1q .u16 (1:Int) ((ix (ix m.rows a) i).to)))))))) fun d=>
  Ex.on d (fun e=>
  gd (in64 (a+1))<|
  z2r N m block i c (a+1) e) some) else(
  some (Ex.go b))
def zah(N:Nat)(m:Mach)(block:Int)(i:Int):Option ((Arr 16 Int)×Bool):=
 bd (
 z2r N m block i N 0 (ah 16 (List.replicate 16 (0:Int)))) fun a=>
 Ex.on a (fun b=>
 some (b,true)) some
def av(N:Nat)(l_:(Arr 64 Int))(h_:Int)(c:(Arr 16 Int)×Bool):Nat→Bool→Int→Option Bool
 |0,_,_=>none
 |d+1,b,a=>
  bif decide (a<16) then(
  gd (okI c.1.1 a)<|
  bd (gop (true&&(b==true)) (z0p N l_ (ix c.1.1 a) h_)) fun e=>
  gd (in64 (a+1))<|
  av N l_ h_ c d (b&&(e.getD default)) (a+1)) else(
  some b)
def z19(N:Nat)(l_:(Arr 64 Int))(m:Mach)(block:Int)(i:Int)(h_:Int):Option Bool:=
 bd (zah N m block i) fun b=>
 bd (
 av N l_ h_ b N b.2 0) fun a=>
 some a
def z0y(N:Nat)(m:Mach)(d:Int)(e:(Arr 64 Int))(f:Bool)(a:Int)(b:(Arr 64 Int)):Nat→Int→Option (Bool×(Arr 64 Int))
 |0,_=>none
 |g+1,c=>
  bif decide (c<m.inputs) then(
  bd (z19 N e m a c d) fun h=>
  bif h then(
  gd (okI b.1 a)<|
  some (true,(l8 b a d))) else(
  gd (in64 (c+1))<|
  z0y N m d e f a b g (c+1))) else(
  some (f,b))
def z1k(N:Nat)(m:Mach)(b:Int)(c:(Arr 64 Int)):Nat→Bool→Int→(Arr 64 Int)→Option (Bool×(Arr 64 Int))
 |0,_,_,_=>none
 |g+1,d,a,e=>
  bif decide (a<(z1q .u16 (1:Int) (↑m.rows.length:Int))) then(
  bd (
  bd (z0p N c a b) fun h=>
  bif h then(
  some (d,e)) else(
  z0y N m b c d a e N 0)) fun f=>
  z1k N m b c g f.1 (IntKind.u16.wrap (a+1)) f.2) else(
  some (d,e))
def z1g(N:Nat)(m:Mach):Nat→Int→Bool→(Arr 64 Int)→Option (Arr 64 Int)
 |0,_,_,_=>none
 |d+1,a,e,b=>
  bif e then(
  bd (
  gd (okSh .u16 (↑m.rows.length:Int))<|
  z1k N m a b N false 0 b) fun c=>
  gd (in64 (a+1))<|
  z1g N m d (a+1) c.1 c.2) else(
  some b)
def z8i(N:Nat)(m:Mach):Option (Arr 64 Int):=
 bd (
 z1g N m N 1 true (ah 64 (List.replicate 64 (0:Int)))) fun a=>
 some a
def z10(N:Nat)(p1_:Mach):Nat→Int→(List Int)→Option (List Int)
 |0,_,_=>none
 |c+1,a,b=>
  bif decide (a<(↑(mk p1_.outputs (0:Int)).length:Int)) then(
  gd (okI b a)<|
  gd (in64 (a+1))<|
  z10 N p1_ c (a+1) (up b a (-1))) else(
  some b)
def z1i(N:Nat)(now:(List Int)):Nat→Int→Int→Option Int
 |0,_,_=>none
 |c+1,b,a=>
  bif decide (a<(↑now.length:Int)) then(
  gd (okI now a)<|
  gd (okSh .u16 (ix now a))<|
  gd (okB .u16 b (z1q .u16 (1:Int) (ix now a)))<|
  gd (in64 (a+1))<|
  z1i N now c (ior b (z1q .u16 (1:Int) (ix now a))) (a+1)) else(
  some b)
def z16(N:Nat)(p1_:Mach)(p2_:(Arr 64 Int))(b:Int):Nat→Int→Option Int
 |0,_=>none
 |c+1,a=>
  gd (okI p2_.1 b)<|
  bd (z19 N p2_ p1_ b a (ix p2_.1 b)) fun d=>
  bif !d then(
  gd (in64 (a+1))<|
  z16 N p1_ p2_ b c (a+1)) else(
  some a)
def z1h(N:Nat)(now:(List Int))(from_:(List Int))(p1_:Mach)(b:Int)(e:Int):Nat→(List Int)→(List Int)→Int→Option (List Int×List Int)
 |0,_,_,_=>none
 |g+1,c,d,a=>
  bif decide (a<(↑now.length:Int)) then(
  bd (
  gd (okI now a)<|
  gd (okI p1_.rows (ix now a))<|
  gd (okI (ix p1_.rows (ix now a)) b)<|
  bif decide (((ix (ix p1_.rows (ix now a)) b).out)=e) then(
  gd (okI p1_.rows (ix now a))<|
  gd (okI (ix p1_.rows (ix now a)) b)<|
  gd (fits 8 c ([(ix (ix p1_.rows (ix now a)) b).to]:List Int))<|
  gd (okI from_ a)<|
  gd (fits 8 d ([(ix from_ a)]:List Int))<|
  some ((c++([(ix (ix p1_.rows (ix now a)) b).to]:List Int)),(d++([(ix from_ a)]:List Int)))) else(
  some (c,d))) fun f=>
  gd (in64 (a+1))<|
  z1h N now from_ p1_ b e g f.1 f.2 (a+1)) else(
  some (c,d))
def z1f(N:Nat)(self:(List Int)→(List Int)→List Sa→Mach→(Arr 64 Int)→Option (Int×List Sa))(now:(List Int))(from_:(List Int))(p0_:List Sa)(p1_:Mach)(p2_:(Arr 64 Int))(f:List Int)(c:Int):Nat→Int→(List Sa)→Option (List Sa)
 |0,_,_=>none
 |g+1,a,d=>
  bif decide (a<(↑((up (p0_++[(⟨(-1),(-1),f⟩:Sa)]) (↑p0_.length:Int) (⟨c,(ix (p0_++[(⟨(-1),(-1),f⟩:Sa)]) (↑p0_.length:Int)).fD,(ix (p0_++[(⟨(-1),(-1),f⟩:Sa)]) (↑p0_.length:Int)).fC⟩:Sa)).getD p0_.length default).fC.length:Int)) then(
  bd (
  bd (
  z1h N now from_ p1_ c a N ([]:List Int) ([]:List Int) 0) fun e=>
  bif decide (0<(↑e.1.length:Int)) then(
  bd (self e.1 e.2 d p1_ p2_) fun b=>
  gd (okI (b.2.getD p0_.length default).fC a)<|
  some (b.2.set p0_.length (⟨(b.2.getD p0_.length default).fB,(b.2.getD p0_.length default).fD,up (b.2.getD p0_.length default).fC a b.1⟩:Sa))) else(
  some d)) fun h=>
  gd (in64 (a+1))<|
  z1f N self now from_ p0_ p1_ p2_ f c g (a+1) h) else(
  some d)
def z0k(N:Nat):Nat→(List Int)→(List Int)→List Sa→Mach→(Arr 64 Int)→Option (Int×List Sa)
 |0,_,_,_,_,_=>none
 |F+1,now,from_,p0_,p1_,p2_=>
  gd (okM 8 p1_.outputs)<|
  bd (
  z10 N p1_ N 0 (mk p1_.outputs (0:Int))) fun a=>
  gd (fits 40 p0_ [(⟨(-1),(-1),a⟩:Sa)])<|
  bif decide ((↑now.length:Int)=1) then(
  gd (okI from_ 0)<|
  gd (okI (p0_++[(⟨(-1),(-1),a⟩:Sa)]) (↑p0_.length:Int))<|
  some ((↑p0_.length:Int),(up (p0_++[(⟨(-1),(-1),a⟩:Sa)]) (↑p0_.length:Int) (⟨(ix (p0_++[(⟨(-1),(-1),a⟩:Sa)]) (↑p0_.length:Int)).fB,(ix from_ 0),(ix (p0_++[(⟨(-1),(-1),a⟩:Sa)]) (↑p0_.length:Int)).fC⟩:Sa)))) else(
  bd (
  z1i N now N 0 0) fun d=>
  bd (
  z16 N p1_ p2_ d N 0) fun b=>
  gd (okI (p0_++[(⟨(-1),(-1),a⟩:Sa)]) (↑p0_.length:Int))<|
  bd (
  z1f N (z0k N F) now from_ p0_ p1_ p2_ a b N 0 (up (p0_++[(⟨(-1),(-1),a⟩:Sa)]) (↑p0_.length:Int) (⟨b,(ix (p0_++[(⟨(-1),(-1),a⟩:Sa)]) (↑p0_.length:Int)).fD,(ix (p0_++[(⟨(-1),(-1),a⟩:Sa)]) (↑p0_.length:Int)).fC⟩:Sa))) fun c=>
  some ((↑p0_.length:Int),c))
def z2e(N:Nat)(s:(List Sa)):Option (List Sa):=
 gd (okS s 0 (↑s.length:Int))<|
 some (cut s 0 (↑s.length:Int))
def z2u(N:Nat)(m:Mach):Nat→(List Int)→Int→Option (List Int)
 |0,_,_=>none
 |c+1,b,a=>
  bif decide (a<(↑m.rows.length:Int)) then(
  gd (fits 8 b ([a]:List Int))<|
  gd (in64 (a+1))<|
  z2u N m c (b++([a]:List Int)) (a+1)) else(
  some b)
def zb3(N:Nat)(m:Mach):Option (Sb×Int):=
 bd (z09 N m) fun f=>
 bif decide (f≠0) then(
 some ((⟨[]⟩:Sb),f)) else(
 bd (z8i N m) fun a=>
 gd (okSh .u16 (↑m.rows.length:Int))<|
 bd (z0p N a (IntKind.u16.wrap ((z1q .u16 (1:Int) (↑m.rows.length:Int))-1)) 64) fun d=>
 bif !d then(
 some ((⟨[]⟩:Sb),7)) else(
 bd (
 z2u N m N ([]:List Int) 0) fun b=>
 bd (z0k N N b b ([]:List Sa) m a) fun e=>
 bd (z2e N e.2) fun c=>
 some ((⟨c⟩:Sb),0)))
def z1s(N:Nat)(input:Int)(next:(List Int)):Option Sa:=
 some (⟨input,(-1),next⟩:Sa)
def z0j(N:Nat)(s:Int):Option Sa:=
 some (⟨(-1),s,([(-1),(-1)]:List Int)⟩:Sa)
def z0g(N:Nat)(t:Sb)(outputs:(List Int)):Nat→Int→Int→Option (Ex (Int) (Int×Int))
 |0,_,_=>none
 |c+1,b,a=>
  bif decide (a<(↑outputs.length:Int)) then(
  gd (okI outputs a)<|
  gd (okI t.fA b)<|
  bif decide (((ix t.fA b).fB)=(-1)) then(
  some (Ex.rt (0,16))) else(
  gd ((true&&(((decide ((ix outputs a)<0))||(decide ((↑((ix t.fA b).fC).length:Int)≤(ix outputs a))))==false))=true→okI ((ix t.fA b).fC) (ix outputs a))<|
  gd ((true&&((((decide ((ix outputs a)<0))||(decide ((↑((ix t.fA b).fC).length:Int)≤(ix outputs a))))||(decide ((ix ((ix t.fA b).fC) (ix outputs a))<0)))==false))=true→okI ((ix t.fA b).fC) (ix outputs a))<|
  bif (((decide ((ix outputs a)<0))||(decide ((↑((ix t.fA b).fC).length:Int)≤(ix outputs a))))||(decide ((ix ((ix t.fA b).fC) (ix outputs a))<0)))||(decide ((↑t.fA.length:Int)≤(ix ((ix t.fA b).fC) (ix outputs a)))) then(
  some (Ex.rt (0,7))) else(
  gd (okI ((ix t.fA b).fC) (ix outputs a))<|
  gd (in64 (a+1))<|
  z0g N t outputs c (ix ((ix t.fA b).fC) (ix outputs a)) (a+1)))) else(
  some (Ex.go b))
def z2z(N:Nat)(t:Sb)(outputs:(List Int)):Option (Int×Int):=
 bif decide ((↑t.fA.length:Int)=0) then(
 some (0,4)) else(
 bd (
 z0g N t outputs N 0 0) fun b=>
 Ex.on b (fun a=>
 gd (okI t.fA a)<|
 bif decide (((ix t.fA a).fB)=(-1)) then(
 some (((ix t.fA a).fD),0)) else(
 some (0,16))) some)
def fe(N:Nat)(a:Sb)(b:Sb):Nat→Int→Option (Ex (Unit) (Bool))
 |0,_=>none
 |d+1,c=>
  bif decide (c<(↑a.fA.length:Int)) then(
  gd (okI a.fA c)<|
  gd (okI b.fA c)<|
  gd ((true&&((decide (((ix a.fA c).fB)≠((ix b.fA c).fB)))==false))=true→okI a.fA c)<|
  gd ((true&&((decide (((ix a.fA c).fB)≠((ix b.fA c).fB)))==false))=true→okI b.fA c)<|
  gd ((true&&(((decide (((ix a.fA c).fB)≠((ix b.fA c).fB)))||(decide (((ix a.fA c).fD)≠((ix b.fA c).fD))))==false))=true→okI a.fA c)<|
  gd ((true&&(((decide (((ix a.fA c).fB)≠((ix b.fA c).fB)))||(decide (((ix a.fA c).fD)≠((ix b.fA c).fD))))==false))=true→okI b.fA c)<|
  bd (gop (true&&(((decide (((ix a.fA c).fB)≠((ix b.fA c).fB)))||(decide (((ix a.fA c).fD)≠((ix b.fA c).fD))))==false)) (z2j N ([(ix a.fA c).fC]:List (List Int)) ([(ix b.fA c).fC]:List (List Int)))) fun e=>
  bif ((decide (((ix a.fA c).fB)≠((ix b.fA c).fB)))||(decide (((ix a.fA c).fD)≠((ix b.fA c).fD))))||(!(e.getD default)) then(
  some (Ex.rt false)) else(
  gd (in64 (c+1))<|
  fe N a b d (c+1))) else(
  some (Ex.go ()))
def z4v(N:Nat)(a:Sb)(b:Sb):Option Bool:=
 bif decide ((↑a.fA.length:Int)≠(↑b.fA.length:Int)) then(
 some false) else(
 bd (
 fe N a b N 0) fun c=>
 Ex.on c (fun d=>
 some true) some)
def z2f(N:Nat)(t:Sb)(a:Int):Nat→Int→(List Int)→Option (Ex (List Int) (Ex (List Int) (Int)))
 |0,_,_=>none
 |d+1,b,c=>
  bif decide (b<(↑((ix t.fA a).fC).length:Int)) then(
  bd (
  gd (okI ((ix t.fA a).fC) b)<|
  bif decide ((ix ((ix t.fA a).fC) b)=(-1)) then(
  some (Ex.go c)) else(
  bif (decide ((ix ((ix t.fA a).fC) b)≤a))||(decide ((↑t.fA.length:Int)≤(ix ((ix t.fA a).fC) b))) then(
  some (Ex.rt (Ex.rt (Ex.rt 0)))) else(
  gd (okI c a)<|
  gd (okI c (ix ((ix t.fA a).fC) b))<|
  gd (in64 ((ix c (ix ((ix t.fA a).fC) b))+1))<|
  gd (okI c a)<|
  some (Ex.go (up c a (max (ix c a) ((ix c (ix ((ix t.fA a).fC) b))+1))))))) fun e=>
  Ex.on e (fun f=>
  gd (in64 (b+1))<|
  z2f N t a d (b+1) f) some) else(
  some (Ex.go c))
def z2a(N:Nat)(t:Sb):Nat→Int→(List Int)→Option (Ex (List Int) (Int))
 |0,_,_=>none
 |c+1,a,b=>
  bif decide (0≤a) then(
  bd (
  gd (okI t.fA a)<|
  z2f N t a N 0 b) fun d=>
  Ex.on d (fun e=>
  gd (in64 (a-1))<|
  z2a N t c (a-1) e) some) else(
  some (Ex.go b))
def z9n(N:Nat)(t:Sb):Option Int:=
 gd (okM 8 (↑t.fA.length:Int))<|
 bd (
 gd (in64 ((↑t.fA.length:Int)-1))<|
 z2a N t N ((↑t.fA.length:Int)-1) (mk (↑t.fA.length:Int) (0:Int))) fun b=>
 Ex.on b (fun a=>
 bif decide ((↑a.length:Int)=0) then(
 some 0) else(
 gd (okI a 0)<|
 some (ix a 0))) some
def z1t(N:Nat):Option Bool:=
 bd (z3g N) fun b=>
 bd (z8g N (⟨b.inputs,b.outputs,b.rows⟩:Mach) 2 3) fun e=>
 bd (z8g N (⟨b.inputs,b.outputs,b.rows⟩:Mach) 0 3) fun f=>
 bd (z8g N (⟨b.inputs,b.outputs,b.rows⟩:Mach) 0 1) fun n=>
 bd (z6t N (⟨b.inputs,b.outputs,b.rows⟩:Mach) 3) fun g=>
 bd (z6t N (⟨b.inputs,b.outputs,b.rows⟩:Mach) 1) fun o=>
 bd (gop (true&&((((((decide (e.2≠0))||(decide (f.2≠0)))||(decide (n.2≠7)))||(decide (g.2≠0)))||(decide (o.2≠7)))==false)) (z0i N e.1 ([0]:List Int))) fun r=>
 bd (gop (true&&(((((((decide (e.2≠0))||(decide (f.2≠0)))||(decide (n.2≠7)))||(decide (g.2≠0)))||(decide (o.2≠7)))||(!(r.getD default)))==false)) (z0i N f.1 ([0,0]:List Int))) fun p=>
 bd (gop (true&&((((((((decide (e.2≠0))||(decide (f.2≠0)))||(decide (n.2≠7)))||(decide (g.2≠0)))||(decide (o.2≠7)))||(!(r.getD default)))||(!(p.getD default)))==false)) (z0i N g.1 ([0,0]:List Int))) fun s=>
 bif (((((((decide (e.2≠0))||(decide (f.2≠0)))||(decide (n.2≠7)))||(decide (g.2≠0)))||(decide (o.2≠7)))||(!(r.getD default)))||(!(p.getD default)))||(!(s.getD default)) then(
 some false) else(
 bd (zb3 N (⟨b.inputs,b.outputs,b.rows⟩:Mach)) fun a=>
 bd (z1s N 0 ([1,4]:List Int)) fun h=>
 bd (z1s N 0 ([2,3]:List Int)) fun i=>
 bd (z0j N 0) fun j=>
 bd (z0j N 1) fun k=>
 bd (z0j N 2) fun l=>
 bd (z2z N (⟨a.1.fA⟩:Sb) ([0,1]:List Int)) fun c=>
 bd (z2z N (⟨a.1.fA⟩:Sb) ([1]:List Int)) fun d=>
 bd (z2z N (⟨a.1.fA⟩:Sb) ([0]:List Int)) fun m=>
 bd (gop (true&&(((((decide (a.2=0))&&(decide (c.2=0)))&&(decide (d.2=0)))&&(decide (m.2=16)))==true)) (z4v N (⟨a.1.fA⟩:Sb) (⟨([(⟨h.fB,h.fD,h.fC⟩:Sa),(⟨i.fB,i.fD,i.fC⟩:Sa),(⟨j.fB,j.fD,j.fC⟩:Sa),(⟨k.fB,k.fD,k.fC⟩:Sa),(⟨l.fB,l.fD,l.fC⟩:Sa)]:List Sa)⟩:Sb))) fun q=>
 bd (gop (true&&((((((decide (a.2=0))&&(decide (c.2=0)))&&(decide (d.2=0)))&&(decide (m.2=16)))&&(q.getD default))==true)) (z9n N (⟨a.1.fA⟩:Sb))) fun t=>
 some ((((((((decide (a.2=0))&&(decide (c.2=0)))&&(decide (d.2=0)))&&(decide (m.2=16)))&&(q.getD default))&&(decide ((t.getD default)=2)))&&(decide (c.1=1)))&&(decide (d.1=2))))
def yh(N:Nat)(s:(List Int))(f:Int→Option Bool):Nat→Int→Option (Ex (Unit) (Int))
 |0,_=>none
 |c+1,a=>
  bif decide (a<(↑s.length:Int)) then(
  gd (okI s a)<|
  bd (f (ix s a)) fun b=>
  bif b then(
  some (Ex.rt a)) else(
  gd (in64 (a+1))<|
  yh N s f c (a+1))) else(
  some (Ex.go ()))
def lq(N:Nat)(s:(List Int))(f:Int→Option Bool):Option Int:=
 bd (
 yh N s f N 0) fun a=>
 Ex.on a (fun b=>
 some (-1)) some
def ax(N:Nat)(s:(List Int))(f:Int→Option Bool):Option Bool:=
 bd (lq N s f) fun a=>
 some (decide (0≤a))
def z8p(N:Nat)(k:Int):Option Bool:=
 some (decide (k≠(-1)))
def z3v(N:Nat)(m:Mach)(n:Sa):Option Bool:=
 bif decide ((↑n.fC.length:Int)≠m.outputs) then(
 some false) else(
 bif decide (n.fB=(-1)) then(
 bd (ax N n.fC (fun b=>z8p N b)) fun a=>
 some (((!a)&&(decide (0≤n.fD)))&&(decide (n.fD<(↑m.rows.length:Int))))) else(
 some (((decide (0≤n.fB))&&(decide (n.fB<m.inputs)))&&(decide (n.fD=(-1))))))
def z1r(N:Nat)(s:(List Int)):Option (List Int):=
 some s
def bq(N:Nat)(σ:Type)(B:(Int×Int)→σ→Option (Bool×σ))(p0_:(List Int)):Nat→σ→Int→Option σ
 |0,_,_=>none
 |d+1,c,b=>
  bif decide (0≤b) then(
  gd (okI p0_ b)<|
  bd (B (b,(ix p0_ b)) c) fun a=>
  bif !a.1 then(
  some a.2) else(
  gd (in64 (b-1))<|
  bq N σ B p0_ d a.2 (b-1))) else(
  some c)
def rz(N:Nat)(p0_:(List Int))(σ:Type)(B:(Int×Int)→σ→Option (Bool×σ))(s0:σ):Option σ:=
 gd (in64 ((↑p0_.length:Int)-1))<|
 bq N σ B p0_ N s0 ((↑p0_.length:Int)-1)
def lu(N:Nat)(m:Mach)(l_:(List Sa)):Nat→Int→(List Int)→Option (Ex (List Int) (Bool))
 |0,_,_=>none
 |e+1,b,a=>
  bif decide (b<(↑l_.length:Int)) then(
  gd (okI l_ b)<|
  gd ((true&&((decide ((↑a.length:Int)=0))==false))=true→in64 ((↑a.length:Int)-1))<|
  gd ((true&&((decide ((↑a.length:Int)=0))==false))=true→okI a ((↑a.length:Int)-1))<|
  bd (gop (true&&(((decide ((↑a.length:Int)=0))||(decide ((ix a ((↑a.length:Int)-1))≠b)))==false)) (z3v N m (⟨(ix l_ b).fB,(ix l_ b).fD,(ix l_ b).fC⟩:Sa))) fun f=>
  bif ((decide ((↑a.length:Int)=0))||(decide ((ix a ((↑a.length:Int)-1))≠b)))||(!(f.getD default)) then(
  some (Ex.rt false)) else(
  gd (in64 ((↑a.length:Int)-1))<|
  gd (okS a 0 ((↑a.length:Int)-1))<|
  bd (z1r N ((ix l_ b).fC)) fun g=>
  bd (rz N g (List Int) (fun c d=>
  bif decide (c.2≠(-1)) then(
  gd (fits 8 d ([c.2]:List Int))<|
  some (true,(d++([c.2]:List Int)))) else(
  some (true,d))) (cut a 0 ((↑a.length:Int)-1))) fun h=>
  gd (in64 (b+1))<|
  lu N m l_ e (b+1) h)) else(
  some (Ex.go a))
def z7f(N:Nat)(m:Mach)(l_:(List Sa)):Option Bool:=
 bd (
 lu N m l_ N 0 ([0]:List Int)) fun a=>
 Ex.on a (fun b=>
 some (decide ((↑b.length:Int)=0))) some
def cu(N:Nat)(m:Mach)(t:Sb):Nat→Int→Int→Option Int
 |0,_,_=>none
 |c+1,b,a=>
  gd ((true&&((decide (a≠(-1)))==true))=true→okI t.fA a)<|
  bif (decide (a≠(-1)))&&(decide (((ix t.fA a).fB)≠(-1))) then(
  gd (okI m.rows b)<|
  gd (okI t.fA a)<|
  gd (okI (ix m.rows b) ((ix t.fA a).fB))<|
  gd (okI t.fA a)<|
  gd (okI ((ix t.fA a).fC) ((ix (ix m.rows b) ((ix t.fA a).fB)).out))<|
  cu N m t c ((ix (ix m.rows b) ((ix t.fA a).fB)).to) (ix ((ix t.fA a).fC) ((ix (ix m.rows b) ((ix t.fA a).fB)).out))) else(
  some a)
def dx(N:Nat)(m:Mach)(t:Sb):Nat→Int→Option (Ex (Unit) (Int))
 |0,_=>none
 |c+1,a=>
  bif decide (a<(↑m.rows.length:Int)) then(
  bd (
  cu N m t N a 0) fun b=>
  gd ((true&&((decide (b=(-1)))==false))=true→okI t.fA b)<|
  bif (decide (b=(-1)))||(decide (((ix t.fA b).fD)≠a)) then(
  some (Ex.rt 19)) else(
  gd (in64 (a+1))<|
  dx N m t c (a+1))) else(
  some (Ex.go ()))
def z0b(N:Nat)(m:Mach)(t:Sb):Option Int:=
 bd (z09 N m) fun a=>
 bif decide (a≠0) then(
 some a) else(
 bd (gop (true&&((decide (1024<(↑t.fA.length:Int)))==false)) (z7f N m t.fA)) fun b=>
 bif (decide (1024<(↑t.fA.length:Int)))||(!(b.getD default)) then(
 some 4) else(
 bd (
 dx N m t N 0) fun c=>
 Ex.on c (fun d=>
 some 0) some))
def pz(N:Nat)(t:Sb):Nat→Int→Option (Ex (Unit) (Int))
 |0,_=>none
 |b+1,a=>
  bif decide (a<(↑t.fA.length:Int)) then(
  gd (okI t.fA a)<|
  bif decide (20<(↑((ix t.fA a).fC).length:Int)) then(
  some (Ex.rt 1)) else(
  gd (in64 (a+1))<|
  pz N t b (a+1))) else(
  some (Ex.go ()))
def z1a(N:Nat)(t:Sb):Option Int:=
 bif decide (40<(↑t.fA.length:Int)) then(
 some 1) else(
 bd (
 pz N t N 0) fun a=>
 Ex.on a (fun b=>
 some 0) some)
def yo(N:Nat)(self:Mach→(List Sa)→Int→Option Int)(m:Mach)(l_:(List Sa))(i:Int):Nat→Int→Int→Option (Ex (Int) (Int))
 |0,_,_=>none
 |d+1,b,a=>
  bif decide (a<m.outputs) then(
  bd (
  gd (okI ((ix l_ i).fC) a)<|
  bif decide ((ix ((ix l_ i).fC) a)=(-1)) then(
  some (Ex.go b)) else(
  gd ((true&&((decide (((ix l_ i).fB)=(-1)))==false))=true→okI ((ix l_ i).fC) a)<|
  bif (decide (((ix l_ i).fB)=(-1)))||(decide ((ix ((ix l_ i).fC) a)≠b)) then(
  some (Ex.rt (Ex.rt (-1)))) else(
  bd (self m l_ b) fun c=>
  bif decide (c<0) then(
  some (Ex.rt (Ex.rt (-1)))) else(
  some (Ex.go c))))) fun e=>
  Ex.on e (fun f=>
  gd (in64 (a+1))<|
  yo N self m l_ i d f (a+1)) some) else(
  some (Ex.go b))
def wy(N:Nat):Nat→Mach→(List Sa)→Int→Option Int
 |0,_,_,_=>none
 |F+1,m,l_,i=>
  gd ((true&&((decide ((↑l_.length:Int)≤i))==false))=true→okI l_ i)<|
  bif (decide ((↑l_.length:Int)≤i))||(decide ((↑((ix l_ i).fC).length:Int)≠m.outputs)) then(
  some (-1)) else(
  gd (okI l_ i)<|
  bif ((decide (((ix l_ i).fB)=(-1)))&&((decide (((ix l_ i).fD)<0))||(decide ((↑m.rows.length:Int)≤((ix l_ i).fD)))))||((!(decide (((ix l_ i).fB)=(-1))))&&(((decide (((ix l_ i).fB)<0))||(decide (m.inputs≤((ix l_ i).fB))))||(decide (((ix l_ i).fD)≠(-1))))) then(
  some (-1)) else(
  gd (in64 (i+1))<|
  bd (
  yo N (wy N F) m l_ i N (i+1) 0) fun a=>
  Ex.on a (fun b=>
  some b) some))
def di(N:Nat)(m:Mach)(t:Sb):Nat→Int→Int→Option Int
 |0,_,_=>none
 |c+1,b,a=>
  gd ((true&&((decide (a≠(-1)))==true))=true→okI t.fA a)<|
  bif (decide (a≠(-1)))&&(decide (((ix t.fA a).fB)≠(-1))) then(
  gd (okI m.rows b)<|
  gd (okI t.fA a)<|
  gd (okI (ix m.rows b) ((ix t.fA a).fB))<|
  gd (okI t.fA a)<|
  gd (okI ((ix t.fA a).fC) ((ix (ix m.rows b) ((ix t.fA a).fB)).out))<|
  di N m t c ((ix (ix m.rows b) ((ix t.fA a).fB)).to) (ix ((ix t.fA a).fC) ((ix (ix m.rows b) ((ix t.fA a).fB)).out))) else(
  some a)
def bg(N:Nat)(m:Mach)(t:Sb):Nat→Int→Option (Ex (Unit) (Int))
 |0,_=>none
 |c+1,a=>
  bif decide (a<(↑m.rows.length:Int)) then(
  bd (
  di N m t N a 0) fun b=>
  gd ((true&&((decide (b=(-1)))==false))=true→okI t.fA b)<|
  bif (decide (b=(-1)))||(decide (((ix t.fA b).fD)≠a)) then(
  some (Ex.rt 19)) else(
  gd (in64 (a+1))<|
  bg N m t c (a+1))) else(
  some (Ex.go ()))
def og(N:Nat)(m:Mach)(t:Sb):Option Int:=
 bd (gop (true&&((decide (1024<(↑t.fA.length:Int)))==false)) (wy N N m t.fA 0)) fun a=>
 bif (decide (1024<(↑t.fA.length:Int)))||(decide ((a.getD default)≠(↑t.fA.length:Int))) then(
 some 4) else(
 bd (
 bg N m t N 0) fun b=>
 Ex.on b (fun c=>
 some 0) some)
def tu(N:Nat)(x:Sj)(t:Sb):Option Bool:=
 bd (l6 N x) fun a=>
 bd (z1a N t) fun b=>
 bd (gop (true&&((decide (b≠0))==false)) (z0b N (⟨a.inputs,a.outputs,a.rows⟩:Mach) t)) fun c=>
 bd (gop (true&&((decide (b≠0))==false)) (og N (⟨a.inputs,a.outputs,a.rows⟩:Mach) t)) fun d=>
 bd (gop ((true&&((decide (b≠0))==false))&&((decide ((c.getD default)=(d.getD default)))==true)) (z1t N)) fun e=>
 some ((decide (b≠0))||((decide ((c.getD default)=(d.getD default)))&&(e.getD default)))
end GV
end Go.Proofs.Ytnnobdkjgafdmaa
