import Derived.Test.YtnnobdkjgafdmaaShTypes
set_option linter.unusedVariables false
set_option linter.unusedSimpArgs false
set_option linter.unusedSectionVars false
namespace Go.Proofs.Ytnnobdkjgafdmaa
namespace GV
set_option maxRecDepth 100000
def ic(N:Nat)(l_:(List Int))(k:Int):Option Int:=
 bif decide (k<(↑l_.length:Int)) then(
 gd (okI l_ k)<|
 gd (in64 (ix l_ k))<|
 some (ix l_ k)) else(
 some 0)
def xy(N:Nat)(x:Sg)(b:Int):Nat→(List Edge)→Int→Option (List Edge)
 |0,_,_=>none
 |e+1,d,a=>
  bif decide (a<((1:Int)+(x.fC%3))) then(
  gd (in64 (b*((1:Int)+(x.fC%3))))<|
  gd (in64 ((b*((1:Int)+(x.fC%3)))+a))<|
  bd (ic N x.fJ ((b*((1:Int)+(x.fC%3)))+a)) fun c=>
  gd (okQ c ((1:Int)+(x.fG%6)))<|
  gd (okR (c/((1:Int)+(x.fG%6))) ((1:Int)+(x.fF%3)))<|
  gd (fits 16 d ([(⟨(-1),(c/((1:Int)+(x.fG%6)))%((1:Int)+(x.fF%3))⟩:Edge)]:List Edge))<|
  gd (in64 (a+1))<|
  xy N x b e (d++([(⟨(-1),(c/((1:Int)+(x.fG%6)))%((1:Int)+(x.fF%3))⟩:Edge)]:List Edge)) (a+1)) else(
  some d)
def ym(N:Nat)(x:Sg):Nat→Int→(List (List Edge))→Option (List (List Edge))
 |0,_,_=>none
 |d+1,a,b=>
  bif decide (a<((1:Int)+(x.fG%6))) then(
  bd (
  xy N x a N ([]:List Edge) 0) fun c=>
  gd (fits 24 b [c])<|
  gd (in64 (a+1))<|
  ym N x d (a+1) (b++[c])) else(
  some b)
def uy(N:Nat)(x:Sg)(d:Int)(b:List (List Edge)):Nat→(List Int)→Int→Option (List Int)
 |0,_,_=>none
 |e+1,c,a=>
  gd (in64 (d*((1:Int)+(x.fC%3))))<|
  bif decide (a<(d*((1:Int)+(x.fC%3)))) then(
  bd (
  gd (okQ a ((1:Int)+(x.fC%3)))<|
  gd (okI b (a/((1:Int)+(x.fC%3))))<|
  gd (okR a ((1:Int)+(x.fC%3)))<|
  gd (okI (ix b (a/((1:Int)+(x.fC%3)))) (a%((1:Int)+(x.fC%3))))<|
  bif decide (((ix (ix b (a/((1:Int)+(x.fC%3)))) (a%((1:Int)+(x.fC%3)))).to)<0) then(
  gd (fits 8 c ([a]:List Int))<|
  some (c++([a]:List Int))) else(
  some c)) fun f=>
  gd (in64 (a+1))<|
  uy N x d b e f (a+1)) else(
  some c)
def xx(N:Nat)(x:Sg):Nat→Int→(List (List Edge))→Option (List (List Edge))
 |0,_,_=>none
 |e+1,a,c=>
  bif decide (a<((1:Int)+(x.fG%6))) then(
  bd (
  uy N x a c N ([]:List Int) 0) fun d=>
  gd (okI d 0)<|
  bd (
  gd (in64 (a-1))<|
  bif decide ((a-1)<(↑x.fH.length:Int)) then(
  gd (in64 (a-1))<|
  gd (okI x.fH (a-1))<|
  gd (in64 (ix x.fH (a-1)))<|
  gd (okR (ix x.fH (a-1)) (↑d.length:Int))<|
  gd (okI d ((ix x.fH (a-1))%(↑d.length:Int)))<|
  some (ix d ((ix x.fH (a-1))%(↑d.length:Int)))) else(
  some (ix d 0))) fun b=>
  gd (okQ b ((1:Int)+(x.fC%3)))<|
  gd (okI c (b/((1:Int)+(x.fC%3))))<|
  gd (okR b ((1:Int)+(x.fC%3)))<|
  gd (okI (ix c (b/((1:Int)+(x.fC%3)))) (b%((1:Int)+(x.fC%3))))<|
  gd (in64 (a+1))<|
  xx N x e (a+1) (up c (b/((1:Int)+(x.fC%3))) (up (ix c (b/((1:Int)+(x.fC%3)))) (b%((1:Int)+(x.fC%3))) (⟨a,(ix (ix c (b/((1:Int)+(x.fC%3)))) (b%((1:Int)+(x.fC%3)))).out⟩:Edge)))) else(
  some c)
def uw(N:Nat)(x:Sg)(a:Int):Nat→Int→(List (List Edge))→Option (List (List Edge))
 |0,_,_=>none
 |e+1,b,c=>
  bif decide (b<((1:Int)+(x.fC%3))) then(
  bd (
  gd (okI c a)<|
  gd (okI (ix c a) b)<|
  bif decide (((ix (ix c a) b).to)<0) then(
  gd (okI c a)<|
  gd (in64 (a*((1:Int)+(x.fC%3))))<|
  gd (in64 ((a*((1:Int)+(x.fC%3)))+b))<|
  bd (ic N x.fJ ((a*((1:Int)+(x.fC%3)))+b)) fun d=>
  gd (okR d ((1:Int)+(x.fG%6)))<|
  gd (okI (ix c a) b)<|
  some (up c a (up (ix c a) b (⟨d%((1:Int)+(x.fG%6)),(ix (ix c a) b).out⟩:Edge)))) else(
  some c)) fun f=>
  gd (in64 (b+1))<|
  uw N x a e (b+1) f) else(
  some c)
def xq(N:Nat)(x:Sg):Nat→Int→(List (List Edge))→Option (List (List Edge))
 |0,_,_=>none
 |c+1,a,b=>
  bif decide (a<((1:Int)+(x.fG%6))) then(
  bd (
  uw N x a N 0 b) fun d=>
  gd (in64 (a+1))<|
  xq N x c (a+1) d) else(
  some b)
def z1e(N:Nat)(x:Sg):Option Mach:=
 gd (okR x.fG 6)<|
 gd (in64 (x.fG%6))<|
 gd (in64 ((1:Int)+(x.fG%6)))<|
 gd (okR x.fC 3)<|
 gd (in64 (x.fC%3))<|
 gd (in64 ((1:Int)+(x.fC%3)))<|
 gd (okR x.fF 3)<|
 gd (in64 (x.fF%3))<|
 gd (in64 ((1:Int)+(x.fF%3)))<|
 bd (
 ym N x N 0 ([]:List (List Edge))) fun c=>
 bd (
 xx N x N 1 c) fun a=>
 bd (
 xq N x N 0 a) fun b=>
 some (⟨(1:Int)+(x.fC%3),(1:Int)+(x.fF%3),b⟩:Mach)
def um(N:Nat)(m:Mach)(marked:(List (List Bool)))(s:Int)(t:Int):Nat→Int→Option (Ex (Unit) (Int))
 |0,_=>none
 |b+1,a=>
  bif decide (a<m.inputs) then(
  gd (okI m.rows s)<|
  gd (okI (ix m.rows s) a)<|
  gd (okI m.rows t)<|
  gd (okI (ix m.rows t) a)<|
  gd (((true&&((decide (((ix (ix m.rows s) a).out)≠((ix (ix m.rows t) a).out)))==false))&&(((decide (0≤((ix (ix m.rows s) a).to)))&&(decide (0≤((ix (ix m.rows t) a).to))))==true))=true→okI marked ((ix (ix m.rows s) a).to))<|
  gd (((true&&((decide (((ix (ix m.rows s) a).out)≠((ix (ix m.rows t) a).out)))==false))&&(((decide (0≤((ix (ix m.rows s) a).to)))&&(decide (0≤((ix (ix m.rows t) a).to))))==true))=true→okI (ix marked ((ix (ix m.rows s) a).to)) ((ix (ix m.rows t) a).to))<|
  bif (decide (((ix (ix m.rows s) a).out)≠((ix (ix m.rows t) a).out)))||(((decide (0≤((ix (ix m.rows s) a).to)))&&(decide (0≤((ix (ix m.rows t) a).to))))&&(ix (ix marked ((ix (ix m.rows s) a).to)) ((ix (ix m.rows t) a).to))) then(
  some (Ex.rt 1)) else(
  gd (in64 (a+1))<|
  um N m marked s t b (a+1))) else(
  some (Ex.go ()))
def z0q(N:Nat)(m:Mach)(marked:(List (List Bool)))(s:Int)(t:Int):Option Int:=
 bd (
 um N m marked s t N 0) fun a=>
 Ex.on a (fun b=>
 some 0) some
def yj(N:Nat)(m:Mach):Nat→(List (List Bool))→Int→Option (List (List Bool))
 |0,_,_=>none
 |c+1,a,b=>
  bif decide (b<(↑m.rows.length:Int)) then(
  gd (okM 1 (↑m.rows.length:Int))<|
  gd (fits 24 a [(mk (↑m.rows.length:Int) false)])<|
  gd (in64 (b+1))<|
  yj N m c (a++[(mk (↑m.rows.length:Int) false)]) (b+1)) else(
  some a)
def yg(N:Nat)(m:Mach)(d:List (List Bool))(b:Int):Nat→Int→(List (List Bool))→Option (List (List Bool))
 |0,_,_=>none
 |e+1,a,c=>
  bif decide (a<(↑m.rows.length:Int)) then(
  gd (okI c b)<|
  gd (okI d b)<|
  gd (okI (ix d b) a)<|
  bd (gop (true&&((ix (ix d b) a)==false)) (z0q N m d b a)) fun f=>
  gd (okI (ix c b) a)<|
  gd (in64 (a+1))<|
  yg N m d b e (a+1) (up c b (up (ix c b) a ((ix (ix d b) a)||(decide ((f.getD default)=1)))))) else(
  some c)
def yf(N:Nat)(m:Mach)(c:List (List Bool)):Nat→(List (List Bool))→Int→Option (List (List Bool))
 |0,_,_=>none
 |d+1,b,a=>
  bif decide (a<(↑m.rows.length:Int)) then(
  bd (
  gd (okM 1 (↑m.rows.length:Int))<|
  gd (fits 24 b [(mk (↑m.rows.length:Int) false)])<|
  yg N m c a N 0 (b++[(mk (↑m.rows.length:Int) false)])) fun e=>
  gd (in64 (a+1))<|
  yf N m c d e (a+1)) else(
  some b)
def yc(N:Nat)(m:Mach)(k:Int):Nat→(List (List Bool))→Int→Option (List (List Bool))
 |0,_,_=>none
 |c+1,b,a=>
  bif decide (a<k) then(
  bd (
  yf N m b N ([]:List (List Bool)) 0) fun d=>
  gd (in64 (a+1))<|
  yc N m k c d (a+1)) else(
  some b)
def ib(N:Nat)(m:Mach)(k:Int):Option (List (List Bool)):=
 bd (
 yj N m N ([]:List (List Bool)) 0) fun a=>
 bd (
 yc N m k N a 0) fun b=>
 some b
def kw(N:Nat)(marked:(List (List Bool)))(c:List Int)(b:Int):Nat→Int→Int→Option Int
 |0,_,_=>none
 |e+1,d,a=>
  bif decide (a<b) then(
  bd (
  gd (okI marked b)<|
  gd (okI (ix marked b) a)<|
  bif !(ix (ix marked b) a) then(
  gd (okI c a)<|
  some (ix c a)) else(
  some d)) fun f=>
  gd (in64 (a+1))<|
  kw N marked c b e f (a+1)) else(
  some d)
def ul(N:Nat)(marked:(List (List Bool))):Nat→(List Int)→Int→Int→Option (List Int)
 |0,_,_,_=>none
 |f+1,a,b,c=>
  bif decide (c<(↑marked.length:Int)) then(
  bd (
  kw N marked a c N (-1) 0) fun e=>
  bd (
  bif decide (e<0) then(
  gd (in64 (b+1))<|
  some (b+1,b)) else(
  some (b,e))) fun d=>
  gd (fits 8 a ([d.2]:List Int))<|
  gd (in64 (c+1))<|
  ul N marked f (a++([d.2]:List Int)) d.1 (c+1)) else(
  some a)
def mi(N:Nat)(marked:(List (List Bool))):Option (List Int):=
 bd (
 ul N marked N ([]:List Int) 0 0) fun a=>
 some a
def z1l(N:Nat)(m:Mach)(k:Int):Option (List Int):=
 bd (ib N m k) fun b=>
 bd (mi N b) fun a=>
 some a
def oq(N:Nat)(m:Mach):Option (List Int):=
 bd (z1l N m (↑m.rows.length:Int)) fun a=>
 some a
def z00(N:Nat)(m:Mach)(s:Int)(i:Int):Option Edge:=
 bif decide (s<0) then(
 some (⟨(-1),(-1)⟩:Edge)) else(
 gd (okI m.rows s)<|
 gd (okI (ix m.rows s) i)<|
 some (⟨(ix (ix m.rows s) i).to,(ix (ix m.rows s) i).out⟩:Edge))
def nk(N:Nat):Nat→Mach→Int→(List Int)→Option Int
 |0,_,_,_=>none
 |F+1,m,s,w_=>
  bif decide ((↑w_.length:Int)=0) then(
  some s) else(
  gd (okI w_ 0)<|
  bd (z00 N m s (ix w_ 0)) fun b=>
  gd (okS w_ 1 (↑w_.length:Int))<|
  bd ((nk N F) m b.to (cut w_ 1 (↑w_.length:Int))) fun a=>
  some a)
def yl(N:Nat)(inputs:Int):Nat→Int→(List Int)→Option (Ex (List Int) ((List Int)))
 |0,_,_=>none
 |c+1,a,b=>
  bif decide (0≤a) then(
  gd (okI b a)<|
  gd (in64 ((ix b a)+1))<|
  bif decide (((ix b a)+1)<inputs) then(
  gd (okI b a)<|
  gd (in64 ((ix b a)+1))<|
  gd (okI b a)<|
  some (Ex.rt (up b a ((ix b a)+1)))) else(
  gd (okI b a)<|
  gd (in64 (a-1))<|
  yl N inputs c (a-1) (up b a 0))) else(
  some (Ex.go b))
def lu(N:Nat)(w_:(List Int))(inputs:Int):Option (List Int):=
 gd (fits 8 ([]:List Int) w_)<|
 bd (
 gd (in64 ((↑(([]:List Int)++w_).length:Int)-1))<|
 yl N inputs N ((↑(([]:List Int)++w_).length:Int)-1) (([]:List Int)++w_)) fun b=>
 Ex.on b (fun a=>
 gd (fits 8 a ([0]:List Int))<|
 some (a++([0]:List Int))) some
def uj(N:Nat)(m:Mach)(from_:Int):Nat→(List Int)→(List (List Int))→(List Bool)→Option (List (List Int)×List Bool)
 |0,_,_,_=>none
 |g+1,c,d,b=>
  bif decide ((↑c.length:Int)<(↑m.rows.length:Int)) then(
  bd (
  bd (nk N N m from_ c) fun a=>
  gd ((true&&((decide (0≤a))==true))=true→okI b a)<|
  bif (decide (0≤a))&&(!(ix b a)) then(
  gd (okI b a)<|
  gd (okI d a)<|
  some ((up d a c),(up b a true))) else(
  some (d,b))) fun e=>
  bd (lu N c m.inputs) fun f=>
  uj N m from_ g f e.1 e.2) else(
  some (d,b))
def fq(N:Nat)(m:Mach)(from_:Int):Option ((List (List Int))×(List Bool)):=
 gd (okM 24 (↑m.rows.length:Int))<|
 gd (okM 1 (↑m.rows.length:Int))<|
 bd (
 uj N m from_ N ([]:List Int) (mk (↑m.rows.length:Int) ([]:List Int)) (mk (↑m.rows.length:Int) false)) fun a=>
 some (a.1,a.2)
def z08(N:Nat)(m:Mach):Option ((List (List Int))×(List Bool)):=
 bd (fq N m 0) fun a=>
 some (a.1,a.2)
def xw(N:Nat)(a:(List Int))(b:(List Int)):Nat→Int→Option (Ex (Unit) (Int))
 |0,_=>none
 |d+1,c=>
  bif decide (c<(↑a.length:Int)) then(
  gd (okI a c)<|
  gd (okI b c)<|
  bif decide ((ix a c)≠(ix b c)) then(
  gd (okI a c)<|
  gd (okI b c)<|
  bif decide ((ix a c)<(ix b c)) then(
  some (Ex.rt 1)) else(
  some (Ex.rt 0))) else(
  gd (in64 (c+1))<|
  xw N a b d (c+1))) else(
  some (Ex.go ()))
def ay(N:Nat)(a:(List Int))(b:(List Int)):Option Int:=
 bif decide ((↑a.length:Int)≠(↑b.length:Int)) then(
 bif decide ((↑a.length:Int)<(↑b.length:Int)) then(
 some 1) else(
 some 0)) else(
 bd (
 xw N a b N 0) fun c=>
 Ex.on c (fun d=>
 some 0) some)
def yt(N:Nat)(d:(List (List Int))×(List Bool))(b:List Int)(c:Int):Nat→Int→Option Int
 |0,_=>none
 |e+1,a=>
  gd ((true&&((decide (a<(↑b.length:Int)))==true))=true→okI b a)<|
  gd ((true&&((decide (a<(↑b.length:Int)))==true))=true→okI d.1 (ix b a))<|
  gd ((true&&((decide (a<(↑b.length:Int)))==true))=true→okI d.1 c)<|
  bd (gop (true&&((decide (a<(↑b.length:Int)))==true)) (ay N (ix d.1 (ix b a)) (ix d.1 c))) fun f=>
  bif (decide (a<(↑b.length:Int)))&&(decide ((f.getD default)=1)) then(
  gd (in64 (a+1))<|
  yt N d b c e (a+1)) else(
  some a)
def yo(N:Nat)(d:(List (List Int))×(List Bool)):Nat→(List Int)→Int→Option (List Int)
 |0,_,_=>none
 |e+1,a,b=>
  bif decide (b<(↑d.1.length:Int)) then(
  bd (
  gd (okI d.2 b)<|
  bif !(ix d.2 b) then(
  some a) else(
  bd (
  yt N d a b N 0) fun c=>
  gd (okS a 0 c)<|
  gd (fits 8 ([]:List Int) (cut a 0 c))<|
  gd (fits 8 (([]:List Int)++(cut a 0 c)) ([b]:List Int))<|
  gd (okS a c (↑a.length:Int))<|
  gd (fits 8 ((([]:List Int)++(cut a 0 c))++([b]:List Int)) (cut a c (↑a.length:Int)))<|
  some (((([]:List Int)++(cut a 0 c))++([b]:List Int))++(cut a c (↑a.length:Int))))) fun f=>
  gd (in64 (b+1))<|
  yo N d e f (b+1)) else(
  some a)
def z0p(N:Nat)(m:Mach):Option (List Int):=
 bd (z08 N m) fun b=>
 bd (
 yo N b N ([]:List Int) 0) fun a=>
 some a
def vz(N:Nat)(d:(List Int))(a:(List Int))(c:Int):Nat→Int→Int→Option Int
 |0,_,_=>none
 |f+1,e,b=>
  bif decide (b<c) then(
  bd (
  gd (okI a b)<|
  gd (okI d (ix a b))<|
  gd (okI a c)<|
  gd (okI d (ix a c))<|
  bif decide ((ix d (ix a b))=(ix d (ix a c))) then(
  some 1) else(
  some e)) fun g=>
  gd (in64 (b+1))<|
  vz N d a c f g (b+1)) else(
  some e)
def vv(N:Nat)(g:(List Int))(b:(List Int)):Nat→(List Int)→Int→Option (List Int)
 |0,_,_=>none
 |d+1,c,a=>
  bif decide (a<(↑b.length:Int)) then(
  bd (
  bd (
  vz N g b a N 0 0) fun e=>
  bif decide (e=0) then(
  gd (okI b a)<|
  gd (fits 8 c ([(ix b a)]:List Int))<|
  some (c++([(ix b a)]:List Int))) else(
  some c)) fun f=>
  gd (in64 (a+1))<|
  vv N g b d f (a+1)) else(
  some c)
def sj(N:Nat)(m:Mach):Option (List Int):=
 bd (oq N m) fun c=>
 bd (z0p N m) fun a=>
 bd (
 vv N c a N ([]:List Int) 0) fun b=>
 some b
def ww(N:Nat)(m:Mach)(a:Int):Nat→Int→(List Bool)→Option (List Bool)
 |0,_,_=>none
 |d+1,b,c=>
  bif decide (b<m.inputs) then(
  bd (
  gd (okI m.rows a)<|
  gd (okI (ix m.rows a) b)<|
  gd (okI c a)<|
  bif (ix c a)&&(decide (0≤((ix (ix m.rows a) b).to))) then(
  gd (okI c ((ix (ix m.rows a) b).to))<|
  some (up c ((ix (ix m.rows a) b).to) true)) else(
  some c)) fun e=>
  gd (in64 (b+1))<|
  ww N m a d (b+1) e) else(
  some c)
def wu(N:Nat)(m:Mach):Nat→Int→(List Bool)→Option (List Bool)
 |0,_,_=>none
 |c+1,a,b=>
  bif decide (a<(↑m.rows.length:Int)) then(
  bd (
  ww N m a N 0 b) fun d=>
  gd (in64 (a+1))<|
  wu N m c (a+1) d) else(
  some b)
def xc(N:Nat)(m:Mach):Nat→Int→(List Bool)→Option (List Bool)
 |0,_,_=>none
 |c+1,a,b=>
  bif decide (a<(↑m.rows.length:Int)) then(
  bd (
  wu N m N 0 b) fun d=>
  gd (in64 (a+1))<|
  xc N m c (a+1) d) else(
  some b)
def oz(N:Nat)(m:Mach)(from_:Int):Option (List Bool):=
 gd (okM 1 (↑m.rows.length:Int))<|
 gd (okI (mk (↑m.rows.length:Int) false) from_)<|
 bd (
 xc N m N 0 (up (mk (↑m.rows.length:Int) false) from_ true)) fun a=>
 some a
def bn(N:Nat)(e:(List Int))(d:(List Int))(c:(List Bool))(a:Int):Nat→Int→Int→Option Int
 |0,_,_=>none
 |g+1,f,b=>
  bif decide (b<(↑d.length:Int)) then(
  bd (
  gd (okI c a)<|
  gd ((true&&((ix c a)==true))=true→okI d b)<|
  gd ((true&&((ix c a)==true))=true→okI e (ix d b))<|
  gd ((true&&((ix c a)==true))=true→okI e a)<|
  bif (ix c a)&&(decide ((ix e (ix d b))=(ix e a))) then(
  some b) else(
  some f)) fun h=>
  gd (in64 (b+1))<|
  bn N e d c a g h (b+1)) else(
  some f)
def bi(N:Nat)(f:(List Int))(c:(List Int))(d:(List Bool)):Nat→(List Int)→Int→Option (List Int)
 |0,_,_=>none
 |g+1,b,a=>
  bif decide (a<(↑f.length:Int)) then(
  bd (
  bn N f c d a N (-1) 0) fun e=>
  gd (fits 8 b ([e]:List Int))<|
  gd (in64 (a+1))<|
  bi N f c d g (b++([e]:List Int)) (a+1)) else(
  some b)
def z1s(N:Nat)(m:Mach):Option (List Int):=
 bd (oq N m) fun d=>
 bd (sj N m) fun a=>
 bd (oz N m 0) fun b=>
 bd (
 bi N d a b N ([]:List Int) 0) fun c=>
 some c
def vk(N:Nat)(m:Mach)(c:(List Int))(e:(List Int))(a:Int):Nat→(List Edge)→Int→Option (List Edge)
 |0,_,_=>none
 |g+1,f,b=>
  bif decide (b<m.inputs) then(
  gd (okI c a)<|
  gd (okI m.rows (ix c a))<|
  gd (okI (ix m.rows (ix c a)) b)<|
  bd (
  bif decide (0≤((ix (ix m.rows (ix c a)) b).to)) then(
  gd (okI e ((ix (ix m.rows (ix c a)) b).to))<|
  some (ix e ((ix (ix m.rows (ix c a)) b).to))) else(
  some ((ix (ix m.rows (ix c a)) b).to))) fun d=>
  gd (fits 16 f ([(⟨d,(ix (ix m.rows (ix c a)) b).out⟩:Edge)]:List Edge))<|
  gd (in64 (b+1))<|
  vk N m c e a g (f++([(⟨d,(ix (ix m.rows (ix c a)) b).out⟩:Edge)]:List Edge)) (b+1)) else(
  some f)
def vo(N:Nat)(m:Mach)(e:(List Int))(c:(List Int)):Nat→Int→(List (List Edge))→Option (List (List Edge))
 |0,_,_=>none
 |f+1,a,b=>
  bif decide (a<(↑e.length:Int)) then(
  bd (
  vk N m e c a N ([]:List Edge) 0) fun d=>
  gd (fits 24 b ([d]:List (List Edge)))<|
  gd (in64 (a+1))<|
  vo N m e c f (a+1) (b++([d]:List (List Edge)))) else(
  some b)
def lc(N:Nat)(m:Mach):Option Mach:=
 bd (sj N m) fun c=>
 bd (z1s N m) fun a=>
 bd (
 vo N m c a N 0 ([]:List (List Edge))) fun b=>
 some (⟨m.inputs,m.outputs,b⟩:Mach)
def lq(N:Nat)(x:Sj):Option Mach:=
 gd (okR x.fK.fG 5)<|
 bd (z1e N (⟨x.fK.fG%5,x.fK.fC,x.fK.fF,x.fK.fH,x.fK.fJ⟩:Sg)) fun b=>
 bd (lc N b) fun a=>
 some (⟨a.inputs,a.outputs,a.rows⟩:Mach)
def u7(N:Nat)(s:(List Edge))(f:Edge→Option Bool):Nat→Int→Option (Ex (Unit) (Int))
 |0,_=>none
 |c+1,a=>
  bif decide (a<(↑s.length:Int)) then(
  gd (okI s a)<|
  bd (f (ix s a)) fun b=>
  bif b then(
  some (Ex.rt a)) else(
  gd (in64 (a+1))<|
  u7 N s f c (a+1))) else(
  some (Ex.go ()))
def o9(N:Nat)(s:(List Edge))(f:Edge→Option Bool):Option Int:=
 bd (
 u7 N s f N 0) fun a=>
 Ex.on a (fun b=>
 some (-1)) some
def dw(N:Nat)(s:(List Edge))(f:Edge→Option Bool):Option Bool:=
 bd (o9 N s f) fun a=>
 some (decide (0≤a))
def z3t(N:Nat):Option Edge:=
 some (⟨(-1),(-1)⟩:Edge)
def z9u(N:Nat)(m:Mach)(x:Edge):Option Bool:=
 bd (z3t N) fun a=>
 some ((decide (x.to=a.to∧x.out=a.out))||((((decide (0≤x.to))&&(decide (x.to<(↑m.rows.length:Int))))&&(decide (0≤x.out)))&&(decide (x.out<m.outputs))))
def z6w(N:Nat)(x:Edge)(p0_:Mach):Option Bool:=
 bd (z9u N p0_ x) fun a=>
 some (!a)
def ma(N:Nat)(m:Mach):Nat→Int→Option (Ex (Unit) (Int))
 |0,_=>none
 |b+1,a=>
  bif decide (a<(↑m.rows.length:Int)) then(
  gd (okI m.rows a)<|
  bd (gop (true&&((decide ((↑(ix m.rows a).length:Int)≠m.inputs))==false)) (dw N (ix m.rows a) (fun d=>z6w N d m))) fun c=>
  bif (decide ((↑(ix m.rows a).length:Int)≠m.inputs))||(c.getD default) then(
  some (Ex.rt 1)) else(
  gd (in64 (a+1))<|
  ma N m b (a+1))) else(
  some (Ex.go ()))
def ru(N:Nat)(m:Mach):Option Int:=
 bif ((decide (16<m.inputs))||(decide (16<m.outputs)))||(decide (64<(↑m.rows.length:Int))) then(
 some 3) else(
 bif ((decide (m.inputs<1))||(decide (m.outputs<1)))||(decide ((↑m.rows.length:Int)<1)) then(
 some 1) else(
 bd (
 ma N m N 0) fun a=>
 Ex.on a (fun b=>
 some 0) some))
def z81(N:Nat)(m:Mach):Option (Mach×Mach×Mach):=
 some (m,m,m)
def z5y(N:Nat)(m:Mach):Option Mach:=
 some m
def p8(N:Nat)(σ:Type)(B:((Int×Int)×Edge)→σ→Option (Bool×σ))(p0_:Mach)(c:Int):Nat→σ→Int→Option (Ex (σ) (σ))
 |0,_,_=>none
 |e+1,d,a=>
  bif decide (a<(↑(ix p0_.rows c).length:Int)) then(
  gd (okI (ix p0_.rows c) a)<|
  bd (B (((c,a):(Int×Int)),(⟨(ix (ix p0_.rows c) a).to,(ix (ix p0_.rows c) a).out⟩:Edge)) d) fun b=>
  bif !b.1 then(
  some (Ex.rt b.2)) else(
  gd (in64 (a+1))<|
  p8 N σ B p0_ c e b.2 (a+1))) else(
  some (Ex.go d))
def nu(N:Nat)(σ:Type)(B:((Int×Int)×Edge)→σ→Option (Bool×σ))(p0_:Mach):Nat→σ→Int→Option σ
 |0,_,_=>none
 |e+1,d,a=>
  bif decide (a<(↑p0_.rows.length:Int)) then(
  bd (
  gd (okI p0_.rows a)<|
  p8 N σ B p0_ a N d 0) fun b=>
  Ex.on b (fun c=>
  gd (in64 (a+1))<|
  nu N σ B p0_ e c (a+1)) some) else(
  some d)
def z2w(N:Nat)(p0_:Mach)(σ:Type)(B:((Int×Int)×Edge)→σ→Option (Bool×σ))(s0:σ):Option σ:=
 nu N σ B p0_ N s0 0
def z3b(N:Nat)(s:(List (Int×Int))):Option (List (Int×Int)):=
 gd (okS s 0 (↑s.length:Int))<|
 some (cut s 0 (↑s.length:Int))
def z19(N:Nat)(m:Mach):Option (List (Int×Int)):=
 bd (z5y N m) fun f=>
 bd (z2w N f (List (Int×Int)) (fun a b=>
 bd (z3t N) fun c=>
 bif decide (a.2.to=c.to∧a.2.out=c.out) then(
 gd (fits 16 b ([((a.1.1,a.1.2):(Int×Int))]:List (Int×Int)))<|
 some (true,(b++([((a.1.1,a.1.2):(Int×Int))]:List (Int×Int))))) else(
 some (true,b))) ([]:List (Int×Int))) fun d=>
 bd (z3b N d) fun e=>
 some e
def z2g(N:Nat)(m:Mach):Option (Bool×Int):=
 bd (ru N m) fun b=>
 bif decide (b≠0) then(
 some (false,b)) else(
 bd (z19 N m) fun a=>
 some ((decide ((↑a.length:Int)=0)),0))
def z2d(N:Nat)(p0_:Mach):Option Bool:=
 bd (z2g N p0_) fun a=>
 some a.1
def xz(N:Nat)(self:Int→List Bool→Mach→Option (List Bool))(s:Int)(p1_:Mach):Nat→Int→(List Bool)→Option (List Bool)
 |0,_,_=>none
 |c+1,a,b=>
  bif decide (a<(↑(ix p1_.rows s).length:Int)) then(
  gd (okI (ix p1_.rows s) a)<|
  bd (self ((ix (ix p1_.rows s) a).to) b p1_) fun d=>
  gd (in64 (a+1))<|
  xz N self s p1_ c (a+1) d) else(
  some b)
def yz(N:Nat):Nat→Int→List Bool→Mach→Option (List Bool)
 |0,_,_,_=>none
 |F+1,s,p0_,p1_=>
  gd ((true&&((decide (s=(-1)))==false))=true→okI p0_ s)<|
  bif (decide (s=(-1)))||(ix p0_ s) then(
  some p0_) else(
  gd (okI p0_ s)<|
  gd (okI p1_.rows s)<|
  xz N (yz N F) s p1_ N 0 (up p0_ s true))
def bg(N:Nat)(s:(List Bool))(v_:Bool):Nat→Int→Option (Ex (Unit) (Int))
 |0,_=>none
 |b+1,a=>
  bif decide (a<(↑s.length:Int)) then(
  gd (okI s a)<|
  bif decide (v_=(ix s a)) then(
  some (Ex.rt a)) else(
  gd (in64 (a+1))<|
  bg N s v_ b (a+1))) else(
  some (Ex.go ()))
def z2i(N:Nat)(s:(List Bool))(v_:Bool):Option Int:=
 bd (
 bg N s v_ N 0) fun a=>
 Ex.on a (fun b=>
 some (-1)) some
def z06(N:Nat)(s:(List Bool))(v_:Bool):Option Bool:=
 bd (z2i N s v_) fun a=>
 some (decide (0≤a))
def z18(N:Nat)(m:Mach):Option (Bool×Int):=
 bd (ru N m) fun c=>
 bif decide (c≠0) then(
 some (false,c)) else(
 gd (okM 1 (↑m.rows.length:Int))<|
 bd (yz N N 0 (mk (↑m.rows.length:Int) false) m) fun a=>
 bd (z06 N a false) fun b=>
 some ((!b),0))
def z2c(N:Nat)(p0_:Mach):Option Bool:=
 bd (z18 N p0_) fun a=>
 some a.1
def z6i(N:Nat)(m:Mach):Option Mach:=
 some m
def dx(N:Nat)(m:Mach)(p:(List Int))(s:Int):Nat→Int→(Arr 16 (Int×Int))→Option (Arr 16 (Int×Int))
 |0,_,_=>none
 |c+1,a,b=>
  bif decide (a<(↑(ix m.rows s).length:Int)) then(
  bd (
  gd (okI (ix m.rows s) a)<|
  gd (okI b.1 a)<|
  bif decide (((ix (ix m.rows s) a).to)≠(-1)) then(
  gd (okI p ((ix (ix m.rows s) a).to))<|
  gd (okI (sw b a (((ix (ix m.rows s) a).out,(-1)):(Int×Int))).1 a)<|
  some (sw (sw b a (((ix (ix m.rows s) a).out,(-1)):(Int×Int))) a (((ix (sw b a (((ix (ix m.rows s) a).out,(-1)):(Int×Int))).1 a).1,(ix p ((ix (ix m.rows s) a).to))):(Int×Int)))) else(
  some (sw b a (((ix (ix m.rows s) a).out,(-1)):(Int×Int))))) fun d=>
  gd (in64 (a+1))<|
  dx N m p s c (a+1) d) else(
  some b)
def z6g(N:Nat)(m:Mach)(p:(List Int))(s:Int):Option (Arr 16 (Int×Int)):=
 bd (
 gd (okI m.rows s)<|
 dx N m p s N 0 (ah 16 (List.replicate 16 (((0:Int),(0:Int)):(Int×Int))))) fun a=>
 some a
def dm(N:Nat)(m:Mach)(p:(List Int)):Nat→Int→(List (Sc×Int))→(List Int)→Option (List Int)
 |0,_,_,_=>none
 |f+1,a,b,c=>
  bif decide (a<(↑p.length:Int)) then(
  gd (okI p a)<|
  bd (z6g N m p a) fun d=>
  bd (
  bif !(z6l b (⟨(ix p a),d⟩:Sc)) then(
  some (z6t b (⟨(ix p a),d⟩:Sc) (↑b.length:Int))) else(
  some b)) fun e=>
  gd (okI c a)<|
  gd (in64 (a+1))<|
  dm N m p f (a+1) e (up c a (z5b (0:Int) e (⟨(ix p a),d⟩:Sc)))) else(
  some c)
def z3k(N:Nat)(m:Mach)(p:(List Int)):Option (List Int):=
 gd (okM 8 (↑p.length:Int))<|
 bd (
 dm N m p N 0 ([]:List (Sc×Int)) (mk (↑p.length:Int) (0:Int))) fun a=>
 some a
def p9(N:Nat)(s1_:(List Int))(s2_:(List Int)):Nat→Int→Option (Ex (Unit) (Bool))
 |0,_=>none
 |b+1,a=>
  bif decide (a<(↑s1_.length:Int)) then(
  gd (okI s1_ a)<|
  gd (okI s2_ a)<|
  bif decide ((ix s1_ a)≠(ix s2_ a)) then(
  some (Ex.rt false)) else(
  gd (in64 (a+1))<|
  p9 N s1_ s2_ b (a+1))) else(
  some (Ex.go ()))
def slices_Equal_int(N:Nat)(s1_:(List Int))(s2_:(List Int)):Option Bool:=
 bif decide ((↑s1_.length:Int)≠(↑s2_.length:Int)) then(
 some false) else(
 bd (
 p9 N s1_ s2_ N 0) fun a=>
 Ex.on a (fun b=>
 some true) some)
def oh(N:Nat)(σ:Type)(B:(List Int)→σ→Option (Bool×σ))(p0_:Mach):Nat→σ→(List Int)→Option σ
 |0,_,_=>none
 |d+1,e,b=>
  bd (B b e) fun a=>
  bif a.1 then(
  bd (z3k N p0_ b) fun c=>
  bd (slices_Equal_int N b c) fun f=>
  bif f then(
  some a.2) else(
  oh N σ B p0_ d a.2 c)) else(
  some a.2)
def z4k(N:Nat)(p0_:Mach)(σ:Type)(B:(List Int)→σ→Option (Bool×σ))(s0:σ):Option σ:=
 gd (okM 8 (↑p0_.rows.length:Int))<|
 oh N σ B p0_ N s0 (mk (↑p0_.rows.length:Int) (0:Int))
def z3o(N:Nat)(m:Mach):Option ((List Int)×Int×Int):=
 bd (ru N m) fun a=>
 bif decide (a≠0) then(
 some (([]:(List Int)),0,a)) else(
 bd (z6i N m) fun d=>
 bd (z4k N d ((List Int)×Int) (fun e b=>
 gd (in64 (b.2+1))<|
 some (true,(e,b.2+1))) (([]:(List Int)),(-1))) fun c=>
 some (c.1,c.2,0))
def nz(N:Nat)(x:(List Int)):Nat→Int→Int→Option Int
 |0,_,_=>none
 |c+1,b,a=>
  bif decide (a<(↑x.length:Int)) then(
  gd (okI x a)<|
  gd (in64 (a+1))<|
  nz N x c (max b (ix x a)) (a+1)) else(
  some b)
def slices_Max_int(N:Nat)(x:(List Int)):Option Int:=
 bif decide ((↑x.length:Int)<1) then(
 none) else(
 gd (okI x 0)<|
 bd (
 nz N x N (ix x 0) 1) fun a=>
 some a)
def z1x(N:Nat)(p0_:Mach):Option Bool:=
 bd (z3o N p0_) fun a=>
 bd (slices_Max_int N a.1) fun b=>
 gd (in64 ((↑a.1.length:Int)-1))<|
 some (decide (b=((↑a.1.length:Int)-1)))
def z2r(N:Nat)(m:Mach):Option Int:=
 bd (ru N m) fun e=>
 bif decide (e≠0) then(
 some e) else(
 bd (z81 N m) fun a=>
 bd (z2d N a.1) fun b=>
 bif !b then(
 some 9) else(
 bd (z2c N a.2.1) fun c=>
 bif !c then(
 some 11) else(
 bd (z1x N a.2.2) fun d=>
 bif !d then(
 some 12) else(
 some 0))))
def z1z(N:Nat)(m:Mach):Option Int:=
 bd (z2r N m) fun a=>
 bif decide (a≠0) then(
 some a) else(
 bif decide (6<(↑m.rows.length:Int)) then(
 some 3) else(
 some 0))
def pq(N:Nat)(n:Int):Nat→Int→(Arr 6 Int)→Option (Arr 6 Int)
 |0,_,_=>none
 |c+1,a,b=>
  bif decide (a<n) then(
  gd (okSh .u16 (8:Int))<|
  gd (okSh .u16 n)<|
  gd (okB .u16 (l9 .u16 (IntKind.u16.wrap a) (8:Int)) (IntKind.u16.wrap ((l9 .u16 (1:Int) n)-1)))<|
  gd (okI b.1 a)<|
  gd (in64 (a+1))<|
  pq N n c (a+1) (sw b a (ior (l9 .u16 (IntKind.u16.wrap a) (8:Int)) (IntKind.u16.wrap ((l9 .u16 (1:Int) n)-1))))) else(
  some b)
def z6b(N:Nat)(n:Int):Option (Arr 6 Int):=
 bd (
 pq N n N 0 (ah 6 (List.replicate 6 (0:Int)))) fun a=>
 some a
def mr(N:Nat)(counts:Int):Nat→Int→(Arr 6 Int)→Option (Arr 6 Int)
 |0,_,_=>none
 |d+1,b,a=>
  bif decide (b<6) then(
  bd (
  gd (okSh .u16 b)<|
  gd (okB .u16 (df counts b) 1)<|
  bif decide ((z1g (df counts b) 1)=0) then(
  gd (okI a.1 b)<|
  some (sw a b 0)) else(
  some a)) fun c=>
  gd (in64 (b+1))<|
  mr N counts d (b+1) c) else(
  some a)
def z13(N:Nat)(v_:(Arr 6 Int))(counts:Int):Option (Arr 6 Int):=
 bd (
 mr N counts N 0 v_) fun a=>
 some a
def aa(N:Nat)(x:Int):Option Int:=
 gd (okSh .u16 (8:Int))<|
 gd (okI strT1 (df x (8:Int)))<|
 gd (okB .u16 x 255)<|
 gd (okI strT1 (z1g x 255))<|
 gd (in64 (IntKind.u8.wrap ((ix strT1 (df x (8:Int)))+(ix strT1 (z1g x 255)))))<|
 some (IntKind.u8.wrap ((ix strT1 (df x (8:Int)))+(ix strT1 (z1g x 255))))
def fe(N:Nat)(v_:(Arr 6 Int))(counts:Int):Nat→Int→Option (Ex (Unit) (Bool))
 |0,_=>none
 |c+1,a=>
  bif decide (a<6) then(
  gd (okSh .u16 a)<|
  gd (okB .u16 (df counts a) 1)<|
  gd ((true&&((decide ((z1g (df counts a) 1)=1))==true))=true→okI v_.1 a)<|
  gd ((true&&((decide ((z1g (df counts a) 1)=1))==true))=true→okB .u16 (ix v_.1 a) 255)<|
  bd (gop (true&&((decide ((z1g (df counts a) 1)=1))==true)) (aa N (z1g (ix v_.1 a) 255))) fun b=>
  bif (decide ((z1g (df counts a) 1)=1))&&(decide (1<(b.getD default))) then(
  some (Ex.rt false)) else(
  gd (in64 (a+1))<|
  fe N v_ counts c (a+1))) else(
  some (Ex.go ()))
def z1o(N:Nat)(v_:(Arr 6 Int))(counts:Int):Option Bool:=
 bd (
 fe N v_ counts N 0) fun a=>
 Ex.on a (fun b=>
 some true) some
def z1j(N:Nat)(s:(List Int)):Option (List Int):=
 gd (okS s 0 (↑s.length:Int))<|
 some (cut s 0 (↑s.length:Int))
def l8(N:Nat)(m:Mach)(v_:(Arr 6 Int))(i:Int)(counts:Int)(b:Int)(d:(Arr 6 Int)):Nat→Int→Int→Option (Ex (Int) (Ex ((Arr 6 Int)) ((Arr 6 Int)×Bool)))
 |0,_,_=>none
 |e+1,c,a=>
  bif decide (a<(↑m.rows.length:Int)) then(
  bd (
  gd (okI m.rows a)<|
  gd (okI (ix m.rows a) i)<|
  gd (okI v_.1 b)<|
  gd (okSh .u16 a)<|
  gd (okB .u16 (df (ix v_.1 b) a) 1)<|
  bif (decide ((z1g (df (ix v_.1 b) a) 1)=0))||(decide (((ix (ix m.rows a) i).out)≠((ix (ix m.rows (df (ix v_.1 b) (8:Int))) i).out))) then(
  some (Ex.go c)) else(
  gd ((true&&((decide (((ix (ix m.rows a) i).to)=((ix (ix m.rows (df (ix v_.1 b) (8:Int))) i).to)))==true))=true→okI v_.1 b)<|
  gd ((true&&((decide (((ix (ix m.rows a) i).to)=((ix (ix m.rows (df (ix v_.1 b) (8:Int))) i).to)))==true))=true→okSh .u16 (8:Int))<|
  gd ((true&&((decide (((ix (ix m.rows a) i).to)=((ix (ix m.rows (df (ix v_.1 b) (8:Int))) i).to)))==true))=true→in64 (df (ix v_.1 b) (8:Int)))<|
  gd ((true&&(((decide (((ix (ix m.rows a) i).to)=((ix (ix m.rows (df (ix v_.1 b) (8:Int))) i).to)))&&(decide (a≠(df (ix v_.1 b) (8:Int)))))==true))=true→okSh .u16 b)<|
  gd ((true&&(((decide (((ix (ix m.rows a) i).to)=((ix (ix m.rows (df (ix v_.1 b) (8:Int))) i).to)))&&(decide (a≠(df (ix v_.1 b) (8:Int)))))==true))=true→okB .u16 (df counts b) 1)<|
  bif ((decide (((ix (ix m.rows a) i).to)=((ix (ix m.rows (df (ix v_.1 b) (8:Int))) i).to)))&&(decide (a≠(df (ix v_.1 b) (8:Int)))))&&(decide ((z1g (df counts b) 1)=1)) then(
  some (Ex.rt (Ex.rt (Ex.rt (d,false))))) else(
  gd (okSh .u16 ((ix (ix m.rows a) i).to))<|
  gd (okB .u16 c (l9 .u16 (1:Int) ((ix (ix m.rows a) i).to)))<|
  some (Ex.go (ior c (l9 .u16 (1:Int) ((ix (ix m.rows a) i).to))))))) fun f=>
  Ex.on f (fun g=>
  gd (in64 (a+1))<|
  l8 N m v_ i counts b d e g (a+1)) some) else(
  some (Ex.go c))
def l6(N:Nat)(m:Mach)(v_:(Arr 6 Int))(i:Int)(counts:Int):Nat→Int→(Arr 6 Int)→Option (Ex ((Arr 6 Int)) ((Arr 6 Int)×Bool))
 |0,_,_=>none
 |d+1,a,b=>
  bif decide (a<(↑m.rows.length:Int)) then(
  gd (okI v_.1 a)<|
  gd (okSh .u16 (8:Int))<|
  gd (okI m.rows (df (ix v_.1 a) (8:Int)))<|
  gd (okI (ix m.rows (df (ix v_.1 a) (8:Int))) i)<|
  bd (
  l8 N m v_ i counts a b N 0 0) fun e=>
  Ex.on e (fun c=>
  gd (okSh .u16 (8:Int))<|
  gd (okB .u16 (l9 .u16 (IntKind.u16.wrap ((ix (ix m.rows (df (ix v_.1 a) (8:Int))) i).to)) (8:Int)) c)<|
  gd (okI b.1 a)<|
  gd (in64 (a+1))<|
  l6 N m v_ i counts d (a+1) (sw b a (ior (l9 .u16 (IntKind.u16.wrap ((ix (ix m.rows (df (ix v_.1 a) (8:Int))) i).to)) (8:Int)) c))) some) else(
  some (Ex.go b))
def z2e(N:Nat)(m:Mach)(v_:(Arr 6 Int))(i:Int)(counts:Int):Option ((Arr 6 Int)×Bool):=
 bd (
 l6 N m v_ i counts N 0 v_) fun a=>
 Ex.on a (fun b=>
 some (b,true)) some
def ai(N:Nat)(counts:Int)(b:List Sb):Nat→Int→Option (Ex (Unit) (Ex (Unit) ((List Int)×Int)))
 |0,_=>none
 |c+1,a=>
  bif decide (a<(↑b.length:Int)) then(
  gd (okI b a)<|
  bd (z1o N ((ix b a).fI) counts) fun d=>
  bif d then(
  bd (z1j N ((ix b a).fQ)) fun e=>
  some (Ex.rt (Ex.rt (e,0)))) else(
  gd (in64 (a+1))<|
  ai N counts b c (a+1))) else(
  some (Ex.go ()))
def dz(N:Nat)(m:Mach)(counts:Int)(most:Int)(i:List Sb)(j:Int)(e:Int):Nat→Int→(List ((Arr 6 Int)×Bool))→(List Sb)→Option (List ((Arr 6 Int)×Bool)×List Sb)
 |0,_,_,_=>none
 |k+1,a,b,c=>
  bif decide (a<m.inputs) then(
  bd (
  bd (z2e N m ((ix i e).fI) a counts) fun g=>
  bd (z13 N g.1 counts) fun d=>
  bif (g.2&&(!(z5b false b d)))&&(decide (j<most)) then(
  bd (z1j N ((ix i e).fQ)) fun f=>
  gd (fits 8 f ([a]:List Int))<|
  gd (fits 40 c ([(⟨d,(f++([a]:List Int))⟩:Sb)]:List Sb))<|
  some ((z6t b d true),(c++([(⟨d,(f++([a]:List Int))⟩:Sb)]:List Sb)))) else(
  some (b,c))) fun h=>
  gd (in64 (a+1))<|
  dz N m counts most i j e k (a+1) h.1 h.2) else(
  some (b,c))
def gy(N:Nat)(m:Mach)(counts:Int)(most:Int)(b:List Sb)(f:Int):Nat→(List Sb)→Int→(List ((Arr 6 Int)×Bool))→Option (List Sb×List ((Arr 6 Int)×Bool))
 |0,_,_,_=>none
 |g+1,c,a,d=>
  bif decide (a<(↑b.length:Int)) then(
  bd (
  gd (okI b a)<|
  dz N m counts most b f a N 0 d c) fun e=>
  gd (in64 (a+1))<|
  gy N m counts most b f g e.2 (a+1) e.1) else(
  some (c,d))
def aj(N:Nat)(m:Mach)(counts:Int)(most:Int):Nat→(List Sb)→Int→(List ((Arr 6 Int)×Bool))→Option (Ex (Unit) ((List Int)×Int))
 |0,_,_,_=>none
 |d+1,a,b,e=>
  bif decide (0<(↑a.length:Int)) then(
  bd (
  ai N counts a N 0) fun f=>
  Ex.on f (fun g=>
  bd (
  gy N m counts most a b N ([]:List Sb) 0 e) fun c=>
  gd (in64 (b+1))<|
  aj N m counts most d c.1 (b+1) c.2) some) else(
  some (Ex.go ()))
def z3g(N:Nat)(m:Mach)(counts:Int)(most:Int):Option ((List Int)×Int):=
 bd (z6b N (↑m.rows.length:Int)) fun b=>
 bd (z13 N b counts) fun a=>
 gd (okI ([(⟨a,[]⟩:Sb)]:List Sb) 0)<|
 bd (
 aj N m counts most N ([(⟨a,[]⟩:Sb)]:List Sb) 0 (z6t ([]:List ((Arr 6 Int)×Bool)) ((ix ([(⟨a,[]⟩:Sb)]:List Sb) 0).fI) true)) fun c=>
 Ex.on c (fun d=>
 some (([]:(List Int)),7)) some
def z3d(N:Nat)(m:Mach)(s:Int)(most:Int):Option ((List Int)×Int):=
 bd (z1z N m) fun b=>
 bif decide (b≠0) then(
 some (([]:(List Int)),b)) else(
 bif (((decide (s<0))||(decide ((↑m.rows.length:Int)≤s)))||(decide (most<0)))||(decide (256<most)) then(
 some (([]:(List Int)),1)) else(
 gd (okSh .u16 s)<|
 bd (z3g N m (l9 .u16 (1:Int) s) most) fun a=>
 some (a.1,a.2)))
def z0v(N:Nat)(m:Mach)(most:Int):Option ((List Int)×Int):=
 bd (z1z N m) fun b=>
 bif decide (b≠0) then(
 some (([]:(List Int)),b)) else(
 bif (decide (most<0))||(decide (256<most)) then(
 some (([]:(List Int)),1)) else(
 gd (okSh .u16 (↑m.rows.length:Int))<|
 bd (z3g N m (IntKind.u16.wrap ((l9 .u16 (1:Int) (↑m.rows.length:Int))-1)) most) fun a=>
 some (a.1,a.2)))
def yu(N:Nat)(inputs:Int)(a:List (List Int))(b:Int):Nat→Int→(List (List Int))→Option (List (List Int))
 |0,_,_=>none
 |e+1,c,d=>
  bif decide (c<inputs) then(
  gd (okI a b)<|
  gd (fits 8 ([]:List Int) (ix a b))<|
  gd (fits 8 (([]:List Int)++(ix a b)) ([c]:List Int))<|
  gd (fits 24 d ([((([]:List Int)++(ix a b))++([c]:List Int))]:List (List Int)))<|
  gd (in64 (c+1))<|
  yu N inputs a b e (c+1) (d++([((([]:List Int)++(ix a b))++([c]:List Int))]:List (List Int)))) else(
  some d)
def yw(N:Nat)(inputs:Int)(b:List (List Int)):Nat→(List (List Int))→Int→Option (List (List Int))
 |0,_,_=>none
 |d+1,c,a=>
  bif decide (a<(↑b.length:Int)) then(
  bd (
  yu N inputs b a N 0 c) fun e=>
  gd (in64 (a+1))<|
  yw N inputs b d e (a+1)) else(
  some c)
def yn(N:Nat)(inputs:Int)(k:Int):Nat→(List (List Int))→Int→Option (List (List Int))
 |0,_,_=>none
 |c+1,b,a=>
  bif decide (a<k) then(
  bd (
  yw N inputs b N ([]:List (List Int)) 0) fun d=>
  gd (in64 (a+1))<|
  yn N inputs k c d (a+1)) else(
  some b)
def z0o(N:Nat)(inputs:Int)(k:Int):Option (List (List Int)):=
 bd (
 yn N inputs k N ([([]:List Int)]:List (List Int)) 0) fun a=>
 some a
def xu(N:Nat)(inputs:Int)(k:Int):Nat→(List (List Int))→Int→Option (List (List Int))
 |0,_,_=>none
 |d+1,b,a=>
  bif decide (a≤k) then(
  bd (z0o N inputs a) fun c=>
  gd (fits 24 b c)<|
  gd (in64 (a+1))<|
  xu N inputs k d (b++c) (a+1)) else(
  some b)
def lw(N:Nat)(inputs:Int)(k:Int):Option (List (List Int)):=
 bd (
 xu N inputs k N ([]:List (List Int)) 0) fun a=>
 some a
def pz(N:Nat)(m:Mach)(w_:(List Int)):Nat→Int→(List Int)→Int→Option (List Int)
 |0,_,_,_=>none
 |d+1,e,b,a=>
  bif decide (a<(↑w_.length:Int)) then(
  gd (okI w_ a)<|
  bd (z00 N m e (ix w_ a)) fun c=>
  gd (fits 8 b ([c.out]:List Int))<|
  gd (in64 (a+1))<|
  pz N m w_ d c.to (b++([c.out]:List Int)) (a+1)) else(
  some b)
def fo(N:Nat)(m:Mach)(s:Int)(w_:(List Int)):Option (List Int):=
 bd (
 pz N m w_ N s ([]:List Int) 0) fun a=>
 some a
def wy(N:Nat)(a:(List Int))(b:(List Int)):Nat→Int→Option (Ex (Unit) (Int))
 |0,_=>none
 |d+1,c=>
  bif decide (c<(↑a.length:Int)) then(
  gd (okI a c)<|
  gd (okI b c)<|
  bif decide ((ix a c)<(ix b c)) then(
  some (Ex.rt (-1))) else(
  gd (okI a c)<|
  gd (okI b c)<|
  bif decide ((ix b c)<(ix a c)) then(
  some (Ex.rt 1)) else(
  gd (in64 (c+1))<|
  wy N a b d (c+1)))) else(
  some (Ex.go ()))
def ll(N:Nat)(a:(List Int))(b:(List Int)):Option Int:=
 bif decide ((↑a.length:Int)≠(↑b.length:Int)) then(
 bif decide ((↑a.length:Int)<(↑b.length:Int)) then(
 some (-1)) else(
 some 1)) else(
 bd (
 wy N a b N 0) fun c=>
 Ex.on c (fun d=>
 some 0) some)
def bv(N:Nat)(a:(List (List Int)))(b:(List (List Int))):Nat→Int→Option (Ex (Unit) (Bool))
 |0,_=>none
 |e+1,c=>
  bif decide (c<(↑a.length:Int)) then(
  gd (okI a c)<|
  gd (okI b c)<|
  bd (ll N (ix a c) (ix b c)) fun d=>
  bif decide (d≠0) then(
  some (Ex.rt false)) else(
  gd (in64 (c+1))<|
  bv N a b e (c+1))) else(
  some (Ex.go ()))
def ak(N:Nat)(a:(List (List Int)))(b:(List (List Int))):Option Bool:=
 bif decide ((↑a.length:Int)≠(↑b.length:Int)) then(
 some false) else(
 bd (
 bv N a b N 0) fun c=>
 Ex.on c (fun d=>
 some true) some)
def ik(N:Nat)(m:Mach)(w_:(List Int))(a:Int)(b:Int):Option Bool:=
 bd (fo N m a w_) fun d=>
 bd (fo N m b w_) fun e=>
 bd (ak N ([d]:List (List Int)) ([e]:List (List Int))) fun c=>
 some (!c)
def vg(N:Nat)(m:Mach)(w_:(List Int))(s:Int):Nat→Int→Option (Ex (Unit) (Bool))
 |0,_=>none
 |b+1,a=>
  bif decide (a<(↑m.rows.length:Int)) then(
  bd (gop (true&&((decide (a≠s))==true)) (ik N m w_ s a)) fun c=>
  bif (decide (a≠s))&&(!(c.getD default)) then(
  some (Ex.rt false)) else(
  gd (in64 (a+1))<|
  vg N m w_ s b (a+1))) else(
  some (Ex.go ()))
def oo(N:Nat)(m:Mach)(w_:(List Int))(s:Int):Option Bool:=
 bd (
 vg N m w_ s N 0) fun a=>
 Ex.on a (fun b=>
 some true) some
def iq(N:Nat)(m:Mach)(s:Int)(b:(List (List Int))):Nat→Int→Option (Ex (Unit) ((List Int)×Bool))
 |0,_=>none
 |c+1,a=>
  bif decide (a<(↑b.length:Int)) then(
  gd (okI b a)<|
  bd (oo N m (ix b a) s) fun d=>
  bif d then(
  gd (okI b a)<|
  some (Ex.rt ((ix b a),true))) else(
  gd (in64 (a+1))<|
  iq N m s b c (a+1))) else(
  some (Ex.go ()))
def z0i(N:Nat)(m:Mach)(s:Int)(most:Int):Option ((List Int)×Bool):=
 bd (lw N m.inputs most) fun a=>
 bd (
 iq N m s a N 0) fun b=>
 Ex.on b (fun c=>
 some (([]:(List Int)),false)) some
def yh(N:Nat)(m:Mach)(w_:(List Int)):Nat→Int→Option (Ex (Unit) (Bool))
 |0,_=>none
 |b+1,a=>
  bif decide (a<(↑m.rows.length:Int)) then(
  bd (oo N m w_ a) fun c=>
  bif !c then(
  some (Ex.rt false)) else(
  gd (in64 (a+1))<|
  yh N m w_ b (a+1))) else(
  some (Ex.go ()))
def z0d(N:Nat)(m:Mach)(w_:(List Int)):Option Bool:=
 bd (
 yh N m w_ N 0) fun a=>
 Ex.on a (fun b=>
 some true) some
def tu(N:Nat)(m:Mach)(b:(List (List Int))):Nat→Int→Option (Ex (Unit) ((List Int)×Bool))
 |0,_=>none
 |c+1,a=>
  bif decide (a<(↑b.length:Int)) then(
  gd (okI b a)<|
  bd (z0d N m (ix b a)) fun d=>
  bif d then(
  gd (okI b a)<|
  some (Ex.rt ((ix b a),true))) else(
  gd (in64 (a+1))<|
  tu N m b c (a+1))) else(
  some (Ex.go ()))
def l5(N:Nat)(m:Mach)(most:Int):Option ((List Int)×Bool):=
 bd (lw N m.inputs most) fun a=>
 bd (
 tu N m a N 0) fun b=>
 Ex.on b (fun c=>
 some (([]:(List Int)),false)) some
def di(N:Nat)(a:(List Int))(b:(List Int)):Option Bool:=
 bd (ak N ([a]:List (List Int)) ([b]:List (List Int))) fun c=>
 some (c&&(decide ((↑a.length:Int)=(↑a.length:Int))))
def z3v(N:Nat):Option Mach:=
 some (⟨2,2,([([(⟨1,0⟩:Edge),(⟨0,0⟩:Edge)]:List Edge),([(⟨2,0⟩:Edge),(⟨1,1⟩:Edge)]:List Edge),([(⟨0,1⟩:Edge),(⟨2,0⟩:Edge)]:List Edge)]:List (List Edge))⟩:Mach)
def z10(N:Nat)(l_:(Arr 64 Int))(block:Int)(h_:Int):Option Bool:=
 bd (aa N block) fun a=>
 gd ((true&&((decide (a<2))==false))=true→okI l_.1 block)<|
 gd (((true&&((decide (a<2))==false))&&((decide (0<(ix l_.1 block)))==true))=true→okI l_.1 block)<|
 some ((decide (a<2))||((decide (0<(ix l_.1 block)))&&(decide ((ix l_.1 block)<h_))))
def z3p(N:Nat)(m:Mach)(block:Int)(i:Int):Nat→Int→(Arr 16 Int)→Option (Ex ((Arr 16 Int)) ((Arr 16 Int)×Bool))
 |0,_,_=>none
 |c+1,a,b=>
  bif decide (a<(↑m.rows.length:Int)) then(
  bd (
  gd (okSh .u16 a)<|
  gd (okB .u16 (df block a) 1)<|
  bif decide ((z1g (df block a) 1)=0) then(
  some (Ex.go b)) else(
  gd (okI m.rows a)<|
  gd (okI (ix m.rows a) i)<|
  gd (okI b.1 ((ix (ix m.rows a) i).out))<|
  gd (okSh .u16 ((ix (ix m.rows a) i).to))<|
  gd (okB .u16 (df (ix b.1 ((ix (ix m.rows a) i).out)) ((ix (ix m.rows a) i).to)) 1)<|
  bif decide ((z1g (df (ix b.1 ((ix (ix m.rows a) i).out)) ((ix (ix m.rows a) i).to)) 1)=1) then(
  some (Ex.rt (Ex.rt (b,false)))) else(
  gd (okI b.1 ((ix (ix m.rows a) i).out))<|
  gd (okSh .u16 ((ix (ix m.rows a) i).to))<|
  gd (okB .u16 (ix b.1 ((ix (ix m.rows a) i).out)) (l9 .u16 (1:Int) ((ix (ix m.rows a) i).to)))<|
  gd (okI b.1 ((ix (ix m.rows a) i).out))<|
  some (Ex.go (sw b ((ix (ix m.rows a) i).out) (ior (ix b.1 ((ix (ix m.rows a) i).out)) (l9 .u16 (1:Int) ((ix (ix m.rows a) i).to)))))))) fun d=>
  Ex.on d (fun e=>
  gd (in64 (a+1))<|
  z3p N m block i c (a+1) e) some) else(
  some (Ex.go b))
def zbl(N:Nat)(m:Mach)(block:Int)(i:Int):Option ((Arr 16 Int)×Bool):=
 bd (
 z3p N m block i N 0 (ah 16 (List.replicate 16 (0:Int)))) fun a=>
 Ex.on a (fun b=>
 some (b,true)) some
def iy(N:Nat)(l_:(Arr 64 Int))(h_:Int)(c:(Arr 16 Int)×Bool):Nat→Bool→Int→Option Bool
 |0,_,_=>none
 |d+1,b,a=>
  bif decide (a<16) then(
  gd (okI c.1.1 a)<|
  bd (gop (true&&(b==true)) (z10 N l_ (ix c.1.1 a) h_)) fun e=>
  gd (in64 (a+1))<|
  iy N l_ h_ c d (b&&(e.getD default)) (a+1)) else(
  some b)
def z1w(N:Nat)(l_:(Arr 64 Int))(m:Mach)(block:Int)(i:Int)(h_:Int):Option Bool:=
 bd (zbl N m block i) fun b=>
 bd (
 iy N l_ h_ b N b.2 0) fun a=>
 some a
def z1m(N:Nat)(m:Mach)(d:Int)(e:(Arr 64 Int))(f:Bool)(a:Int)(b:(Arr 64 Int)):Nat→Int→Option (Bool×(Arr 64 Int))
 |0,_=>none
 |g+1,c=>
  bif decide (c<m.inputs) then(
  bd (z1w N e m a c d) fun h=>
  bif h then(
  gd (okI b.1 a)<|
  some (true,(sw b a d))) else(
  gd (in64 (c+1))<|
  z1m N m d e f a b g (c+1))) else(
  some (f,b))
def z1v(N:Nat)(m:Mach)(b:Int)(c:(Arr 64 Int)):Nat→Bool→Int→(Arr 64 Int)→Option (Bool×(Arr 64 Int))
 |0,_,_,_=>none
 |g+1,d,a,e=>
  bif decide (a<(l9 .u16 (1:Int) (↑m.rows.length:Int))) then(
  bd (
  bd (z10 N c a b) fun h=>
  bif h then(
  some (d,e)) else(
  z1m N m b c d a e N 0)) fun f=>
  z1v N m b c g f.1 (IntKind.u16.wrap (a+1)) f.2) else(
  some (d,e))
def z1k(N:Nat)(m:Mach):Nat→Int→Bool→(Arr 64 Int)→Option (Arr 64 Int)
 |0,_,_,_=>none
 |d+1,a,e,b=>
  bif e then(
  bd (
  gd (okSh .u16 (↑m.rows.length:Int))<|
  z1v N m a b N false 0 b) fun c=>
  gd (in64 (a+1))<|
  z1k N m d (a+1) c.1 c.2) else(
  some b)
def z90(N:Nat)(m:Mach):Option (Arr 64 Int):=
 bd (
 z1k N m N 1 true (ah 64 (List.replicate 64 (0:Int)))) fun a=>
 some a
def z1t(N:Nat)(p1_:Mach):Nat→Int→(List Int)→Option (List Int)
 |0,_,_=>none
 |c+1,a,b=>
  bif decide (a<(↑(mk p1_.outputs (0:Int)).length:Int)) then(
  gd (okI b a)<|
  gd (in64 (a+1))<|
  z1t N p1_ c (a+1) (up b a (-1))) else(
  some b)
def z1u(N:Nat)(now:(List Int)):Nat→Int→Int→Option Int
 |0,_,_=>none
 |c+1,b,a=>
  bif decide (a<(↑now.length:Int)) then(
  gd (okI now a)<|
  gd (okSh .u16 (ix now a))<|
  gd (okB .u16 b (l9 .u16 (1:Int) (ix now a)))<|
  gd (in64 (a+1))<|
  z1u N now c (ior b (l9 .u16 (1:Int) (ix now a))) (a+1)) else(
  some b)
def z1p(N:Nat)(p1_:Mach)(p2_:(Arr 64 Int))(b:Int):Nat→Int→Option Int
 |0,_=>none
 |c+1,a=>
  gd (okI p2_.1 b)<|
  bd (z1w N p2_ p1_ b a (ix p2_.1 b)) fun d=>
  bif !d then(
  gd (in64 (a+1))<|
  z1p N p1_ p2_ b c (a+1)) else(
  some a)
def z2f(N:Nat)(now:(List Int))(from_:(List Int))(p1_:Mach)(b:Int)(e:Int):Nat→(List Int)→(List Int)→Int→Option (List Int×List Int)
 |0,_,_,_=>none
 |g+1,c,d,a=>
  bif decide (a<(↑now.length:Int)) then(
  bd (
  gd (okI now a)<|
  gd (okI p1_.rows (ix now a))<|
  gd (okI (ix p1_.rows (ix now a)) b)<|
  bif decide (((ix (ix p1_.rows (ix now a)) b).out)=e) then(
  gd (okI p1_.rows (ix now a))<|
  gd (okI (ix p1_.rows (ix now a)) b)<|
  gd (fits 8 c ([(ix (ix p1_.rows (ix now a)) b).to]:List Int))<|
  gd (okI from_ a)<|
  gd (fits 8 d ([(ix from_ a)]:List Int))<|
  some ((c++([(ix (ix p1_.rows (ix now a)) b).to]:List Int)),(d++([(ix from_ a)]:List Int)))) else(
  some (c,d))) fun f=>
  gd (in64 (a+1))<|
  z2f N now from_ p1_ b e g f.1 f.2 (a+1)) else(
  some (c,d))
def z1r(N:Nat)(self:(List Int)→(List Int)→List Sa→Mach→(Arr 64 Int)→Option (Int×List Sa))(now:(List Int))(from_:(List Int))(p0_:List Sa)(p1_:Mach)(p2_:(Arr 64 Int))(f:List Int)(c:Int):Nat→Int→(List Sa)→Option (List Sa)
 |0,_,_=>none
 |g+1,a,d=>
  bif decide (a<(↑((up (p0_++[(⟨(-1),(-1),f⟩:Sa)]) (↑p0_.length:Int) (⟨c,(ix (p0_++[(⟨(-1),(-1),f⟩:Sa)]) (↑p0_.length:Int)).fE,(ix (p0_++[(⟨(-1),(-1),f⟩:Sa)]) (↑p0_.length:Int)).fD⟩:Sa)).getD p0_.length default).fD.length:Int)) then(
  bd (
  bd (
  z2f N now from_ p1_ c a N ([]:List Int) ([]:List Int) 0) fun e=>
  bif decide (0<(↑e.1.length:Int)) then(
  bd (self e.1 e.2 d p1_ p2_) fun b=>
  gd (okI (b.2.getD p0_.length default).fD a)<|
  some (b.2.set p0_.length (⟨(b.2.getD p0_.length default).fB,(b.2.getD p0_.length default).fE,up (b.2.getD p0_.length default).fD a b.1⟩:Sa))) else(
  some d)) fun h=>
  gd (in64 (a+1))<|
  z1r N self now from_ p0_ p1_ p2_ f c g (a+1) h) else(
  some d)
def z1c(N:Nat):Nat→(List Int)→(List Int)→List Sa→Mach→(Arr 64 Int)→Option (Int×List Sa)
 |0,_,_,_,_,_=>none
 |F+1,now,from_,p0_,p1_,p2_=>
  gd (okM 8 p1_.outputs)<|
  bd (
  z1t N p1_ N 0 (mk p1_.outputs (0:Int))) fun a=>
  gd (fits 40 p0_ [(⟨(-1),(-1),a⟩:Sa)])<|
  bif decide ((↑now.length:Int)=1) then(
  gd (okI from_ 0)<|
  gd (okI (p0_++[(⟨(-1),(-1),a⟩:Sa)]) (↑p0_.length:Int))<|
  some ((↑p0_.length:Int),(up (p0_++[(⟨(-1),(-1),a⟩:Sa)]) (↑p0_.length:Int) (⟨(ix (p0_++[(⟨(-1),(-1),a⟩:Sa)]) (↑p0_.length:Int)).fB,(ix from_ 0),(ix (p0_++[(⟨(-1),(-1),a⟩:Sa)]) (↑p0_.length:Int)).fD⟩:Sa)))) else(
  bd (
  z1u N now N 0 0) fun d=>
  bd (
  z1p N p1_ p2_ d N 0) fun b=>
  gd (okI (p0_++[(⟨(-1),(-1),a⟩:Sa)]) (↑p0_.length:Int))<|
  bd (
  z1r N (z1c N F) now from_ p0_ p1_ p2_ a b N 0 (up (p0_++[(⟨(-1),(-1),a⟩:Sa)]) (↑p0_.length:Int) (⟨b,(ix (p0_++[(⟨(-1),(-1),a⟩:Sa)]) (↑p0_.length:Int)).fE,(ix (p0_++[(⟨(-1),(-1),a⟩:Sa)]) (↑p0_.length:Int)).fD⟩:Sa))) fun c=>
  some ((↑p0_.length:Int),c))
def z2v(N:Nat)(s:(List Sa)):Option (List Sa):=
 gd (okS s 0 (↑s.length:Int))<|
 some (cut s 0 (↑s.length:Int))
def z3n(N:Nat)(m:Mach):Nat→(List Int)→Int→Option (List Int)
 |0,_,_=>none
 |c+1,b,a=>
  bif decide (a<(↑m.rows.length:Int)) then(
  gd (fits 8 b ([a]:List Int))<|
  gd (in64 (a+1))<|
  z3n N m c (b++([a]:List Int)) (a+1)) else(
  some b)
def zbh(N:Nat)(m:Mach):Option (Sd×Int):=
 bd (z1z N m) fun f=>
 bif decide (f≠0) then(
 some ((⟨[]⟩:Sd),f)) else(
 bd (z90 N m) fun a=>
 gd (okSh .u16 (↑m.rows.length:Int))<|
 bd (z10 N a (IntKind.u16.wrap ((l9 .u16 (1:Int) (↑m.rows.length:Int))-1)) 64) fun d=>
 bif !d then(
 some ((⟨[]⟩:Sd),7)) else(
 bd (
 z3n N m N ([]:List Int) 0) fun b=>
 bd (z1c N N b b ([]:List Sa) m a) fun e=>
 bd (z2v N e.2) fun c=>
 some ((⟨c⟩:Sd),0)))
def z2m(N:Nat)(input:Int)(next:(List Int)):Option Sa:=
 some (⟨input,(-1),next⟩:Sa)
def z1d(N:Nat)(s:Int):Option Sa:=
 some (⟨(-1),s,([(-1),(-1)]:List Int)⟩:Sa)
def z1f(N:Nat)(t:Sd)(outputs:(List Int)):Nat→Int→Int→Option (Ex (Int) (Int×Int))
 |0,_,_=>none
 |c+1,b,a=>
  bif decide (a<(↑outputs.length:Int)) then(
  gd (okI outputs a)<|
  gd (okI t.fA b)<|
  bif decide (((ix t.fA b).fB)=(-1)) then(
  some (Ex.rt (0,16))) else(
  gd ((true&&(((decide ((ix outputs a)<0))||(decide ((↑((ix t.fA b).fD).length:Int)≤(ix outputs a))))==false))=true→okI ((ix t.fA b).fD) (ix outputs a))<|
  gd ((true&&((((decide ((ix outputs a)<0))||(decide ((↑((ix t.fA b).fD).length:Int)≤(ix outputs a))))||(decide ((ix ((ix t.fA b).fD) (ix outputs a))<0)))==false))=true→okI ((ix t.fA b).fD) (ix outputs a))<|
  bif (((decide ((ix outputs a)<0))||(decide ((↑((ix t.fA b).fD).length:Int)≤(ix outputs a))))||(decide ((ix ((ix t.fA b).fD) (ix outputs a))<0)))||(decide ((↑t.fA.length:Int)≤(ix ((ix t.fA b).fD) (ix outputs a)))) then(
  some (Ex.rt (0,7))) else(
  gd (okI ((ix t.fA b).fD) (ix outputs a))<|
  gd (in64 (a+1))<|
  z1f N t outputs c (ix ((ix t.fA b).fD) (ix outputs a)) (a+1)))) else(
  some (Ex.go b))
def z3m(N:Nat)(t:Sd)(outputs:(List Int)):Option (Int×Int):=
 bif decide ((↑t.fA.length:Int)=0) then(
 some (0,4)) else(
 bd (
 z1f N t outputs N 0 0) fun b=>
 Ex.on b (fun a=>
 gd (okI t.fA a)<|
 bif decide (((ix t.fA a).fB)=(-1)) then(
 some (((ix t.fA a).fE),0)) else(
 some (0,16))) some)
def lg(N:Nat)(a:Sd)(b:Sd):Nat→Int→Option (Ex (Unit) (Bool))
 |0,_=>none
 |d+1,c=>
  bif decide (c<(↑a.fA.length:Int)) then(
  gd (okI a.fA c)<|
  gd (okI b.fA c)<|
  gd ((true&&((decide (((ix a.fA c).fB)≠((ix b.fA c).fB)))==false))=true→okI a.fA c)<|
  gd ((true&&((decide (((ix a.fA c).fB)≠((ix b.fA c).fB)))==false))=true→okI b.fA c)<|
  gd ((true&&(((decide (((ix a.fA c).fB)≠((ix b.fA c).fB)))||(decide (((ix a.fA c).fE)≠((ix b.fA c).fE))))==false))=true→okI a.fA c)<|
  gd ((true&&(((decide (((ix a.fA c).fB)≠((ix b.fA c).fB)))||(decide (((ix a.fA c).fE)≠((ix b.fA c).fE))))==false))=true→okI b.fA c)<|
  bd (gop (true&&(((decide (((ix a.fA c).fB)≠((ix b.fA c).fB)))||(decide (((ix a.fA c).fE)≠((ix b.fA c).fE))))==false)) (ak N ([(ix a.fA c).fD]:List (List Int)) ([(ix b.fA c).fD]:List (List Int)))) fun e=>
  bif ((decide (((ix a.fA c).fB)≠((ix b.fA c).fB)))||(decide (((ix a.fA c).fE)≠((ix b.fA c).fE))))||(!(e.getD default)) then(
  some (Ex.rt false)) else(
  gd (in64 (c+1))<|
  lg N a b d (c+1))) else(
  some (Ex.go ()))
def z5d(N:Nat)(a:Sd)(b:Sd):Option Bool:=
 bif decide ((↑a.fA.length:Int)≠(↑b.fA.length:Int)) then(
 some false) else(
 bd (
 lg N a b N 0) fun c=>
 Ex.on c (fun d=>
 some true) some)
def z2o(N:Nat)(t:Sd)(a:Int):Nat→Int→(List Int)→Option (Ex (List Int) (Ex (List Int) (Int)))
 |0,_,_=>none
 |d+1,b,c=>
  bif decide (b<(↑((ix t.fA a).fD).length:Int)) then(
  bd (
  gd (okI ((ix t.fA a).fD) b)<|
  bif decide ((ix ((ix t.fA a).fD) b)=(-1)) then(
  some (Ex.go c)) else(
  bif (decide ((ix ((ix t.fA a).fD) b)≤a))||(decide ((↑t.fA.length:Int)≤(ix ((ix t.fA a).fD) b))) then(
  some (Ex.rt (Ex.rt (Ex.rt 0)))) else(
  gd (okI c a)<|
  gd (okI c (ix ((ix t.fA a).fD) b))<|
  gd (in64 ((ix c (ix ((ix t.fA a).fD) b))+1))<|
  gd (okI c a)<|
  some (Ex.go (up c a (max (ix c a) ((ix c (ix ((ix t.fA a).fD) b))+1))))))) fun e=>
  Ex.on e (fun f=>
  gd (in64 (b+1))<|
  z2o N t a d (b+1) f) some) else(
  some (Ex.go c))
def z2q(N:Nat)(t:Sd):Nat→Int→(List Int)→Option (Ex (List Int) (Int))
 |0,_,_=>none
 |c+1,a,b=>
  bif decide (0≤a) then(
  bd (
  gd (okI t.fA a)<|
  z2o N t a N 0 b) fun d=>
  Ex.on d (fun e=>
  gd (in64 (a-1))<|
  z2q N t c (a-1) e) some) else(
  some (Ex.go b))
def za0(N:Nat)(t:Sd):Option Int:=
 gd (okM 8 (↑t.fA.length:Int))<|
 bd (
 gd (in64 ((↑t.fA.length:Int)-1))<|
 z2q N t N ((↑t.fA.length:Int)-1) (mk (↑t.fA.length:Int) (0:Int))) fun b=>
 Ex.on b (fun a=>
 bif decide ((↑a.length:Int)=0) then(
 some 0) else(
 gd (okI a 0)<|
 some (ix a 0))) some
def z2n(N:Nat):Option Bool:=
 bd (z3v N) fun b=>
 bd (z3d N (⟨b.inputs,b.outputs,b.rows⟩:Mach) 2 3) fun e=>
 bd (z3d N (⟨b.inputs,b.outputs,b.rows⟩:Mach) 0 3) fun f=>
 bd (z3d N (⟨b.inputs,b.outputs,b.rows⟩:Mach) 0 1) fun n=>
 bd (z0v N (⟨b.inputs,b.outputs,b.rows⟩:Mach) 3) fun g=>
 bd (z0v N (⟨b.inputs,b.outputs,b.rows⟩:Mach) 1) fun o=>
 bd (gop (true&&((((((decide (e.2≠0))||(decide (f.2≠0)))||(decide (n.2≠7)))||(decide (g.2≠0)))||(decide (o.2≠7)))==false)) (di N e.1 ([0]:List Int))) fun r=>
 bd (gop (true&&(((((((decide (e.2≠0))||(decide (f.2≠0)))||(decide (n.2≠7)))||(decide (g.2≠0)))||(decide (o.2≠7)))||(!(r.getD default)))==false)) (di N f.1 ([0,0]:List Int))) fun p=>
 bd (gop (true&&((((((((decide (e.2≠0))||(decide (f.2≠0)))||(decide (n.2≠7)))||(decide (g.2≠0)))||(decide (o.2≠7)))||(!(r.getD default)))||(!(p.getD default)))==false)) (di N g.1 ([0,0]:List Int))) fun s=>
 bif (((((((decide (e.2≠0))||(decide (f.2≠0)))||(decide (n.2≠7)))||(decide (g.2≠0)))||(decide (o.2≠7)))||(!(r.getD default)))||(!(p.getD default)))||(!(s.getD default)) then(
 some false) else(
 bd (zbh N (⟨b.inputs,b.outputs,b.rows⟩:Mach)) fun a=>
 bd (z2m N 0 ([1,4]:List Int)) fun h=>
 bd (z2m N 0 ([2,3]:List Int)) fun i=>
 bd (z1d N 0) fun j=>
 bd (z1d N 1) fun k=>
 bd (z1d N 2) fun l=>
 bd (z3m N (⟨a.1.fA⟩:Sd) ([0,1]:List Int)) fun c=>
 bd (z3m N (⟨a.1.fA⟩:Sd) ([1]:List Int)) fun d=>
 bd (z3m N (⟨a.1.fA⟩:Sd) ([0]:List Int)) fun m=>
 bd (gop (true&&(((((decide (a.2=0))&&(decide (c.2=0)))&&(decide (d.2=0)))&&(decide (m.2=16)))==true)) (z5d N (⟨a.1.fA⟩:Sd) (⟨([(⟨h.fB,h.fE,h.fD⟩:Sa),(⟨i.fB,i.fE,i.fD⟩:Sa),(⟨j.fB,j.fE,j.fD⟩:Sa),(⟨k.fB,k.fE,k.fD⟩:Sa),(⟨l.fB,l.fE,l.fD⟩:Sa)]:List Sa)⟩:Sd))) fun q=>
 bd (gop (true&&((((((decide (a.2=0))&&(decide (c.2=0)))&&(decide (d.2=0)))&&(decide (m.2=16)))&&(q.getD default))==true)) (za0 N (⟨a.1.fA⟩:Sd))) fun t=>
 some ((((((((decide (a.2=0))&&(decide (c.2=0)))&&(decide (d.2=0)))&&(decide (m.2=16)))&&(q.getD default))&&(decide ((t.getD default)=2)))&&(decide (c.1=1)))&&(decide (d.1=2))))
def og(N:Nat)(x:Sj)(s:Int)(most:Int):Option Bool:=
 bd (lq N x) fun a=>
 gd (in64 s)<|
 gd (okR s (↑a.rows.length:Int))<|
 gd (in64 most)<|
 gd (okR most 7)<|
 bd (z3d N (⟨a.inputs,a.outputs,a.rows⟩:Mach) (s%(↑a.rows.length:Int)) (most%7)) fun c=>
 bd (z0v N (⟨a.inputs,a.outputs,a.rows⟩:Mach) (most%7)) fun d=>
 bd (z0i N (⟨a.inputs,a.outputs,a.rows⟩:Mach) (s%(↑a.rows.length:Int)) (most%7)) fun f=>
 bd (l5 N (⟨a.inputs,a.outputs,a.rows⟩:Mach) (most%7)) fun g=>
 bif (((decide ((decide (c.2=0))≠f.2))||(decide ((decide (d.2=0))≠g.2)))||((decide (c.2≠0))&&(decide (c.2≠7))))||((decide (d.2≠0))&&(decide (d.2≠7))) then(
 some false) else(
 bd (di N c.1 f.1) fun b=>
 bd (gop (true&&(b==true)) (di N d.1 g.1)) fun e=>
 bd (gop (true&&((b&&(e.getD default))==true)) (z2n N)) fun h=>
 some ((b&&(e.getD default))&&(h.getD default)))
end GV
end Go.Proofs.Ytnnobdkjgafdmaa
