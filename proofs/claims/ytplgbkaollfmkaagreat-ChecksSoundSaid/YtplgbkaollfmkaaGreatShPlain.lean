import Derived.Test.YtplgbkaollfmkaaGreatShTypes
set_option linter.unusedVariables false
set_option linter.unusedSimpArgs false
namespace Go.Proofs.YtplgbkaollfmkaaGreat
namespace GV
set_option maxRecDepth 100000
def z0q(N:Nat)(l_:(List Int))(k:Int):Option Int:=
 bif decide (k<(↑l_.length:Int)) then(
 gd (okI l_ k)<|
 gd (in64 (ix l_ k))<|
 some (ix l_ k)) else(
 some 0)
def mi(N:Nat)(x:Sa)(b:Int):Nat→(List Edge)→Int→Option (List Edge)
 |0,_,_=>none
 |e+1,d,a=>
  bif decide (a<((1:Int)+(x.fA%3))) then(
  gd (in64 (b*((1:Int)+(x.fA%3))))<|
  gd (in64 ((b*((1:Int)+(x.fA%3)))+a))<|
  bd (z0q N x.fE ((b*((1:Int)+(x.fA%3)))+a)) fun c=>
  gd (okQ c ((1:Int)+(x.fB%6)))<|
  gd (okR (c/((1:Int)+(x.fB%6))) ((1:Int)+(x.fC%3)))<|
  gd (fits 16 d ([(⟨(-1),(c/((1:Int)+(x.fB%6)))%((1:Int)+(x.fC%3))⟩:Edge)]:List Edge))<|
  gd (in64 (a+1))<|
  mi N x b e (d++([(⟨(-1),(c/((1:Int)+(x.fB%6)))%((1:Int)+(x.fC%3))⟩:Edge)]:List Edge)) (a+1)) else(
  some d)
def pq(N:Nat)(x:Sa):Nat→Int→(List (List Edge))→Option (List (List Edge))
 |0,_,_=>none
 |d+1,a,b=>
  bif decide (a<((1:Int)+(x.fB%6))) then(
  bd (
  mi N x a N ([]:List Edge) 0) fun c=>
  gd (fits 24 b [c])<|
  gd (in64 (a+1))<|
  pq N x d (a+1) (b++[c])) else(
  some b)
def yt(N:Nat)(x:Sa)(d:Int)(b:List (List Edge)):Nat→(List Int)→Int→Option (List Int)
 |0,_,_=>none
 |e+1,c,a=>
  gd (in64 (d*((1:Int)+(x.fA%3))))<|
  bif decide (a<(d*((1:Int)+(x.fA%3)))) then(
  bd (
  gd (okQ a ((1:Int)+(x.fA%3)))<|
  gd (okI b (a/((1:Int)+(x.fA%3))))<|
  gd (okR a ((1:Int)+(x.fA%3)))<|
  gd (okI (ix b (a/((1:Int)+(x.fA%3)))) (a%((1:Int)+(x.fA%3))))<|
  bif decide (((ix (ix b (a/((1:Int)+(x.fA%3)))) (a%((1:Int)+(x.fA%3)))).to)<0) then(
  gd (fits 8 c ([a]:List Int))<|
  some (c++([a]:List Int))) else(
  some c)) fun f=>
  gd (in64 (a+1))<|
  yt N x d b e f (a+1)) else(
  some c)
def mq(N:Nat)(x:Sa):Nat→Int→(List (List Edge))→Option (List (List Edge))
 |0,_,_=>none
 |e+1,a,c=>
  bif decide (a<((1:Int)+(x.fB%6))) then(
  bd (
  yt N x a c N ([]:List Int) 0) fun d=>
  gd (okI d 0)<|
  bd (
  gd (in64 (a-1))<|
  bif decide ((a-1)<(↑x.fI.length:Int)) then(
  gd (in64 (a-1))<|
  gd (okI x.fI (a-1))<|
  gd (in64 (ix x.fI (a-1)))<|
  gd (okR (ix x.fI (a-1)) (↑d.length:Int))<|
  gd (okI d ((ix x.fI (a-1))%(↑d.length:Int)))<|
  some (ix d ((ix x.fI (a-1))%(↑d.length:Int)))) else(
  some (ix d 0))) fun b=>
  gd (okQ b ((1:Int)+(x.fA%3)))<|
  gd (okI c (b/((1:Int)+(x.fA%3))))<|
  gd (okR b ((1:Int)+(x.fA%3)))<|
  gd (okI (ix c (b/((1:Int)+(x.fA%3)))) (b%((1:Int)+(x.fA%3))))<|
  gd (in64 (a+1))<|
  mq N x e (a+1) (up c (b/((1:Int)+(x.fA%3))) (up (ix c (b/((1:Int)+(x.fA%3)))) (b%((1:Int)+(x.fA%3))) (⟨a,(ix (ix c (b/((1:Int)+(x.fA%3)))) (b%((1:Int)+(x.fA%3)))).out⟩:Edge)))) else(
  some c)
def yu(N:Nat)(x:Sa)(a:Int):Nat→Int→(List (List Edge))→Option (List (List Edge))
 |0,_,_=>none
 |e+1,b,c=>
  bif decide (b<((1:Int)+(x.fA%3))) then(
  bd (
  gd (okI c a)<|
  gd (okI (ix c a) b)<|
  bif decide (((ix (ix c a) b).to)<0) then(
  gd (okI c a)<|
  gd (in64 (a*((1:Int)+(x.fA%3))))<|
  gd (in64 ((a*((1:Int)+(x.fA%3)))+b))<|
  bd (z0q N x.fE ((a*((1:Int)+(x.fA%3)))+b)) fun d=>
  gd (okR d ((1:Int)+(x.fB%6)))<|
  gd (okI (ix c a) b)<|
  some (up c a (up (ix c a) b (⟨d%((1:Int)+(x.fB%6)),(ix (ix c a) b).out⟩:Edge)))) else(
  some c)) fun f=>
  gd (in64 (b+1))<|
  yu N x a e (b+1) f) else(
  some c)
def mr(N:Nat)(x:Sa):Nat→Int→(List (List Edge))→Option (List (List Edge))
 |0,_,_=>none
 |c+1,a,b=>
  bif decide (a<((1:Int)+(x.fB%6))) then(
  bd (
  yu N x a N 0 b) fun d=>
  gd (in64 (a+1))<|
  mr N x c (a+1) d) else(
  some b)
def z0l(N:Nat)(x:Sa):Option Mach:=
 gd (okR x.fB 6)<|
 gd (in64 (x.fB%6))<|
 gd (in64 ((1:Int)+(x.fB%6)))<|
 gd (okR x.fA 3)<|
 gd (in64 (x.fA%3))<|
 gd (in64 ((1:Int)+(x.fA%3)))<|
 gd (okR x.fC 3)<|
 gd (in64 (x.fC%3))<|
 gd (in64 ((1:Int)+(x.fC%3)))<|
 bd (
 pq N x N 0 ([]:List (List Edge))) fun c=>
 bd (
 mq N x N 1 c) fun a=>
 bd (
 mr N x N 0 a) fun b=>
 some (⟨(1:Int)+(x.fA%3),(1:Int)+(x.fC%3),b⟩:Mach)
def vz(N:Nat)(m:Mach)(marked:(List (List Bool)))(s:Int)(t:Int):Nat→Int→Option (Ex (Unit) (Int))
 |0,_=>none
 |b+1,a=>
  bif decide (a<m.inputs) then(
  gd (okI m.rows s)<|
  gd (okI (ix m.rows s) a)<|
  gd (okI m.rows t)<|
  gd (okI (ix m.rows t) a)<|
  gd (((true&&((decide (((ix (ix m.rows s) a).out)≠((ix (ix m.rows t) a).out)))==false))&&(((decide (0≤((ix (ix m.rows s) a).to)))&&(decide (0≤((ix (ix m.rows t) a).to))))==true))=true→okI marked ((ix (ix m.rows s) a).to))<|
  gd (((true&&((decide (((ix (ix m.rows s) a).out)≠((ix (ix m.rows t) a).out)))==false))&&(((decide (0≤((ix (ix m.rows s) a).to)))&&(decide (0≤((ix (ix m.rows t) a).to))))==true))=true→okI (ix marked ((ix (ix m.rows s) a).to)) ((ix (ix m.rows t) a).to))<|
  bif (decide (((ix (ix m.rows s) a).out)≠((ix (ix m.rows t) a).out)))||(((decide (0≤((ix (ix m.rows s) a).to)))&&(decide (0≤((ix (ix m.rows t) a).to))))&&(ix (ix marked ((ix (ix m.rows s) a).to)) ((ix (ix m.rows t) a).to))) then(
  some (Ex.rt 1)) else(
  gd (in64 (a+1))<|
  vz N m marked s t b (a+1))) else(
  some (Ex.go ()))
def z2u(N:Nat)(m:Mach)(marked:(List (List Bool)))(s:Int)(t:Int):Option Int:=
 bd (
 vz N m marked s t N 0) fun a=>
 Ex.on a (fun b=>
 some 0) some
def gq(N:Nat)(m:Mach):Nat→(List (List Bool))→Int→Option (List (List Bool))
 |0,_,_=>none
 |c+1,a,b=>
  bif decide (b<(↑m.rows.length:Int)) then(
  gd (okM 1 (↑m.rows.length:Int))<|
  gd (fits 24 a [(mk (↑m.rows.length:Int) false)])<|
  gd (in64 (b+1))<|
  gq N m c (a++[(mk (↑m.rows.length:Int) false)]) (b+1)) else(
  some a)
def bf(N:Nat)(m:Mach)(d:List (List Bool))(b:Int):Nat→Int→(List (List Bool))→Option (List (List Bool))
 |0,_,_=>none
 |e+1,a,c=>
  bif decide (a<(↑m.rows.length:Int)) then(
  gd (okI c b)<|
  gd (okI d b)<|
  gd (okI (ix d b) a)<|
  bd (gop (true&&((ix (ix d b) a)==false)) (z2u N m d b a)) fun f=>
  gd (okI (ix c b) a)<|
  gd (in64 (a+1))<|
  bf N m d b e (a+1) (up c b (up (ix c b) a ((ix (ix d b) a)||(decide ((f.getD default)=1)))))) else(
  some c)
def bv(N:Nat)(m:Mach)(c:List (List Bool)):Nat→(List (List Bool))→Int→Option (List (List Bool))
 |0,_,_=>none
 |d+1,b,a=>
  bif decide (a<(↑m.rows.length:Int)) then(
  bd (
  gd (okM 1 (↑m.rows.length:Int))<|
  gd (fits 24 b [(mk (↑m.rows.length:Int) false)])<|
  bf N m c a N 0 (b++[(mk (↑m.rows.length:Int) false)])) fun e=>
  gd (in64 (a+1))<|
  bv N m c d e (a+1)) else(
  some b)
def bq(N:Nat)(m:Mach)(k:Int):Nat→(List (List Bool))→Int→Option (List (List Bool))
 |0,_,_=>none
 |c+1,b,a=>
  bif decide (a<k) then(
  bd (
  bv N m b N ([]:List (List Bool)) 0) fun d=>
  gd (in64 (a+1))<|
  bq N m k c d (a+1)) else(
  some b)
def ni(N:Nat)(m:Mach)(k:Int):Option (List (List Bool)):=
 bd (
 gq N m N ([]:List (List Bool)) 0) fun a=>
 bd (
 bq N m k N a 0) fun b=>
 some b
def uq(N:Nat)(marked:(List (List Bool)))(c:List Int)(b:Int):Nat→Int→Int→Option Int
 |0,_,_=>none
 |e+1,d,a=>
  bif decide (a<b) then(
  bd (
  gd (okI marked b)<|
  gd (okI (ix marked b) a)<|
  bif !(ix (ix marked b) a) then(
  gd (okI c a)<|
  some (ix c a)) else(
  some d)) fun f=>
  gd (in64 (a+1))<|
  uq N marked c b e f (a+1)) else(
  some d)
def yh(N:Nat)(marked:(List (List Bool))):Nat→(List Int)→Int→Int→Option (List Int)
 |0,_,_,_=>none
 |f+1,a,b,c=>
  bif decide (c<(↑marked.length:Int)) then(
  bd (
  uq N marked a c N (-1) 0) fun e=>
  bd (
  bif decide (e<0) then(
  gd (in64 (b+1))<|
  some (b+1,b)) else(
  some (b,e))) fun d=>
  gd (fits 8 a ([d.2]:List Int))<|
  gd (in64 (c+1))<|
  yh N marked f (a++([d.2]:List Int)) d.1 (c+1)) else(
  some a)
def lh(N:Nat)(marked:(List (List Bool))):Option (List Int):=
 bd (
 yh N marked N ([]:List Int) 0 0) fun a=>
 some a
def z4j(N:Nat)(m:Mach)(k:Int):Option (List Int):=
 bd (ni N m k) fun b=>
 bd (lh N b) fun a=>
 some a
def l7(N:Nat)(m:Mach):Option (List Int):=
 bd (z4j N m (↑m.rows.length:Int)) fun a=>
 some a
def z1t(N:Nat)(m:Mach)(s:Int)(i:Int):Option Edge:=
 bif decide (s<0) then(
 some (⟨(-1),(-1)⟩:Edge)) else(
 gd (okI m.rows s)<|
 gd (okI (ix m.rows s) i)<|
 some (⟨(ix (ix m.rows s) i).to,(ix (ix m.rows s) i).out⟩:Edge))
def vg(N:Nat):Nat→Mach→Int→(List Int)→Option Int
 |0,_,_,_=>none
 |F+1,m,s,w_=>
  bif decide ((↑w_.length:Int)=0) then(
  some s) else(
  gd (okI w_ 0)<|
  bd (z1t N m s (ix w_ 0)) fun b=>
  gd (okS w_ 1 (↑w_.length:Int))<|
  bd ((vg N F) m b.to (cut w_ 1 (↑w_.length:Int))) fun a=>
  some a)
def pg(N:Nat)(inputs:Int):Nat→Int→(List Int)→Option (Ex (List Int) ((List Int)))
 |0,_,_=>none
 |c+1,a,b=>
  bif decide (0≤a) then(
  gd (okI b a)<|
  gd (in64 ((ix b a)+1))<|
  bif decide (((ix b a)+1)<inputs) then(
  gd (okI b a)<|
  gd (in64 ((ix b a)+1))<|
  gd (okI b a)<|
  some (Ex.rt (up b a ((ix b a)+1)))) else(
  gd (okI b a)<|
  gd (in64 (a-1))<|
  pg N inputs c (a-1) (up b a 0))) else(
  some (Ex.go b))
def z1u(N:Nat)(w_:(List Int))(inputs:Int):Option (List Int):=
 gd (fits 8 ([]:List Int) w_)<|
 bd (
 gd (in64 ((↑(([]:List Int)++w_).length:Int)-1))<|
 pg N inputs N ((↑(([]:List Int)++w_).length:Int)-1) (([]:List Int)++w_)) fun b=>
 Ex.on b (fun a=>
 gd (fits 8 a ([0]:List Int))<|
 some (a++([0]:List Int))) some
def yg(N:Nat)(m:Mach)(from_:Int):Nat→(List Int)→(List (List Int))→(List Bool)→Option (List (List Int)×List Bool)
 |0,_,_,_=>none
 |g+1,c,d,b=>
  bif decide ((↑c.length:Int)<(↑m.rows.length:Int)) then(
  bd (
  bd (vg N N m from_ c) fun a=>
  gd ((true&&((decide (0≤a))==true))=true→okI b a)<|
  bif (decide (0≤a))&&(!(ix b a)) then(
  gd (okI b a)<|
  gd (okI d a)<|
  some ((up d a c),(up b a true))) else(
  some (d,b))) fun e=>
  bd (z1u N c m.inputs) fun f=>
  yg N m from_ g f e.1 e.2) else(
  some (d,b))
def z1b(N:Nat)(m:Mach)(from_:Int):Option ((List (List Int))×(List Bool)):=
 gd (okM 24 (↑m.rows.length:Int))<|
 gd (okM 1 (↑m.rows.length:Int))<|
 bd (
 yg N m from_ N ([]:List Int) (mk (↑m.rows.length:Int) ([]:List Int)) (mk (↑m.rows.length:Int) false)) fun a=>
 some (a.1,a.2)
def z1z(N:Nat)(m:Mach):Option ((List (List Int))×(List Bool)):=
 bd (z1b N m 0) fun a=>
 some (a.1,a.2)
def mg(N:Nat)(a:(List Int))(b:(List Int)):Nat→Int→Option (Ex (Unit) (Int))
 |0,_=>none
 |d+1,c=>
  bif decide (c<(↑a.length:Int)) then(
  gd (okI a c)<|
  gd (okI b c)<|
  bif decide ((ix a c)≠(ix b c)) then(
  gd (okI a c)<|
  gd (okI b c)<|
  bif decide ((ix a c)<(ix b c)) then(
  some (Ex.rt 1)) else(
  some (Ex.rt 0))) else(
  gd (in64 (c+1))<|
  mg N a b d (c+1))) else(
  some (Ex.go ()))
def z0k(N:Nat)(a:(List Int))(b:(List Int)):Option Int:=
 bif decide ((↑a.length:Int)≠(↑b.length:Int)) then(
 bif decide ((↑a.length:Int)<(↑b.length:Int)) then(
 some 1) else(
 some 0)) else(
 bd (
 mg N a b N 0) fun c=>
 Ex.on c (fun d=>
 some 0) some)
def cz(N:Nat)(d:(List (List Int))×(List Bool))(b:List Int)(c:Int):Nat→Int→Option Int
 |0,_=>none
 |e+1,a=>
  gd ((true&&((decide (a<(↑b.length:Int)))==true))=true→okI b a)<|
  gd ((true&&((decide (a<(↑b.length:Int)))==true))=true→okI d.1 (ix b a))<|
  gd ((true&&((decide (a<(↑b.length:Int)))==true))=true→okI d.1 c)<|
  bd (gop (true&&((decide (a<(↑b.length:Int)))==true)) (z0k N (ix d.1 (ix b a)) (ix d.1 c))) fun f=>
  bif (decide (a<(↑b.length:Int)))&&(decide ((f.getD default)=1)) then(
  gd (in64 (a+1))<|
  cz N d b c e (a+1)) else(
  some a)
def dz(N:Nat)(d:(List (List Int))×(List Bool)):Nat→(List Int)→Int→Option (List Int)
 |0,_,_=>none
 |e+1,a,b=>
  bif decide (b<(↑d.1.length:Int)) then(
  bd (
  gd (okI d.2 b)<|
  bif !(ix d.2 b) then(
  some a) else(
  bd (
  cz N d a b N 0) fun c=>
  gd (okS a 0 c)<|
  gd (fits 8 ([]:List Int) (cut a 0 c))<|
  gd (fits 8 (([]:List Int)++(cut a 0 c)) ([b]:List Int))<|
  gd (okS a c (↑a.length:Int))<|
  gd (fits 8 ((([]:List Int)++(cut a 0 c))++([b]:List Int)) (cut a c (↑a.length:Int)))<|
  some (((([]:List Int)++(cut a 0 c))++([b]:List Int))++(cut a c (↑a.length:Int))))) fun f=>
  gd (in64 (b+1))<|
  dz N d e f (b+1)) else(
  some a)
def z2y(N:Nat)(m:Mach):Option (List Int):=
 bd (z1z N m) fun b=>
 bd (
 dz N b N ([]:List Int) 0) fun a=>
 some a
def bz(N:Nat)(d:(List Int))(a:(List Int))(c:Int):Nat→Int→Int→Option Int
 |0,_,_=>none
 |f+1,e,b=>
  bif decide (b<c) then(
  bd (
  gd (okI a b)<|
  gd (okI d (ix a b))<|
  gd (okI a c)<|
  gd (okI d (ix a c))<|
  bif decide ((ix d (ix a b))=(ix d (ix a c))) then(
  some 1) else(
  some e)) fun g=>
  gd (in64 (b+1))<|
  bz N d a c f g (b+1)) else(
  some e)
def gp(N:Nat)(g:(List Int))(b:(List Int)):Nat→(List Int)→Int→Option (List Int)
 |0,_,_=>none
 |d+1,c,a=>
  bif decide (a<(↑b.length:Int)) then(
  bd (
  bd (
  bz N g b a N 0 0) fun e=>
  bif decide (e=0) then(
  gd (okI b a)<|
  gd (fits 8 c ([(ix b a)]:List Int))<|
  some (c++([(ix b a)]:List Int))) else(
  some c)) fun f=>
  gd (in64 (a+1))<|
  gp N g b d f (a+1)) else(
  some c)
def z0r(N:Nat)(m:Mach):Option (List Int):=
 bd (l7 N m) fun c=>
 bd (z2y N m) fun a=>
 bd (
 gp N c a N ([]:List Int) 0) fun b=>
 some b
def xn(N:Nat)(m:Mach)(a:Int):Nat→Int→(List Bool)→Option (List Bool)
 |0,_,_=>none
 |d+1,b,c=>
  bif decide (b<m.inputs) then(
  bd (
  gd (okI m.rows a)<|
  gd (okI (ix m.rows a) b)<|
  gd (okI c a)<|
  bif (ix c a)&&(decide (0≤((ix (ix m.rows a) b).to))) then(
  gd (okI c ((ix (ix m.rows a) b).to))<|
  some (up c ((ix (ix m.rows a) b).to) true)) else(
  some c)) fun e=>
  gd (in64 (b+1))<|
  xn N m a d (b+1) e) else(
  some c)
def xh(N:Nat)(m:Mach):Nat→Int→(List Bool)→Option (List Bool)
 |0,_,_=>none
 |c+1,a,b=>
  bif decide (a<(↑m.rows.length:Int)) then(
  bd (
  xn N m a N 0 b) fun d=>
  gd (in64 (a+1))<|
  xh N m c (a+1) d) else(
  some b)
def nk(N:Nat)(m:Mach):Nat→Int→(List Bool)→Option (List Bool)
 |0,_,_=>none
 |c+1,a,b=>
  bif decide (a<(↑m.rows.length:Int)) then(
  bd (
  xh N m N 0 b) fun d=>
  gd (in64 (a+1))<|
  nk N m c (a+1) d) else(
  some b)
def ib(N:Nat)(m:Mach)(from_:Int):Option (List Bool):=
 gd (okM 1 (↑m.rows.length:Int))<|
 gd (okI (mk (↑m.rows.length:Int) false) from_)<|
 bd (
 nk N m N 0 (up (mk (↑m.rows.length:Int) false) from_ true)) fun a=>
 some a
def ah(N:Nat)(e:(List Int))(d:(List Int))(c:(List Bool))(a:Int):Nat→Int→Int→Option Int
 |0,_,_=>none
 |g+1,f,b=>
  bif decide (b<(↑d.length:Int)) then(
  bd (
  gd (okI c a)<|
  gd ((true&&((ix c a)==true))=true→okI d b)<|
  gd ((true&&((ix c a)==true))=true→okI e (ix d b))<|
  gd ((true&&((ix c a)==true))=true→okI e a)<|
  bif (ix c a)&&(decide ((ix e (ix d b))=(ix e a))) then(
  some b) else(
  some f)) fun h=>
  gd (in64 (b+1))<|
  ah N e d c a g h (b+1)) else(
  some f)
def ae(N:Nat)(f:(List Int))(c:(List Int))(d:(List Bool)):Nat→(List Int)→Int→Option (List Int)
 |0,_,_=>none
 |g+1,b,a=>
  bif decide (a<(↑f.length:Int)) then(
  bd (
  ah N f c d a N (-1) 0) fun e=>
  gd (fits 8 b ([e]:List Int))<|
  gd (in64 (a+1))<|
  ae N f c d g (b++([e]:List Int)) (a+1)) else(
  some b)
def z4h(N:Nat)(m:Mach):Option (List Int):=
 bd (l7 N m) fun d=>
 bd (z0r N m) fun a=>
 bd (ib N m 0) fun b=>
 bd (
 ae N d a b N ([]:List Int) 0) fun c=>
 some c
def xg(N:Nat)(m:Mach)(c:(List Int))(e:(List Int))(a:Int):Nat→(List Edge)→Int→Option (List Edge)
 |0,_,_=>none
 |g+1,f,b=>
  bif decide (b<m.inputs) then(
  gd (okI c a)<|
  gd (okI m.rows (ix c a))<|
  gd (okI (ix m.rows (ix c a)) b)<|
  bd (
  bif decide (0≤((ix (ix m.rows (ix c a)) b).to)) then(
  gd (okI e ((ix (ix m.rows (ix c a)) b).to))<|
  some (ix e ((ix (ix m.rows (ix c a)) b).to))) else(
  some ((ix (ix m.rows (ix c a)) b).to))) fun d=>
  gd (fits 16 f ([(⟨d,(ix (ix m.rows (ix c a)) b).out⟩:Edge)]:List Edge))<|
  gd (in64 (b+1))<|
  xg N m c e a g (f++([(⟨d,(ix (ix m.rows (ix c a)) b).out⟩:Edge)]:List Edge)) (b+1)) else(
  some f)
def xe(N:Nat)(m:Mach)(e:(List Int))(c:(List Int)):Nat→Int→(List (List Edge))→Option (List (List Edge))
 |0,_,_=>none
 |f+1,a,b=>
  bif decide (a<(↑e.length:Int)) then(
  bd (
  xg N m e c a N ([]:List Edge) 0) fun d=>
  gd (fits 24 b ([d]:List (List Edge)))<|
  gd (in64 (a+1))<|
  xe N m e c f (a+1) (b++([d]:List (List Edge)))) else(
  some b)
def z1p(N:Nat)(m:Mach):Option Mach:=
 bd (z0r N m) fun c=>
 bd (z4h N m) fun a=>
 bd (
 xe N m c a N 0 ([]:List (List Edge))) fun b=>
 some (⟨m.inputs,m.outputs,b⟩:Mach)
def z3y(N:Nat)(x:Sq):Option Mach:=
 gd (okR x.fAb.fB 5)<|
 bd (z0l N (⟨x.fAb.fB%5,x.fAb.fA,x.fAb.fC,x.fAb.fI,x.fAb.fE⟩:Sa)) fun b=>
 bd (z1p N b) fun a=>
 some (⟨a.inputs,a.outputs,a.rows⟩:Mach)
def ic(N:Nat)(w_:(List Int))(inputs:Int)(most:Int):Nat→(List Int)→Int→Option (List Int)
 |0,_,_=>none
 |c+1,b,a=>
  bif (decide (a<(↑w_.length:Int)))&&(decide (a<most)) then(
  gd (okI w_ a)<|
  gd (in64 (ix w_ a))<|
  gd (okR (ix w_ a) inputs)<|
  gd (fits 8 b ([(ix w_ a)%inputs]:List Int))<|
  gd (in64 (a+1))<|
  ic N w_ inputs most c (b++([(ix w_ a)%inputs]:List Int)) (a+1)) else(
  some b)
def z0n(N:Nat)(w_:(List Int))(inputs:Int)(most:Int):Option (List Int):=
 bd (
 ic N w_ inputs most N ([]:List Int) 0) fun a=>
 some a
def z3v(N:Nat)(x:Sk):Option (Mach×(List Int)):=
 bd (z3y N x.fAi) fun a=>
 bd (z0n N x.fAg a.inputs 6) fun b=>
 some ((⟨a.inputs,a.outputs,a.rows⟩:Mach),b)
def wy(N:Nat)(s:(List Edge))(f:Edge→Option Bool):Nat→Int→Option (Ex (Unit) (Int))
 |0,_=>none
 |c+1,a=>
  bif decide (a<(↑s.length:Int)) then(
  gd (okI s a)<|
  bd (f (ix s a)) fun b=>
  bif b then(
  some (Ex.rt a)) else(
  gd (in64 (a+1))<|
  wy N s f c (a+1))) else(
  some (Ex.go ()))
def z07(N:Nat)(s:(List Edge))(f:Edge→Option Bool):Option Int:=
 bd (
 wy N s f N 0) fun a=>
 Ex.on a (fun b=>
 some (-1)) some
def rz(N:Nat)(s:(List Edge))(f:Edge→Option Bool):Option Bool:=
 bd (z07 N s f) fun a=>
 some (decide (0≤a))
def z3j(N:Nat):Option Edge:=
 some (⟨(-1),(-1)⟩:Edge)
def zcg(N:Nat)(m:Mach)(x:Edge):Option Bool:=
 bd (z3j N) fun a=>
 some ((decide (x.to=a.to∧x.out=a.out))||((((decide (0≤x.to))&&(decide (x.to<(↑m.rows.length:Int))))&&(decide (0≤x.out)))&&(decide (x.out<m.outputs))))
def z9o(N:Nat)(x:Edge)(p0_:Mach):Option Bool:=
 bd (zcg N p0_ x) fun a=>
 some (!a)
def lc(N:Nat)(m:Mach):Nat→Int→Option (Ex (Unit) (Int))
 |0,_=>none
 |b+1,a=>
  bif decide (a<(↑m.rows.length:Int)) then(
  gd (okI m.rows a)<|
  bd (gop (true&&((decide ((↑(ix m.rows a).length:Int)≠m.inputs))==false)) (rz N (ix m.rows a) (fun d=>z9o N d m))) fun c=>
  bif (decide ((↑(ix m.rows a).length:Int)≠m.inputs))||(c.getD default) then(
  some (Ex.rt 1)) else(
  gd (in64 (a+1))<|
  lc N m b (a+1))) else(
  some (Ex.go ()))
def lu(N:Nat)(m:Mach):Option Int:=
 bif ((decide (16<m.inputs))||(decide (16<m.outputs)))||(decide (64<(↑m.rows.length:Int))) then(
 some 3) else(
 bif ((decide (m.inputs<1))||(decide (m.outputs<1)))||(decide ((↑m.rows.length:Int)<1)) then(
 some 1) else(
 bd (
 lc N m N 0) fun a=>
 Ex.on a (fun b=>
 some 0) some))
def zaq(N:Nat)(m:Mach):Option (Mach×Mach×Mach):=
 some (m,m,m)
def z8r(N:Nat)(m:Mach):Option Mach:=
 some m
def ig(N:Nat)(σ:Type)(B:((Int×Int)×Edge)→σ→Option (Bool×σ))(p0_:Mach)(c:Int):Nat→σ→Int→Option (Ex (σ) (σ))
 |0,_,_=>none
 |e+1,d,a=>
  bif decide (a<(↑(ix p0_.rows c).length:Int)) then(
  gd (okI (ix p0_.rows c) a)<|
  bd (B (((c,a):(Int×Int)),(⟨(ix (ix p0_.rows c) a).to,(ix (ix p0_.rows c) a).out⟩:Edge)) d) fun b=>
  bif !b.1 then(
  some (Ex.rt b.2)) else(
  gd (in64 (a+1))<|
  ig N σ B p0_ c e b.2 (a+1))) else(
  some (Ex.go d))
def l6(N:Nat)(σ:Type)(B:((Int×Int)×Edge)→σ→Option (Bool×σ))(p0_:Mach):Nat→σ→Int→Option σ
 |0,_,_=>none
 |e+1,d,a=>
  bif decide (a<(↑p0_.rows.length:Int)) then(
  bd (
  gd (okI p0_.rows a)<|
  ig N σ B p0_ a N d 0) fun b=>
  Ex.on b (fun c=>
  gd (in64 (a+1))<|
  l6 N σ B p0_ e c (a+1)) some) else(
  some d)
def z5a(N:Nat)(p0_:Mach)(σ:Type)(B:((Int×Int)×Edge)→σ→Option (Bool×σ))(s0:σ):Option σ:=
 l6 N σ B p0_ N s0 0
def z0m(N:Nat)(s:(List (Int×Int))):Option (List (Int×Int)):=
 gd (okS s 0 (↑s.length:Int))<|
 some (cut s 0 (↑s.length:Int))
def z3x(N:Nat)(m:Mach):Option (List (Int×Int)):=
 bd (z8r N m) fun f=>
 bd (z5a N f (List (Int×Int)) (fun a b=>
 bd (z3j N) fun c=>
 bif decide (a.2.to=c.to∧a.2.out=c.out) then(
 gd (fits 16 b ([((a.1.1,a.1.2):(Int×Int))]:List (Int×Int)))<|
 some (true,(b++([((a.1.1,a.1.2):(Int×Int))]:List (Int×Int))))) else(
 some (true,b))) ([]:List (Int×Int))) fun d=>
 bd (z0m N d) fun e=>
 some e
def z4s(N:Nat)(m:Mach):Option (Bool×Int):=
 bd (lu N m) fun b=>
 bif decide (b≠0) then(
 some (false,b)) else(
 bd (z3x N m) fun a=>
 some ((decide ((↑a.length:Int)=0)),0))
def z4l(N:Nat)(p0_:Mach):Option Bool:=
 bd (z4s N p0_) fun a=>
 some a.1
def og(N:Nat)(self:Int→List Bool→Mach→Option (List Bool))(s:Int)(p1_:Mach):Nat→Int→(List Bool)→Option (List Bool)
 |0,_,_=>none
 |c+1,a,b=>
  bif decide (a<(↑(ix p1_.rows s).length:Int)) then(
  gd (okI (ix p1_.rows s) a)<|
  bd (self ((ix (ix p1_.rows s) a).to) b p1_) fun d=>
  gd (in64 (a+1))<|
  og N self s p1_ c (a+1) d) else(
  some b)
def nu(N:Nat):Nat→Int→List Bool→Mach→Option (List Bool)
 |0,_,_,_=>none
 |F+1,s,p0_,p1_=>
  gd ((true&&((decide (s=(-1)))==false))=true→okI p0_ s)<|
  bif (decide (s=(-1)))||(ix p0_ s) then(
  some p0_) else(
  gd (okI p0_ s)<|
  gd (okI p1_.rows s)<|
  og N (nu N F) s p1_ N 0 (up p0_ s true))
def aj(N:Nat)(s:(List Bool))(v_:Bool):Nat→Int→Option (Ex (Unit) (Int))
 |0,_=>none
 |b+1,a=>
  bif decide (a<(↑s.length:Int)) then(
  gd (okI s a)<|
  bif decide (v_=(ix s a)) then(
  some (Ex.rt a)) else(
  gd (in64 (a+1))<|
  aj N s v_ b (a+1))) else(
  some (Ex.go ()))
def z4r(N:Nat)(s:(List Bool))(v_:Bool):Option Int:=
 bd (
 aj N s v_ N 0) fun a=>
 Ex.on a (fun b=>
 some (-1)) some
def z2f(N:Nat)(s:(List Bool))(v_:Bool):Option Bool:=
 bd (z4r N s v_) fun a=>
 some (decide (0≤a))
def z1v(N:Nat)(m:Mach):Option (Bool×Int):=
 bd (lu N m) fun c=>
 bif decide (c≠0) then(
 some (false,c)) else(
 gd (okM 1 (↑m.rows.length:Int))<|
 bd (nu N N 0 (mk (↑m.rows.length:Int) false) m) fun a=>
 bd (z2f N a false) fun b=>
 some ((!b),0))
def z4m(N:Nat)(p0_:Mach):Option Bool:=
 bd (z1v N p0_) fun a=>
 some a.1
def z90(N:Nat)(m:Mach):Option Mach:=
 some m
def rq(N:Nat)(m:Mach)(p:(List Int))(s:Int):Nat→Int→(Arr 16 (Int×Int))→Option (Arr 16 (Int×Int))
 |0,_,_=>none
 |c+1,a,b=>
  bif decide (a<(↑(ix m.rows s).length:Int)) then(
  bd (
  gd (okI (ix m.rows s) a)<|
  gd (okI b.1 a)<|
  bif decide (((ix (ix m.rows s) a).to)≠(-1)) then(
  gd (okI p ((ix (ix m.rows s) a).to))<|
  gd (okI (z5h b a (((ix (ix m.rows s) a).out,(-1)):(Int×Int))).1 a)<|
  some (z5h (z5h b a (((ix (ix m.rows s) a).out,(-1)):(Int×Int))) a (((ix (z5h b a (((ix (ix m.rows s) a).out,(-1)):(Int×Int))).1 a).1,(ix p ((ix (ix m.rows s) a).to))):(Int×Int)))) else(
  some (z5h b a (((ix (ix m.rows s) a).out,(-1)):(Int×Int))))) fun d=>
  gd (in64 (a+1))<|
  rq N m p s c (a+1) d) else(
  some b)
def z97(N:Nat)(m:Mach)(p:(List Int))(s:Int):Option (Arr 16 (Int×Int)):=
 bd (
 gd (okI m.rows s)<|
 rq N m p s N 0 (zc1 16 (List.replicate 16 (((0:Int),(0:Int)):(Int×Int))))) fun a=>
 some a
def r9(N:Nat)(m:Mach)(p:(List Int)):Nat→Int→(List (Sb×Int))→(List Int)→Option (List Int)
 |0,_,_,_=>none
 |f+1,a,b,c=>
  bif decide (a<(↑p.length:Int)) then(
  gd (okI p a)<|
  bd (z97 N m p a) fun d=>
  bd (
  bif !(z95 b (⟨(ix p a),d⟩:Sb)) then(
  some (zai b (⟨(ix p a),d⟩:Sb) (↑b.length:Int))) else(
  some b)) fun e=>
  gd (okI c a)<|
  gd (in64 (a+1))<|
  r9 N m p f (a+1) e (up c a (z7s (0:Int) e (⟨(ix p a),d⟩:Sb)))) else(
  some c)
def z5r(N:Nat)(m:Mach)(p:(List Int)):Option (List Int):=
 gd (okM 8 (↑p.length:Int))<|
 bd (
 r9 N m p N 0 ([]:List (Sb×Int)) (mk (↑p.length:Int) (0:Int))) fun a=>
 some a
def ik(N:Nat)(s1_:(List Int))(s2_:(List Int)):Nat→Int→Option (Ex (Unit) (Bool))
 |0,_=>none
 |b+1,a=>
  bif decide (a<(↑s1_.length:Int)) then(
  gd (okI s1_ a)<|
  gd (okI s2_ a)<|
  bif decide ((ix s1_ a)≠(ix s2_ a)) then(
  some (Ex.rt false)) else(
  gd (in64 (a+1))<|
  ik N s1_ s2_ b (a+1))) else(
  some (Ex.go ()))
def slices_Equal_int(N:Nat)(s1_:(List Int))(s2_:(List Int)):Option Bool:=
 bif decide ((↑s1_.length:Int)≠(↑s2_.length:Int)) then(
 some false) else(
 bd (
 ik N s1_ s2_ N 0) fun a=>
 Ex.on a (fun b=>
 some true) some)
def z0e(N:Nat)(σ:Type)(B:(List Int)→σ→Option (Bool×σ))(p0_:Mach):Nat→σ→(List Int)→Option σ
 |0,_,_=>none
 |d+1,e,b=>
  bd (B b e) fun a=>
  bif a.1 then(
  bd (z5r N p0_ b) fun c=>
  bd (slices_Equal_int N b c) fun f=>
  bif f then(
  some a.2) else(
  z0e N σ B p0_ d a.2 c)) else(
  some a.2)
def z6w(N:Nat)(p0_:Mach)(σ:Type)(B:(List Int)→σ→Option (Bool×σ))(s0:σ):Option σ:=
 gd (okM 8 (↑p0_.rows.length:Int))<|
 z0e N σ B p0_ N s0 (mk (↑p0_.rows.length:Int) (0:Int))
def z5y(N:Nat)(m:Mach):Option ((List Int)×Int×Int):=
 bd (lu N m) fun a=>
 bif decide (a≠0) then(
 some (([]:(List Int)),0,a)) else(
 bd (z90 N m) fun d=>
 bd (z6w N d ((List Int)×Int) (fun e b=>
 gd (in64 (b.2+1))<|
 some (true,(e,b.2+1))) (([]:(List Int)),(-1))) fun c=>
 some (c.1,c.2,0))
def lg(N:Nat)(x:(List Int)):Nat→Int→Int→Option Int
 |0,_,_=>none
 |c+1,b,a=>
  bif decide (a<(↑x.length:Int)) then(
  gd (okI x a)<|
  gd (in64 (a+1))<|
  lg N x c (max b (ix x a)) (a+1)) else(
  some b)
def slices_Max_int(N:Nat)(x:(List Int)):Option Int:=
 bif decide ((↑x.length:Int)<1) then(
 none) else(
 gd (okI x 0)<|
 bd (
 lg N x N (ix x 0) 1) fun a=>
 some a)
def z4q(N:Nat)(p0_:Mach):Option Bool:=
 bd (z5y N p0_) fun a=>
 bd (slices_Max_int N a.1) fun b=>
 gd (in64 ((↑a.1.length:Int)-1))<|
 some (decide (b=((↑a.1.length:Int)-1)))
def z5f(N:Nat)(m:Mach):Option Int:=
 bd (lu N m) fun e=>
 bif decide (e≠0) then(
 some e) else(
 bd (zaq N m) fun a=>
 bd (z4l N a.1) fun b=>
 bif !b then(
 some 9) else(
 bd (z4m N a.2.1) fun c=>
 bif !c then(
 some 11) else(
 bd (z4q N a.2.2) fun d=>
 bif !d then(
 some 12) else(
 some 0))))
def gu(N:Nat)(s:(List Int))(f:Int→Option Bool):Nat→Int→Option (Ex (Unit) (Int))
 |0,_=>none
 |c+1,a=>
  bif decide (a<(↑s.length:Int)) then(
  gd (okI s a)<|
  bd (f (ix s a)) fun b=>
  bif b then(
  some (Ex.rt a)) else(
  gd (in64 (a+1))<|
  gu N s f c (a+1))) else(
  some (Ex.go ()))
def z2d(N:Nat)(s:(List Int))(f:Int→Option Bool):Option Int:=
 bd (
 gu N s f N 0) fun a=>
 Ex.on a (fun b=>
 some (-1)) some
def ll(N:Nat)(s:(List Int))(f:Int→Option Bool):Option Bool:=
 bd (z2d N s f) fun a=>
 some (decide (0≤a))
def zcd(N:Nat)(c:Int)(p0_:Int):Option Bool:=
 some ((decide (c<0))||(decide (p0_≤c)))
def z8i(N:Nat)(w_:(List Int))(inputs:Int):Option Int:=
 bif (decide (16<inputs))||(decide (256<(↑w_.length:Int))) then(
 some 3) else(
 bd (gop (true&&((decide (inputs<1))==false)) (ll N w_ (fun b=>zcd N b inputs))) fun a=>
 bif (decide (inputs<1))||(a.getD default) then(
 some 1) else(
 some 0))
def z8l(N:Nat)(m:Mach):Option Int:=
 bd (z1v N m) fun a=>
 bif (decide (a.2=0))&&(!a.1) then(
 some 11) else(
 some a.2)
def zc6(N:Nat)(m:Mach)(s:Int):Option (Mach×Int):=
 some (m,s)
def z0t(N:Nat)(σ:Type)(B:Su→σ→Option (Bool×σ))(p0_:Mach)(p1_:Int):Nat→σ→Int→Option σ
 |0,_,_=>none
 |d+1,b,a=>
  bif decide (a<(↑(ix p0_.rows p1_).length:Int)) then(
  bd (
  gd (okI (ix p0_.rows p1_) a)<|
  bif decide (((ix (ix p0_.rows p1_) a).to)≠(-1)) then(
  bd (B (⟨a,(ix (ix p0_.rows p1_) a).to⟩:Su) b) fun c=>
  bif !c.1 then(
  some (Ex.rt c.2)) else(
  some (Ex.go c.2))) else(
  some (Ex.go b))) fun e=>
  Ex.on e (fun f=>
  gd (in64 (a+1))<|
  z0t N σ B p0_ p1_ d f (a+1)) some) else(
  some b)
def z7j(N:Nat)(p0_:Mach)(p1_:Int)(σ:Type)(B:Su→σ→Option (Bool×σ))(s0:σ):Option σ:=
 gd (okI p0_.rows p1_)<|
 z0t N σ B p0_ p1_ N s0 0
def z3s(N:Nat)(m:Mach):Nat→(List Bool)→(List Int)→Option (List Bool)
 |0,_,_=>none
 |g+1,d,a=>
  bif decide (0<(↑a.length:Int)) then(
  gd (in64 ((↑a.length:Int)-1))<|
  gd (okI a ((↑a.length:Int)-1))<|
  gd (in64 ((↑a.length:Int)-1))<|
  gd (okS a 0 ((↑a.length:Int)-1))<|
  bd (zc6 N m (ix a ((↑a.length:Int)-1))) fun e=>
  bd (z7j N e.1 e.2 (List Bool×List Int) (fun c b=>
  gd (okI b.1 c.fT)<|
  bif !(ix b.1 c.fT) then(
  gd (okI b.1 c.fT)<|
  gd (fits 8 b.2 ([c.fT]:List Int))<|
  some (true,((up b.1 c.fT true),(b.2++([c.fT]:List Int))))) else(
  some (true,(b.1,b.2)))) (d,(cut a 0 ((↑a.length:Int)-1)))) fun f=>
  z3s N m g f.1 f.2) else(
  some d)
def z9y(N:Nat)(m:Mach)(s:Int):Option (List Bool):=
 gd (okM 1 (↑m.rows.length:Int))<|
 gd (okI (mk (↑m.rows.length:Int) false) s)<|
 bd (
 z3s N m N (up (mk (↑m.rows.length:Int) false) s true) ([s]:List Int)) fun a=>
 some a
def z11(N:Nat)(m:Mach):Nat→Int→(List (List Bool))→Option (List (List Bool))
 |0,_,_=>none
 |c+1,a,b=>
  bif decide (a<(↑(mk (↑m.rows.length:Int) ([]:List Bool)).length:Int)) then(
  bd (z9y N m a) fun d=>
  gd (okI b a)<|
  gd (in64 (a+1))<|
  z11 N m c (a+1) (up b a d)) else(
  some b)
def z3w(N:Nat)(c:List (List Bool))(a:Int):Nat→(List Int)→Option (List Int)
 |0,_=>none
 |d+1,b=>
  gd (okI c a)<|
  gd (okI b a)<|
  gd (okI (ix c a) (ix b a))<|
  gd ((true&&((!(ix (ix c a) (ix b a)))==false))=true→okI b a)<|
  gd ((true&&((!(ix (ix c a) (ix b a)))==false))=true→okI c (ix b a))<|
  gd ((true&&((!(ix (ix c a) (ix b a)))==false))=true→okI (ix c (ix b a)) a)<|
  bif (!(ix (ix c a) (ix b a)))||(!(ix (ix c (ix b a)) a)) then(
  gd (okI b a)<|
  gd (in64 ((ix b a)+1))<|
  gd (okI b a)<|
  z3w N c a d (up b a ((ix b a)+1))) else(
  some b)
def z14(N:Nat)(m:Mach)(b:List (List Bool)):Nat→Int→(List Int)→Option (List Int)
 |0,_,_=>none
 |d+1,a,c=>
  bif decide (a<(↑(mk (↑m.rows.length:Int) (0:Int)).length:Int)) then(
  bd (
  z3w N b a N c) fun e=>
  gd (in64 (a+1))<|
  z14 N m b d (a+1) e) else(
  some c)
def za2(N:Nat)(m:Mach):Option (List Int):=
 gd (okM 24 (↑m.rows.length:Int))<|
 bd (
 z11 N m N 0 (mk (↑m.rows.length:Int) ([]:List Bool))) fun a=>
 gd (okM 8 (↑m.rows.length:Int))<|
 bd (
 z14 N m a N 0 (mk (↑m.rows.length:Int) (0:Int))) fun b=>
 some b
def lv(N:Nat)(s:(List Int)):Option (List Int):=
 gd (okS s 0 (↑s.length:Int))<|
 some (cut s 0 (↑s.length:Int))
def z5c(N:Nat)(s:(List (List Int))):Option (List (List Int)):=
 gd (okS s 0 (↑s.length:Int))<|
 some (cut s 0 (↑s.length:Int))
def z13(N:Nat)(b:(List Int))(d:Int):Nat→(List Int)→Int→Option (List Int)
 |0,_,_=>none
 |e+1,c,a=>
  bif decide (a<(↑b.length:Int)) then(
  bd (
  gd (okI b a)<|
  bif decide ((ix b a)=d) then(
  gd (fits 8 c ([a]:List Int))<|
  some (c++([a]:List Int))) else(
  some c)) fun f=>
  gd (in64 (a+1))<|
  z13 N b d e f (a+1)) else(
  some c)
def z16(N:Nat)(b:(List Int)):Nat→(List (List Int))→Int→Option (List (List Int))
 |0,_,_=>none
 |e+1,c,a=>
  bif decide (a<(↑b.length:Int)) then(
  bd (
  gd (okI b a)<|
  bif decide ((ix b a)≠a) then(
  some c) else(
  bd (
  z13 N b a N ([]:List Int) 0) fun f=>
  bd (lv N f) fun d=>
  gd (fits 24 c ([d]:List (List Int)))<|
  some (c++([d]:List (List Int))))) fun g=>
  gd (in64 (a+1))<|
  z16 N b e g (a+1)) else(
  some c)
def zaa(N:Nat)(m:Mach):Option ((List (List Int))×Int):=
 bd (z8l N m) fun d=>
 bif decide (d≠0) then(
 some (([]:(List (List Int))),d)) else(
 bd (za2 N m) fun b=>
 bd (
 z16 N b N ([]:List (List Int)) 0) fun c=>
 bd (z5c N c) fun a=>
 some (a,0))
def z6n(N:Nat)(m:Mach)(s:Int):Option Int:=
 bd (lu N m) fun a=>
 bif decide (a≠0) then(
 some a) else(
 bif (decide (s<0))||(decide ((↑m.rows.length:Int)≤s)) then(
 some 1) else(
 some 0))
def z1f(N:Nat)(m:Mach)(w_:(List Int)):Nat→Int→Int→(List Int)→Option (Int×List Int)
 |0,_,_,_=>none
 |f+1,b,a,c=>
  bif decide (a<(↑w_.length:Int)) then(
  gd (okI w_ a)<|
  bd (z3j N) fun d=>
  bd (
  bif decide (b≠(-1)) then(
  gd (okI m.rows b)<|
  gd (okI (ix m.rows b) (ix w_ a))<|
  some ((ix (ix m.rows b) (ix w_ a)).to,(ix (ix m.rows b) (ix w_ a)).out)) else(
  some (d.to,d.out))) fun e=>
  gd (okI c a)<|
  gd (in64 (a+1))<|
  z1f N m w_ f e.1 (a+1) (up c a e.2)) else(
  some (b,c))
def z8v(N:Nat)(m:Mach)(s:Int)(w_:(List Int)):Option ((List Int)×Int):=
 gd (okM 8 (↑w_.length:Int))<|
 bd (
 z1f N m w_ N s 0 (mk (↑w_.length:Int) (0:Int))) fun a=>
 some (a.2,a.1)
def z92(N:Nat)(m:Mach)(s:Int)(w_:(List Int)):Option ((List Int)×Int):=
 bd (z6n N m s) fun c=>
 bif decide (c≠0) then(
 some (([]:(List Int)),c)) else(
 bd (z8i N w_ m.inputs) fun a=>
 bif decide (a≠0) then(
 some (([]:(List Int)),a)) else(
 bd (z8v N m s w_) fun b=>
 some (b.1,0)))
def xu(N:Nat)(s:(List (List Int)))(f:(List Int)→Option Bool):Nat→Int→Option (Ex (Unit) (Int))
 |0,_=>none
 |c+1,a=>
  bif decide (a<(↑s.length:Int)) then(
  gd (okI s a)<|
  bd (f (ix s a)) fun b=>
  bif b then(
  some (Ex.rt a)) else(
  gd (in64 (a+1))<|
  xu N s f c (a+1))) else(
  some (Ex.go ()))
def z4b(N:Nat)(s:(List (List Int)))(f:(List Int)→Option Bool):Option Int:=
 bd (
 xu N s f N 0) fun a=>
 Ex.on a (fun b=>
 some (-1)) some
def z0j(N:Nat)(s:(List (List Int)))(f:(List Int)→Option Bool):Option Bool:=
 bd (z4b N s f) fun a=>
 some (decide (0≤a))
def zaz(N:Nat)(r_:(List Int))(p0_:(List Int)):Option Bool:=
 bd (slices_Equal_int N r_ p0_) fun a=>
 some a
def z1y(N:Nat)(m:Mach)(d:(List Int)):Nat→(List (List Int))→Int→Option (Ex (Unit) (Int))
 |0,_,_=>none
 |e+1,b,a=>
  bif decide (a<(↑m.rows.length:Int)) then(
  bd (z92 N m a d) fun c=>
  bd (z0j N b (fun g=>zaz N g c.1)) fun f=>
  bif f then(
  some (Ex.rt 12)) else(
  gd (fits 24 b ([c.1]:List (List Int)))<|
  gd (in64 (a+1))<|
  z1y N m d e (b++([c.1]:List (List Int))) (a+1))) else(
  some (Ex.go ()))
def z6q(N:Nat)(m:Mach)(d:(List Int)):Option Int:=
 bd (z5f N m) fun e=>
 bif decide (e≠0) then(
 some e) else(
 bd (z8i N d m.inputs) fun b=>
 bif decide (b≠0) then(
 some b) else(
 bd (zaa N m) fun a=>
 bif decide (a.2≠0) then(
 some a.2) else(
 bif decide (1<(↑a.1.length:Int)) then(
 some 7) else(
 bd (
 z1y N m d N ([]:List (List Int)) 0) fun c=>
 Ex.on c (fun f=>
 some 0) some))))
def zce(N:Nat)(i:Int)(p0_:Mach):Option Bool:=
 some ((decide (i<0))||(decide (p0_.inputs≤i)))
def z8e(N:Nat)(m:Mach)(w_:(List Int)):Option Int:=
 bif decide (1024<(↑w_.length:Int)) then(
 some 3) else(
 bd (ll N w_ (fun a=>zce N a m)) fun b=>
 bif b then(
 some 1) else(
 some 0))
def o9(N:Nat)(i:Int)(j:Int)(t_3_:(List Int))(t_5_:List Bool):Nat→Int→(List Bool)→Option (List Bool)
 |0,_,_=>none
 |d+1,a,b=>
  gd (in64 ((max i j)+a))<|
  gd ((true&&((decide (((max i j)+a)<(↑t_3_.length:Int)))==true))=true→in64 (i+a))<|
  gd ((true&&((decide (((max i j)+a)<(↑t_3_.length:Int)))==true))=true→okI t_3_ (i+a))<|
  gd ((true&&((decide (((max i j)+a)<(↑t_3_.length:Int)))==true))=true→in64 (j+a))<|
  gd ((true&&((decide (((max i j)+a)<(↑t_3_.length:Int)))==true))=true→okI t_3_ (j+a))<|
  bif (decide (((max i j)+a)<(↑t_3_.length:Int)))&&(decide ((ix t_3_ (i+a))=(ix t_3_ (j+a)))) then(
  bd (
  gd (in64 (i+a))<|
  gd (in64 ((i+a)+1))<|
  gd (okI t_5_ ((i+a)+1))<|
  bif (ix t_5_ ((i+a)+1)) then(
  gd (in64 (j+a))<|
  gd (in64 ((j+a)+1))<|
  gd (okI b ((j+a)+1))<|
  some (up b ((j+a)+1) true)) else(
  some b)) fun c=>
  gd (in64 (a+1))<|
  o9 N i j t_3_ t_5_ d (a+1) c) else(
  some b)
def z2h(N:Nat)(i:Int)(j:Int)(t_0_:Int)(t_1_:Int)(t_2_:(List (List Edge)))(t_3_:(List Int))(t_4_:List Int)(t_5_:List Bool)(t_6_:List Bool):Option (List Bool):=
 o9 N i j t_3_ t_5_ N 0 t_6_
def z01(N:Nat)(m:Mach)(w_:(List Int)):Nat→Int→(List Int)→Option (List Int)
 |0,_,_=>none
 |c+1,a,b=>
  bif decide (a<(↑w_.length:Int)) then(
  gd (okI w_ a)<|
  gd (okI b a)<|
  gd (okI m.rows (ix b a))<|
  gd (okI (ix m.rows (ix b a)) (ix w_ a))<|
  gd (fits 8 b ([(ix (ix m.rows (ix b a)) (ix w_ a)).to]:List Int))<|
  gd (in64 (a+1))<|
  z01 N m w_ c (a+1) (b++([(ix (ix m.rows (ix b a)) (ix w_ a)).to]:List Int))) else(
  some b)
def z05(N:Nat)(d:(List Int))(w_:(List Int))(f:List Int):Nat→Int→(List Bool)→(List Bool)→Option (List Bool×List Bool)
 |0,_,_,_=>none
 |g+1,a,b,c=>
  bif decide (a<(↑f.length:Int)) then(
  gd (in64 (a+(↑d.length:Int)))<|
  gd ((true&&((decide ((a+(↑d.length:Int))≤(↑w_.length:Int)))==true))=true→in64 (a+(↑d.length:Int)))<|
  gd ((true&&((decide ((a+(↑d.length:Int))≤(↑w_.length:Int)))==true))=true→okS w_ a (a+(↑d.length:Int)))<|
  bd (gop (true&&((decide ((a+(↑d.length:Int))≤(↑w_.length:Int)))==true)) (slices_Equal_int N (cut w_ a (a+(↑d.length:Int))) d)) fun e=>
  gd (okI b a)<|
  gd (okI (up b a ((decide ((a+(↑d.length:Int))≤(↑w_.length:Int)))&&(e.getD default))) a)<|
  gd (okI c a)<|
  gd (in64 (a+1))<|
  z05 N d w_ f g (a+1) (up b a ((decide ((a+(↑d.length:Int))≤(↑w_.length:Int)))&&(e.getD default))) (up c a (ix (up b a ((decide ((a+(↑d.length:Int))≤(↑w_.length:Int)))&&(e.getD default))) a))) else(
  some (b,c))
def z00(N:Nat)(m:Mach)(w_:(List Int))(d:List Int)(c:List Bool×List Bool)(b:Int):Nat→Int→(List Bool)→Option (List Bool)
 |0,_,_=>none
 |f+1,a,e=>
  bif decide (a<(↑d.length:Int)) then(
  bd (
  gd ((true&&((decide (a≠b))==true))=true→okI c.1 a)<|
  gd ((true&&(((decide (a≠b))&&(ix c.1 a))==true))=true→okI c.1 b)<|
  gd ((true&&((((decide (a≠b))&&(ix c.1 a))&&(ix c.1 b))==true))=true→okI d a)<|
  gd ((true&&((((decide (a≠b))&&(ix c.1 a))&&(ix c.1 b))==true))=true→okI d b)<|
  bif (((decide (a≠b))&&(ix c.1 a))&&(ix c.1 b))&&(decide ((ix d a)=(ix d b))) then(
  bd (z2h N a b m.inputs m.outputs m.rows w_ d c.1 e) fun g=>
  some g) else(
  some e)) fun h=>
  gd (in64 (a+1))<|
  z00 N m w_ d c b f (a+1) h) else(
  some e)
def fq(N:Nat)(m:Mach)(w_:(List Int))(d:List Int)(b:List Bool×List Bool):Nat→Int→(List Bool)→Option (List Bool)
 |0,_,_=>none
 |e+1,a,c=>
  bif decide (a<(↑d.length:Int)) then(
  bd (
  z00 N m w_ d b a N 0 c) fun f=>
  gd (in64 (a+1))<|
  fq N m w_ d b e (a+1) f) else(
  some c)
def z4v(N:Nat)(m:Mach)(d:(List Int))(w_:(List Int)):Option ((Option Sj)×Int):=
 bd (z6q N m d) fun f=>
 bif decide (f≠0) then(
 some ((none:(Option Sj)),f)) else(
 bd (z8e N m w_) fun c=>
 bif decide (c≠0) then(
 some ((none:(Option Sj)),c)) else(
 gd (in64 ((↑w_.length:Int)+1))<|
 gd (okM 8 ((↑w_.length:Int)+1)∧0≤(1:Int)∧(1:Int)≤(↑w_.length:Int)+1)<|
 gd (in64 ((↑w_.length:Int)+1))<|
 gd (okM 1 ((↑w_.length:Int)+1))<|
 gd (in64 ((↑w_.length:Int)+1))<|
 gd (okM 1 ((↑w_.length:Int)+1))<|
 bd (
 z01 N m w_ N 0 (mk 1 (0:Int))) fun b=>
 bd (
 z05 N d w_ b N 0 (mk ((↑w_.length:Int)+1) false) (mk ((↑w_.length:Int)+1) false)) fun a=>
 bd (
 fq N m w_ b a N 0 a.2) fun e=>
 some ((some (⟨(⟨m.inputs,m.outputs,m.rows⟩:Mach),w_,b,a.1,e⟩:Sj)),0)))
def fw(N:Nat)(w_:(List Int))(b:(Option Sj)×Int):Nat→Int→(List Bool)→(List ((Int×Int)×Bool))→Option (Sj×List Bool×List ((Int×Int)×Bool))
 |0,_,_,_=>none
 |f+1,a,c,d=>
  bif decide (a<(↑((b.1.getD default).fQ).length:Int)) then(
  bd (
  gd (okI ((b.1.getD default).fQ) a)<|
  gd (okI c (ix ((b.1.getD default).fQ) a))<|
  gd ((true&&((ix c (ix ((b.1.getD default).fQ) a))==false))=true→okI ((b.1.getD default).fAj) a)<|
  gd (okI c (ix ((b.1.getD default).fQ) a))<|
  gd ((true&&((decide (a<(↑w_.length:Int)))==true))=true→okI ((b.1.getD default).fJ) a)<|
  gd ((true&&(((decide (a<(↑w_.length:Int)))&&(ix ((b.1.getD default).fJ) a))==true))=true→in64 (a+1))<|
  gd ((true&&(((decide (a<(↑w_.length:Int)))&&(ix ((b.1.getD default).fJ) a))==true))=true→okI ((b.1.getD default).fJ) (a+1))<|
  bif ((decide (a<(↑w_.length:Int)))&&(ix ((b.1.getD default).fJ) a))&&(ix ((b.1.getD default).fJ) (a+1)) then(
  gd (okI w_ a)<|
  some ((up c (ix ((b.1.getD default).fQ) a) ((ix c (ix ((b.1.getD default).fQ) a))||(ix ((b.1.getD default).fAj) a))),(zai d (((ix ((b.1.getD default).fQ) a),(ix w_ a)):(Int×Int)) true))) else(
  some ((up c (ix ((b.1.getD default).fQ) a) ((ix c (ix ((b.1.getD default).fQ) a))||(ix ((b.1.getD default).fAj) a))),d))) fun e=>
  gd (in64 (a+1))<|
  fw N w_ b f (a+1) e.1 e.2) else(
  some ((b.1.getD default),c,d))
def z02(N:Nat)(m:Mach)(e:Sj×List Bool×List ((Int×Int)×Bool))(b:Int)(d:List Int):Nat→Int→(List (Int×Int))→Option (List Int×List (Int×Int))
 |0,_,_=>none
 |f+1,a,c=>
  bif decide (a<m.inputs) then(
  bd (
  bif !(z7s false e.2.2 ((b,a):(Int×Int))) then(
  gd (fits 16 c ([((b,a):(Int×Int))]:List (Int×Int)))<|
  some (c++([((b,a):(Int×Int))]:List (Int×Int)))) else(
  some c)) fun g=>
  gd (in64 (a+1))<|
  z02 N m e b d f (a+1) g) else(
  some (d,c))
def z03(N:Nat)(m:Mach)(c:Sj×List Bool×List ((Int×Int)×Bool)):Nat→Int→(List Int)→(List (Int×Int))→Option (List Int×List (Int×Int))
 |0,_,_,_=>none
 |f+1,a,b,d=>
  bif decide (a<(↑m.rows.length:Int)) then(
  bd (
  bd (
  gd (okI c.2.1 a)<|
  bif !(ix c.2.1 a) then(
  gd (fits 8 b ([a]:List Int))<|
  some (b++([a]:List Int))) else(
  some b)) fun g=>
  z02 N m c a g N 0 d) fun e=>
  gd (in64 (a+1))<|
  z03 N m c f (a+1) e.1 e.2) else(
  some (b,d))
def z6c(N:Nat)(m:Mach)(d:(List Int))(w_:(List Int)):Option (Sc×Int):=
 bd (z4v N m d w_) fun f=>
 bif decide (f.2≠0) then(
 some ((⟨false,[],[]⟩:Sc),f.2)) else(
 gd (okM 1 (↑m.rows.length:Int))<|
 bd (
 gd (f.1.isSome=true)<|
 fw N w_ f N 0 (mk (↑m.rows.length:Int) false) ([]:List ((Int×Int)×Bool))) fun b=>
 gd (okI b.1.fJ 0)<|
 bd (
 z03 N m b N 0 ([]:List Int) ([]:List (Int×Int))) fun a=>
 bd (lv N a.1) fun c=>
 bd (z0m N a.2) fun e=>
 some ((⟨(ix b.1.fJ 0),c,e⟩:Sc),0))
def xy(N:Nat)(m:Mach)(b:Int):Nat→Int→Option (Ex (Unit) (Ex (Unit) (Int)))
 |0,_=>none
 |c+1,a=>
  bif decide (a<m.inputs) then(
  bd (
  gd (okI m.rows b)<|
  gd (okI (ix m.rows b) a)<|
  bif (decide (((ix (ix m.rows b) a).to)=(-1)))&&(decide (((ix (ix m.rows b) a).out)=(-1))) then(
  some (Ex.go ())) else(
  bif (((decide (((ix (ix m.rows b) a).to)<0))||(decide ((↑m.rows.length:Int)≤((ix (ix m.rows b) a).to))))||(decide (((ix (ix m.rows b) a).out)<0)))||(decide (m.outputs≤((ix (ix m.rows b) a).out))) then(
  some (Ex.rt (Ex.rt (Ex.rt 1)))) else(
  some (Ex.go ())))) fun d=>
  Ex.on d (fun e=>
  gd (in64 (a+1))<|
  xy N m b c (a+1)) some) else(
  some (Ex.go ()))
def yf(N:Nat)(m:Mach):Nat→Int→Option (Ex (Unit) (Int))
 |0,_=>none
 |b+1,a=>
  bif decide (a<(↑m.rows.length:Int)) then(
  bd (
  gd (okI m.rows a)<|
  bif decide ((↑(ix m.rows a).length:Int)≠m.inputs) then(
  some (Ex.rt (Ex.rt 1))) else(
  xy N m a N 0)) fun c=>
  Ex.on c (fun d=>
  gd (in64 (a+1))<|
  yf N m b (a+1)) some) else(
  some (Ex.go ()))
def z2w(N:Nat)(m:Mach):Option Int:=
 bif ((decide (16<m.inputs))||(decide (16<m.outputs)))||(decide (64<(↑m.rows.length:Int))) then(
 some 3) else(
 bif ((decide (m.inputs<1))||(decide (m.outputs<1)))||(decide ((↑m.rows.length:Int)=0)) then(
 some 1) else(
 bd (
 yf N m N 0) fun a=>
 Ex.on a (fun b=>
 some 0) some))
def xk(N:Nat)(m:Mach)(b:Int):Nat→Int→Int→Option Int
 |0,_,_=>none
 |d+1,c,a=>
  bif decide (a<m.inputs) then(
  bd (
  gd (okI m.rows b)<|
  gd (okI (ix m.rows b) a)<|
  bif decide (0≤((ix (ix m.rows b) a).to)) then(
  gd (in64 (c+1))<|
  some (c+1)) else(
  some c)) fun e=>
  gd (in64 (a+1))<|
  xk N m b d e (a+1)) else(
  some c)
def ng(N:Nat)(m:Mach):Nat→Int→Int→Option Int
 |0,_,_=>none
 |d+1,b,a=>
  bif decide (a<(↑m.rows.length:Int)) then(
  bd (
  xk N m a N b 0) fun c=>
  gd (in64 (a+1))<|
  ng N m d c (a+1)) else(
  some b)
def z1r(N:Nat)(m:Mach):Option Int:=
 bd (
 ng N m N 0 0) fun a=>
 some a
def z0x(N:Nat)(m:Mach):Option Bool:=
 bd (z1r N m) fun a=>
 gd (in64 ((↑m.rows.length:Int)*m.inputs))<|
 some (decide (a=((↑m.rows.length:Int)*m.inputs)))
def yc(N:Nat)(b:(List Bool)):Nat→Int→Option (Ex (Unit) (Bool))
 |0,_=>none
 |c+1,a=>
  bif decide (a<(↑b.length:Int)) then(
  gd (okI b a)<|
  bif !(ix b a) then(
  some (Ex.rt false)) else(
  gd (in64 (a+1))<|
  yc N b c (a+1))) else(
  some (Ex.go ()))
def z0p(N:Nat)(m:Mach):Option Bool:=
 bd (ib N m 0) fun b=>
 bd (
 yc N b N 0) fun a=>
 Ex.on a (fun c=>
 some true) some
def p9(N:Nat)(a:(List Int))(c:Int):Nat→Int→Option (Ex (Unit) (Ex (Unit) (Int)))
 |0,_=>none
 |d+1,b=>
  bif decide (b<c) then(
  gd (okI a c)<|
  gd (okI a b)<|
  bif decide ((ix a c)=(ix a b)) then(
  some (Ex.rt (Ex.rt 12))) else(
  gd (in64 (b+1))<|
  p9 N a c d (b+1))) else(
  some (Ex.go ()))
def gz(N:Nat)(b:(List Int)):Nat→Int→Option (Ex (Unit) (Int))
 |0,_=>none
 |c+1,a=>
  bif decide (a<(↑b.length:Int)) then(
  bd (
  p9 N b a N 0) fun d=>
  Ex.on d (fun e=>
  gd (in64 (a+1))<|
  gz N b c (a+1)) some) else(
  some (Ex.go ()))
def z2c(N:Nat)(m:Mach):Option Int:=
 bd (z2w N m) fun e=>
 bif decide (e≠0) then(
 some e) else(
 bd (z0x N m) fun a=>
 bif !a then(
 some 9) else(
 bd (z0p N m) fun b=>
 bif !b then(
 some 11) else(
 bd (l7 N m) fun c=>
 bd (
 gz N c N 0) fun d=>
 Ex.on d (fun f=>
 some 0) some)))
def bi(N:Nat)(m:Mach)(w_:(List Int)):Nat→Int→Option (Ex (Unit) (Bool))
 |0,_=>none
 |b+1,a=>
  bif decide (a<(↑w_.length:Int)) then(
  gd (okI w_ a)<|
  gd ((true&&((decide ((ix w_ a)<0))==false))=true→okI w_ a)<|
  bif (decide ((ix w_ a)<0))||(decide (m.inputs≤(ix w_ a))) then(
  some (Ex.rt false)) else(
  gd (in64 (a+1))<|
  bi N m w_ b (a+1))) else(
  some (Ex.go ()))
def z2g(N:Nat)(m:Mach)(w_:(List Int)):Option Bool:=
 bd (
 bi N m w_ N 0) fun a=>
 Ex.on a (fun b=>
 some true) some
def dn(N:Nat)(m:Mach)(a:Int):Nat→Int→(List Bool)→Option (List Bool)
 |0,_,_=>none
 |d+1,b,c=>
  gd ((true&&((decide (b<m.inputs))==true))=true→okI c a)<|
  bif (decide (b<m.inputs))&&(ix c a) then(
  bd (
  gd (okI m.rows a)<|
  gd (okI (ix m.rows a) b)<|
  bif decide (((ix (ix m.rows a) b).to)≠(-1)) then(
  gd (okI c ((ix (ix m.rows a) b).to))<|
  some (up c ((ix (ix m.rows a) b).to) true)) else(
  some c)) fun e=>
  gd (in64 (b+1))<|
  dn N m a d (b+1) e) else(
  some c)
def dx(N:Nat)(m:Mach):Nat→Int→(List Bool)→Option (List Bool)
 |0,_,_=>none
 |c+1,a,b=>
  bif decide (a<(↑m.rows.length:Int)) then(
  bd (
  dn N m a N 0 b) fun d=>
  gd (in64 (a+1))<|
  dx N m c (a+1) d) else(
  some b)
def dw(N:Nat)(m:Mach)(steps:Int):Nat→Int→(List Bool)→Option (List Bool)
 |0,_,_=>none
 |c+1,a,b=>
  bif decide (a<steps) then(
  bd (
  dx N m N 0 b) fun d=>
  gd (in64 (a+1))<|
  dw N m steps c (a+1) d) else(
  some b)
def l5(N:Nat)(m:Mach)(s:Int)(t:Int)(steps:Int):Option Bool:=
 bif decide (s=t) then(
 some true) else(
 gd (okM 1 (↑m.rows.length:Int))<|
 gd (okI (mk (↑m.rows.length:Int) false) s)<|
 bd (
 dw N m steps N 0 (up (mk (↑m.rows.length:Int) false) s true)) fun a=>
 gd (okI a t)<|
 some (ix a t))
def dh(N:Nat)(m:Mach)(b:Int):Nat→Bool→(List Int)→Int→Option (Bool×List Int)
 |0,_,_,_=>none
 |g+1,d,c,a=>
  bif decide (a<(↑m.rows.length:Int)) then(
  bd (
  bd (l5 N m b a (↑m.rows.length:Int)) fun e=>
  bd (gop (true&&(e==true)) (l5 N m a b (↑m.rows.length:Int))) fun h=>
  bif e&&(h.getD default) then(
  gd (fits 8 c ([a]:List Int))<|
  some (d&&(decide (b≤a)),(c++([a]:List Int)))) else(
  some (d,c))) fun f=>
  gd (in64 (a+1))<|
  dh N m b g f.1 f.2 (a+1)) else(
  some (d,c))
def af(N:Nat)(m:Mach):Nat→(List (List Int))→Int→Option (List (List Int))
 |0,_,_=>none
 |d+1,a,b=>
  bif decide (b<(↑m.rows.length:Int)) then(
  bd (
  bd (
  dh N m b N true ([]:List Int) 0) fun c=>
  bif c.1 then(
  gd (fits 24 a ([c.2]:List (List Int)))<|
  some (a++([c.2]:List (List Int)))) else(
  some a)) fun e=>
  gd (in64 (b+1))<|
  af N m d e (b+1)) else(
  some a)
def z3b(N:Nat)(m:Mach):Option (List (List Int)):=
 bd (
 af N m N ([]:List (List Int)) 0) fun a=>
 some a
def si(N:Nat)(m:Mach)(w_:(List Int)):Nat→Int→(List Int)→Int→Option (List Int)
 |0,_,_,_=>none
 |d+1,e,b,a=>
  bif decide (a<(↑w_.length:Int)) then(
  gd (okI w_ a)<|
  bd (z1t N m e (ix w_ a)) fun c=>
  gd (fits 8 b ([c.out]:List Int))<|
  gd (in64 (a+1))<|
  si N m w_ d c.to (b++([c.out]:List Int)) (a+1)) else(
  some b)
def z0z(N:Nat)(m:Mach)(s:Int)(w_:(List Int)):Option (List Int):=
 bd (
 si N m w_ N s ([]:List Int) 0) fun a=>
 some a
def xm(N:Nat)(a:(List Int))(b:(List Int)):Nat→Int→Option (Ex (Unit) (Int))
 |0,_=>none
 |d+1,c=>
  bif decide (c<(↑a.length:Int)) then(
  gd (okI a c)<|
  gd (okI b c)<|
  bif decide ((ix a c)<(ix b c)) then(
  some (Ex.rt (-1))) else(
  gd (okI a c)<|
  gd (okI b c)<|
  bif decide ((ix b c)<(ix a c)) then(
  some (Ex.rt 1)) else(
  gd (in64 (c+1))<|
  xm N a b d (c+1)))) else(
  some (Ex.go ()))
def z1k(N:Nat)(a:(List Int))(b:(List Int)):Option Int:=
 bif decide ((↑a.length:Int)<(↑b.length:Int)) then(
 some (-1)) else(
 bif decide ((↑b.length:Int)<(↑a.length:Int)) then(
 some 1) else(
 bd (
 xm N a b N 0) fun c=>
 Ex.on c (fun d=>
 some 0) some))
def ma(N:Nat)(a:(List Int))(b:(List Int)):Option Bool:=
 bd (z1k N a b) fun c=>
 some (decide (c=0))
def oz(N:Nat)(m:Mach)(d:(List Int))(b:Int):Nat→Int→Option (Ex (Unit) (Ex (Unit) (Int)))
 |0,_=>none
 |c+1,a=>
  bif decide (a<b) then(
  bd (z0z N m b d) fun e=>
  bd (z0z N m a d) fun f=>
  bd (ma N e f) fun g=>
  bif g then(
  some (Ex.rt (Ex.rt 12))) else(
  gd (in64 (a+1))<|
  oz N m d b c (a+1))) else(
  some (Ex.go ()))
def aa(N:Nat)(m:Mach)(d:(List Int)):Nat→Int→Option (Ex (Unit) (Int))
 |0,_=>none
 |b+1,a=>
  bif decide (a<(↑m.rows.length:Int)) then(
  bd (
  oz N m d a N 0) fun c=>
  Ex.on c (fun e=>
  gd (in64 (a+1))<|
  aa N m d b (a+1)) some) else(
  some (Ex.go ()))
def z4t(N:Nat)(m:Mach)(d:(List Int)):Option Int:=
 bd (z2c N m) fun e=>
 bif decide (e≠0) then(
 some e) else(
 bif decide (256<(↑d.length:Int)) then(
 some 3) else(
 bd (z2g N m d) fun a=>
 bif !a then(
 some 1) else(
 bd (z3b N m) fun b=>
 bif decide (1<(↑b.length:Int)) then(
 some 7) else(
 bd (
 aa N m d N 0) fun c=>
 Ex.on c (fun f=>
 some 0) some))))
def z6t(N:Nat):Option Mach:=
 some (⟨2,2,([([(⟨1,0⟩:Edge),(⟨0,0⟩:Edge)]:List Edge),([(⟨0,1⟩:Edge),(⟨1,0⟩:Edge)]:List Edge)]:List (List Edge))⟩:Mach)
def z5v(N:Nat)(m:Mach)(b:Int)(c:List Int):Nat→Int→(List (List Int))→(List Bool)→(List Int)→Option (List (List Int)×List Bool×List Int)
 |0,_,_,_,_=>none
 |i+1,a,d,e,g=>
  bif decide (a<(↑(ix m.rows (ix c b)).length:Int)) then(
  bd (
  gd (okI (ix m.rows (ix c b)) a)<|
  gd (okI e ((ix (ix m.rows (ix c b)) a).to))<|
  bif !(ix e ((ix (ix m.rows (ix c b)) a).to)) then(
  gd (okI e ((ix (ix m.rows (ix c b)) a).to))<|
  gd (okI d (ix c b))<|
  bd (lv N (ix d (ix c b))) fun h=>
  gd (fits 8 h ([a]:List Int))<|
  gd (okI d ((ix (ix m.rows (ix c b)) a).to))<|
  gd (fits 8 g ([(ix (ix m.rows (ix c b)) a).to]:List Int))<|
  some ((up d ((ix (ix m.rows (ix c b)) a).to) (h++([a]:List Int))),(up e ((ix (ix m.rows (ix c b)) a).to) true),(g++([(ix (ix m.rows (ix c b)) a).to]:List Int)))) else(
  some (d,e,g))) fun f=>
  gd (in64 (a+1))<|
  z5v N m b c i (a+1) f.1 f.2.1 f.2.2) else(
  some (d,e,g))
def z5u(N:Nat)(m:Mach):Nat→Int→(List (List Int))→(List Bool)→(List Int)→Option (List (List Int))
 |0,_,_,_,_=>none
 |e+1,a,d,f,b=>
  bif decide (a<(↑b.length:Int)) then(
  bd (
  gd (okI b a)<|
  gd (okI m.rows (ix b a))<|
  z5v N m a b N 0 d f b) fun c=>
  gd (in64 (a+1))<|
  z5u N m e (a+1) c.1 c.2.1 c.2.2) else(
  some d)
def zdp(N:Nat)(m:Mach)(s:Int):Option (List (List Int)):=
 gd (okM 24 (↑m.rows.length:Int))<|
 gd (okM 1 (↑m.rows.length:Int))<|
 gd (okI (mk (↑m.rows.length:Int) false) s)<|
 bd (
 z5u N m N 0 (mk (↑m.rows.length:Int) ([]:List Int)) (up (mk (↑m.rows.length:Int) false) s true) ([s]:List Int)) fun a=>
 some a
def z8n(N:Nat)(s:Int)(x_0_:Int)(x_1_:Int)(x_2_:(List (List Edge)))(x_3_:(List Int))(x_4_:List Int)(x_5_:(List (List (List Int))))(x_69_:Int)(x_70_:Int):Option (List (List (List Int))):=
 bd (zdp N (⟨x_0_,x_1_,x_2_⟩:Mach) s) fun a=>
 gd ((0:Int)≤s∧s<(64:Nat))<|
 some (up x_5_ s a)
def z3c(N:Nat)(l_:(List (List Int)))(x_2_:(List (List Edge)))(c:Int):Nat→Int→Int→Option Int
 |0,_,_=>none
 |d+1,a,b=>
  bif decide (a<(↑(ix l_ c).length:Int)) then(
  gd (okI (ix l_ c) a)<|
  gd (okI x_2_ b)<|
  gd (okI (ix x_2_ b) (ix (ix l_ c) a))<|
  gd (in64 (a+1))<|
  z3c N l_ x_2_ c d (a+1) ((ix (ix x_2_ b) (ix (ix l_ c) a)).to)) else(
  some b)
def z3a(N:Nat)(l_:(List (List Int)))(x_2_:(List (List Edge))):Nat→Int→Int→(List Int)→Option (Int×List Int)
 |0,_,_,_=>none
 |e+1,a,d,b=>
  bif decide (a<(↑l_.length:Int)) then(
  gd (okI l_ a)<|
  bd (
  z3c N l_ x_2_ a N 0 d) fun c=>
  gd (fits 8 b (ix l_ a))<|
  gd (in64 (a+1))<|
  z3a N l_ x_2_ e (a+1) c (b++(ix l_ a))) else(
  some (d,b))
def z3d(N:Nat)(x_2_:(List (List Edge)))(x_3_:(List Int)):Nat→Int→Int→Option Int
 |0,_,_=>none
 |c+1,a,b=>
  bif decide (a<(↑x_3_.length:Int)) then(
  gd (okI x_3_ a)<|
  gd (okI x_2_ b)<|
  gd (okI (ix x_2_ b) (ix x_3_ a))<|
  gd (in64 (a+1))<|
  z3d N x_2_ x_3_ c (a+1) ((ix (ix x_2_ b) (ix x_3_ a)).to)) else(
  some b)
def z3n(N:Nat)(l_:(List (List Int)))(x_0_:Int)(x_1_:Int)(x_2_:(List (List Edge)))(x_3_:(List Int))(x_4_:List Int)(x_5_:(List (List (List Int))))(x_69_:Int)(x_70_:Int):Option (List Int×Int×Int):=
 bd (
 z3a N l_ x_2_ N 0 x_69_ x_4_) fun a=>
 bd (
 z3d N x_2_ x_3_ N 0 a.1) fun b=>
 gd (fits 8 a.2 x_3_)<|
 some ((a.2++x_3_),b,a.1)
def z5x(N:Nat)(m:Mach)(d:(List Int)):Nat→Int→(List Int)→(List (List (List Int)))→Option (List Int×(List (List (List Int))))
 |0,_,_,_=>none
 |e+1,a,b,c=>
  bif decide (a<(↑m.rows.length:Int)) then(
  bd (z8n N a m.inputs m.outputs m.rows d b c 0 0) fun f=>
  gd (in64 (a+1))<|
  z5x N m d e (a+1) b f) else(
  some (b,c))
def z5q(N:Nat)(m:Mach)(d:(List Int))(c:List Int×(List (List (List Int)))):Nat→Int→Int→Int→(List Int)→(List Sg)→Option (Int×Int×List Int×List Sg)
 |0,_,_,_,_,_=>none
 |i+1,a,b,e,h,f=>
  bif decide (a<(↑m.rows.length:Int)) then(
  gd (in64 (a+1))<|
  gd (okR (a+1) (↑m.rows.length:Int))<|
  gd ((0:Int)≤b∧b<(64:Nat))<|
  gd (okI (ix c.2 b) ((a+1)%(↑m.rows.length:Int)))<|
  gd (okI f ((a+1)%(↑m.rows.length:Int)))<|
  gd (okI (up f ((a+1)%(↑m.rows.length:Int)) (⟨e,(ix (ix c.2 b) ((a+1)%(↑m.rows.length:Int)))⟩:Sg)) ((a+1)%(↑m.rows.length:Int)))<|
  bd (z3n N ([(ix (up f ((a+1)%(↑m.rows.length:Int)) (⟨e,(ix (ix c.2 b) ((a+1)%(↑m.rows.length:Int)))⟩:Sg)) ((a+1)%(↑m.rows.length:Int))).fAe]:List (List Int)) m.inputs m.outputs m.rows d h c.2 b e) fun g=>
  gd (in64 (a+1))<|
  z5q N m d c i (a+1) g.2.1 g.2.2 g.1 (up f ((a+1)%(↑m.rows.length:Int)) (⟨e,(ix (ix c.2 b) ((a+1)%(↑m.rows.length:Int)))⟩:Sg))) else(
  some (b,e,h,f))
def z5t(N:Nat)(m:Mach)(d:(List Int))(h:List Int×(List (List (List Int))))(c:Int×Int×List Int×List Sg)(a:Int):Nat→Int→Int→Int→(List Int)→Option (Ex (Int×Int×List Int) (Ex (Int×Int×List Int) ((List Int)×Int)))
 |0,_,_,_,_=>none
 |l+1,e,b,f,i=>
  bif decide (e<m.inputs) then(
  bd (
  gd (okI c.2.2.2 a)<|
  bif decide (f≠((ix c.2.2.2 a).fV)) then(
  gd ((0:Int)≤b∧b<(64:Nat))<|
  gd (okI c.2.2.2 a)<|
  gd (okI (ix h.2 b) ((ix c.2.2.2 a).fV))<|
  bd (z3n N ([(ix (ix h.2 b) ((ix c.2.2.2 a).fV))]:List (List Int)) m.inputs m.outputs m.rows d i h.2 b f) fun j=>
  some (j.2.1,j.2.2,j.1)) else(
  some (b,f,i))) fun k=>
  gd (okI c.2.2.2 a)<|
  bd (z3n N ([(ix c.2.2.2 a).fAe,([e]:List Int)]:List (List Int)) m.inputs m.outputs m.rows d k.2.2 h.2 k.1 k.2.1) fun g=>
  bif decide (1024<(↑g.1.length:Int)) then(
  some (Ex.rt (Ex.rt (([]:(List Int)),3)))) else(
  gd (in64 (e+1))<|
  z5t N m d h c a l (e+1) g.2.1 g.2.2 g.1)) else(
  some (Ex.go (b,f,i)))
def z5w(N:Nat)(m:Mach)(d:(List Int))(g:List Int×(List (List (List Int))))(h:Int×Int×List Int×List Sg):Nat→Int→Int→Int→(List Int)→Option (Ex (Int×Int×List Int) ((List Int)×Int))
 |0,_,_,_,_=>none
 |i+1,a,c,e,f=>
  bif decide (a<(↑m.rows.length:Int)) then(
  bd (
  z5t N m d g h a N 0 c e f) fun j=>
  Ex.on j (fun b=>
  gd (in64 (a+1))<|
  z5w N m d g h i (a+1) b.1 b.2.1 b.2.2) some) else(
  some (Ex.go (c,e,f)))
def zd7(N:Nat)(m:Mach)(d:(List Int)):Option ((List Int)×Int):=
 bd (z6q N m d) fun h=>
 bif decide (h≠0) then(
 some (([]:(List Int)),h)) else(
 bd (
 z5x N m d N 0 ([]:List Int) ((List.replicate 64 []):List (List (List Int)))) fun a=>
 bd (z3n N ([]:(List (List Int))) m.inputs m.outputs m.rows d a.1 a.2 0 0) fun c=>
 gd (okM 32 (↑m.rows.length:Int))<|
 bd (
 z5q N m d a N 0 c.2.1 c.2.2 c.1 (mk (↑m.rows.length:Int) (⟨(0:Int),([]:List Int)⟩:Sg))) fun b=>
 bd (
 z5w N m d a b N 0 b.1 b.2.1 b.2.2.1) fun e=>
 Ex.on e (fun f=>
 bd (lv N f.2.2) fun g=>
 some (g,0)) some)
def z9a(N:Nat)(s:List Int):Option (List Int):=
 gd (okS s 0 (↑s.length:Int))<|
 some (cut s 0 (↑s.length:Int))
def z88(N:Nat)(s:(List Int)):Option (List Int):=
 gd (fits 8 ([]:List Int) s)<|
 some (([]:List Int)++s)
def z1n(N:Nat)(marks:(List Bool)):Nat→Int→(List Int)→Option (List Int)
 |0,_,_=>none
 |c+1,a,b=>
  bif decide (a<(↑marks.length:Int)) then(
  bd (
  gd (okI marks a)<|
  bif !(ix marks a) then(
  gd (okI b a)<|
  some (up b a (-1))) else(
  some b)) fun d=>
  gd (in64 (a+1))<|
  z1n N marks c (a+1) d) else(
  some b)
def z5k(N:Nat)(t:Sj)(marks:(List Bool)):Option (List Int):=
 bd (z88 N t.fQ) fun c=>
 bd (z9a N c) fun a=>
 bd (
 z1n N marks N 0 a) fun b=>
 some b
def z8t(N:Nat)(m:Mach)(d:(List Int))(w_:(List Int)):Option ((List Int)×Int):=
 bd (z4v N m d w_) fun a=>
 bif decide (a.2≠0) then(
 some (([]:(List Int)),a.2)) else(
 gd (a.1.isSome=true)<|
 bd (z5k N (a.1.getD default) ((a.1.getD default).fAj)) fun b=>
 some (b,0))
def zdw(N:Nat)(m:Mach)(d:(List Int))(w_:(List Int)):Option ((List Int)×Int):=
 bd (z4v N m d w_) fun a=>
 bif decide (a.2≠0) then(
 some (([]:(List Int)),a.2)) else(
 gd (a.1.isSome=true)<|
 bd (z5k N (a.1.getD default) ((a.1.getD default).fJ)) fun b=>
 some (b,0))
def z3z(N:Nat)(m:Mach)(w_:(List Int)):Nat→Int→Int→(List Int)→Option (List Int)
 |0,_,_,_=>none
 |e+1,b,a,c=>
  bif decide (a<(↑w_.length:Int)) then(
  gd (okI w_ a)<|
  bd (
  bif decide (b≠(-1)) then(
  gd (okI m.rows b)<|
  gd (okI (ix m.rows b) (ix w_ a))<|
  some ((ix (ix m.rows b) (ix w_ a)).to,(ix (ix m.rows b) (ix w_ a)).out)) else(
  some ((-1),(-1)))) fun d=>
  gd (c.length+([d.2]:List Int).length≤(↑w_.length:Int).toNat)<|
  gd (in64 (a+1))<|
  z3z N m w_ e d.1 (a+1) (c++([d.2]:List Int))) else(
  some c)
def zah(N:Nat)(m:Mach)(w_:(List Int)):Option ((List Int)×Int):=
 bd (lu N m) fun c=>
 bif decide (c≠0) then(
 some (([]:(List Int)),c)) else(
 bd (z8e N m w_) fun a=>
 bif decide (a≠0) then(
 some (([]:(List Int)),a)) else(
 gd (okM 8 (↑w_.length:Int)∧0≤(0:Int)∧(0:Int)≤(↑w_.length:Int))<|
 bd (
 z3z N m w_ N 0 0 (mk 0 (0:Int))) fun b=>
 gd (b.length=(↑w_.length:Int).toNat)<|
 some (b,0)))
def z1m(N:Nat)(a:Sc)(b:Sc):Nat→Int→Option (Ex (Unit) (Bool))
 |0,_=>none
 |d+1,c=>
  bif decide (c<(↑a.fE.length:Int)) then(
  gd (okI a.fE c)<|
  gd (okI b.fE c)<|
  bif decide (¬(((ix a.fE c).1)=((ix b.fE c).1)∧((ix a.fE c).2)=((ix b.fE c).2))) then(
  some (Ex.rt false)) else(
  gd (in64 (c+1))<|
  z1m N a b d (c+1))) else(
  some (Ex.go ()))
def z7y(N:Nat)(a:Sc)(b:Sc):Option Bool:=
 bd (gop (true&&((decide (a.fF≠b.fF))==false)) (ma N a.fB b.fB)) fun c=>
 bif ((decide (a.fF≠b.fF))||(!(c.getD default)))||(decide ((↑a.fE.length:Int)≠(↑b.fE.length:Int))) then(
 some false) else(
 bd (
 z1m N a b N 0) fun d=>
 Ex.on d (fun e=>
 some true) some)
def z2z(N:Nat):Option Bool:=
 bd (z6t N) fun c=>
 bd (zd7 N (⟨c.inputs,c.outputs,c.rows⟩:Mach) ([0]:List Int)) fun e=>
 bd (z8t N (⟨c.inputs,c.outputs,c.rows⟩:Mach) ([0]:List Int) ([0,1,0,0,0]:List Int)) fun f=>
 bd (zdw N (⟨c.inputs,c.outputs,c.rows⟩:Mach) ([0]:List Int) ([0,1,0,0,0]:List Int)) fun g=>
 bd (z6c N (⟨c.inputs,c.outputs,c.rows⟩:Mach) ([0]:List Int) ([0,1,0,0,0]:List Int)) fun a=>
 bd (zah N (⟨c.inputs,c.outputs,c.rows⟩:Mach) ([0,0,1,0]:List Int)) fun h=>
 bd (gop (true&&((((((decide (e.2=0))&&(decide (f.2=0)))&&(decide (g.2=0)))&&(decide (a.2=0)))&&(decide (h.2=0)))==true)) (ma N e.1 ([0,0,0,0,0,0,1,0,0,0,1,0]:List Int))) fun b=>
 bd (gop (true&&(((((((decide (e.2=0))&&(decide (f.2=0)))&&(decide (g.2=0)))&&(decide (a.2=0)))&&(decide (h.2=0)))&&(b.getD default))==true)) (ma N f.1 ([0,(-1),1,0,1,(-1)]:List Int))) fun d=>
 bd (gop (true&&((((((((decide (e.2=0))&&(decide (f.2=0)))&&(decide (g.2=0)))&&(decide (a.2=0)))&&(decide (h.2=0)))&&(b.getD default))&&(d.getD default))==true)) (ma N g.1 ([0,1,1,0,1,0]:List Int))) fun i=>
 bd (gop (true&&(((((((((decide (e.2=0))&&(decide (f.2=0)))&&(decide (g.2=0)))&&(decide (a.2=0)))&&(decide (h.2=0)))&&(b.getD default))&&(d.getD default))&&(i.getD default))==true)) (z7y N (⟨a.1.fF,a.1.fB,a.1.fE⟩:Sc) (⟨true,([]:(List Int)),([((0,1):(Int×Int))]:List (Int×Int))⟩:Sc))) fun j=>
 bd (gop (true&&((((((((((decide (e.2=0))&&(decide (f.2=0)))&&(decide (g.2=0)))&&(decide (a.2=0)))&&(decide (h.2=0)))&&(b.getD default))&&(d.getD default))&&(i.getD default))&&(j.getD default))==true)) (ma N h.1 ([0,1,0,0]:List Int))) fun k=>
 bd (gop (true&&(((((((((((decide (e.2=0))&&(decide (f.2=0)))&&(decide (g.2=0)))&&(decide (a.2=0)))&&(decide (h.2=0)))&&(b.getD default))&&(d.getD default))&&(i.getD default))&&(j.getD default))&&(k.getD default))==true)) (z6q N (⟨c.inputs,c.outputs,c.rows⟩:Mach) ([1]:List Int))) fun l=>
 bd (gop (true&&((((((((((((decide (e.2=0))&&(decide (f.2=0)))&&(decide (g.2=0)))&&(decide (a.2=0)))&&(decide (h.2=0)))&&(b.getD default))&&(d.getD default))&&(i.getD default))&&(j.getD default))&&(k.getD default))&&(decide ((l.getD default)=12)))==true)) (z6q N (⟨c.inputs,c.outputs,c.rows⟩:Mach) ([]:(List Int)))) fun m=>
 some ((((((((((((decide (e.2=0))&&(decide (f.2=0)))&&(decide (g.2=0)))&&(decide (a.2=0)))&&(decide (h.2=0)))&&(b.getD default))&&(d.getD default))&&(i.getD default))&&(j.getD default))&&(k.getD default))&&(decide ((l.getD default)=12)))&&(decide ((m.getD default)=12)))
def tu(N:Nat)(m:Mach)(w_:(List Int)):Nat→Int→(List Int)→Option (List Int)
 |0,_,_=>none
 |c+1,a,b=>
  bif decide (a<(↑w_.length:Int)) then(
  gd (okI b a)<|
  gd (okI m.rows (ix b a))<|
  gd (okI w_ a)<|
  gd (okI (ix m.rows (ix b a)) (ix w_ a))<|
  gd (fits 8 b ([(ix (ix m.rows (ix b a)) (ix w_ a)).to]:List Int))<|
  gd (in64 (a+1))<|
  tu N m w_ c (a+1) (b++([(ix (ix m.rows (ix b a)) (ix w_ a)).to]:List Int))) else(
  some b)
def z0o(N:Nat)(m:Mach)(w_:(List Int)):Option (List Int):=
 bd (
 tu N m w_ N 0 ([0]:List Int)) fun a=>
 some a
def sw(N:Nat)(x:Sm):Option Int:=
 bd (z0o N x.fBh x.fAe) fun a=>
 gd (in64 ((↑a.length:Int)-1))<|
 gd (okI a ((↑a.length:Int)-1))<|
 some (ix a ((↑a.length:Int)-1))
def bn(N:Nat)(w_:(List Int))(x_0_:Int)(x_1_:Int)(x_2_:(List (List Edge)))(x_3_:(List Int))(x_4_:List Int)(x_5_:Int):Option (List Int):=
 gd (fits 8 x_4_ w_)<|
 some (x_4_++w_)
def oh(N:Nat)(x_0_:Int)(x_1_:Int)(x_2_:(List (List Edge)))(x_3_:(List Int))(x_4_:List Int)(x_5_:Int):Option (List Int×Int):=
 bd (sw N (⟨(⟨x_0_,x_1_,x_2_⟩:Mach),x_3_,x_4_,x_5_⟩:Sm)) fun a=>
 bd (bn N x_3_ x_0_ x_1_ x_2_ x_3_ x_4_ a) fun b=>
 some (b,a)
def mh(N:Nat)(m:Mach)(s:Int)(d:Int)(e:Int)(c:List (List Int)):Nat→Bool→Int→Option Bool
 |0,_,_=>none
 |f+1,a,b=>
  bif decide (b<(↑c.length:Int)) then(
  gd ((true&&(a==true))=true→okI c b)<|
  bd (gop (true&&(a==true)) (vg N N m s (ix c b))) fun g=>
  bd (gop (true&&(a==true)) (vg N N m s ((([]:List Int)++(ix c d))++([e]:List Int)))) fun h=>
  gd (in64 (b+1))<|
  mh N m s d e c f (a&&(decide ((g.getD default)≠(h.getD default)))) (b+1)) else(
  some a)
def mo(N:Nat)(m:Mach)(s:Int)(b:Int):Nat→Int→(List (List Int))→Option (Ex (List (List Int)) (Ex (Unit) ((List Int))))
 |0,_,_=>none
 |e+1,c,a=>
  bif decide (c<m.inputs) then(
  bd (
  gd (okI a b)<|
  gd (fits 8 ([]:List Int) (ix a b))<|
  gd (fits 8 (([]:List Int)++(ix a b)) ([c]:List Int))<|
  bd (
  mh N m s b c a N true 0) fun d=>
  bif d then(
  gd (fits 24 a ([((([]:List Int)++(ix a b))++([c]:List Int))]:List (List Int)))<|
  some (a++([((([]:List Int)++(ix a b))++([c]:List Int))]:List (List Int)))) else(
  some a)) fun f=>
  gd (in64 (c+1))<|
  mo N m s b e (c+1) f) else(
  some (Ex.go a))
def l8(N:Nat)(m:Mach)(s:Int)(t:Int):Nat→Int→(List (List Int))→Option (Ex (Unit) ((List Int)))
 |0,_,_=>none
 |c+1,a,b=>
  bif decide (a<(↑b.length:Int)) then(
  bd (
  gd (okI b a)<|
  bd (vg N N m s (ix b a)) fun d=>
  bif decide (d=t) then(
  gd (okI b a)<|
  some (Ex.rt (Ex.rt (ix b a)))) else(
  mo N m s a N 0 b)) fun e=>
  Ex.on e (fun f=>
  gd (in64 (a+1))<|
  l8 N m s t c (a+1) f) some) else(
  some (Ex.go ()))
def su(N:Nat)(m:Mach)(s:Int)(t:Int):Option (List Int):=
 bd (
 l8 N m s t N 0 ([([]:List Int)]:List (List Int))) fun a=>
 Ex.on a (fun b=>
 some ([]:(List Int))) some
def dm(N:Nat)(m:Mach)(d:(List Int)):Nat→Int→Int→(List Int)→(List Int)→(List (List Int))→Option (Int×List Int×List Int×List (List Int))
 |0,_,_,_,_,_=>none
 |j+1,a,b,f,g,c=>
  bif decide (a≤(↑m.rows.length:Int)) then(
  gd (okR a (↑m.rows.length:Int))<|
  gd (okI g (a%(↑m.rows.length:Int)))<|
  bd (sw N (⟨(⟨m.inputs,m.outputs,m.rows⟩:Mach),d,f,b⟩:Sm)) fun k=>
  bd (su N (⟨m.inputs,m.outputs,m.rows⟩:Mach) k (a%(↑m.rows.length:Int))) fun h=>
  gd (okI c (a%(↑m.rows.length:Int)))<|
  gd (okI (up c (a%(↑m.rows.length:Int)) h) (a%(↑m.rows.length:Int)))<|
  bd (bn N (ix (up c (a%(↑m.rows.length:Int)) h) (a%(↑m.rows.length:Int))) m.inputs m.outputs m.rows d f b) fun i=>
  bd (oh N m.inputs m.outputs m.rows d i b) fun e=>
  gd (in64 (a+1))<|
  dm N m d j (a+1) e.2 e.1 (up g (a%(↑m.rows.length:Int)) b) (up c (a%(↑m.rows.length:Int)) h)) else(
  some (b,f,g,c))
def cu(N:Nat)(m:Mach)(d:(List Int))(c:Int×List Int×List Int×List (List Int))(a:Int):Nat→Int→Int→(List Int)→Option (Int×List Int)
 |0,_,_,_=>none
 |j+1,e,b,f=>
  bif decide (e<m.inputs) then(
  bd (
  gd (okI c.2.2.1 a)<|
  bif decide (b≠(ix c.2.2.1 a)) then(
  bd (sw N (⟨(⟨m.inputs,m.outputs,m.rows⟩:Mach),d,f,b⟩:Sm)) fun k=>
  gd (okI c.2.2.1 a)<|
  bd (su N (⟨m.inputs,m.outputs,m.rows⟩:Mach) k (ix c.2.2.1 a)) fun l=>
  bd (bn N l m.inputs m.outputs m.rows d f b) fun n=>
  bd (oh N m.inputs m.outputs m.rows d n b) fun h=>
  some (h.2,h.1)) else(
  some (b,f))) fun g=>
  gd (okI c.2.2.2 a)<|
  bd (bn N (ix c.2.2.2 a) m.inputs m.outputs m.rows d g.2 g.1) fun o=>
  bd (bn N ([e]:List Int) m.inputs m.outputs m.rows d o g.1) fun p=>
  bd (oh N m.inputs m.outputs m.rows d p g.1) fun i=>
  gd (in64 (e+1))<|
  cu N m d c a j (e+1) i.2 i.1) else(
  some (b,f))
def ai(N:Nat)(m:Mach)(d:(List Int))(f:Int×List Int×List Int×List (List Int)):Nat→Int→Int→(List Int)→Option (Int×List Int)
 |0,_,_,_=>none
 |g+1,a,b,c=>
  bif decide (a<(↑m.rows.length:Int)) then(
  bd (
  cu N m d f a N 0 b c) fun e=>
  gd (in64 (a+1))<|
  ai N m d f g (a+1) e.1 e.2) else(
  some (b,c))
def z2s(N:Nat)(m:Mach)(d:(List Int)):Option (List Int):=
 bd (oh N m.inputs m.outputs m.rows d ([]:List Int) 0) fun b=>
 gd (okM 8 (↑m.rows.length:Int))<|
 gd (okM 24 (↑m.rows.length:Int))<|
 bd (
 dm N m d N 1 b.2 b.1 (mk (↑m.rows.length:Int) (0:Int)) (mk (↑m.rows.length:Int) ([]:List Int))) fun a=>
 bd (
 ai N m d a N 0 a.1 a.2.1) fun c=>
 some c.2
def z1a(N:Nat)(x:Sc):Option Bool:=
 gd ((true&&(x.fF==true))=true→in64 ((↑x.fB.length:Int)+(↑x.fE.length:Int)))<|
 some (x.fF&&(decide (((↑x.fB.length:Int)+(↑x.fE.length:Int))=0)))
def tq(N:Nat)(a:Mach):Nat→Int→(List (List Edge))→Option (List (List Edge))
 |0,_,_=>none
 |d+1,b,c=>
  bif decide (b<(↑a.rows.length:Int)) then(
  gd (okI a.rows b)<|
  gd (fits 24 c ([(ix a.rows b)]:List (List Edge)))<|
  gd (in64 (b+1))<|
  tq N a d (b+1) (c++([(ix a.rows b)]:List (List Edge)))) else(
  some c)
def gy(N:Nat)(a:Mach)(b:Mach)(d:Int):Nat→(List Edge)→Int→Option (List Edge)
 |0,_,_=>none
 |g+1,e,c=>
  bif decide (c<b.inputs) then(
  gd (okI b.rows d)<|
  gd (okI (ix b.rows d) c)<|
  bd (
  bif decide (0≤((ix (ix b.rows d) c).to)) then(
  gd (in64 (((ix (ix b.rows d) c).to)+(↑a.rows.length:Int)))<|
  some (((ix (ix b.rows d) c).to)+(↑a.rows.length:Int))) else(
  some ((ix (ix b.rows d) c).to))) fun f=>
  gd (fits 16 e ([(⟨f,(ix (ix b.rows d) c).out⟩:Edge)]:List Edge))<|
  gd (in64 (c+1))<|
  gy N a b d g (e++([(⟨f,(ix (ix b.rows d) c).out⟩:Edge)]:List Edge)) (c+1)) else(
  some e)
def o8(N:Nat)(a:Mach)(b:Mach):Nat→Int→(List (List Edge))→Option (List (List Edge))
 |0,_,_=>none
 |f+1,c,d=>
  bif decide (c<(↑b.rows.length:Int)) then(
  bd (
  gy N a b c N ([]:List Edge) 0) fun e=>
  gd (fits 24 d ([e]:List (List Edge)))<|
  gd (in64 (c+1))<|
  o8 N a b f (c+1) (d++([e]:List (List Edge)))) else(
  some d)
def z2e(N:Nat)(a:Mach)(b:Mach):Option Mach:=
 bd (
 tq N a N 0 ([]:List (List Edge))) fun c=>
 bd (
 o8 N a b N 0 c) fun d=>
 some (⟨a.inputs,max a.outputs b.outputs,d⟩:Mach)
def bg(N:Nat)(a:Mach)(b:Mach):Nat→Int→Option Int
 |0,_=>none
 |e+1,c=>
  bd (gop (true&&((decide (c<(↑b.rows.length:Int)))==true)) (ni N (⟨b.inputs,b.outputs,b.rows⟩:Mach) c)) fun d=>
  gd ((true&&((decide (c<(↑b.rows.length:Int)))==true))=true→okI (d.getD default) 0)<|
  gd ((true&&((decide (c<(↑b.rows.length:Int)))==true))=true→okI (ix (d.getD default) 0) (↑a.rows.length:Int))<|
  bif (decide (c<(↑b.rows.length:Int)))&&(!(ix (ix (d.getD default) 0) (↑a.rows.length:Int))) then(
  gd (in64 (c+1))<|
  bg N a b e (c+1)) else(
  some c)
def bu(N:Nat)(b:Mach)(c:Int)(d:Int)(e:List Int)(f:(List (List Bool))):Nat→Int→Option (Ex (Int×Int×List Int) (List Int))
 |0,_=>none
 |g+1,a=>
  bif decide (a<b.inputs) then(
  gd (okI b.rows c)<|
  gd (okI (ix b.rows c) a)<|
  gd (okI b.rows d)<|
  gd (okI (ix b.rows d) a)<|
  gd (((true&&((decide (((ix (ix b.rows c) a).out)≠((ix (ix b.rows d) a).out)))==false))&&(((decide (0≤((ix (ix b.rows c) a).to)))&&(decide (0≤((ix (ix b.rows d) a).to))))==true))=true→okI f ((ix (ix b.rows c) a).to))<|
  gd (((true&&((decide (((ix (ix b.rows c) a).out)≠((ix (ix b.rows d) a).out)))==false))&&(((decide (0≤((ix (ix b.rows c) a).to)))&&(decide (0≤((ix (ix b.rows d) a).to))))==true))=true→okI (ix f ((ix (ix b.rows c) a).to)) ((ix (ix b.rows d) a).to))<|
  bif (decide (((ix (ix b.rows c) a).out)≠((ix (ix b.rows d) a).out)))||(((decide (0≤((ix (ix b.rows c) a).to)))&&(decide (0≤((ix (ix b.rows d) a).to))))&&(ix (ix f ((ix (ix b.rows c) a).to)) ((ix (ix b.rows d) a).to))) then(
  gd (fits 8 e ([a]:List Int))<|
  some (Ex.go ((ix (ix b.rows c) a).to,(ix (ix b.rows d) a).to,(e++([a]:List Int))))) else(
  gd (in64 (a+1))<|
  bu N b c d e f g (a+1))) else(
  some (Ex.go (c,d,e)))
def o5(N:Nat)(b:Mach):Nat→Int→Int→Int→(List Int)→Option (List Int)
 |0,_,_,_,_=>none
 |g+1,h,i,a,d=>
  bd (
  bif decide (0<a) then(
  gd (in64 (a-1))<|
  bd (ni N (⟨b.inputs,b.outputs,b.rows⟩:Mach) (a-1)) fun e=>
  gd (in64 (a-1))<|
  bu N b h i d e N 0) else(
  some (Ex.rt d))) fun f=>
  Ex.on f (fun c=>
  o5 N b g c.1 c.2.1 (a-1) c.2.2) some
def z2i(N:Nat)(a:Mach)(b:Mach):Option ((List Int)×Bool):=
 bd (z2e N a b) fun c=>
 bd (
 bg N a c N 0) fun d=>
 bif decide (d=(↑c.rows.length:Int)) then(
 some (([]:(List Int)),false)) else(
 bd (
 o5 N c N 0 (↑a.rows.length:Int) d ([]:List Int)) fun e=>
 some (e,true))
def pz(N:Nat)(m:Mach)(w_:(List Int)):Nat→(List Int)→Int→Int→Option (List Int)
 |0,_,_,_=>none
 |e+1,c,b,a=>
  bif decide (a<(↑w_.length:Int)) then(
  bd (
  bif decide (b=(-1)) then(
  gd (fits 8 c ([(-1)]:List Int))<|
  some (b,(c++([(-1)]:List Int)))) else(
  gd (okI m.rows b)<|
  gd (okI w_ a)<|
  gd (okI (ix m.rows b) (ix w_ a))<|
  gd (fits 8 c ([(ix (ix m.rows b) (ix w_ a)).out]:List Int))<|
  some ((ix (ix m.rows b) (ix w_ a)).to,(c++([(ix (ix m.rows b) (ix w_ a)).out]:List Int))))) fun d=>
  gd (in64 (a+1))<|
  pz N m w_ e d.2 d.1 (a+1)) else(
  some c)
def z04(N:Nat)(m:Mach)(w_:(List Int)):Option (List Int):=
 bd (
 pz N m w_ N ([]:List Int) 0 0) fun a=>
 some a
def z0d(N:Nat)(m:Mach)(other:Mach)(d:(List Int))(w_:(List Int)):Option Bool:=
 bd (z6c N m d w_) fun a=>
 bd (gop (true&&((decide (a.2≠0))==false)) (z1a N (⟨a.1.fF,a.1.fB,a.1.fE⟩:Sc))) fun b=>
 bif (((decide (a.2≠0))||(!(b.getD default)))||(decide (other.inputs≠m.inputs)))||(decide ((↑m.rows.length:Int)<(↑other.rows.length:Int))) then(
 some (decide (a.2=0))) else(
 bd (z2i N m other) fun c=>
 bd (z04 N m w_) fun e=>
 bd (z04 N other w_) fun f=>
 bd (ma N e f) fun g=>
 some (decide (g≠c.2)))
def xq(N:Nat)(m:Mach):Nat→Int→(List (List Edge))→Option (List (List Edge))
 |0,_,_=>none
 |c+1,a,b=>
  bif decide (a<(↑m.rows.length:Int)) then(
  gd (okI m.rows a)<|
  gd (fits 16 ([]:List Edge) (ix m.rows a))<|
  gd (fits 24 b [(([]:List Edge)++(ix m.rows a))])<|
  gd (in64 (a+1))<|
  xq N m c (a+1) (b++[(([]:List Edge)++(ix m.rows a))])) else(
  some b)
def xw(N:Nat)(m:Mach)(l_:(List Sd)):Nat→Int→(List (List Edge))→Option (List (List Edge))
 |0,_,_=>none
 |c+1,a,b=>
  bif (decide (a<(↑l_.length:Int)))&&(decide (a<4)) then(
  gd (okI l_ a)<|
  gd (in64 ((ix l_ a).fO))<|
  gd (in64 ((↑m.rows.length:Int)*m.inputs))<|
  gd (okR ((ix l_ a).fO) ((↑m.rows.length:Int)*m.inputs))<|
  gd (okQ (((ix l_ a).fO)%((↑m.rows.length:Int)*m.inputs)) m.inputs)<|
  gd (okI b ((((ix l_ a).fO)%((↑m.rows.length:Int)*m.inputs))/m.inputs))<|
  gd (okR (((ix l_ a).fO)%((↑m.rows.length:Int)*m.inputs)) m.inputs)<|
  gd (okI l_ a)<|
  gd (in64 ((ix l_ a).fAd))<|
  gd (okR ((ix l_ a).fAd) (↑m.rows.length:Int))<|
  gd (okI l_ a)<|
  gd (in64 ((ix l_ a).fZ))<|
  gd (okR ((ix l_ a).fZ) m.outputs)<|
  gd (okI (ix b ((((ix l_ a).fO)%((↑m.rows.length:Int)*m.inputs))/m.inputs)) ((((ix l_ a).fO)%((↑m.rows.length:Int)*m.inputs))%m.inputs))<|
  gd (in64 (a+1))<|
  xw N m l_ c (a+1) (up b ((((ix l_ a).fO)%((↑m.rows.length:Int)*m.inputs))/m.inputs) (up (ix b ((((ix l_ a).fO)%((↑m.rows.length:Int)*m.inputs))/m.inputs)) ((((ix l_ a).fO)%((↑m.rows.length:Int)*m.inputs))%m.inputs) (⟨((ix l_ a).fAd)%(↑m.rows.length:Int),((ix l_ a).fZ)%m.outputs⟩:Edge)))) else(
  some b)
def z1l(N:Nat)(m:Mach)(l_:(List Sd)):Option Mach:=
 bd (
 xq N m N 0 ([]:List (List Edge))) fun a=>
 bd (
 xw N m l_ N 0 a) fun b=>
 some (⟨m.inputs,m.outputs,b⟩:Mach)
def z0b(N:Nat)(x:Sk)(y:Sa)(z:Sn):Option Bool:=
 bd (z3v N x) fun a=>
 bd (z4t N (⟨a.1.inputs,a.1.outputs,a.1.rows⟩:Mach) a.2) fun h=>
 bif decide (h≠0) then(
 bd (z2z N) fun i=>
 some i) else(
 bd (z2s N (⟨a.1.inputs,a.1.outputs,a.1.rows⟩:Mach) a.2) fun b=>
 gd (in64 z.fK)<|
 gd (in64 ((↑b.length:Int)-(min z.fK (↑b.length:Int))))<|
 gd (okS b 0 ((↑b.length:Int)-(min z.fK (↑b.length:Int))))<|
 gd (fits 8 ([]:List Int) (cut b 0 ((↑b.length:Int)-(min z.fK (↑b.length:Int)))))<|
 bd (z0n N z.fAh a.1.inputs 30) fun d=>
 gd (fits 8 (([]:List Int)++(cut b 0 ((↑b.length:Int)-(min z.fK (↑b.length:Int))))) d)<|
 bd (z0l N y) fun j=>
 bd (z0d N (⟨a.1.inputs,a.1.outputs,a.1.rows⟩:Mach) j a.2 ((([]:List Int)++(cut b 0 ((↑b.length:Int)-(min z.fK (↑b.length:Int)))))++d)) fun c=>
 bd (gop (true&&(c==true)) (z1l N (⟨a.1.inputs,a.1.outputs,a.1.rows⟩:Mach) z.fBg)) fun k=>
 bd (gop (true&&(c==true)) (z0d N (⟨a.1.inputs,a.1.outputs,a.1.rows⟩:Mach) (k.getD default) a.2 ((([]:List Int)++(cut b 0 ((↑b.length:Int)-(min z.fK (↑b.length:Int)))))++d))) fun e=>
 bd (gop (true&&((c&&(e.getD default))==true)) (z0d N (⟨a.1.inputs,a.1.outputs,a.1.rows⟩:Mach) (⟨a.1.inputs,a.1.outputs,a.1.rows⟩:Mach) a.2 ((([]:List Int)++(cut b 0 ((↑b.length:Int)-(min z.fK (↑b.length:Int)))))++d))) fun f=>
 bd (gop (true&&(((c&&(e.getD default))&&(f.getD default))==true)) (z2z N)) fun g=>
 some (((c&&(e.getD default))&&(f.getD default))&&(g.getD default)))
end GV
end Go.Proofs.YtplgbkaollfmkaaGreat
