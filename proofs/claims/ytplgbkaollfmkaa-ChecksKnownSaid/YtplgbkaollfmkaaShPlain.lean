import Derived.Test.YtplgbkaollfmkaaShTypes
set_option linter.unusedVariables false
set_option linter.unusedSimpArgs false
namespace Go.Proofs.Ytplgbkaollfmkaa
namespace GV
set_option maxRecDepth 100000
def yj(N:Nat)(m:Mach)(b:Int):Nat→Int→Option (Ex (Unit) (Ex (Unit) (Int)))
 |0,_=>none
 |c+1,a=>
  bif decide (a<m.inputs) then(
  bd (
  gd (okI m.rows b)<|
  gd (okI (ix m.rows b) a)<|
  bif (decide (((ix (ix m.rows b) a).to)=(-1)))&&(decide (((ix (ix m.rows b) a).out)=(-1))) then(
  some (Ex.go ())) else(
  bif (((decide (((ix (ix m.rows b) a).to)<0))||(decide ((↑m.rows.length:Int)≤((ix (ix m.rows b) a).to))))||(decide (((ix (ix m.rows b) a).out)<0)))||(decide (m.outputs≤((ix (ix m.rows b) a).out))) then(
  some (Ex.rt (Ex.rt (Ex.rt 1)))) else(
  some (Ex.go ())))) fun d=>
  Ex.on d (fun e=>
  gd (in64 (a+1))<|
  yj N m b c (a+1)) some) else(
  some (Ex.go ()))
def wm(N:Nat)(m:Mach):Nat→Int→Option (Ex (Unit) (Int))
 |0,_=>none
 |b+1,a=>
  bif decide (a<(↑m.rows.length:Int)) then(
  bd (
  gd (okI m.rows a)<|
  bif decide ((↑(ix m.rows a).length:Int)≠m.inputs) then(
  some (Ex.rt (Ex.rt 1))) else(
  yj N m a N 0)) fun c=>
  Ex.on c (fun d=>
  gd (in64 (a+1))<|
  wm N m b (a+1)) some) else(
  some (Ex.go ()))
def z1o(N:Nat)(m:Mach):Option Int:=
 bif ((decide (16<m.inputs))||(decide (16<m.outputs)))||(decide (64<(↑m.rows.length:Int))) then(
 some 3) else(
 bif ((decide (m.inputs<1))||(decide (m.outputs<1)))||(decide ((↑m.rows.length:Int)=0)) then(
 some 1) else(
 bd (
 wm N m N 0) fun a=>
 Ex.on a (fun b=>
 some 0) some))
def yn(N:Nat)(m:Mach)(b:Int):Nat→Int→Int→Option Int
 |0,_,_=>none
 |d+1,c,a=>
  bif decide (a<m.inputs) then(
  bd (
  gd (okI m.rows b)<|
  gd (okI (ix m.rows b) a)<|
  bif decide (0≤((ix (ix m.rows b) a).to)) then(
  gd (in64 (c+1))<|
  some (c+1)) else(
  some c)) fun e=>
  gd (in64 (a+1))<|
  yn N m b d e (a+1)) else(
  some c)
def p8(N:Nat)(m:Mach):Nat→Int→Int→Option Int
 |0,_,_=>none
 |d+1,b,a=>
  bif decide (a<(↑m.rows.length:Int)) then(
  bd (
  yn N m a N b 0) fun c=>
  gd (in64 (a+1))<|
  p8 N m d c (a+1)) else(
  some b)
def z0h(N:Nat)(m:Mach):Option Int:=
 bd (
 p8 N m N 0 0) fun a=>
 some a
def z09(N:Nat)(m:Mach):Option Bool:=
 bd (z0h N m) fun a=>
 gd (in64 ((↑m.rows.length:Int)*m.inputs))<|
 some (decide (a=((↑m.rows.length:Int)*m.inputs)))
def yu(N:Nat)(m:Mach)(a:Int):Nat→Int→(List Bool)→Option (List Bool)
 |0,_,_=>none
 |d+1,b,c=>
  bif decide (b<m.inputs) then(
  bd (
  gd (okI m.rows a)<|
  gd (okI (ix m.rows a) b)<|
  gd (okI c a)<|
  bif (ix c a)&&(decide (0≤((ix (ix m.rows a) b).to))) then(
  gd (okI c ((ix (ix m.rows a) b).to))<|
  some (up c ((ix (ix m.rows a) b).to) true)) else(
  some c)) fun e=>
  gd (in64 (b+1))<|
  yu N m a d (b+1) e) else(
  some c)
def yl(N:Nat)(m:Mach):Nat→Int→(List Bool)→Option (List Bool)
 |0,_,_=>none
 |c+1,a,b=>
  bif decide (a<(↑m.rows.length:Int)) then(
  bd (
  yu N m a N 0 b) fun d=>
  gd (in64 (a+1))<|
  yl N m c (a+1) d) else(
  some b)
def pg(N:Nat)(m:Mach):Nat→Int→(List Bool)→Option (List Bool)
 |0,_,_=>none
 |c+1,a,b=>
  bif decide (a<(↑m.rows.length:Int)) then(
  bd (
  yl N m N 0 b) fun d=>
  gd (in64 (a+1))<|
  pg N m c (a+1) d) else(
  some b)
def mi(N:Nat)(m:Mach)(from_:Int):Option (List Bool):=
 gd (okM 1 (↑m.rows.length:Int))<|
 gd (okI (mk (↑m.rows.length:Int) false) from_)<|
 bd (
 pg N m N 0 (up (mk (↑m.rows.length:Int) false) from_ true)) fun a=>
 some a
def wh(N:Nat)(b:(List Bool)):Nat→Int→Option (Ex (Unit) (Bool))
 |0,_=>none
 |c+1,a=>
  bif decide (a<(↑b.length:Int)) then(
  gd (okI b a)<|
  bif !(ix b a) then(
  some (Ex.rt false)) else(
  gd (in64 (a+1))<|
  wh N b c (a+1))) else(
  some (Ex.go ()))
def lv(N:Nat)(m:Mach):Option Bool:=
 bd (mi N m 0) fun b=>
 bd (
 wh N b N 0) fun a=>
 Ex.on a (fun c=>
 some true) some
def ww(N:Nat)(m:Mach)(marked:(List (List Bool)))(s:Int)(t:Int):Nat→Int→Option (Ex (Unit) (Int))
 |0,_=>none
 |b+1,a=>
  bif decide (a<m.inputs) then(
  gd (okI m.rows s)<|
  gd (okI (ix m.rows s) a)<|
  gd (okI m.rows t)<|
  gd (okI (ix m.rows t) a)<|
  gd (((true&&((decide (((ix (ix m.rows s) a).out)≠((ix (ix m.rows t) a).out)))==false))&&(((decide (0≤((ix (ix m.rows s) a).to)))&&(decide (0≤((ix (ix m.rows t) a).to))))==true))=true→okI marked ((ix (ix m.rows s) a).to))<|
  gd (((true&&((decide (((ix (ix m.rows s) a).out)≠((ix (ix m.rows t) a).out)))==false))&&(((decide (0≤((ix (ix m.rows s) a).to)))&&(decide (0≤((ix (ix m.rows t) a).to))))==true))=true→okI (ix marked ((ix (ix m.rows s) a).to)) ((ix (ix m.rows t) a).to))<|
  bif (decide (((ix (ix m.rows s) a).out)≠((ix (ix m.rows t) a).out)))||(((decide (0≤((ix (ix m.rows s) a).to)))&&(decide (0≤((ix (ix m.rows t) a).to))))&&(ix (ix marked ((ix (ix m.rows s) a).to)) ((ix (ix m.rows t) a).to))) then(
  some (Ex.rt 1)) else(
  gd (in64 (a+1))<|
  ww N m marked s t b (a+1))) else(
  some (Ex.go ()))
def z1k(N:Nat)(m:Mach)(marked:(List (List Bool)))(s:Int)(t:Int):Option Int:=
 bd (
 ww N m marked s t N 0) fun a=>
 Ex.on a (fun b=>
 some 0) some
def xh(N:Nat)(m:Mach):Nat→(List (List Bool))→Int→Option (List (List Bool))
 |0,_,_=>none
 |c+1,a,b=>
  bif decide (b<(↑m.rows.length:Int)) then(
  gd (okM 1 (↑m.rows.length:Int))<|
  gd (fits 24 a [(mk (↑m.rows.length:Int) false)])<|
  gd (in64 (b+1))<|
  xh N m c (a++[(mk (↑m.rows.length:Int) false)]) (b+1)) else(
  some a)
def xg(N:Nat)(m:Mach)(d:List (List Bool))(b:Int):Nat→Int→(List (List Bool))→Option (List (List Bool))
 |0,_,_=>none
 |e+1,a,c=>
  bif decide (a<(↑m.rows.length:Int)) then(
  gd (okI c b)<|
  gd (okI d b)<|
  gd (okI (ix d b) a)<|
  bd (gop (true&&((ix (ix d b) a)==false)) (z1k N m d b a)) fun f=>
  gd (okI (ix c b) a)<|
  gd (in64 (a+1))<|
  xg N m d b e (a+1) (up c b (up (ix c b) a ((ix (ix d b) a)||(decide ((f.getD default)=1)))))) else(
  some c)
def xy(N:Nat)(m:Mach)(c:List (List Bool)):Nat→(List (List Bool))→Int→Option (List (List Bool))
 |0,_,_=>none
 |d+1,b,a=>
  bif decide (a<(↑m.rows.length:Int)) then(
  bd (
  gd (okM 1 (↑m.rows.length:Int))<|
  gd (fits 24 b [(mk (↑m.rows.length:Int) false)])<|
  xg N m c a N 0 (b++[(mk (↑m.rows.length:Int) false)])) fun e=>
  gd (in64 (a+1))<|
  xy N m c d e (a+1)) else(
  some b)
def xx(N:Nat)(m:Mach)(k:Int):Nat→(List (List Bool))→Int→Option (List (List Bool))
 |0,_,_=>none
 |c+1,b,a=>
  bif decide (a<k) then(
  bd (
  xy N m b N ([]:List (List Bool)) 0) fun d=>
  gd (in64 (a+1))<|
  xx N m k c d (a+1)) else(
  some b)
def lu(N:Nat)(m:Mach)(k:Int):Option (List (List Bool)):=
 bd (
 xh N m N ([]:List (List Bool)) 0) fun a=>
 bd (
 xx N m k N a 0) fun b=>
 some b
def uf(N:Nat)(marked:(List (List Bool)))(c:List Int)(b:Int):Nat→Int→Int→Option Int
 |0,_,_=>none
 |e+1,d,a=>
  bif decide (a<b) then(
  bd (
  gd (okI marked b)<|
  gd (okI (ix marked b) a)<|
  bif !(ix (ix marked b) a) then(
  gd (okI c a)<|
  some (ix c a)) else(
  some d)) fun f=>
  gd (in64 (a+1))<|
  uf N marked c b e f (a+1)) else(
  some d)
def w9(N:Nat)(marked:(List (List Bool))):Nat→(List Int)→Int→Int→Option (List Int)
 |0,_,_,_=>none
 |f+1,a,b,c=>
  bif decide (c<(↑marked.length:Int)) then(
  bd (
  uf N marked a c N (-1) 0) fun e=>
  bd (
  bif decide (e<0) then(
  gd (in64 (b+1))<|
  some (b+1,b)) else(
  some (b,e))) fun d=>
  gd (fits 8 a ([d.2]:List Int))<|
  gd (in64 (c+1))<|
  w9 N marked f (a++([d.2]:List Int)) d.1 (c+1)) else(
  some a)
def il(N:Nat)(marked:(List (List Bool))):Option (List Int):=
 bd (
 w9 N marked N ([]:List Int) 0 0) fun a=>
 some a
def z3l(N:Nat)(m:Mach)(k:Int):Option (List Int):=
 bd (lu N m k) fun b=>
 bd (il N b) fun a=>
 some a
def ak(N:Nat)(m:Mach):Option (List Int):=
 bd (z3l N m (↑m.rows.length:Int)) fun a=>
 some a
def xm(N:Nat)(a:(List Int))(c:Int):Nat→Int→Option (Ex (Unit) (Ex (Unit) (Int)))
 |0,_=>none
 |d+1,b=>
  bif decide (b<c) then(
  gd (okI a c)<|
  gd (okI a b)<|
  bif decide ((ix a c)=(ix a b)) then(
  some (Ex.rt (Ex.rt 12))) else(
  gd (in64 (b+1))<|
  xm N a c d (b+1))) else(
  some (Ex.go ()))
def xw(N:Nat)(b:(List Int)):Nat→Int→Option (Ex (Unit) (Int))
 |0,_=>none
 |c+1,a=>
  bif decide (a<(↑b.length:Int)) then(
  bd (
  xm N b a N 0) fun d=>
  Ex.on d (fun e=>
  gd (in64 (a+1))<|
  xw N b c (a+1)) some) else(
  some (Ex.go ()))
def z13(N:Nat)(m:Mach):Option Int:=
 bd (z1o N m) fun e=>
 bif decide (e≠0) then(
 some e) else(
 bd (z09 N m) fun a=>
 bif !a then(
 some 9) else(
 bd (lv N m) fun b=>
 bif !b then(
 some 11) else(
 bd (ak N m) fun c=>
 bd (
 xw N c N 0) fun d=>
 Ex.on d (fun f=>
 some 0) some)))
def xq(N:Nat)(m:Mach)(w_:(List Int)):Nat→Int→Option (Ex (Unit) (Bool))
 |0,_=>none
 |b+1,a=>
  bif decide (a<(↑w_.length:Int)) then(
  gd (okI w_ a)<|
  gd ((true&&((decide ((ix w_ a)<0))==false))=true→okI w_ a)<|
  bif (decide ((ix w_ a)<0))||(decide (m.inputs≤(ix w_ a))) then(
  some (Ex.rt false)) else(
  gd (in64 (a+1))<|
  xq N m w_ b (a+1))) else(
  some (Ex.go ()))
def z16(N:Nat)(m:Mach)(w_:(List Int)):Option Bool:=
 bd (
 xq N m w_ N 0) fun a=>
 Ex.on a (fun b=>
 some true) some
def bz(N:Nat)(m:Mach)(a:Int):Nat→Int→(List Bool)→Option (List Bool)
 |0,_,_=>none
 |d+1,b,c=>
  gd ((true&&((decide (b<m.inputs))==true))=true→okI c a)<|
  bif (decide (b<m.inputs))&&(ix c a) then(
  bd (
  gd (okI m.rows a)<|
  gd (okI (ix m.rows a) b)<|
  bif decide (((ix (ix m.rows a) b).to)≠(-1)) then(
  gd (okI c ((ix (ix m.rows a) b).to))<|
  some (up c ((ix (ix m.rows a) b).to) true)) else(
  some c)) fun e=>
  gd (in64 (b+1))<|
  bz N m a d (b+1) e) else(
  some c)
def bv(N:Nat)(m:Mach):Nat→Int→(List Bool)→Option (List Bool)
 |0,_,_=>none
 |c+1,a,b=>
  bif decide (a<(↑m.rows.length:Int)) then(
  bd (
  bz N m a N 0 b) fun d=>
  gd (in64 (a+1))<|
  bv N m c (a+1) d) else(
  some b)
def bi(N:Nat)(m:Mach)(steps:Int):Nat→Int→(List Bool)→Option (List Bool)
 |0,_,_=>none
 |c+1,a,b=>
  bif decide (a<steps) then(
  bd (
  bv N m N 0 b) fun d=>
  gd (in64 (a+1))<|
  bi N m steps c (a+1) d) else(
  some b)
def ai(N:Nat)(m:Mach)(s:Int)(t:Int)(steps:Int):Option Bool:=
 bif decide (s=t) then(
 some true) else(
 gd (okM 1 (↑m.rows.length:Int))<|
 gd (okI (mk (↑m.rows.length:Int) false) s)<|
 bd (
 bi N m steps N 0 (up (mk (↑m.rows.length:Int) false) s true)) fun a=>
 gd (okI a t)<|
 some (ix a t))
def bn(N:Nat)(m:Mach)(b:Int):Nat→Bool→(List Int)→Int→Option (Bool×List Int)
 |0,_,_,_=>none
 |g+1,d,c,a=>
  bif decide (a<(↑m.rows.length:Int)) then(
  bd (
  bd (ai N m b a (↑m.rows.length:Int)) fun e=>
  bd (gop (true&&(e==true)) (ai N m a b (↑m.rows.length:Int))) fun h=>
  bif e&&(h.getD default) then(
  gd (fits 8 c ([a]:List Int))<|
  some (d&&(decide (b≤a)),(c++([a]:List Int)))) else(
  some (d,c))) fun f=>
  gd (in64 (a+1))<|
  bn N m b g f.1 f.2 (a+1)) else(
  some (d,c))
def nu(N:Nat)(m:Mach):Nat→(List (List Int))→Int→Option (List (List Int))
 |0,_,_=>none
 |d+1,a,b=>
  bif decide (b<(↑m.rows.length:Int)) then(
  bd (
  bd (
  bn N m b N true ([]:List Int) 0) fun c=>
  bif c.1 then(
  gd (fits 24 a ([c.2]:List (List Int)))<|
  some (a++([c.2]:List (List Int)))) else(
  some a)) fun e=>
  gd (in64 (b+1))<|
  nu N m d e (b+1)) else(
  some a)
def z1i(N:Nat)(m:Mach):Option (List (List Int)):=
 bd (
 nu N m N ([]:List (List Int)) 0) fun a=>
 some a
def z0m(N:Nat)(m:Mach)(s:Int)(i:Int):Option Edge:=
 bif decide (s<0) then(
 some (⟨(-1),(-1)⟩:Edge)) else(
 gd (okI m.rows s)<|
 gd (okI (ix m.rows s) i)<|
 some (⟨(ix (ix m.rows s) i).to,(ix (ix m.rows s) i).out⟩:Edge))
def oh(N:Nat)(m:Mach)(w_:(List Int)):Nat→Int→(List Int)→Int→Option (List Int)
 |0,_,_,_=>none
 |d+1,e,b,a=>
  bif decide (a<(↑w_.length:Int)) then(
  gd (okI w_ a)<|
  bd (z0m N m e (ix w_ a)) fun c=>
  gd (fits 8 b ([c.out]:List Int))<|
  gd (in64 (a+1))<|
  oh N m w_ d c.to (b++([c.out]:List Int)) (a+1)) else(
  some b)
def z03(N:Nat)(m:Mach)(s:Int)(w_:(List Int)):Option (List Int):=
 bd (
 oh N m w_ N s ([]:List Int) 0) fun a=>
 some a
def yh(N:Nat)(a:(List Int))(b:(List Int)):Nat→Int→Option (Ex (Unit) (Int))
 |0,_=>none
 |d+1,c=>
  bif decide (c<(↑a.length:Int)) then(
  gd (okI a c)<|
  gd (okI b c)<|
  bif decide ((ix a c)<(ix b c)) then(
  some (Ex.rt (-1))) else(
  gd (okI a c)<|
  gd (okI b c)<|
  bif decide ((ix b c)<(ix a c)) then(
  some (Ex.rt 1)) else(
  gd (in64 (c+1))<|
  yh N a b d (c+1)))) else(
  some (Ex.go ()))
def z0g(N:Nat)(a:(List Int))(b:(List Int)):Option Int:=
 bif decide ((↑a.length:Int)<(↑b.length:Int)) then(
 some (-1)) else(
 bif decide ((↑b.length:Int)<(↑a.length:Int)) then(
 some 1) else(
 bd (
 yh N a b N 0) fun c=>
 Ex.on c (fun d=>
 some 0) some))
def uk(N:Nat)(a:(List Int))(b:(List Int)):Option Bool:=
 bd (z0g N a b) fun c=>
 some (decide (c=0))
def ma(N:Nat)(m:Mach)(d:(List Int))(b:Int):Nat→Int→Option (Ex (Unit) (Ex (Unit) (Int)))
 |0,_=>none
 |c+1,a=>
  bif decide (a<b) then(
  bd (z03 N m b d) fun e=>
  bd (z03 N m a d) fun f=>
  bd (uk N e f) fun g=>
  bif g then(
  some (Ex.rt (Ex.rt 12))) else(
  gd (in64 (a+1))<|
  ma N m d b c (a+1))) else(
  some (Ex.go ()))
def mf(N:Nat)(m:Mach)(d:(List Int)):Nat→Int→Option (Ex (Unit) (Int))
 |0,_=>none
 |b+1,a=>
  bif decide (a<(↑m.rows.length:Int)) then(
  bd (
  ma N m d a N 0) fun c=>
  Ex.on c (fun e=>
  gd (in64 (a+1))<|
  mf N m d b (a+1)) some) else(
  some (Ex.go ()))
def z3j(N:Nat)(m:Mach)(d:(List Int)):Option Int:=
 bd (z13 N m) fun e=>
 bif decide (e≠0) then(
 some e) else(
 bif decide (256<(↑d.length:Int)) then(
 some 3) else(
 bd (z16 N m d) fun a=>
 bif !a then(
 some 1) else(
 bd (z1i N m) fun b=>
 bif decide (1<(↑b.length:Int)) then(
 some 7) else(
 bd (
 mf N m d N 0) fun c=>
 Ex.on c (fun f=>
 some 0) some))))
def uo(N:Nat)(s:(List Edge))(f:Edge→Option Bool):Nat→Int→Option (Ex (Unit) (Int))
 |0,_=>none
 |c+1,a=>
  bif decide (a<(↑s.length:Int)) then(
  gd (okI s a)<|
  bd (f (ix s a)) fun b=>
  bif b then(
  some (Ex.rt a)) else(
  gd (in64 (a+1))<|
  uo N s f c (a+1))) else(
  some (Ex.go ()))
def rq(N:Nat)(s:(List Edge))(f:Edge→Option Bool):Option Int:=
 bd (
 uo N s f N 0) fun a=>
 Ex.on a (fun b=>
 some (-1)) some
def aa(N:Nat)(s:(List Edge))(f:Edge→Option Bool):Option Bool:=
 bd (rq N s f) fun a=>
 some (decide (0≤a))
def z1x(N:Nat):Option Edge:=
 some (⟨(-1),(-1)⟩:Edge)
def zal(N:Nat)(m:Mach)(x:Edge):Option Bool:=
 bd (z1x N) fun a=>
 some ((decide (x.to=a.to∧x.out=a.out))||((((decide (0≤x.to))&&(decide (x.to<(↑m.rows.length:Int))))&&(decide (0≤x.out)))&&(decide (x.out<m.outputs))))
def z7n(N:Nat)(x:Edge)(p0_:Mach):Option Bool:=
 bd (zal N p0_ x) fun a=>
 some (!a)
def av(N:Nat)(m:Mach):Nat→Int→Option (Ex (Unit) (Int))
 |0,_=>none
 |b+1,a=>
  bif decide (a<(↑m.rows.length:Int)) then(
  gd (okI m.rows a)<|
  bd (gop (true&&((decide ((↑(ix m.rows a).length:Int)≠m.inputs))==false)) (aa N (ix m.rows a) (fun d=>z7n N d m))) fun c=>
  bif (decide ((↑(ix m.rows a).length:Int)≠m.inputs))||(c.getD default) then(
  some (Ex.rt 1)) else(
  gd (in64 (a+1))<|
  av N m b (a+1))) else(
  some (Ex.go ()))
def iq(N:Nat)(m:Mach):Option Int:=
 bif ((decide (16<m.inputs))||(decide (16<m.outputs)))||(decide (64<(↑m.rows.length:Int))) then(
 some 3) else(
 bif ((decide (m.inputs<1))||(decide (m.outputs<1)))||(decide ((↑m.rows.length:Int)<1)) then(
 some 1) else(
 bd (
 av N m N 0) fun a=>
 Ex.on a (fun b=>
 some 0) some))
def z8v(N:Nat)(m:Mach):Option (Mach×Mach×Mach):=
 some (m,m,m)
def z7i(N:Nat)(m:Mach):Option Mach:=
 some m
def tq(N:Nat)(σ:Type)(B:((Int×Int)×Edge)→σ→Option (Bool×σ))(p0_:Mach)(c:Int):Nat→σ→Int→Option (Ex (σ) (σ))
 |0,_,_=>none
 |e+1,d,a=>
  bif decide (a<(↑(ix p0_.rows c).length:Int)) then(
  gd (okI (ix p0_.rows c) a)<|
  bd (B (((c,a):(Int×Int)),(⟨(ix (ix p0_.rows c) a).to,(ix (ix p0_.rows c) a).out⟩:Edge)) d) fun b=>
  bif !b.1 then(
  some (Ex.rt b.2)) else(
  gd (in64 (a+1))<|
  tq N σ B p0_ c e b.2 (a+1))) else(
  some (Ex.go d))
def aj(N:Nat)(σ:Type)(B:((Int×Int)×Edge)→σ→Option (Bool×σ))(p0_:Mach):Nat→σ→Int→Option σ
 |0,_,_=>none
 |e+1,d,a=>
  bif decide (a<(↑p0_.rows.length:Int)) then(
  bd (
  gd (okI p0_.rows a)<|
  tq N σ B p0_ a N d 0) fun b=>
  Ex.on b (fun c=>
  gd (in64 (a+1))<|
  aj N σ B p0_ e c (a+1)) some) else(
  some d)
def z3s(N:Nat)(p0_:Mach)(σ:Type)(B:((Int×Int)×Edge)→σ→Option (Bool×σ))(s0:σ):Option σ:=
 aj N σ B p0_ N s0 0
def z2f(N:Nat)(s:(List (Int×Int))):Option (List (Int×Int)):=
 gd (okS s 0 (↑s.length:Int))<|
 some (cut s 0 (↑s.length:Int))
def z2h(N:Nat)(m:Mach):Option (List (Int×Int)):=
 bd (z7i N m) fun f=>
 bd (z3s N f (List (Int×Int)) (fun a b=>
 bd (z1x N) fun c=>
 bif decide (a.2.to=c.to∧a.2.out=c.out) then(
 gd (fits 16 b ([((a.1.1,a.1.2):(Int×Int))]:List (Int×Int)))<|
 some (true,(b++([((a.1.1,a.1.2):(Int×Int))]:List (Int×Int))))) else(
 some (true,b))) ([]:List (Int×Int))) fun d=>
 bd (z2f N d) fun e=>
 some e
def z3h(N:Nat)(m:Mach):Option (Bool×Int):=
 bd (iq N m) fun b=>
 bif decide (b≠0) then(
 some (false,b)) else(
 bd (z2h N m) fun a=>
 some ((decide ((↑a.length:Int)=0)),0))
def z2z(N:Nat)(p0_:Mach):Option Bool:=
 bd (z3h N p0_) fun a=>
 some a.1
def dn(N:Nat)(self:Int→List Bool→Mach→Option (List Bool))(s:Int)(p1_:Mach):Nat→Int→(List Bool)→Option (List Bool)
 |0,_,_=>none
 |c+1,a,b=>
  bif decide (a<(↑(ix p1_.rows s).length:Int)) then(
  gd (okI (ix p1_.rows s) a)<|
  bd (self ((ix (ix p1_.rows s) a).to) b p1_) fun d=>
  gd (in64 (a+1))<|
  dn N self s p1_ c (a+1) d) else(
  some b)
def p9(N:Nat):Nat→Int→List Bool→Mach→Option (List Bool)
 |0,_,_,_=>none
 |F+1,s,p0_,p1_=>
  gd ((true&&((decide (s=(-1)))==false))=true→okI p0_ s)<|
  bif (decide (s=(-1)))||(ix p0_ s) then(
  some p0_) else(
  gd (okI p0_ s)<|
  gd (okI p1_.rows s)<|
  dn N (p9 N F) s p1_ N 0 (up p0_ s true))
def ng(N:Nat)(s:(List Bool))(v_:Bool):Nat→Int→Option (Ex (Unit) (Int))
 |0,_=>none
 |b+1,a=>
  bif decide (a<(↑s.length:Int)) then(
  gd (okI s a)<|
  bif decide (v_=(ix s a)) then(
  some (Ex.rt a)) else(
  gd (in64 (a+1))<|
  ng N s v_ b (a+1))) else(
  some (Ex.go ()))
def z3f(N:Nat)(s:(List Bool))(v_:Bool):Option Int:=
 bd (
 ng N s v_ N 0) fun a=>
 Ex.on a (fun b=>
 some (-1)) some
def z14(N:Nat)(s:(List Bool))(v_:Bool):Option Bool:=
 bd (z3f N s v_) fun a=>
 some (decide (0≤a))
def z0p(N:Nat)(m:Mach):Option (Bool×Int):=
 bd (iq N m) fun c=>
 bif decide (c≠0) then(
 some (false,c)) else(
 gd (okM 1 (↑m.rows.length:Int))<|
 bd (p9 N N 0 (mk (↑m.rows.length:Int) false) m) fun a=>
 bd (z14 N a false) fun b=>
 some ((!b),0))
def z3m(N:Nat)(p0_:Mach):Option Bool:=
 bd (z0p N p0_) fun a=>
 some a.1
def z6w(N:Nat)(m:Mach):Option Mach:=
 some m
def oz(N:Nat)(m:Mach)(p:(List Int))(s:Int):Nat→Int→(Arr 16 (Int×Int))→Option (Arr 16 (Int×Int))
 |0,_,_=>none
 |c+1,a,b=>
  bif decide (a<(↑(ix m.rows s).length:Int)) then(
  bd (
  gd (okI (ix m.rows s) a)<|
  gd (okI b.1 a)<|
  bif decide (((ix (ix m.rows s) a).to)≠(-1)) then(
  gd (okI p ((ix (ix m.rows s) a).to))<|
  gd (okI (z4f b a (((ix (ix m.rows s) a).out,(-1)):(Int×Int))).1 a)<|
  some (z4f (z4f b a (((ix (ix m.rows s) a).out,(-1)):(Int×Int))) a (((ix (z4f b a (((ix (ix m.rows s) a).out,(-1)):(Int×Int))).1 a).1,(ix p ((ix (ix m.rows s) a).to))):(Int×Int)))) else(
  some (z4f b a (((ix (ix m.rows s) a).out,(-1)):(Int×Int))))) fun d=>
  gd (in64 (a+1))<|
  oz N m p s c (a+1) d) else(
  some b)
def z7d(N:Nat)(m:Mach)(p:(List Int))(s:Int):Option (Arr 16 (Int×Int)):=
 bd (
 gd (okI m.rows s)<|
 oz N m p s N 0 (z9y 16 (List.replicate 16 (((0:Int),(0:Int)):(Int×Int))))) fun a=>
 some a
def ow(N:Nat)(m:Mach)(p:(List Int)):Nat→Int→(List (Sa×Int))→(List Int)→Option (List Int)
 |0,_,_,_=>none
 |f+1,a,b,c=>
  bif decide (a<(↑p.length:Int)) then(
  gd (okI p a)<|
  bd (z7d N m p a) fun d=>
  bd (
  bif !(z6z b (⟨(ix p a),d⟩:Sa)) then(
  some (zek b (⟨(ix p a),d⟩:Sa) (↑b.length:Int))) else(
  some b)) fun e=>
  gd (okI c a)<|
  gd (in64 (a+1))<|
  ow N m p f (a+1) e (up c a (zaf (0:Int) e (⟨(ix p a),d⟩:Sa)))) else(
  some c)
def z4q(N:Nat)(m:Mach)(p:(List Int)):Option (List Int):=
 gd (okM 8 (↑p.length:Int))<|
 bd (
 ow N m p N 0 ([]:List (Sa×Int)) (mk (↑p.length:Int) (0:Int))) fun a=>
 some a
def mr(N:Nat)(s1_:(List Int))(s2_:(List Int)):Nat→Int→Option (Ex (Unit) (Bool))
 |0,_=>none
 |b+1,a=>
  bif decide (a<(↑s1_.length:Int)) then(
  gd (okI s1_ a)<|
  gd (okI s2_ a)<|
  bif decide ((ix s1_ a)≠(ix s2_ a)) then(
  some (Ex.rt false)) else(
  gd (in64 (a+1))<|
  mr N s1_ s2_ b (a+1))) else(
  some (Ex.go ()))
def slices_Equal_int(N:Nat)(s1_:(List Int))(s2_:(List Int)):Option Bool:=
 bif decide ((↑s1_.length:Int)≠(↑s2_.length:Int)) then(
 some false) else(
 bd (
 mr N s1_ s2_ N 0) fun a=>
 Ex.on a (fun b=>
 some true) some)
def rz(N:Nat)(σ:Type)(B:(List Int)→σ→Option (Bool×σ))(p0_:Mach):Nat→σ→(List Int)→Option σ
 |0,_,_=>none
 |d+1,e,b=>
  bd (B b e) fun a=>
  bif a.1 then(
  bd (z4q N p0_ b) fun c=>
  bd (slices_Equal_int N b c) fun f=>
  bif f then(
  some a.2) else(
  rz N σ B p0_ d a.2 c)) else(
  some a.2)
def z5o(N:Nat)(p0_:Mach)(σ:Type)(B:(List Int)→σ→Option (Bool×σ))(s0:σ):Option σ:=
 gd (okM 8 (↑p0_.rows.length:Int))<|
 rz N σ B p0_ N s0 (mk (↑p0_.rows.length:Int) (0:Int))
def z4v(N:Nat)(m:Mach):Option ((List Int)×Int×Int):=
 bd (iq N m) fun a=>
 bif decide (a≠0) then(
 some (([]:(List Int)),0,a)) else(
 bd (z6w N m) fun d=>
 bd (z5o N d ((List Int)×Int) (fun e b=>
 gd (in64 (b.2+1))<|
 some (true,(e,b.2+1))) (([]:(List Int)),(-1))) fun c=>
 some (c.1,c.2,0))
def ib(N:Nat)(x:(List Int)):Nat→Int→Int→Option Int
 |0,_,_=>none
 |c+1,b,a=>
  bif decide (a<(↑x.length:Int)) then(
  gd (okI x a)<|
  gd (in64 (a+1))<|
  ib N x c (max b (ix x a)) (a+1)) else(
  some b)
def slices_Max_int(N:Nat)(x:(List Int)):Option Int:=
 bif decide ((↑x.length:Int)<1) then(
 none) else(
 gd (okI x 0)<|
 bd (
 ib N x N (ix x 0) 1) fun a=>
 some a)
def z3d(N:Nat)(p0_:Mach):Option Bool:=
 bd (z4v N p0_) fun a=>
 bd (slices_Max_int N a.1) fun b=>
 gd (in64 ((↑a.1.length:Int)-1))<|
 some (decide (b=((↑a.1.length:Int)-1)))
def z3z(N:Nat)(m:Mach):Option Int:=
 bd (iq N m) fun e=>
 bif decide (e≠0) then(
 some e) else(
 bd (z8v N m) fun a=>
 bd (z2z N a.1) fun b=>
 bif !b then(
 some 9) else(
 bd (z3m N a.2.1) fun c=>
 bif !c then(
 some 11) else(
 bd (z3d N a.2.2) fun d=>
 bif !d then(
 some 12) else(
 some 0))))
def xu(N:Nat)(s:(List Int))(f:Int→Option Bool):Nat→Int→Option (Ex (Unit) (Int))
 |0,_=>none
 |c+1,a=>
  bif decide (a<(↑s.length:Int)) then(
  gd (okI s a)<|
  bd (f (ix s a)) fun b=>
  bif b then(
  some (Ex.rt a)) else(
  gd (in64 (a+1))<|
  xu N s f c (a+1))) else(
  some (Ex.go ()))
def z0w(N:Nat)(s:(List Int))(f:Int→Option Bool):Option Int:=
 bd (
 xu N s f N 0) fun a=>
 Ex.on a (fun b=>
 some (-1)) some
def ig(N:Nat)(s:(List Int))(f:Int→Option Bool):Option Bool:=
 bd (z0w N s f) fun a=>
 some (decide (0≤a))
def zac(N:Nat)(c:Int)(p0_:Int):Option Bool:=
 some ((decide (c<0))||(decide (p0_≤c)))
def z6n(N:Nat)(w_:(List Int))(inputs:Int):Option Int:=
 bif (decide (16<inputs))||(decide (256<(↑w_.length:Int))) then(
 some 3) else(
 bd (gop (true&&((decide (inputs<1))==false)) (ig N w_ (fun b=>zac N b inputs))) fun a=>
 bif (decide (inputs<1))||(a.getD default) then(
 some 1) else(
 some 0))
def z6s(N:Nat)(m:Mach):Option Int:=
 bd (z0p N m) fun a=>
 bif (decide (a.2=0))&&(!a.1) then(
 some 11) else(
 some a.2)
def za1(N:Nat)(m:Mach)(s:Int):Option (Mach×Int):=
 some (m,s)
def lm(N:Nat)(σ:Type)(B:Sm→σ→Option (Bool×σ))(p0_:Mach)(p1_:Int):Nat→σ→Int→Option σ
 |0,_,_=>none
 |d+1,b,a=>
  bif decide (a<(↑(ix p0_.rows p1_).length:Int)) then(
  bd (
  gd (okI (ix p0_.rows p1_) a)<|
  bif decide (((ix (ix p0_.rows p1_) a).to)≠(-1)) then(
  bd (B (⟨a,(ix (ix p0_.rows p1_) a).to⟩:Sm) b) fun c=>
  bif !c.1 then(
  some (Ex.rt c.2)) else(
  some (Ex.go c.2))) else(
  some (Ex.go b))) fun e=>
  Ex.on e (fun f=>
  gd (in64 (a+1))<|
  lm N σ B p0_ p1_ d f (a+1)) some) else(
  some b)
def z5y(N:Nat)(p0_:Mach)(p1_:Int)(σ:Type)(B:Sm→σ→Option (Bool×σ))(s0:σ):Option σ:=
 gd (okI p0_.rows p1_)<|
 lm N σ B p0_ p1_ N s0 0
def z2i(N:Nat)(m:Mach):Nat→(List Bool)→(List Int)→Option (List Bool)
 |0,_,_=>none
 |g+1,d,a=>
  bif decide (0<(↑a.length:Int)) then(
  gd (in64 ((↑a.length:Int)-1))<|
  gd (okI a ((↑a.length:Int)-1))<|
  gd (in64 ((↑a.length:Int)-1))<|
  gd (okS a 0 ((↑a.length:Int)-1))<|
  bd (za1 N m (ix a ((↑a.length:Int)-1))) fun e=>
  bd (z5y N e.1 e.2 (List Bool×List Int) (fun c b=>
  gd (okI b.1 c.fO)<|
  bif !(ix b.1 c.fO) then(
  gd (okI b.1 c.fO)<|
  gd (fits 8 b.2 ([c.fO]:List Int))<|
  some (true,((up b.1 c.fO true),(b.2++([c.fO]:List Int))))) else(
  some (true,(b.1,b.2)))) (d,(cut a 0 ((↑a.length:Int)-1)))) fun f=>
  z2i N m g f.1 f.2) else(
  some d)
def z8k(N:Nat)(m:Mach)(s:Int):Option (List Bool):=
 gd (okM 1 (↑m.rows.length:Int))<|
 gd (okI (mk (↑m.rows.length:Int) false) s)<|
 bd (
 z2i N m N (up (mk (↑m.rows.length:Int) false) s true) ([s]:List Int)) fun a=>
 some a
def z02(N:Nat)(m:Mach):Nat→Int→(List (List Bool))→Option (List (List Bool))
 |0,_,_=>none
 |c+1,a,b=>
  bif decide (a<(↑(mk (↑m.rows.length:Int) ([]:List Bool)).length:Int)) then(
  bd (z8k N m a) fun d=>
  gd (okI b a)<|
  gd (in64 (a+1))<|
  z02 N m c (a+1) (up b a d)) else(
  some b)
def z2o(N:Nat)(c:List (List Bool))(a:Int):Nat→(List Int)→Option (List Int)
 |0,_=>none
 |d+1,b=>
  gd (okI c a)<|
  gd (okI b a)<|
  gd (okI (ix c a) (ix b a))<|
  gd ((true&&((!(ix (ix c a) (ix b a)))==false))=true→okI b a)<|
  gd ((true&&((!(ix (ix c a) (ix b a)))==false))=true→okI c (ix b a))<|
  gd ((true&&((!(ix (ix c a) (ix b a)))==false))=true→okI (ix c (ix b a)) a)<|
  bif (!(ix (ix c a) (ix b a)))||(!(ix (ix c (ix b a)) a)) then(
  gd (okI b a)<|
  gd (in64 ((ix b a)+1))<|
  gd (okI b a)<|
  z2o N c a d (up b a ((ix b a)+1))) else(
  some b)
def z08(N:Nat)(m:Mach)(b:List (List Bool)):Nat→Int→(List Int)→Option (List Int)
 |0,_,_=>none
 |d+1,a,c=>
  bif decide (a<(↑(mk (↑m.rows.length:Int) (0:Int)).length:Int)) then(
  bd (
  z2o N b a N c) fun e=>
  gd (in64 (a+1))<|
  z08 N m b d (a+1) e) else(
  some c)
def z8s(N:Nat)(m:Mach):Option (List Int):=
 gd (okM 24 (↑m.rows.length:Int))<|
 bd (
 z02 N m N 0 (mk (↑m.rows.length:Int) ([]:List Bool))) fun a=>
 gd (okM 8 (↑m.rows.length:Int))<|
 bd (
 z08 N m a N 0 (mk (↑m.rows.length:Int) (0:Int))) fun b=>
 some b
def z0d(N:Nat)(s:(List Int)):Option (List Int):=
 gd (okS s 0 (↑s.length:Int))<|
 some (cut s 0 (↑s.length:Int))
def z3w(N:Nat)(s:(List (List Int))):Option (List (List Int)):=
 gd (okS s 0 (↑s.length:Int))<|
 some (cut s 0 (↑s.length:Int))
def z05(N:Nat)(b:(List Int))(d:Int):Nat→(List Int)→Int→Option (List Int)
 |0,_,_=>none
 |e+1,c,a=>
  bif decide (a<(↑b.length:Int)) then(
  bd (
  gd (okI b a)<|
  bif decide ((ix b a)=d) then(
  gd (fits 8 c ([a]:List Int))<|
  some (c++([a]:List Int))) else(
  some c)) fun f=>
  gd (in64 (a+1))<|
  z05 N b d e f (a+1)) else(
  some c)
def z01(N:Nat)(b:(List Int)):Nat→(List (List Int))→Int→Option (List (List Int))
 |0,_,_=>none
 |e+1,c,a=>
  bif decide (a<(↑b.length:Int)) then(
  bd (
  gd (okI b a)<|
  bif decide ((ix b a)≠a) then(
  some c) else(
  bd (
  z05 N b a N ([]:List Int) 0) fun f=>
  bd (z0d N f) fun d=>
  gd (fits 24 c ([d]:List (List Int)))<|
  some (c++([d]:List (List Int))))) fun g=>
  gd (in64 (a+1))<|
  z01 N b e g (a+1)) else(
  some c)
def z8l(N:Nat)(m:Mach):Option ((List (List Int))×Int):=
 bd (z6s N m) fun d=>
 bif decide (d≠0) then(
 some (([]:(List (List Int))),d)) else(
 bd (z8s N m) fun b=>
 bd (
 z01 N b N ([]:List (List Int)) 0) fun c=>
 bd (z3w N c) fun a=>
 some (a,0))
def z5f(N:Nat)(m:Mach)(s:Int):Option Int:=
 bd (iq N m) fun a=>
 bif decide (a≠0) then(
 some a) else(
 bif (decide (s<0))||(decide ((↑m.rows.length:Int)≤s)) then(
 some 1) else(
 some 0))
def z0b(N:Nat)(m:Mach)(w_:(List Int)):Nat→Int→Int→(List Int)→Option (Int×List Int)
 |0,_,_,_=>none
 |f+1,b,a,c=>
  bif decide (a<(↑w_.length:Int)) then(
  gd (okI w_ a)<|
  bd (z1x N) fun d=>
  bd (
  bif decide (b≠(-1)) then(
  gd (okI m.rows b)<|
  gd (okI (ix m.rows b) (ix w_ a))<|
  some ((ix (ix m.rows b) (ix w_ a)).to,(ix (ix m.rows b) (ix w_ a)).out)) else(
  some (d.to,d.out))) fun e=>
  gd (okI c a)<|
  gd (in64 (a+1))<|
  z0b N m w_ f e.1 (a+1) (up c a e.2)) else(
  some (b,c))
def z7a(N:Nat)(m:Mach)(s:Int)(w_:(List Int)):Option ((List Int)×Int):=
 gd (okM 8 (↑w_.length:Int))<|
 bd (
 z0b N m w_ N s 0 (mk (↑w_.length:Int) (0:Int))) fun a=>
 some (a.2,a.1)
def z7h(N:Nat)(m:Mach)(s:Int)(w_:(List Int)):Option ((List Int)×Int):=
 bd (z5f N m s) fun c=>
 bif decide (c≠0) then(
 some (([]:(List Int)),c)) else(
 bd (z6n N w_ m.inputs) fun a=>
 bif decide (a≠0) then(
 some (([]:(List Int)),a)) else(
 bd (z7a N m s w_) fun b=>
 some (b.1,0)))
def yw(N:Nat)(s:(List (List Int)))(f:(List Int)→Option Bool):Nat→Int→Option (Ex (Unit) (Int))
 |0,_=>none
 |c+1,a=>
  bif decide (a<(↑s.length:Int)) then(
  gd (okI s a)<|
  bd (f (ix s a)) fun b=>
  bif b then(
  some (Ex.rt a)) else(
  gd (in64 (a+1))<|
  yw N s f c (a+1))) else(
  some (Ex.go ()))
def z2s(N:Nat)(s:(List (List Int)))(f:(List Int)→Option Bool):Option Int:=
 bd (
 yw N s f N 0) fun a=>
 Ex.on a (fun b=>
 some (-1)) some
def l7(N:Nat)(s:(List (List Int)))(f:(List Int)→Option Bool):Option Bool:=
 bd (z2s N s f) fun a=>
 some (decide (0≤a))
def z98(N:Nat)(r_:(List Int))(p0_:(List Int)):Option Bool:=
 bd (slices_Equal_int N r_ p0_) fun a=>
 some a
def z0r(N:Nat)(m:Mach)(d:(List Int)):Nat→(List (List Int))→Int→Option (Ex (Unit) (Int))
 |0,_,_=>none
 |e+1,b,a=>
  bif decide (a<(↑m.rows.length:Int)) then(
  bd (z7h N m a d) fun c=>
  bd (l7 N b (fun g=>z98 N g c.1)) fun f=>
  bif f then(
  some (Ex.rt 12)) else(
  gd (fits 24 b ([c.1]:List (List Int)))<|
  gd (in64 (a+1))<|
  z0r N m d e (b++([c.1]:List (List Int))) (a+1))) else(
  some (Ex.go ()))
def z5g(N:Nat)(m:Mach)(d:(List Int)):Option Int:=
 bd (z3z N m) fun e=>
 bif decide (e≠0) then(
 some e) else(
 bd (z6n N d m.inputs) fun b=>
 bif decide (b≠0) then(
 some b) else(
 bd (z8l N m) fun a=>
 bif decide (a.2≠0) then(
 some a.2) else(
 bif decide (1<(↑a.1.length:Int)) then(
 some 7) else(
 bd (
 z0r N m d N ([]:List (List Int)) 0) fun c=>
 Ex.on c (fun f=>
 some 0) some))))
def z5j(N:Nat):Option Mach:=
 some (⟨2,2,([([(⟨1,0⟩:Edge),(⟨0,0⟩:Edge)]:List Edge),([(⟨0,1⟩:Edge),(⟨1,0⟩:Edge)]:List Edge)]:List (List Edge))⟩:Mach)
def z4n(N:Nat)(m:Mach)(b:Int)(c:List Int):Nat→Int→(List (List Int))→(List Bool)→(List Int)→Option (List (List Int)×List Bool×List Int)
 |0,_,_,_,_=>none
 |i+1,a,d,e,g=>
  bif decide (a<(↑(ix m.rows (ix c b)).length:Int)) then(
  bd (
  gd (okI (ix m.rows (ix c b)) a)<|
  gd (okI e ((ix (ix m.rows (ix c b)) a).to))<|
  bif !(ix e ((ix (ix m.rows (ix c b)) a).to)) then(
  gd (okI e ((ix (ix m.rows (ix c b)) a).to))<|
  gd (okI d (ix c b))<|
  bd (z0d N (ix d (ix c b))) fun h=>
  gd (fits 8 h ([a]:List Int))<|
  gd (okI d ((ix (ix m.rows (ix c b)) a).to))<|
  gd (fits 8 g ([(ix (ix m.rows (ix c b)) a).to]:List Int))<|
  some ((up d ((ix (ix m.rows (ix c b)) a).to) (h++([a]:List Int))),(up e ((ix (ix m.rows (ix c b)) a).to) true),(g++([(ix (ix m.rows (ix c b)) a).to]:List Int)))) else(
  some (d,e,g))) fun f=>
  gd (in64 (a+1))<|
  z4n N m b c i (a+1) f.1 f.2.1 f.2.2) else(
  some (d,e,g))
def z4r(N:Nat)(m:Mach):Nat→Int→(List (List Int))→(List Bool)→(List Int)→Option (List (List Int))
 |0,_,_,_,_=>none
 |e+1,a,d,f,b=>
  bif decide (a<(↑b.length:Int)) then(
  bd (
  gd (okI b a)<|
  gd (okI m.rows (ix b a))<|
  z4n N m a b N 0 d f b) fun c=>
  gd (in64 (a+1))<|
  z4r N m e (a+1) c.1 c.2.1 c.2.2) else(
  some d)
def zc0(N:Nat)(m:Mach)(s:Int):Option (List (List Int)):=
 gd (okM 24 (↑m.rows.length:Int))<|
 gd (okM 1 (↑m.rows.length:Int))<|
 gd (okI (mk (↑m.rows.length:Int) false) s)<|
 bd (
 z4r N m N 0 (mk (↑m.rows.length:Int) ([]:List Int)) (up (mk (↑m.rows.length:Int) false) s true) ([s]:List Int)) fun a=>
 some a
def z6u(N:Nat)(s:Int)(x_0_:Int)(x_1_:Int)(x_2_:(List (List Edge)))(x_3_:(List Int))(x_4_:List Int)(x_5_:(List (List (List Int))))(x_69_:Int)(x_70_:Int):Option (List (List (List Int))):=
 bd (zc0 N (⟨x_0_,x_1_,x_2_⟩:Mach) s) fun a=>
 gd ((0:Int)≤s∧s<(64:Nat))<|
 some (up x_5_ s a)
def z1j(N:Nat)(l_:(List (List Int)))(x_2_:(List (List Edge)))(c:Int):Nat→Int→Int→Option Int
 |0,_,_=>none
 |d+1,a,b=>
  bif decide (a<(↑(ix l_ c).length:Int)) then(
  gd (okI (ix l_ c) a)<|
  gd (okI x_2_ b)<|
  gd (okI (ix x_2_ b) (ix (ix l_ c) a))<|
  gd (in64 (a+1))<|
  z1j N l_ x_2_ c d (a+1) ((ix (ix x_2_ b) (ix (ix l_ c) a)).to)) else(
  some b)
def z1m(N:Nat)(l_:(List (List Int)))(x_2_:(List (List Edge))):Nat→Int→Int→(List Int)→Option (Int×List Int)
 |0,_,_,_=>none
 |e+1,a,d,b=>
  bif decide (a<(↑l_.length:Int)) then(
  gd (okI l_ a)<|
  bd (
  z1j N l_ x_2_ a N 0 d) fun c=>
  gd (fits 8 b (ix l_ a))<|
  gd (in64 (a+1))<|
  z1m N l_ x_2_ e (a+1) c (b++(ix l_ a))) else(
  some (d,b))
def z1l(N:Nat)(x_2_:(List (List Edge)))(x_3_:(List Int)):Nat→Int→Int→Option Int
 |0,_,_=>none
 |c+1,a,b=>
  bif decide (a<(↑x_3_.length:Int)) then(
  gd (okI x_3_ a)<|
  gd (okI x_2_ b)<|
  gd (okI (ix x_2_ b) (ix x_3_ a))<|
  gd (in64 (a+1))<|
  z1l N x_2_ x_3_ c (a+1) ((ix (ix x_2_ b) (ix x_3_ a)).to)) else(
  some b)
def z1y(N:Nat)(l_:(List (List Int)))(x_0_:Int)(x_1_:Int)(x_2_:(List (List Edge)))(x_3_:(List Int))(x_4_:List Int)(x_5_:(List (List (List Int))))(x_69_:Int)(x_70_:Int):Option (List Int×Int×Int):=
 bd (
 z1m N l_ x_2_ N 0 x_69_ x_4_) fun a=>
 bd (
 z1l N x_2_ x_3_ N 0 a.1) fun b=>
 gd (fits 8 a.2 x_3_)<|
 some ((a.2++x_3_),b,a.1)
def z4s(N:Nat)(m:Mach)(d:(List Int)):Nat→Int→(List Int)→(List (List (List Int)))→Option (List Int×(List (List (List Int))))
 |0,_,_,_=>none
 |e+1,a,b,c=>
  bif decide (a<(↑m.rows.length:Int)) then(
  bd (z6u N a m.inputs m.outputs m.rows d b c 0 0) fun f=>
  gd (in64 (a+1))<|
  z4s N m d e (a+1) b f) else(
  some (b,c))
def z4p(N:Nat)(m:Mach)(d:(List Int))(c:List Int×(List (List (List Int)))):Nat→Int→Int→Int→(List Int)→(List Sd)→Option (Int×Int×List Int×List Sd)
 |0,_,_,_,_,_=>none
 |i+1,a,b,e,h,f=>
  bif decide (a<(↑m.rows.length:Int)) then(
  gd (in64 (a+1))<|
  gd (okR (a+1) (↑m.rows.length:Int))<|
  gd ((0:Int)≤b∧b<(64:Nat))<|
  gd (okI (ix c.2 b) ((a+1)%(↑m.rows.length:Int)))<|
  gd (okI f ((a+1)%(↑m.rows.length:Int)))<|
  gd (okI (up f ((a+1)%(↑m.rows.length:Int)) (⟨e,(ix (ix c.2 b) ((a+1)%(↑m.rows.length:Int)))⟩:Sd)) ((a+1)%(↑m.rows.length:Int)))<|
  bd (z1y N ([(ix (up f ((a+1)%(↑m.rows.length:Int)) (⟨e,(ix (ix c.2 b) ((a+1)%(↑m.rows.length:Int)))⟩:Sd)) ((a+1)%(↑m.rows.length:Int))).fZ]:List (List Int)) m.inputs m.outputs m.rows d h c.2 b e) fun g=>
  gd (in64 (a+1))<|
  z4p N m d c i (a+1) g.2.1 g.2.2 g.1 (up f ((a+1)%(↑m.rows.length:Int)) (⟨e,(ix (ix c.2 b) ((a+1)%(↑m.rows.length:Int)))⟩:Sd))) else(
  some (b,e,h,f))
def z4m(N:Nat)(m:Mach)(d:(List Int))(h:List Int×(List (List (List Int))))(c:Int×Int×List Int×List Sd)(a:Int):Nat→Int→Int→Int→(List Int)→Option (Ex (Int×Int×List Int) (Ex (Int×Int×List Int) ((List Int)×Int)))
 |0,_,_,_,_=>none
 |l+1,e,b,f,i=>
  bif decide (e<m.inputs) then(
  bd (
  gd (okI c.2.2.2 a)<|
  bif decide (f≠((ix c.2.2.2 a).fQ)) then(
  gd ((0:Int)≤b∧b<(64:Nat))<|
  gd (okI c.2.2.2 a)<|
  gd (okI (ix h.2 b) ((ix c.2.2.2 a).fQ))<|
  bd (z1y N ([(ix (ix h.2 b) ((ix c.2.2.2 a).fQ))]:List (List Int)) m.inputs m.outputs m.rows d i h.2 b f) fun j=>
  some (j.2.1,j.2.2,j.1)) else(
  some (b,f,i))) fun k=>
  gd (okI c.2.2.2 a)<|
  bd (z1y N ([(ix c.2.2.2 a).fZ,([e]:List Int)]:List (List Int)) m.inputs m.outputs m.rows d k.2.2 h.2 k.1 k.2.1) fun g=>
  bif decide (1024<(↑g.1.length:Int)) then(
  some (Ex.rt (Ex.rt (([]:(List Int)),3)))) else(
  gd (in64 (e+1))<|
  z4m N m d h c a l (e+1) g.2.1 g.2.2 g.1)) else(
  some (Ex.go (b,f,i)))
def z4l(N:Nat)(m:Mach)(d:(List Int))(g:List Int×(List (List (List Int))))(h:Int×Int×List Int×List Sd):Nat→Int→Int→Int→(List Int)→Option (Ex (Int×Int×List Int) ((List Int)×Int))
 |0,_,_,_,_=>none
 |i+1,a,c,e,f=>
  bif decide (a<(↑m.rows.length:Int)) then(
  bd (
  z4m N m d g h a N 0 c e f) fun j=>
  Ex.on j (fun b=>
  gd (in64 (a+1))<|
  z4l N m d g h i (a+1) b.1 b.2.1 b.2.2) some) else(
  some (Ex.go (c,e,f)))
def zbg(N:Nat)(m:Mach)(d:(List Int)):Option ((List Int)×Int):=
 bd (z5g N m d) fun h=>
 bif decide (h≠0) then(
 some (([]:(List Int)),h)) else(
 bd (
 z4s N m d N 0 ([]:List Int) ((List.replicate 64 []):List (List (List Int)))) fun a=>
 bd (z1y N ([]:(List (List Int))) m.inputs m.outputs m.rows d a.1 a.2 0 0) fun c=>
 gd (okM 32 (↑m.rows.length:Int))<|
 bd (
 z4p N m d a N 0 c.2.1 c.2.2 c.1 (mk (↑m.rows.length:Int) (⟨(0:Int),([]:List Int)⟩:Sd))) fun b=>
 bd (
 z4l N m d a b N 0 b.1 b.2.1 b.2.2.1) fun e=>
 Ex.on e (fun f=>
 bd (z0d N f.2.2) fun g=>
 some (g,0)) some)
def zai(N:Nat)(i:Int)(p0_:Mach):Option Bool:=
 some ((decide (i<0))||(decide (p0_.inputs≤i)))
def z6j(N:Nat)(m:Mach)(w_:(List Int)):Option Int:=
 bif decide (1024<(↑w_.length:Int)) then(
 some 3) else(
 bd (ig N w_ (fun a=>zai N a m)) fun b=>
 bif b then(
 some 1) else(
 some 0))
def dm(N:Nat)(i:Int)(j:Int)(t_3_:(List Int))(t_5_:List Bool):Nat→Int→(List Bool)→Option (List Bool)
 |0,_,_=>none
 |d+1,a,b=>
  gd (in64 ((max i j)+a))<|
  gd ((true&&((decide (((max i j)+a)<(↑t_3_.length:Int)))==true))=true→in64 (i+a))<|
  gd ((true&&((decide (((max i j)+a)<(↑t_3_.length:Int)))==true))=true→okI t_3_ (i+a))<|
  gd ((true&&((decide (((max i j)+a)<(↑t_3_.length:Int)))==true))=true→in64 (j+a))<|
  gd ((true&&((decide (((max i j)+a)<(↑t_3_.length:Int)))==true))=true→okI t_3_ (j+a))<|
  bif (decide (((max i j)+a)<(↑t_3_.length:Int)))&&(decide ((ix t_3_ (i+a))=(ix t_3_ (j+a)))) then(
  bd (
  gd (in64 (i+a))<|
  gd (in64 ((i+a)+1))<|
  gd (okI t_5_ ((i+a)+1))<|
  bif (ix t_5_ ((i+a)+1)) then(
  gd (in64 (j+a))<|
  gd (in64 ((j+a)+1))<|
  gd (okI b ((j+a)+1))<|
  some (up b ((j+a)+1) true)) else(
  some b)) fun c=>
  gd (in64 (a+1))<|
  dm N i j t_3_ t_5_ d (a+1) c) else(
  some b)
def z10(N:Nat)(i:Int)(j:Int)(t_0_:Int)(t_1_:Int)(t_2_:(List (List Edge)))(t_3_:(List Int))(t_4_:List Int)(t_5_:List Bool)(t_6_:List Bool):Option (List Bool):=
 dm N i j t_3_ t_5_ N 0 t_6_
def sj(N:Nat)(m:Mach)(w_:(List Int)):Nat→Int→(List Int)→Option (List Int)
 |0,_,_=>none
 |c+1,a,b=>
  bif decide (a<(↑w_.length:Int)) then(
  gd (okI w_ a)<|
  gd (okI b a)<|
  gd (okI m.rows (ix b a))<|
  gd (okI (ix m.rows (ix b a)) (ix w_ a))<|
  gd (fits 8 b ([(ix (ix m.rows (ix b a)) (ix w_ a)).to]:List Int))<|
  gd (in64 (a+1))<|
  sj N m w_ c (a+1) (b++([(ix (ix m.rows (ix b a)) (ix w_ a)).to]:List Int))) else(
  some b)
def iy(N:Nat)(d:(List Int))(w_:(List Int))(f:List Int):Nat→Int→(List Bool)→(List Bool)→Option (List Bool×List Bool)
 |0,_,_,_=>none
 |g+1,a,b,c=>
  bif decide (a<(↑f.length:Int)) then(
  gd (in64 (a+(↑d.length:Int)))<|
  gd ((true&&((decide ((a+(↑d.length:Int))≤(↑w_.length:Int)))==true))=true→in64 (a+(↑d.length:Int)))<|
  gd ((true&&((decide ((a+(↑d.length:Int))≤(↑w_.length:Int)))==true))=true→okS w_ a (a+(↑d.length:Int)))<|
  bd (gop (true&&((decide ((a+(↑d.length:Int))≤(↑w_.length:Int)))==true)) (slices_Equal_int N (cut w_ a (a+(↑d.length:Int))) d)) fun e=>
  gd (okI b a)<|
  gd (okI (up b a ((decide ((a+(↑d.length:Int))≤(↑w_.length:Int)))&&(e.getD default))) a)<|
  gd (okI c a)<|
  gd (in64 (a+1))<|
  iy N d w_ f g (a+1) (up b a ((decide ((a+(↑d.length:Int))≤(↑w_.length:Int)))&&(e.getD default))) (up c a (ix (up b a ((decide ((a+(↑d.length:Int))≤(↑w_.length:Int)))&&(e.getD default))) a))) else(
  some (b,c))
def su(N:Nat)(m:Mach)(w_:(List Int))(d:List Int)(c:List Bool×List Bool)(b:Int):Nat→Int→(List Bool)→Option (List Bool)
 |0,_,_=>none
 |f+1,a,e=>
  bif decide (a<(↑d.length:Int)) then(
  bd (
  gd ((true&&((decide (a≠b))==true))=true→okI c.1 a)<|
  gd ((true&&(((decide (a≠b))&&(ix c.1 a))==true))=true→okI c.1 b)<|
  gd ((true&&((((decide (a≠b))&&(ix c.1 a))&&(ix c.1 b))==true))=true→okI d a)<|
  gd ((true&&((((decide (a≠b))&&(ix c.1 a))&&(ix c.1 b))==true))=true→okI d b)<|
  bif (((decide (a≠b))&&(ix c.1 a))&&(ix c.1 b))&&(decide ((ix d a)=(ix d b))) then(
  bd (z10 N a b m.inputs m.outputs m.rows w_ d c.1 e) fun g=>
  some g) else(
  some e)) fun h=>
  gd (in64 (a+1))<|
  su N m w_ d c b f (a+1) h) else(
  some e)
def af(N:Nat)(m:Mach)(w_:(List Int))(d:List Int)(b:List Bool×List Bool):Nat→Int→(List Bool)→Option (List Bool)
 |0,_,_=>none
 |e+1,a,c=>
  bif decide (a<(↑d.length:Int)) then(
  bd (
  su N m w_ d b a N 0 c) fun f=>
  gd (in64 (a+1))<|
  af N m w_ d b e (a+1) f) else(
  some c)
def z0u(N:Nat)(m:Mach)(d:(List Int))(w_:(List Int)):Option ((Option Sg)×Int):=
 bd (z5g N m d) fun f=>
 bif decide (f≠0) then(
 some ((none:(Option Sg)),f)) else(
 bd (z6j N m w_) fun c=>
 bif decide (c≠0) then(
 some ((none:(Option Sg)),c)) else(
 gd (in64 ((↑w_.length:Int)+1))<|
 gd (okM 8 ((↑w_.length:Int)+1)∧0≤(1:Int)∧(1:Int)≤(↑w_.length:Int)+1)<|
 gd (in64 ((↑w_.length:Int)+1))<|
 gd (okM 1 ((↑w_.length:Int)+1))<|
 gd (in64 ((↑w_.length:Int)+1))<|
 gd (okM 1 ((↑w_.length:Int)+1))<|
 bd (
 sj N m w_ N 0 (mk 1 (0:Int))) fun b=>
 bd (
 iy N d w_ b N 0 (mk ((↑w_.length:Int)+1) false) (mk ((↑w_.length:Int)+1) false)) fun a=>
 bd (
 af N m w_ b a N 0 a.2) fun e=>
 some ((some (⟨(⟨m.inputs,m.outputs,m.rows⟩:Mach),w_,b,a.1,e⟩:Sg)),0)))
def z3k(N:Nat)(s:List Int):Option (List Int):=
 gd (okS s 0 (↑s.length:Int))<|
 some (cut s 0 (↑s.length:Int))
def z2d(N:Nat)(s:(List Int)):Option (List Int):=
 gd (fits 8 ([]:List Int) s)<|
 some (([]:List Int)++s)
def mo(N:Nat)(marks:(List Bool)):Nat→Int→(List Int)→Option (List Int)
 |0,_,_=>none
 |c+1,a,b=>
  bif decide (a<(↑marks.length:Int)) then(
  bd (
  gd (okI marks a)<|
  bif !(ix marks a) then(
  gd (okI b a)<|
  some (up b a (-1))) else(
  some b)) fun d=>
  gd (in64 (a+1))<|
  mo N marks c (a+1) d) else(
  some b)
def z0n(N:Nat)(t:Sg)(marks:(List Bool)):Option (List Int):=
 bd (z2d N t.fK) fun c=>
 bd (z3k N c) fun a=>
 bd (
 mo N marks N 0 a) fun b=>
 some b
def fw(N:Nat)(m:Mach)(d:(List Int))(w_:(List Int)):Option ((List Int)×Int):=
 bd (z0u N m d w_) fun a=>
 bif decide (a.2≠0) then(
 some (([]:(List Int)),a.2)) else(
 gd (a.1.isSome=true)<|
 bd (z0n N (a.1.getD default) ((a.1.getD default).fAa)) fun b=>
 some (b,0))
def z3g(N:Nat)(m:Mach)(d:(List Int))(w_:(List Int)):Option ((List Int)×Int):=
 bd (z0u N m d w_) fun a=>
 bif decide (a.2≠0) then(
 some (([]:(List Int)),a.2)) else(
 gd (a.1.isSome=true)<|
 bd (z0n N (a.1.getD default) ((a.1.getD default).fI)) fun b=>
 some (b,0))
def z3r(N:Nat)(w_:(List Int))(b:(Option Sg)×Int):Nat→Int→(List Bool)→(List ((Int×Int)×Bool))→Option (Sg×List Bool×List ((Int×Int)×Bool))
 |0,_,_,_=>none
 |f+1,a,c,d=>
  bif decide (a<(↑((b.1.getD default).fK).length:Int)) then(
  bd (
  gd (okI ((b.1.getD default).fK) a)<|
  gd (okI c (ix ((b.1.getD default).fK) a))<|
  gd ((true&&((ix c (ix ((b.1.getD default).fK) a))==false))=true→okI ((b.1.getD default).fAa) a)<|
  gd (okI c (ix ((b.1.getD default).fK) a))<|
  gd ((true&&((decide (a<(↑w_.length:Int)))==true))=true→okI ((b.1.getD default).fI) a)<|
  gd ((true&&(((decide (a<(↑w_.length:Int)))&&(ix ((b.1.getD default).fI) a))==true))=true→in64 (a+1))<|
  gd ((true&&(((decide (a<(↑w_.length:Int)))&&(ix ((b.1.getD default).fI) a))==true))=true→okI ((b.1.getD default).fI) (a+1))<|
  bif ((decide (a<(↑w_.length:Int)))&&(ix ((b.1.getD default).fI) a))&&(ix ((b.1.getD default).fI) (a+1)) then(
  gd (okI w_ a)<|
  some ((up c (ix ((b.1.getD default).fK) a) ((ix c (ix ((b.1.getD default).fK) a))||(ix ((b.1.getD default).fAa) a))),(zek d (((ix ((b.1.getD default).fK) a),(ix w_ a)):(Int×Int)) true))) else(
  some ((up c (ix ((b.1.getD default).fK) a) ((ix c (ix ((b.1.getD default).fK) a))||(ix ((b.1.getD default).fAa) a))),d))) fun e=>
  gd (in64 (a+1))<|
  z3r N w_ b f (a+1) e.1 e.2) else(
  some ((b.1.getD default),c,d))
def z4e(N:Nat)(m:Mach)(e:Sg×List Bool×List ((Int×Int)×Bool))(b:Int)(d:List Int):Nat→Int→(List (Int×Int))→Option (List Int×List (Int×Int))
 |0,_,_=>none
 |f+1,a,c=>
  bif decide (a<m.inputs) then(
  bd (
  bif !(zaf false e.2.2 ((b,a):(Int×Int))) then(
  gd (fits 16 c ([((b,a):(Int×Int))]:List (Int×Int)))<|
  some (c++([((b,a):(Int×Int))]:List (Int×Int)))) else(
  some c)) fun g=>
  gd (in64 (a+1))<|
  z4e N m e b d f (a+1) g) else(
  some (d,c))
def z4a(N:Nat)(m:Mach)(c:Sg×List Bool×List ((Int×Int)×Bool)):Nat→Int→(List Int)→(List (Int×Int))→Option (List Int×List (Int×Int))
 |0,_,_,_=>none
 |f+1,a,b,d=>
  bif decide (a<(↑m.rows.length:Int)) then(
  bd (
  bd (
  gd (okI c.2.1 a)<|
  bif !(ix c.2.1 a) then(
  gd (fits 8 b ([a]:List Int))<|
  some (b++([a]:List Int))) else(
  some b)) fun g=>
  z4e N m c a g N 0 d) fun e=>
  gd (in64 (a+1))<|
  z4a N m c f (a+1) e.1 e.2) else(
  some (b,d))
def zaj(N:Nat)(m:Mach)(d:(List Int))(w_:(List Int)):Option (Sc×Int):=
 bd (z0u N m d w_) fun f=>
 bif decide (f.2≠0) then(
 some ((⟨false,[],[]⟩:Sc),f.2)) else(
 gd (okM 1 (↑m.rows.length:Int))<|
 bd (
 gd (f.1.isSome=true)<|
 z3r N w_ f N 0 (mk (↑m.rows.length:Int) false) ([]:List ((Int×Int)×Bool))) fun b=>
 gd (okI b.1.fI 0)<|
 bd (
 z4a N m b N 0 ([]:List Int) ([]:List (Int×Int))) fun a=>
 bd (z0d N a.1) fun c=>
 bd (z2f N a.2) fun e=>
 some ((⟨(ix b.1.fI 0),c,e⟩:Sc),0))
def z2l(N:Nat)(m:Mach)(w_:(List Int)):Nat→Int→Int→(List Int)→Option (List Int)
 |0,_,_,_=>none
 |e+1,b,a,c=>
  bif decide (a<(↑w_.length:Int)) then(
  gd (okI w_ a)<|
  bd (
  bif decide (b≠(-1)) then(
  gd (okI m.rows b)<|
  gd (okI (ix m.rows b) (ix w_ a))<|
  some ((ix (ix m.rows b) (ix w_ a)).to,(ix (ix m.rows b) (ix w_ a)).out)) else(
  some ((-1),(-1)))) fun d=>
  gd (c.length+([d.2]:List Int).length≤(↑w_.length:Int).toNat)<|
  gd (in64 (a+1))<|
  z2l N m w_ e d.1 (a+1) (c++([d.2]:List Int))) else(
  some c)
def z8u(N:Nat)(m:Mach)(w_:(List Int)):Option ((List Int)×Int):=
 bd (iq N m) fun c=>
 bif decide (c≠0) then(
 some (([]:(List Int)),c)) else(
 bd (z6j N m w_) fun a=>
 bif decide (a≠0) then(
 some (([]:(List Int)),a)) else(
 gd (okM 8 (↑w_.length:Int)∧0≤(0:Int)∧(0:Int)≤(↑w_.length:Int))<|
 bd (
 z2l N m w_ N 0 0 (mk 0 (0:Int))) fun b=>
 gd (b.length=(↑w_.length:Int).toNat)<|
 some (b,0)))
def z0i(N:Nat)(a:Sc)(b:Sc):Nat→Int→Option (Ex (Unit) (Bool))
 |0,_=>none
 |d+1,c=>
  bif decide (c<(↑a.fE.length:Int)) then(
  gd (okI a.fE c)<|
  gd (okI b.fE c)<|
  bif decide (¬(((ix a.fE c).1)=((ix b.fE c).1)∧((ix a.fE c).2)=((ix b.fE c).2))) then(
  some (Ex.rt false)) else(
  gd (in64 (c+1))<|
  z0i N a b d (c+1))) else(
  some (Ex.go ()))
def z6e(N:Nat)(a:Sc)(b:Sc):Option Bool:=
 bd (gop (true&&((decide (a.fJ≠b.fJ))==false)) (uk N a.fC b.fC)) fun c=>
 bif ((decide (a.fJ≠b.fJ))||(!(c.getD default)))||(decide ((↑a.fE.length:Int)≠(↑b.fE.length:Int))) then(
 some false) else(
 bd (
 z0i N a b N 0) fun d=>
 Ex.on d (fun e=>
 some true) some)
def z1p(N:Nat):Option Bool:=
 bd (z5j N) fun c=>
 bd (zbg N (⟨c.inputs,c.outputs,c.rows⟩:Mach) ([0]:List Int)) fun e=>
 bd (fw N (⟨c.inputs,c.outputs,c.rows⟩:Mach) ([0]:List Int) ([0,1,0,0,0]:List Int)) fun f=>
 bd (z3g N (⟨c.inputs,c.outputs,c.rows⟩:Mach) ([0]:List Int) ([0,1,0,0,0]:List Int)) fun g=>
 bd (zaj N (⟨c.inputs,c.outputs,c.rows⟩:Mach) ([0]:List Int) ([0,1,0,0,0]:List Int)) fun a=>
 bd (z8u N (⟨c.inputs,c.outputs,c.rows⟩:Mach) ([0,0,1,0]:List Int)) fun h=>
 bd (gop (true&&((((((decide (e.2=0))&&(decide (f.2=0)))&&(decide (g.2=0)))&&(decide (a.2=0)))&&(decide (h.2=0)))==true)) (uk N e.1 ([0,0,0,0,0,0,1,0,0,0,1,0]:List Int))) fun b=>
 bd (gop (true&&(((((((decide (e.2=0))&&(decide (f.2=0)))&&(decide (g.2=0)))&&(decide (a.2=0)))&&(decide (h.2=0)))&&(b.getD default))==true)) (uk N f.1 ([0,(-1),1,0,1,(-1)]:List Int))) fun d=>
 bd (gop (true&&((((((((decide (e.2=0))&&(decide (f.2=0)))&&(decide (g.2=0)))&&(decide (a.2=0)))&&(decide (h.2=0)))&&(b.getD default))&&(d.getD default))==true)) (uk N g.1 ([0,1,1,0,1,0]:List Int))) fun i=>
 bd (gop (true&&(((((((((decide (e.2=0))&&(decide (f.2=0)))&&(decide (g.2=0)))&&(decide (a.2=0)))&&(decide (h.2=0)))&&(b.getD default))&&(d.getD default))&&(i.getD default))==true)) (z6e N (⟨a.1.fJ,a.1.fC,a.1.fE⟩:Sc) (⟨true,([]:(List Int)),([((0,1):(Int×Int))]:List (Int×Int))⟩:Sc))) fun j=>
 bd (gop (true&&((((((((((decide (e.2=0))&&(decide (f.2=0)))&&(decide (g.2=0)))&&(decide (a.2=0)))&&(decide (h.2=0)))&&(b.getD default))&&(d.getD default))&&(i.getD default))&&(j.getD default))==true)) (uk N h.1 ([0,1,0,0]:List Int))) fun k=>
 bd (gop (true&&(((((((((((decide (e.2=0))&&(decide (f.2=0)))&&(decide (g.2=0)))&&(decide (a.2=0)))&&(decide (h.2=0)))&&(b.getD default))&&(d.getD default))&&(i.getD default))&&(j.getD default))&&(k.getD default))==true)) (z5g N (⟨c.inputs,c.outputs,c.rows⟩:Mach) ([1]:List Int))) fun l=>
 bd (gop (true&&((((((((((((decide (e.2=0))&&(decide (f.2=0)))&&(decide (g.2=0)))&&(decide (a.2=0)))&&(decide (h.2=0)))&&(b.getD default))&&(d.getD default))&&(i.getD default))&&(j.getD default))&&(k.getD default))&&(decide ((l.getD default)=12)))==true)) (z5g N (⟨c.inputs,c.outputs,c.rows⟩:Mach) ([]:(List Int)))) fun m=>
 some ((((((((((((decide (e.2=0))&&(decide (f.2=0)))&&(decide (g.2=0)))&&(decide (a.2=0)))&&(decide (h.2=0)))&&(b.getD default))&&(d.getD default))&&(i.getD default))&&(j.getD default))&&(k.getD default))&&(decide ((l.getD default)=12)))&&(decide ((m.getD default)=12)))
def lh(N:Nat)(l_:(List Int))(k:Int):Option Int:=
 bif decide (k<(↑l_.length:Int)) then(
 gd (okI l_ k)<|
 gd (in64 (ix l_ k))<|
 some (ix l_ k)) else(
 some 0)
def dh(N:Nat)(x:Sb)(b:Int):Nat→(List Edge)→Int→Option (List Edge)
 |0,_,_=>none
 |e+1,d,a=>
  bif decide (a<((1:Int)+(x.fA%3))) then(
  gd (in64 (b*((1:Int)+(x.fA%3))))<|
  gd (in64 ((b*((1:Int)+(x.fA%3)))+a))<|
  bd (lh N x.fE ((b*((1:Int)+(x.fA%3)))+a)) fun c=>
  gd (okQ c ((1:Int)+(x.fC%6)))<|
  gd (okR (c/((1:Int)+(x.fC%6))) ((1:Int)+(x.fB%3)))<|
  gd (fits 16 d ([(⟨(-1),(c/((1:Int)+(x.fC%6)))%((1:Int)+(x.fB%3))⟩:Edge)]:List Edge))<|
  gd (in64 (a+1))<|
  dh N x b e (d++([(⟨(-1),(c/((1:Int)+(x.fC%6)))%((1:Int)+(x.fB%3))⟩:Edge)]:List Edge)) (a+1)) else(
  some d)
def gm(N:Nat)(x:Sb):Nat→Int→(List (List Edge))→Option (List (List Edge))
 |0,_,_=>none
 |d+1,a,b=>
  bif decide (a<((1:Int)+(x.fC%6))) then(
  bd (
  dh N x a N ([]:List Edge) 0) fun c=>
  gd (fits 24 b [c])<|
  gd (in64 (a+1))<|
  gm N x d (a+1) (b++[c])) else(
  some b)
def vv(N:Nat)(x:Sb)(d:Int)(b:List (List Edge)):Nat→(List Int)→Int→Option (List Int)
 |0,_,_=>none
 |e+1,c,a=>
  gd (in64 (d*((1:Int)+(x.fA%3))))<|
  bif decide (a<(d*((1:Int)+(x.fA%3)))) then(
  bd (
  gd (okQ a ((1:Int)+(x.fA%3)))<|
  gd (okI b (a/((1:Int)+(x.fA%3))))<|
  gd (okR a ((1:Int)+(x.fA%3)))<|
  gd (okI (ix b (a/((1:Int)+(x.fA%3)))) (a%((1:Int)+(x.fA%3))))<|
  bif decide (((ix (ix b (a/((1:Int)+(x.fA%3)))) (a%((1:Int)+(x.fA%3)))).to)<0) then(
  gd (fits 8 c ([a]:List Int))<|
  some (c++([a]:List Int))) else(
  some c)) fun f=>
  gd (in64 (a+1))<|
  vv N x d b e f (a+1)) else(
  some c)
def pu(N:Nat)(x:Sb):Nat→Int→(List (List Edge))→Option (List (List Edge))
 |0,_,_=>none
 |e+1,a,c=>
  bif decide (a<((1:Int)+(x.fC%6))) then(
  bd (
  vv N x a c N ([]:List Int) 0) fun d=>
  gd (okI d 0)<|
  bd (
  gd (in64 (a-1))<|
  bif decide ((a-1)<(↑x.fH.length:Int)) then(
  gd (in64 (a-1))<|
  gd (okI x.fH (a-1))<|
  gd (in64 (ix x.fH (a-1)))<|
  gd (okR (ix x.fH (a-1)) (↑d.length:Int))<|
  gd (okI d ((ix x.fH (a-1))%(↑d.length:Int)))<|
  some (ix d ((ix x.fH (a-1))%(↑d.length:Int)))) else(
  some (ix d 0))) fun b=>
  gd (okQ b ((1:Int)+(x.fA%3)))<|
  gd (okI c (b/((1:Int)+(x.fA%3))))<|
  gd (okR b ((1:Int)+(x.fA%3)))<|
  gd (okI (ix c (b/((1:Int)+(x.fA%3)))) (b%((1:Int)+(x.fA%3))))<|
  gd (in64 (a+1))<|
  pu N x e (a+1) (up c (b/((1:Int)+(x.fA%3))) (up (ix c (b/((1:Int)+(x.fA%3)))) (b%((1:Int)+(x.fA%3))) (⟨a,(ix (ix c (b/((1:Int)+(x.fA%3)))) (b%((1:Int)+(x.fA%3)))).out⟩:Edge)))) else(
  some c)
def vo(N:Nat)(x:Sb)(a:Int):Nat→Int→(List (List Edge))→Option (List (List Edge))
 |0,_,_=>none
 |e+1,b,c=>
  bif decide (b<((1:Int)+(x.fA%3))) then(
  bd (
  gd (okI c a)<|
  gd (okI (ix c a) b)<|
  bif decide (((ix (ix c a) b).to)<0) then(
  gd (okI c a)<|
  gd (in64 (a*((1:Int)+(x.fA%3))))<|
  gd (in64 ((a*((1:Int)+(x.fA%3)))+b))<|
  bd (lh N x.fE ((a*((1:Int)+(x.fA%3)))+b)) fun d=>
  gd (okR d ((1:Int)+(x.fC%6)))<|
  gd (okI (ix c a) b)<|
  some (up c a (up (ix c a) b (⟨d%((1:Int)+(x.fC%6)),(ix (ix c a) b).out⟩:Edge)))) else(
  some c)) fun f=>
  gd (in64 (b+1))<|
  vo N x a e (b+1) f) else(
  some c)
def df(N:Nat)(x:Sb):Nat→Int→(List (List Edge))→Option (List (List Edge))
 |0,_,_=>none
 |c+1,a,b=>
  bif decide (a<((1:Int)+(x.fC%6))) then(
  bd (
  vo N x a N 0 b) fun d=>
  gd (in64 (a+1))<|
  df N x c (a+1) d) else(
  some b)
def z2p(N:Nat)(x:Sb):Option Mach:=
 gd (okR x.fC 6)<|
 gd (in64 (x.fC%6))<|
 gd (in64 ((1:Int)+(x.fC%6)))<|
 gd (okR x.fA 3)<|
 gd (in64 (x.fA%3))<|
 gd (in64 ((1:Int)+(x.fA%3)))<|
 gd (okR x.fB 3)<|
 gd (in64 (x.fB%3))<|
 gd (in64 ((1:Int)+(x.fB%3)))<|
 bd (
 gm N x N 0 ([]:List (List Edge))) fun c=>
 bd (
 pu N x N 1 c) fun a=>
 bd (
 df N x N 0 a) fun b=>
 some (⟨(1:Int)+(x.fA%3),(1:Int)+(x.fB%3),b⟩:Mach)
def ah(N:Nat):Nat→Mach→Int→(List Int)→Option Int
 |0,_,_,_=>none
 |F+1,m,s,w_=>
  bif decide ((↑w_.length:Int)=0) then(
  some s) else(
  gd (okI w_ 0)<|
  bd (z0m N m s (ix w_ 0)) fun b=>
  gd (okS w_ 1 (↑w_.length:Int))<|
  bd ((ah N F) m b.to (cut w_ 1 (↑w_.length:Int))) fun a=>
  some a)
def xz(N:Nat)(inputs:Int):Nat→Int→(List Int)→Option (Ex (List Int) ((List Int)))
 |0,_,_=>none
 |c+1,a,b=>
  bif decide (0≤a) then(
  gd (okI b a)<|
  gd (in64 ((ix b a)+1))<|
  bif decide (((ix b a)+1)<inputs) then(
  gd (okI b a)<|
  gd (in64 ((ix b a)+1))<|
  gd (okI b a)<|
  some (Ex.rt (up b a ((ix b a)+1)))) else(
  gd (okI b a)<|
  gd (in64 (a-1))<|
  xz N inputs c (a-1) (up b a 0))) else(
  some (Ex.go b))
def z0o(N:Nat)(w_:(List Int))(inputs:Int):Option (List Int):=
 gd (fits 8 ([]:List Int) w_)<|
 bd (
 gd (in64 ((↑(([]:List Int)++w_).length:Int)-1))<|
 xz N inputs N ((↑(([]:List Int)++w_).length:Int)-1) (([]:List Int)++w_)) fun b=>
 Ex.on b (fun a=>
 gd (fits 8 a ([0]:List Int))<|
 some (a++([0]:List Int))) some
def wu(N:Nat)(m:Mach)(from_:Int):Nat→(List Int)→(List (List Int))→(List Bool)→Option (List (List Int)×List Bool)
 |0,_,_,_=>none
 |g+1,c,d,b=>
  bif decide ((↑c.length:Int)<(↑m.rows.length:Int)) then(
  bd (
  bd (ah N N m from_ c) fun a=>
  gd ((true&&((decide (0≤a))==true))=true→okI b a)<|
  bif (decide (0≤a))&&(!(ix b a)) then(
  gd (okI b a)<|
  gd (okI d a)<|
  some ((up d a c),(up b a true))) else(
  some (d,b))) fun e=>
  bd (z0o N c m.inputs) fun f=>
  wu N m from_ g f e.1 e.2) else(
  some (d,b))
def z0a(N:Nat)(m:Mach)(from_:Int):Option ((List (List Int))×(List Bool)):=
 gd (okM 24 (↑m.rows.length:Int))<|
 gd (okM 1 (↑m.rows.length:Int))<|
 bd (
 wu N m from_ N ([]:List Int) (mk (↑m.rows.length:Int) ([]:List Int)) (mk (↑m.rows.length:Int) false)) fun a=>
 some (a.1,a.2)
def z0v(N:Nat)(m:Mach):Option ((List (List Int))×(List Bool)):=
 bd (z0a N m 0) fun a=>
 some (a.1,a.2)
def pz(N:Nat)(a:(List Int))(b:(List Int)):Nat→Int→Option (Ex (Unit) (Int))
 |0,_=>none
 |d+1,c=>
  bif decide (c<(↑a.length:Int)) then(
  gd (okI a c)<|
  gd (okI b c)<|
  bif decide ((ix a c)≠(ix b c)) then(
  gd (okI a c)<|
  gd (okI b c)<|
  bif decide ((ix a c)<(ix b c)) then(
  some (Ex.rt 1)) else(
  some (Ex.rt 0))) else(
  gd (in64 (c+1))<|
  pz N a b d (c+1))) else(
  some (Ex.go ()))
def l9(N:Nat)(a:(List Int))(b:(List Int)):Option Int:=
 bif decide ((↑a.length:Int)≠(↑b.length:Int)) then(
 bif decide ((↑a.length:Int)<(↑b.length:Int)) then(
 some 1) else(
 some 0)) else(
 bd (
 pz N a b N 0) fun c=>
 Ex.on c (fun d=>
 some 0) some)
def bu(N:Nat)(d:(List (List Int))×(List Bool))(b:List Int)(c:Int):Nat→Int→Option Int
 |0,_=>none
 |e+1,a=>
  gd ((true&&((decide (a<(↑b.length:Int)))==true))=true→okI b a)<|
  gd ((true&&((decide (a<(↑b.length:Int)))==true))=true→okI d.1 (ix b a))<|
  gd ((true&&((decide (a<(↑b.length:Int)))==true))=true→okI d.1 c)<|
  bd (gop (true&&((decide (a<(↑b.length:Int)))==true)) (l9 N (ix d.1 (ix b a)) (ix d.1 c))) fun f=>
  bif (decide (a<(↑b.length:Int)))&&(decide ((f.getD default)=1)) then(
  gd (in64 (a+1))<|
  bu N d b c e (a+1)) else(
  some a)
def bf(N:Nat)(d:(List (List Int))×(List Bool)):Nat→(List Int)→Int→Option (List Int)
 |0,_,_=>none
 |e+1,a,b=>
  bif decide (b<(↑d.1.length:Int)) then(
  bd (
  gd (okI d.2 b)<|
  bif !(ix d.2 b) then(
  some a) else(
  bd (
  bu N d a b N 0) fun c=>
  gd (okS a 0 c)<|
  gd (fits 8 ([]:List Int) (cut a 0 c))<|
  gd (fits 8 (([]:List Int)++(cut a 0 c)) ([b]:List Int))<|
  gd (okS a c (↑a.length:Int))<|
  gd (fits 8 ((([]:List Int)++(cut a 0 c))++([b]:List Int)) (cut a c (↑a.length:Int)))<|
  some (((([]:List Int)++(cut a 0 c))++([b]:List Int))++(cut a c (↑a.length:Int))))) fun f=>
  gd (in64 (b+1))<|
  bf N d e f (b+1)) else(
  some a)
def z1n(N:Nat)(m:Mach):Option (List Int):=
 bd (z0v N m) fun b=>
 bd (
 bf N b N ([]:List Int) 0) fun a=>
 some a
def xn(N:Nat)(d:(List Int))(a:(List Int))(c:Int):Nat→Int→Int→Option Int
 |0,_,_=>none
 |f+1,e,b=>
  bif decide (b<c) then(
  bd (
  gd (okI a b)<|
  gd (okI d (ix a b))<|
  gd (okI a c)<|
  gd (okI d (ix a c))<|
  bif decide ((ix d (ix a b))=(ix d (ix a c))) then(
  some 1) else(
  some e)) fun g=>
  gd (in64 (b+1))<|
  xn N d a c f g (b+1)) else(
  some e)
def xk(N:Nat)(g:(List Int))(b:(List Int)):Nat→(List Int)→Int→Option (List Int)
 |0,_,_=>none
 |d+1,c,a=>
  bif decide (a<(↑b.length:Int)) then(
  bd (
  bd (
  xn N g b a N 0 0) fun e=>
  bif decide (e=0) then(
  gd (okI b a)<|
  gd (fits 8 c ([(ix b a)]:List Int))<|
  some (c++([(ix b a)]:List Int))) else(
  some c)) fun f=>
  gd (in64 (a+1))<|
  xk N g b d f (a+1)) else(
  some c)
def lq(N:Nat)(m:Mach):Option (List Int):=
 bd (ak N m) fun c=>
 bd (z1n N m) fun a=>
 bd (
 xk N c a N ([]:List Int) 0) fun b=>
 some b
def nz(N:Nat)(e:(List Int))(d:(List Int))(c:(List Bool))(a:Int):Nat→Int→Int→Option Int
 |0,_,_=>none
 |g+1,f,b=>
  bif decide (b<(↑d.length:Int)) then(
  bd (
  gd (okI c a)<|
  gd ((true&&((ix c a)==true))=true→okI d b)<|
  gd ((true&&((ix c a)==true))=true→okI e (ix d b))<|
  gd ((true&&((ix c a)==true))=true→okI e a)<|
  bif (ix c a)&&(decide ((ix e (ix d b))=(ix e a))) then(
  some b) else(
  some f)) fun h=>
  gd (in64 (b+1))<|
  nz N e d c a g h (b+1)) else(
  some f)
def ny(N:Nat)(f:(List Int))(c:(List Int))(d:(List Bool)):Nat→(List Int)→Int→Option (List Int)
 |0,_,_=>none
 |g+1,b,a=>
  bif decide (a<(↑f.length:Int)) then(
  bd (
  nz N f c d a N (-1) 0) fun e=>
  gd (fits 8 b ([e]:List Int))<|
  gd (in64 (a+1))<|
  ny N f c d g (b++([e]:List Int)) (a+1)) else(
  some b)
def z3b(N:Nat)(m:Mach):Option (List Int):=
 bd (ak N m) fun d=>
 bd (lq N m) fun a=>
 bd (mi N m 0) fun b=>
 bd (
 ny N d a b N ([]:List Int) 0) fun c=>
 some c
def yt(N:Nat)(m:Mach)(c:(List Int))(e:(List Int))(a:Int):Nat→(List Edge)→Int→Option (List Edge)
 |0,_,_=>none
 |g+1,f,b=>
  bif decide (b<m.inputs) then(
  gd (okI c a)<|
  gd (okI m.rows (ix c a))<|
  gd (okI (ix m.rows (ix c a)) b)<|
  bd (
  bif decide (0≤((ix (ix m.rows (ix c a)) b).to)) then(
  gd (okI e ((ix (ix m.rows (ix c a)) b).to))<|
  some (ix e ((ix (ix m.rows (ix c a)) b).to))) else(
  some ((ix (ix m.rows (ix c a)) b).to))) fun d=>
  gd (fits 16 f ([(⟨d,(ix (ix m.rows (ix c a)) b).out⟩:Edge)]:List Edge))<|
  gd (in64 (b+1))<|
  yt N m c e a g (f++([(⟨d,(ix (ix m.rows (ix c a)) b).out⟩:Edge)]:List Edge)) (b+1)) else(
  some f)
def yo(N:Nat)(m:Mach)(e:(List Int))(c:(List Int)):Nat→Int→(List (List Edge))→Option (List (List Edge))
 |0,_,_=>none
 |f+1,a,b=>
  bif decide (a<(↑e.length:Int)) then(
  bd (
  yt N m e c a N ([]:List Edge) 0) fun d=>
  gd (fits 24 b ([d]:List (List Edge)))<|
  gd (in64 (a+1))<|
  yo N m e c f (a+1) (b++([d]:List (List Edge)))) else(
  some b)
def z0k(N:Nat)(m:Mach):Option Mach:=
 bd (lq N m) fun c=>
 bd (z3b N m) fun a=>
 bd (
 yo N m c a N 0 ([]:List (List Edge))) fun b=>
 some (⟨m.inputs,m.outputs,b⟩:Mach)
def z2c(N:Nat)(x:Sk):Option Mach:=
 gd (okR x.fP.fC 5)<|
 bd (z2p N (⟨x.fP.fC%5,x.fP.fA,x.fP.fB,x.fP.fH,x.fP.fE⟩:Sb)) fun b=>
 bd (z0k N b) fun a=>
 some (⟨a.inputs,a.outputs,a.rows⟩:Mach)
def mq(N:Nat)(w_:(List Int))(inputs:Int)(most:Int):Nat→(List Int)→Int→Option (List Int)
 |0,_,_=>none
 |c+1,b,a=>
  bif (decide (a<(↑w_.length:Int)))&&(decide (a<most)) then(
  gd (okI w_ a)<|
  gd (in64 (ix w_ a))<|
  gd (okR (ix w_ a) inputs)<|
  gd (fits 8 b ([(ix w_ a)%inputs]:List Int))<|
  gd (in64 (a+1))<|
  mq N w_ inputs most c (b++([(ix w_ a)%inputs]:List Int)) (a+1)) else(
  some b)
def lc(N:Nat)(w_:(List Int))(inputs:Int)(most:Int):Option (List Int):=
 bd (
 mq N w_ inputs most N ([]:List Int) 0) fun a=>
 some a
def z2r(N:Nat)(x:Sj):Option (Mach×(List Int)):=
 bd (z2c N x.fAh) fun a=>
 bd (lc N x.fU a.inputs 6) fun b=>
 some ((⟨a.inputs,a.outputs,a.rows⟩:Mach),b)
def dw(N:Nat)(m:Mach)(w_:(List Int)):Nat→Int→(List Int)→Option (List Int)
 |0,_,_=>none
 |c+1,a,b=>
  bif decide (a<(↑w_.length:Int)) then(
  gd (okI b a)<|
  gd (okI m.rows (ix b a))<|
  gd (okI w_ a)<|
  gd (okI (ix m.rows (ix b a)) (ix w_ a))<|
  gd (fits 8 b ([(ix (ix m.rows (ix b a)) (ix w_ a)).to]:List Int))<|
  gd (in64 (a+1))<|
  dw N m w_ c (a+1) (b++([(ix (ix m.rows (ix b a)) (ix w_ a)).to]:List Int))) else(
  some b)
def z0y(N:Nat)(m:Mach)(w_:(List Int)):Option (List Int):=
 bd (
 dw N m w_ N 0 ([0]:List Int)) fun a=>
 some a
def gu(N:Nat)(m:Mach)(w_:(List Int)):Nat→Int→(List Int)→Option (List Int)
 |0,_,_=>none
 |c+1,a,b=>
  bif decide (a<(↑w_.length:Int)) then(
  gd (okI b a)<|
  gd (okI m.rows (ix b a))<|
  gd (okI w_ a)<|
  gd (okI (ix m.rows (ix b a)) (ix w_ a))<|
  gd (fits 8 b ([(ix (ix m.rows (ix b a)) (ix w_ a)).to]:List Int))<|
  gd (in64 (a+1))<|
  gu N m w_ c (a+1) (b++([(ix (ix m.rows (ix b a)) (ix w_ a)).to]:List Int))) else(
  some b)
def z04(N:Nat)(m:Mach)(w_:(List Int)):Option (List Int):=
 bd (
 gu N m w_ N 0 ([0]:List Int)) fun a=>
 some a
def vw(N:Nat)(d:(List Int))(w_:(List Int)):Nat→Int→(List Int)→Option (List Int)
 |0,_,_=>none
 |c+1,a,b=>
  bif decide (a≤(↑w_.length:Int)) then(
  bd (
  gd (in64 (a+(↑d.length:Int)))<|
  gd ((true&&((decide ((↑w_.length:Int)<(a+(↑d.length:Int))))==false))=true→in64 (a+(↑d.length:Int)))<|
  gd ((true&&((decide ((↑w_.length:Int)<(a+(↑d.length:Int))))==false))=true→okS w_ a (a+(↑d.length:Int)))<|
  bd (gop (true&&((decide ((↑w_.length:Int)<(a+(↑d.length:Int))))==false)) (uk N (cut w_ a (a+(↑d.length:Int))) d)) fun e=>
  bif (decide ((↑w_.length:Int)<(a+(↑d.length:Int))))||(!(e.getD default)) then(
  gd (okI b a)<|
  some (up b a (-1))) else(
  some b)) fun f=>
  gd (in64 (a+1))<|
  vw N d w_ c (a+1) f) else(
  some b)
def ae(N:Nat)(m:Mach)(d:(List Int))(w_:(List Int)):Option (List Int):=
 bd (z04 N m w_) fun b=>
 bd (
 vw N d w_ N 0 b) fun a=>
 some a
def yg(N:Nat)(w_:(List Int))(id_:(List Int))(k:Int)(b:Int):Nat→Int→Option (Ex (Unit) (Ex (Unit) (Bool)))
 |0,_=>none
 |c+1,a=>
  gd (in64 (a+k))<|
  gd (in64 ((a+k)-b))<|
  gd ((true&&((decide (((a+k)-b)≤(↑w_.length:Int)))==true))=true→okI id_ b)<|
  bif (decide (((a+k)-b)≤(↑w_.length:Int)))&&(decide ((ix id_ b)≠(-1))) then(
  gd ((true&&((decide (a≠b))==true))=true→okI id_ a)<|
  gd ((true&&((decide (a≠b))==true))=true→okI id_ b)<|
  gd ((true&&(((decide (a≠b))&&(decide ((ix id_ a)=(ix id_ b))))==true))=true→in64 (a+k))<|
  gd ((true&&(((decide (a≠b))&&(decide ((ix id_ a)=(ix id_ b))))==true))=true→in64 ((a+k)-b))<|
  gd ((true&&(((decide (a≠b))&&(decide ((ix id_ a)=(ix id_ b))))==true))=true→okI id_ ((a+k)-b))<|
  gd ((true&&((((decide (a≠b))&&(decide ((ix id_ a)=(ix id_ b))))&&(decide ((ix id_ ((a+k)-b))≠(-1))))==true))=true→in64 (a+k))<|
  gd ((true&&((((decide (a≠b))&&(decide ((ix id_ a)=(ix id_ b))))&&(decide ((ix id_ ((a+k)-b))≠(-1))))==true))=true→in64 ((a+k)-b))<|
  gd ((true&&((((decide (a≠b))&&(decide ((ix id_ a)=(ix id_ b))))&&(decide ((ix id_ ((a+k)-b))≠(-1))))==true))=true→okS w_ a ((a+k)-b))<|
  gd ((true&&((((decide (a≠b))&&(decide ((ix id_ a)=(ix id_ b))))&&(decide ((ix id_ ((a+k)-b))≠(-1))))==true))=true→okS w_ b k)<|
  bd (gop (true&&((((decide (a≠b))&&(decide ((ix id_ a)=(ix id_ b))))&&(decide ((ix id_ ((a+k)-b))≠(-1))))==true)) (uk N (cut w_ a ((a+k)-b)) (cut w_ b k))) fun d=>
  bif (((decide (a≠b))&&(decide ((ix id_ a)=(ix id_ b))))&&(decide ((ix id_ ((a+k)-b))≠(-1))))&&(d.getD default) then(
  some (Ex.rt (Ex.rt true))) else(
  gd (in64 (a+1))<|
  yg N w_ id_ k b c (a+1))) else(
  some (Ex.go ()))
def ym(N:Nat)(w_:(List Int))(id_:(List Int))(k:Int):Nat→Int→Option (Ex (Unit) (Bool))
 |0,_=>none
 |c+1,a=>
  bif decide (a<k) then(
  bd (
  yg N w_ id_ k a N 0) fun b=>
  Ex.on b (fun d=>
  gd (in64 (a+1))<|
  ym N w_ id_ k c (a+1)) some) else(
  some (Ex.go ()))
def z0f(N:Nat)(w_:(List Int))(id_:(List Int))(k:Int):Option Bool:=
 bd (
 ym N w_ id_ k N 0) fun a=>
 Ex.on a (fun b=>
 some false) some
def ni(N:Nat)(w_:(List Int))(d:(List Int))(b:(List Int)):Nat→(List Int)→Int→Option (List Int)
 |0,_,_=>none
 |e+1,c,a=>
  bif decide (a≤(↑w_.length:Int)) then(
  bd (
  gd (okI b a)<|
  bd (gop (true&&((decide ((ix b a)≠(-1)))==false)) (z0f N w_ b a)) fun f=>
  bif (decide ((ix b a)≠(-1)))||(f.getD default) then(
  gd (okI d a)<|
  gd (fits 8 c ([(ix d a)]:List Int))<|
  some (c++([(ix d a)]:List Int))) else(
  gd (fits 8 c ([(-1)]:List Int))<|
  some (c++([(-1)]:List Int)))) fun g=>
  gd (in64 (a+1))<|
  ni N w_ d b e g (a+1)) else(
  some c)
def z1q(N:Nat)(m:Mach)(d:(List Int))(w_:(List Int)):Option (List Int):=
 bd (z0y N m w_) fun c=>
 bd (ae N m d w_) fun a=>
 bd (
 ni N w_ c a N ([]:List Int) 0) fun b=>
 some b
def r9(N:Nat)(x:Sj)(w_:(List Int)):Option Bool:=
 bd (z2r N x) fun c=>
 bd (lc N w_ c.1.inputs 40) fun f=>
 bd (fw N (⟨c.1.inputs,c.1.outputs,c.1.rows⟩:Mach) c.2 f) fun a=>
 bd (z3g N (⟨c.1.inputs,c.1.outputs,c.1.rows⟩:Mach) c.2 f) fun b=>
 bd (z3j N (⟨c.1.inputs,c.1.outputs,c.1.rows⟩:Mach) c.2) fun e=>
 bif decide (e≠0) then(
 bd (gop (true&&(((decide (a.2=e))&&(decide (b.2=e)))==true)) (z1p N)) fun j=>
 some (((decide (a.2=e))&&(decide (b.2=e)))&&(j.getD default))) else(
 bd (gop (true&&(((decide (a.2=0))&&(decide (b.2=0)))==true)) (ae N (⟨c.1.inputs,c.1.outputs,c.1.rows⟩:Mach) c.2 f)) fun k=>
 bd (gop (true&&(((decide (a.2=0))&&(decide (b.2=0)))==true)) (uk N a.1 (k.getD default))) fun d=>
 bd (gop (true&&((((decide (a.2=0))&&(decide (b.2=0)))&&(d.getD default))==true)) (z1q N (⟨c.1.inputs,c.1.outputs,c.1.rows⟩:Mach) c.2 f)) fun h=>
 bd (gop (true&&((((decide (a.2=0))&&(decide (b.2=0)))&&(d.getD default))==true)) (uk N b.1 (h.getD default))) fun g=>
 bd (gop (true&&(((((((decide (a.2=0))&&(decide (b.2=0)))&&(d.getD default))&&(g.getD default))&&(decide ((↑a.1.length:Int)=(↑a.1.length:Int))))&&(decide ((↑b.1.length:Int)=(↑b.1.length:Int))))==true)) (z1p N)) fun i=>
 some (((((((decide (a.2=0))&&(decide (b.2=0)))&&(d.getD default))&&(g.getD default))&&(decide ((↑a.1.length:Int)=(↑a.1.length:Int))))&&(decide ((↑b.1.length:Int)=(↑b.1.length:Int))))&&(i.getD default)))
end GV
end Go.Proofs.Ytplgbkaollfmkaa
