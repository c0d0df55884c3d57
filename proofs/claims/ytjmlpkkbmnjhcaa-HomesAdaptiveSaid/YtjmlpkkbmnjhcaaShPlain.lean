import Derived.Test.YtjmlpkkbmnjhcaaShTypes
set_option linter.unusedVariables false
set_option linter.unusedSimpArgs false
set_option linter.unusedSectionVars false
namespace Go.Proofs.Ytjmlpkkbmnjhcaa
namespace GV
set_option maxRecDepth 100000
def z06(N:Nat)(l_:(List Int))(k:Int):Option Int:=
 bif decide (k<(↑l_.length:Int)) then(
 gd (okI l_ k)<|
 gd (in64 (ix l_ k))<|
 some (ix l_ k)) else(
 some 0)
def mf(N:Nat)(x:Sd)(b:Int):Nat→(List Edge)→Int→Option (List Edge)
 |0,_,_=>none
 |e+1,d,a=>
  bif decide (a<((1:Int)+(x.fB%3))) then(
  gd (in64 (b*((1:Int)+(x.fB%3))))<|
  gd (in64 ((b*((1:Int)+(x.fB%3)))+a))<|
  bd (z06 N x.fI ((b*((1:Int)+(x.fB%3)))+a)) fun c=>
  gd (okQ c ((1:Int)+(x.fD%6)))<|
  gd (okR (c/((1:Int)+(x.fD%6))) ((1:Int)+(x.fC%3)))<|
  gd (fits 16 d ([(⟨(-1),(c/((1:Int)+(x.fD%6)))%((1:Int)+(x.fC%3))⟩:Edge)]:List Edge))<|
  gd (in64 (a+1))<|
  mf N x b e (d++([(⟨(-1),(c/((1:Int)+(x.fD%6)))%((1:Int)+(x.fC%3))⟩:Edge)]:List Edge)) (a+1)) else(
  some d)
def bg(N:Nat)(x:Sd):Nat→Int→(List (List Edge))→Option (List (List Edge))
 |0,_,_=>none
 |d+1,a,b=>
  bif decide (a<((1:Int)+(x.fD%6))) then(
  bd (
  mf N x a N ([]:List Edge) 0) fun c=>
  gd (fits 24 b [c])<|
  gd (in64 (a+1))<|
  bg N x d (a+1) (b++[c])) else(
  some b)
def xe(N:Nat)(x:Sd)(d:Int)(b:List (List Edge)):Nat→(List Int)→Int→Option (List Int)
 |0,_,_=>none
 |e+1,c,a=>
  gd (in64 (d*((1:Int)+(x.fB%3))))<|
  bif decide (a<(d*((1:Int)+(x.fB%3)))) then(
  bd (
  gd (okQ a ((1:Int)+(x.fB%3)))<|
  gd (okI b (a/((1:Int)+(x.fB%3))))<|
  gd (okR a ((1:Int)+(x.fB%3)))<|
  gd (okI (ix b (a/((1:Int)+(x.fB%3)))) (a%((1:Int)+(x.fB%3))))<|
  bif decide (((ix (ix b (a/((1:Int)+(x.fB%3)))) (a%((1:Int)+(x.fB%3)))).to)<0) then(
  gd (fits 8 c ([a]:List Int))<|
  some (c++([a]:List Int))) else(
  some c)) fun f=>
  gd (in64 (a+1))<|
  xe N x d b e f (a+1)) else(
  some c)
def nk(N:Nat)(x:Sd):Nat→Int→(List (List Edge))→Option (List (List Edge))
 |0,_,_=>none
 |e+1,a,c=>
  bif decide (a<((1:Int)+(x.fD%6))) then(
  bd (
  xe N x a c N ([]:List Int) 0) fun d=>
  gd (okI d 0)<|
  bd (
  gd (in64 (a-1))<|
  bif decide ((a-1)<(↑x.fF.length:Int)) then(
  gd (in64 (a-1))<|
  gd (okI x.fF (a-1))<|
  gd (in64 (ix x.fF (a-1)))<|
  gd (okR (ix x.fF (a-1)) (↑d.length:Int))<|
  gd (okI d ((ix x.fF (a-1))%(↑d.length:Int)))<|
  some (ix d ((ix x.fF (a-1))%(↑d.length:Int)))) else(
  some (ix d 0))) fun b=>
  gd (okQ b ((1:Int)+(x.fB%3)))<|
  gd (okI c (b/((1:Int)+(x.fB%3))))<|
  gd (okR b ((1:Int)+(x.fB%3)))<|
  gd (okI (ix c (b/((1:Int)+(x.fB%3)))) (b%((1:Int)+(x.fB%3))))<|
  gd (in64 (a+1))<|
  nk N x e (a+1) (up c (b/((1:Int)+(x.fB%3))) (up (ix c (b/((1:Int)+(x.fB%3)))) (b%((1:Int)+(x.fB%3))) (⟨a,(ix (ix c (b/((1:Int)+(x.fB%3)))) (b%((1:Int)+(x.fB%3)))).out⟩:Edge)))) else(
  some c)
def xc(N:Nat)(x:Sd)(a:Int):Nat→Int→(List (List Edge))→Option (List (List Edge))
 |0,_,_=>none
 |e+1,b,c=>
  bif decide (b<((1:Int)+(x.fB%3))) then(
  bd (
  gd (okI c a)<|
  gd (okI (ix c a) b)<|
  bif decide (((ix (ix c a) b).to)<0) then(
  gd (okI c a)<|
  gd (in64 (a*((1:Int)+(x.fB%3))))<|
  gd (in64 ((a*((1:Int)+(x.fB%3)))+b))<|
  bd (z06 N x.fI ((a*((1:Int)+(x.fB%3)))+b)) fun d=>
  gd (okR d ((1:Int)+(x.fD%6)))<|
  gd (okI (ix c a) b)<|
  some (up c a (up (ix c a) b (⟨d%((1:Int)+(x.fD%6)),(ix (ix c a) b).out⟩:Edge)))) else(
  some c)) fun f=>
  gd (in64 (b+1))<|
  xc N x a e (b+1) f) else(
  some c)
def mg(N:Nat)(x:Sd):Nat→Int→(List (List Edge))→Option (List (List Edge))
 |0,_,_=>none
 |c+1,a,b=>
  bif decide (a<((1:Int)+(x.fD%6))) then(
  bd (
  xc N x a N 0 b) fun d=>
  gd (in64 (a+1))<|
  mg N x c (a+1) d) else(
  some b)
def z02(N:Nat)(x:Sd):Option Mach:=
 gd (okR x.fD 6)<|
 gd (in64 (x.fD%6))<|
 gd (in64 ((1:Int)+(x.fD%6)))<|
 gd (okR x.fB 3)<|
 gd (in64 (x.fB%3))<|
 gd (in64 ((1:Int)+(x.fB%3)))<|
 gd (okR x.fC 3)<|
 gd (in64 (x.fC%3))<|
 gd (in64 ((1:Int)+(x.fC%3)))<|
 bd (
 bg N x N 0 ([]:List (List Edge))) fun c=>
 bd (
 nk N x N 1 c) fun a=>
 bd (
 mg N x N 0 a) fun b=>
 some (⟨(1:Int)+(x.fB%3),(1:Int)+(x.fC%3),b⟩:Mach)
def ww(N:Nat)(s:(List Edge))(f:Edge→Option Bool):Nat→Int→Option (Ex (Unit) (Int))
 |0,_=>none
 |c+1,a=>
  bif decide (a<(↑s.length:Int)) then(
  gd (okI s a)<|
  bd (f (ix s a)) fun b=>
  bif b then(
  some (Ex.rt a)) else(
  gd (in64 (a+1))<|
  ww N s f c (a+1))) else(
  some (Ex.go ()))
def l6(N:Nat)(s:(List Edge))(f:Edge→Option Bool):Option Int:=
 bd (
 ww N s f N 0) fun a=>
 Ex.on a (fun b=>
 some (-1)) some
def ik(N:Nat)(s:(List Edge))(f:Edge→Option Bool):Option Bool:=
 bd (l6 N s f) fun a=>
 some (decide (0≤a))
def z1t(N:Nat):Option Edge:=
 some (⟨(-1),(-1)⟩:Edge)
def z8h(N:Nat)(m:Mach)(x:Edge):Option Bool:=
 bd (z1t N) fun a=>
 some ((decide (x.to=a.to∧x.out=a.out))||((((decide (0≤x.to))&&(decide (x.to<(↑m.rows.length:Int))))&&(decide (0≤x.out)))&&(decide (x.out<m.outputs))))
def z5s(N:Nat)(x:Edge)(p0_:Mach):Option Bool:=
 bd (z8h N p0_ x) fun a=>
 some (!a)
def r9(N:Nat)(m:Mach):Nat→Int→Option (Ex (Unit) (Int))
 |0,_=>none
 |b+1,a=>
  bif decide (a<(↑m.rows.length:Int)) then(
  gd (okI m.rows a)<|
  bd (gop (true&&((decide ((↑(ix m.rows a).length:Int)≠m.inputs))==false)) (ik N (ix m.rows a) (fun d=>z5s N d m))) fun c=>
  bif (decide ((↑(ix m.rows a).length:Int)≠m.inputs))||(c.getD default) then(
  some (Ex.rt 1)) else(
  gd (in64 (a+1))<|
  r9 N m b (a+1))) else(
  some (Ex.go ()))
def z2f(N:Nat)(m:Mach):Option Int:=
 bif ((decide (16<m.inputs))||(decide (16<m.outputs)))||(decide (64<(↑m.rows.length:Int))) then(
 some 3) else(
 bif ((decide (m.inputs<1))||(decide (m.outputs<1)))||(decide ((↑m.rows.length:Int)<1)) then(
 some 1) else(
 bd (
 r9 N m N 0) fun a=>
 Ex.on a (fun b=>
 some 0) some))
def z5a(N:Nat)(m:Mach):Option Mach:=
 some m
def ow(N:Nat)(σ:Type)(B:((Int×Int)×Edge)→σ→Option (Bool×σ))(p0_:Mach)(c:Int):Nat→σ→Int→Option (Ex (σ) (σ))
 |0,_,_=>none
 |e+1,d,a=>
  bif decide (a<(↑(ix p0_.rows c).length:Int)) then(
  gd (okI (ix p0_.rows c) a)<|
  bd (B (((c,a):(Int×Int)),(⟨(ix (ix p0_.rows c) a).to,(ix (ix p0_.rows c) a).out⟩:Edge)) d) fun b=>
  bif !b.1 then(
  some (Ex.rt b.2)) else(
  gd (in64 (a+1))<|
  ow N σ B p0_ c e b.2 (a+1))) else(
  some (Ex.go d))
def iw(N:Nat)(σ:Type)(B:((Int×Int)×Edge)→σ→Option (Bool×σ))(p0_:Mach):Nat→σ→Int→Option σ
 |0,_,_=>none
 |e+1,d,a=>
  bif decide (a<(↑p0_.rows.length:Int)) then(
  bd (
  gd (okI p0_.rows a)<|
  ow N σ B p0_ a N d 0) fun b=>
  Ex.on b (fun c=>
  gd (in64 (a+1))<|
  iw N σ B p0_ e c (a+1)) some) else(
  some d)
def z2c(N:Nat)(p0_:Mach)(σ:Type)(B:((Int×Int)×Edge)→σ→Option (Bool×σ))(s0:σ):Option σ:=
 iw N σ B p0_ N s0 0
def z2o(N:Nat)(s:(List (Int×Int))):Option (List (Int×Int)):=
 gd (okS s 0 (↑s.length:Int))<|
 some (cut s 0 (↑s.length:Int))
def z18(N:Nat)(m:Mach):Option (List (Int×Int)):=
 bd (z5a N m) fun f=>
 bd (z2c N f (List (Int×Int)) (fun a b=>
 bd (z1t N) fun c=>
 bif decide (a.2.to=c.to∧a.2.out=c.out) then(
 gd (fits 16 b ([((a.1.1,a.1.2):(Int×Int))]:List (Int×Int)))<|
 some (true,(b++([((a.1.1,a.1.2):(Int×Int))]:List (Int×Int))))) else(
 some (true,b))) ([]:List (Int×Int))) fun d=>
 bd (z2o N d) fun e=>
 some e
def z1m(N:Nat)(m:Mach):Option (Bool×Int):=
 bd (z2f N m) fun b=>
 bif decide (b≠0) then(
 some (false,b)) else(
 bd (z18 N m) fun a=>
 some ((decide ((↑a.length:Int)=0)),0))
def z11(N:Nat)(m:Mach):Option Int:=
 bd (z1m N m) fun a=>
 bif (decide (a.2=0))&&(!a.1) then(
 some 9) else(
 some a.2)
def ig(N:Nat)(s:(List Int)):Option (List Int):=
 gd (okS s 0 (↑s.length:Int))<|
 some (cut s 0 (↑s.length:Int))
def df(N:Nat)(inputs:Int)(key:(Int×Int)→Option (List UInt8))(next:(Int×Int)→Int→Option (Int×Int))(f:List Sb)(g:Int):Nat→Int→(List ((List UInt8)×Bool))→(List Sb)→Option (Ex (List ((List UInt8)×Bool)×List Sb) (Ex (List Sb×List ((List UInt8)×Bool)) (Ex (Unit) ((List Int)×Int))))
 |0,_,_,_=>none
 |j+1,a,c,d=>
  bif decide (a<inputs) then(
  bd (
  bd (next ((((ix f g).fH).1,((ix f g).fH).2):(Int×Int)) a) fun b=>
  bd (key ((b.1,b.2):(Int×Int))) fun h=>
  bif !(z9t false c h) then(
  bd (ig N ((ix f g).fJ)) fun e=>
  gd (fits 8 e ([a]:List Int))<|
  gd (fits 40 d ([(⟨((b.1,b.2):(Int×Int)),(e++([a]:List Int))⟩:Sb)]:List Sb))<|
  some ((z3y c h true),(d++([(⟨((b.1,b.2):(Int×Int)),(e++([a]:List Int))⟩:Sb)]:List Sb)))) else(
  some (c,d))) fun i=>
  gd (in64 (a+1))<|
  df N inputs key next f g j (a+1) i.1 i.2) else(
  some (Ex.go (c,d)))
def pu(N:Nat)(inputs:Int)(key:(Int×Int)→Option (List UInt8))(is:(Int×Int)→Option Bool)(next:(Int×Int)→Int→Option (Int×Int))(b:List Sb):Nat→(List Sb)→Int→(List ((List UInt8)×Bool))→Option (Ex (List Sb×List ((List UInt8)×Bool)) (Ex (Unit) ((List Int)×Int)))
 |0,_,_,_=>none
 |g+1,c,a,d=>
  bif decide (a<(↑b.length:Int)) then(
  bd (
  gd (okI b a)<|
  bd (is ((((ix b a).fH).1,((ix b a).fH).2):(Int×Int))) fun h=>
  bif h then(
  bd (ig N ((ix b a).fJ)) fun e=>
  some (Ex.rt (Ex.rt (Ex.rt (e,0))))) else(
  df N inputs key next b a N 0 d c)) fun i=>
  Ex.on i (fun f=>
  gd (in64 (a+1))<|
  pu N inputs key is next b g f.2 (a+1) f.1) some) else(
  some (Ex.go (c,d)))
def bv(N:Nat)(inputs:Int)(key:(Int×Int)→Option (List UInt8))(is:(Int×Int)→Option Bool)(next:(Int×Int)→Int→Option (Int×Int)):Nat→(List Sb)→Int→(List ((List UInt8)×Bool))→Option (Ex (Unit) ((List Int)×Int))
 |0,_,_,_=>none
 |d+1,b,a,e=>
  bif (decide (0<(↑b.length:Int)))&&(decide (a≤256)) then(
  bd (
  pu N inputs key is next b N ([]:List Sb) 0 e) fun f=>
  Ex.on f (fun c=>
  gd (in64 (a+1))<|
  bv N inputs key is next d c.1 (a+1) c.2) some) else(
  some (Ex.go ()))
def z0x(N:Nat)(inputs:Int)(from_:(Int×Int))(key:(Int×Int)→Option (List UInt8))(is:(Int×Int)→Option Bool)(next:(Int×Int)→Int→Option (Int×Int)):Option ((List Int)×Int):=
 bd (key from_) fun a=>
 bd (
 bv N inputs key is next N ([(⟨((from_.1,from_.2):(Int×Int)),[]⟩:Sb)]:List Sb) 0 (z3y ([]:List ((List UInt8)×Bool)) a true)) fun b=>
 Ex.on b (fun c=>
 some (([]:(List Int)),7)) some
def z6c(N:Nat)(x:(Int×Int)):Option (List UInt8):=
 some (za7 ([IntKind.u8.wrap x.1,IntKind.u8.wrap x.2]:List Int))
def z6a(N:Nat)(x:(Int×Int)):Option Bool:=
 some (decide (x.1=x.2))
def z13(N:Nat)(g_:Sg)(x:(Int×Int))(i:Int):Option (Int×Int):=
 gd (okI g_.fG.rows x.1)<|
 gd (okI (ix g_.fG.rows x.1) i)<|
 gd (okI g_.fG.rows x.2)<|
 gd (okI (ix g_.fG.rows x.2) i)<|
 some (((ix (ix g_.fG.rows x.1) i).to,(ix (ix g_.fG.rows x.2) i).to):(Int×Int))
def z2n(N:Nat)(m:Mach)(s:Int)(t:Int):Option ((List Int)×Int):=
 bd (z11 N m) fun c=>
 bif decide (c≠0) then(
 some (([]:(List Int)),c)) else(
 bif (((decide (s<0))||(decide (t<0)))||(decide ((↑m.rows.length:Int)≤s)))||(decide ((↑m.rows.length:Int)≤t)) then(
 some (([]:(List Int)),1)) else(
 bd (z0x N m.inputs ((s,t):(Int×Int)) (fun a=>z6c N a) (fun a=>z6a N a) (fun a d=>z13 N (⟨(⟨m.inputs,m.outputs,m.rows⟩:Mach)⟩:Sg) a d)) fun b=>
 some (b.1,b.2)))
def xq(N:Nat)(m:Mach):Nat→Int→(List Int)→Option (List Int)
 |0,_,_=>none
 |c+1,a,b=>
  bif decide (a<(↑m.rows.length:Int)) then(
  gd (okI b a)<|
  gd (in64 (a+1))<|
  xq N m c (a+1) (up b a (-1))) else(
  some b)
def pg(N:Nat)(m:Mach):Nat→(List (List Int))→Int→Option (List (List Int))
 |0,_,_=>none
 |c+1,x16,a=>
  bif decide (a<(↑m.rows.length:Int)) then(
  gd (okM 8 (↑m.rows.length:Int))<|
  bd (
  xq N m N 0 (mk (↑m.rows.length:Int) (0:Int))) fun b=>
  gd (okI b a)<|
  gd (fits 24 x16 [(up b a 0)])<|
  gd (in64 (a+1))<|
  pg N m c (x16++[(up b a 0)]) (a+1)) else(
  some x16)
def bu(N:Nat)(m:Mach)(e:Int)(a:Int)(c:Int):Nat→Int→(List (List Int))→Option (List (List Int))
 |0,_,_=>none
 |f+1,d,b=>
  bif decide (d<m.inputs) then(
  bd (
  gd (okI b a)<|
  gd (okI (ix b a) c)<|
  gd ((true&&((decide ((ix (ix b a) c)<0))==true))=true→okI m.rows a)<|
  gd ((true&&((decide ((ix (ix b a) c)<0))==true))=true→okI (ix m.rows a) d)<|
  gd ((true&&((decide ((ix (ix b a) c)<0))==true))=true→okI b ((ix (ix m.rows a) d).to))<|
  gd ((true&&((decide ((ix (ix b a) c)<0))==true))=true→okI m.rows c)<|
  gd ((true&&((decide ((ix (ix b a) c)<0))==true))=true→okI (ix m.rows c) d)<|
  gd ((true&&((decide ((ix (ix b a) c)<0))==true))=true→okI (ix b ((ix (ix m.rows a) d).to)) ((ix (ix m.rows c) d).to))<|
  gd ((true&&((decide ((ix (ix b a) c)<0))==true))=true→in64 (e-1))<|
  bif (decide ((ix (ix b a) c)<0))&&(decide ((ix (ix b ((ix (ix m.rows a) d).to)) ((ix (ix m.rows c) d).to))=(e-1))) then(
  gd (okI b a)<|
  gd (okI (ix b a) c)<|
  some (up b a (up (ix b a) c e))) else(
  some b)) fun g=>
  gd (in64 (d+1))<|
  bu N m e a c f (d+1) g) else(
  some b)
def p8(N:Nat)(m:Mach)(b:Int)(c:Int):Nat→Int→(List (List Int))→Option (List (List Int))
 |0,_,_=>none
 |e+1,a,d=>
  bif decide (a<(↑m.rows.length:Int)) then(
  bd (
  bu N m b c a N 0 d) fun f=>
  gd (in64 (a+1))<|
  p8 N m b c e (a+1) f) else(
  some d)
def bz(N:Nat)(m:Mach)(b:Int):Nat→Int→(List (List Int))→Option (List (List Int))
 |0,_,_=>none
 |d+1,a,c=>
  bif decide (a<(↑m.rows.length:Int)) then(
  bd (
  p8 N m b a N 0 c) fun e=>
  gd (in64 (a+1))<|
  bz N m b d (a+1) e) else(
  some c)
def pz(N:Nat)(m:Mach):Nat→Int→(List (List Int))→Option (List (List Int))
 |0,_,_=>none
 |c+1,a,b=>
  gd (in64 ((↑m.rows.length:Int)*(↑m.rows.length:Int)))<|
  bif decide (a≤((↑m.rows.length:Int)*(↑m.rows.length:Int))) then(
  bd (
  bz N m a N 0 b) fun d=>
  gd (in64 (a+1))<|
  pz N m c (a+1) d) else(
  some b)
def z0w(N:Nat)(m:Mach):Option (List (List Int)):=
 bd (
 pg N m N ([]:List (List Int)) 0) fun b=>
 bd (
 pz N m N 1 b) fun a=>
 some a
def xx(N:Nat)(m:Mach)(d:(List (List Int)))(a:Int)(c:Int):Nat→Int→Option Int
 |0,_=>none
 |e+1,b=>
  gd (okI m.rows a)<|
  gd (okI (ix m.rows a) b)<|
  gd (okI d ((ix (ix m.rows a) b).to))<|
  gd (okI m.rows c)<|
  gd (okI (ix m.rows c) b)<|
  gd (okI (ix d ((ix (ix m.rows a) b).to)) ((ix (ix m.rows c) b).to))<|
  gd (okI d a)<|
  gd (okI (ix d a) c)<|
  gd (in64 ((ix (ix d a) c)-1))<|
  bif decide ((ix (ix d ((ix (ix m.rows a) b).to)) ((ix (ix m.rows c) b).to))≠((ix (ix d a) c)-1)) then(
  gd (in64 (b+1))<|
  xx N m d a c e (b+1)) else(
  some b)
def tq(N:Nat)(m:Mach)(f:(List (List Int))):Nat→Int→Int→(List Int)→Option (List Int)
 |0,_,_,_=>none
 |e+1,b,c,d=>
  bif decide (b≠c) then(
  bd (
  xx N m f b c N 0) fun a=>
  gd (fits 8 d ([a]:List Int))<|
  gd (okI m.rows b)<|
  gd (okI (ix m.rows b) a)<|
  gd (okI m.rows c)<|
  gd (okI (ix m.rows c) a)<|
  tq N m f e ((ix (ix m.rows b) a).to) ((ix (ix m.rows c) a).to) (d++([a]:List Int))) else(
  some d)
def iy(N:Nat)(m:Mach)(s:Int)(t:Int):Option ((List Int)×Bool):=
 bd (z0w N m) fun a=>
 gd (okI a s)<|
 gd (okI (ix a s) t)<|
 bif decide ((ix (ix a s) t)<0) then(
 some (([]:(List Int)),false)) else(
 bd (
 tq N m a N s t ([]:List Int)) fun b=>
 some (b,true))
def z2r(N:Nat):Option (Mach×Mach):=
 some ((⟨2,2,([([(⟨1,0⟩:Edge),(⟨0,0⟩:Edge)]:List Edge),([(⟨2,0⟩:Edge),(⟨1,1⟩:Edge)]:List Edge),([(⟨0,1⟩:Edge),(⟨2,0⟩:Edge)]:List Edge)]:List (List Edge))⟩:Mach),(⟨2,1,([([(⟨1,0⟩:Edge),(⟨0,0⟩:Edge)]:List Edge),([(⟨2,0⟩:Edge),(⟨0,0⟩:Edge)]:List Edge),([(⟨2,0⟩:Edge),(⟨0,0⟩:Edge)]:List Edge)]:List (List Edge))⟩:Mach))
def z5x(N:Nat)(m:Mach):Option Int:=
 gd (okSh .u16 (↑m.rows.length:Int))<|
 some (IntKind.u16.wrap ((ax .u16 (1:Int) (↑m.rows.length:Int))-1))
def gq(N:Nat)(inputs:Int)(key:(List Int)→Option (List UInt8))(next:(List Int)→Int→Option (List Int))(x23:List Sa)(x62:Int):Nat→Int→(List ((List UInt8)×Bool))→(List Sa)→Option (Ex (List ((List UInt8)×Bool)×List Sa) (Ex (List Sa×List ((List UInt8)×Bool)) (Ex (Unit) ((List Int)×Int))))
 |0,_,_,_=>none
 |h+1,a,b,c=>
  bif decide (a<inputs) then(
  bd (
  bd (next ((ix x23 x62).fH) a) fun d=>
  bd (key d) fun f=>
  bif !(z9t false b f) then(
  bd (ig N ((ix x23 x62).fJ)) fun e=>
  gd (fits 8 e ([a]:List Int)∧0<([a]:List Int).length)<|
  gd (fits 48 c ([(⟨d,(e++([a]:List Int))⟩:Sa)]:List Sa))<|
  some ((z3y b f true),(c++([(⟨d,(e++([a]:List Int))⟩:Sa)]:List Sa)))) else(
  some (b,c))) fun g=>
  gd (in64 (a+1))<|
  gq N inputs key next x23 x62 h (a+1) g.1 g.2) else(
  some (Ex.go (b,c)))
def gu(N:Nat)(inputs:Int)(key:(List Int)→Option (List UInt8))(is:(List Int)→Option Bool)(next:(List Int)→Int→Option (List Int))(x23:List Sa):Nat→(List Sa)→Int→(List ((List UInt8)×Bool))→Option (Ex (List Sa×List ((List UInt8)×Bool)) (Ex (Unit) ((List Int)×Int)))
 |0,_,_,_=>none
 |e+1,a,x62,b=>
  bif decide (x62<(↑x23.length:Int)) then(
  bd (
  gd (okI x23 x62)<|
  bd (is ((ix x23 x62).fH)) fun f=>
  bif f then(
  bd (ig N ((ix x23 x62).fJ)) fun c=>
  some (Ex.rt (Ex.rt (Ex.rt (c,0))))) else(
  gq N inputs key next x23 x62 N 0 b a)) fun g=>
  Ex.on g (fun d=>
  gd (in64 (x62+1))<|
  gu N inputs key is next x23 e d.2 (x62+1) d.1) some) else(
  some (Ex.go (a,b)))
def gy(N:Nat)(inputs:Int)(key:(List Int)→Option (List UInt8))(is:(List Int)→Option Bool)(next:(List Int)→Int→Option (List Int)):Nat→(List Sa)→Int→(List ((List UInt8)×Bool))→Option (Ex (Unit) ((List Int)×Int))
 |0,_,_,_=>none
 |c+1,x23,a,d=>
  bif (decide (0<(↑x23.length:Int)))&&(decide (a≤256)) then(
  bd (
  gu N inputs key is next x23 N ([]:List Sa) 0 d) fun e=>
  Ex.on e (fun b=>
  gd (in64 (a+1))<|
  gy N inputs key is next c b.1 (a+1) b.2) some) else(
  some (Ex.go ()))
def z0q(N:Nat)(inputs:Int)(from_:(List Int))(key:(List Int)→Option (List UInt8))(is:(List Int)→Option Bool)(next:(List Int)→Int→Option (List Int)):Option ((List Int)×Int):=
 bd (key from_) fun a=>
 bd (
 gy N inputs key is next N ([(⟨from_,[]⟩:Sa)]:List Sa) 0 (z3y ([]:List ((List UInt8)×Bool)) a true)) fun b=>
 Ex.on b (fun c=>
 some (([]:(List Int)),7)) some
def z0m(N:Nat)(l_:(List Int)):Nat→(List Int)→Int→Option (List Int)
 |0,_,_=>none
 |c+1,b,a=>
  bif decide (a<(↑l_.length:Int)) then(
  gd (okI l_ a)<|
  gd (okSh .u16 (8:Int))<|
  gd (fits 1 b ([IntKind.u8.wrap (zt (ix l_ a) (8:Int)),IntKind.u8.wrap (ix l_ a)]:List Int))<|
  gd (in64 (a+1))<|
  z0m N l_ c (b++([IntKind.u8.wrap (zt (ix l_ a) (8:Int)),IntKind.u8.wrap (ix l_ a)]:List Int)) (a+1)) else(
  some b)
def z4m(N:Nat)(l_:(List Int)):Option (List UInt8):=
 bd (
 z0m N l_ N ([]:List Int) 0) fun a=>
 some (za7 a)
def z5m(N:Nat)(l_:(List Int)):Option Bool:=
 some (decide ((↑l_.length:Int)=0))
def lu(N:Nat)(x:Int):Option Int:=
 gd (okSh .u16 (8:Int))<|
 gd (okI strT1 (zt x (8:Int)))<|
 gd (okB .u16 x 255)<|
 gd (okI strT1 (ze x 255))<|
 gd (in64 (IntKind.u8.wrap ((ix strT1 (zt x (8:Int)))+(ix strT1 (ze x 255)))))<|
 some (IntKind.u8.wrap ((ix strT1 (zt x (8:Int)))+(ix strT1 (ze x 255))))
def z6r(N:Nat)(x:Int):Option Int:=
 bd (
 bif decide (4294967296≤x) then(
 gd (okSh .u64 (32:Int))<|
 some (zt x (32:Int),32)) else(
 some (x,0))) fun b=>
 bd (
 bif decide (65536≤b.1) then(
 gd (okSh .u64 (16:Int))<|
 gd (in64 (b.2+16))<|
 some (zt b.1 (16:Int),b.2+16)) else(
 some (b.1,b.2))) fun c=>
 bd (
 bif decide (256≤c.1) then(
 gd (okSh .u64 (8:Int))<|
 gd (in64 (c.2+8))<|
 some (zt c.1 (8:Int),c.2+8)) else(
 some (c.1,c.2))) fun a=>
 gd (okI zfz (IntKind.u8.wrap a.1))<|
 gd (in64 (ix zfz (IntKind.u8.wrap a.1)))<|
 gd (in64 (a.2+(ix zfz (IntKind.u8.wrap a.1))))<|
 some (a.2+(ix zfz (IntKind.u8.wrap a.1)))
def z1s(N:Nat)(x:Int):Option Int:=
 bd (z6r N x) fun a=>
 some a
def z2e(N:Nat)(x:Int):Option Bool:=
 some (decide (x≠x))
def uw(N:Nat)(x:Int)(y:Int):Option Bool:=
 bd (z2e N x) fun b=>
 bd (gop (true&&(b==true)) (z2e N y)) fun a=>
 some ((b&&(!(a.getD default)))||(decide (x<y)))
def uo(N:Nat)(a:Int):Nat→Int→(List Int)→Option (List Int)
 |0,_,_=>none
 |c+1,x16,b=>
  gd ((true&&((decide (a<x16))==true))=true→okI b x16)<|
  gd ((true&&((decide (a<x16))==true))=true→in64 (x16-1))<|
  gd ((true&&((decide (a<x16))==true))=true→okI b (x16-1))<|
  bd (gop (true&&((decide (a<x16))==true)) (uw N (ix b x16) (ix b (x16-1)))) fun d=>
  bif (decide (a<x16))&&(d.getD default) then(
  gd (in64 (x16-1))<|
  gd (in64 (x16-1))<|
  gd (okI b (x16-1))<|
  gd (okI b x16)<|
  gd (okI b x16)<|
  gd (okI b (x16-1))<|
  gd (in64 (x16-1))<|
  uo N a c (x16-1) (up (up b x16 (ix b (x16-1))) (x16-1) (ix b x16))) else(
  some b)
def um(N:Nat)(a:Int)(b:Int):Nat→Int→(List Int)→Option (List Int)
 |0,_,_=>none
 |f+1,c,e=>
  bif decide (c<b) then(
  bd (
  uo N a N c e) fun d=>
  gd (in64 (c+1))<|
  um N a b f (c+1) d) else(
  some e)
def ng(N:Nat)(data:List Int)(a:Int)(b:Int):Option (List Int):=
 gd (in64 (a+1))<|
 um N a b N (a+1) data
def yj(N:Nat)(hi:Int)(first:Int):Nat→Int→(List Int)→Option (List Int)
 |0,_,_=>none
 |f+1,a,c=>
  gd (in64 ((2:Int)*a))<|
  gd (in64 (((2:Int)*a)+1))<|
  bif decide (hi≤(((2:Int)*a)+1)) then(
  some c) else(
  bd (
  gd (in64 ((((2:Int)*a)+1)+1))<|
  gd ((true&&((decide (((((2:Int)*a)+1)+1)<hi))==true))=true→in64 (first+(((2:Int)*a)+1)))<|
  gd ((true&&((decide (((((2:Int)*a)+1)+1)<hi))==true))=true→okI c (first+(((2:Int)*a)+1)))<|
  gd ((true&&((decide (((((2:Int)*a)+1)+1)<hi))==true))=true→in64 (first+(((2:Int)*a)+1)))<|
  gd ((true&&((decide (((((2:Int)*a)+1)+1)<hi))==true))=true→in64 ((first+(((2:Int)*a)+1))+1))<|
  gd ((true&&((decide (((((2:Int)*a)+1)+1)<hi))==true))=true→okI c ((first+(((2:Int)*a)+1))+1))<|
  bd (gop (true&&((decide (((((2:Int)*a)+1)+1)<hi))==true)) (uw N (ix c (first+(((2:Int)*a)+1))) (ix c ((first+(((2:Int)*a)+1))+1)))) fun d=>
  bif (decide (((((2:Int)*a)+1)+1)<hi))&&(d.getD default) then(
  gd (in64 ((((2:Int)*a)+1)+1))<|
  some ((((2:Int)*a)+1)+1)) else(
  some (((2:Int)*a)+1))) fun b=>
  gd (in64 (first+a))<|
  gd (okI c (first+a))<|
  gd (in64 (first+b))<|
  gd (okI c (first+b))<|
  bd (uw N (ix c (first+a)) (ix c (first+b))) fun e=>
  bif !e then(
  some c) else(
  gd (in64 (first+a))<|
  gd (in64 (first+b))<|
  gd (in64 (first+b))<|
  gd (okI c (first+b))<|
  gd (in64 (first+a))<|
  gd (okI c (first+a))<|
  gd (okI c (first+a))<|
  gd (okI c (first+b))<|
  yj N hi first f b (up (up c (first+a) (ix c (first+b))) (first+b) (ix c (first+a)))))
def au(N:Nat)(data:List Int)(lo:Int)(hi:Int)(first:Int):Option (List Int):=
 yj N hi first N lo data
def yo(N:Nat)(a:Int)(b:Int):Nat→Int→(List Int)→Option (List Int)
 |0,_,_=>none
 |f+1,c,d=>
  bif decide (0≤c) then(
  bd (au N d c (b-a) a) fun e=>
  gd (in64 (c-1))<|
  yo N a b f (c-1) e) else(
  some d)
def yt(N:Nat)(a:Int):Nat→Int→(List Int)→Option (List Int)
 |0,_,_=>none
 |d+1,b,c=>
  bif decide (0≤b) then(
  gd (in64 (a+b))<|
  gd (in64 (a+b))<|
  gd (okI c (a+b))<|
  gd (okI c a)<|
  gd (okI c a)<|
  gd (okI c (a+b))<|
  bd (au N (up (up c a (ix c (a+b))) (a+b) (ix c a)) 0 b a) fun e=>
  gd (in64 (b-1))<|
  yt N a d (b-1) e) else(
  some c)
def ak(N:Nat)(data:List Int)(a:Int)(b:Int):Option (List Int):=
 gd (in64 (b-a))<|
 bd (
 gd (in64 ((b-a)-1))<|
 gd (okQ ((b-a)-1) 2)<|
 yo N a b N (((b-a)-1)/2) data) fun c=>
 gd (in64 ((b-a)-1))<|
 yt N a N ((b-a)-1) c
def ll(N:Nat)(length:Int):Option Int:=
 bd (z1s N (IntKind.u64.wrap length)) fun a=>
 gd (okSh .u64 a)<|
 some (ax .u64 (1:Int) a)
def z0r(N:Nat)(r_:Int):Option (Int×Int):=
 gd (okSh .u64 (13:Int))<|
 gd (okB .u64 r_ (ax .u64 r_ (13:Int)))<|
 gd (okSh .u64 (7:Int))<|
 gd (okB .u64 (l8 r_ (ax .u64 r_ (13:Int))) (zt (l8 r_ (ax .u64 r_ (13:Int))) (7:Int)))<|
 gd (okSh .u64 (17:Int))<|
 gd (okB .u64 (l8 (l8 r_ (ax .u64 r_ (13:Int))) (zt (l8 r_ (ax .u64 r_ (13:Int))) (7:Int))) (ax .u64 (l8 (l8 r_ (ax .u64 r_ (13:Int))) (zt (l8 r_ (ax .u64 r_ (13:Int))) (7:Int))) (17:Int)))<|
 some ((l8 (l8 (l8 r_ (ax .u64 r_ (13:Int))) (zt (l8 r_ (ax .u64 r_ (13:Int))) (7:Int))) (ax .u64 (l8 (l8 r_ (ax .u64 r_ (13:Int))) (zt (l8 r_ (ax .u64 r_ (13:Int))) (7:Int))) (17:Int))),(l8 (l8 (l8 r_ (ax .u64 r_ (13:Int))) (zt (l8 r_ (ax .u64 r_ (13:Int))) (7:Int))) (ax .u64 (l8 (l8 r_ (ax .u64 r_ (13:Int))) (zt (l8 r_ (ax .u64 r_ (13:Int))) (7:Int))) (17:Int))))
def ut(N:Nat)(a:Int)(b:Int)(f:Int):Nat→Int→(List Int)→Int→Option (List Int)
 |0,_,_,_=>none
 |g+1,x16,c,h=>
  gd (okQ (b-a) 4)<|
  gd (in64 (((b-a)/4)*2))<|
  gd (in64 (a+(((b-a)/4)*2)))<|
  gd (in64 ((a+(((b-a)/4)*2))+1))<|
  bif decide (x16≤((a+(((b-a)/4)*2))+1)) then(
  bd (z0r N h) fun d=>
  gd (okB .u64 d.1 (IntKind.u64.wrap (f-1)))<|
  gd (in64 (ze d.1 (IntKind.u64.wrap (f-1))))<|
  bd (
  bif decide ((b-a)≤(ze d.1 (IntKind.u64.wrap (f-1)))) then(
  gd (in64 ((ze d.1 (IntKind.u64.wrap (f-1)))-(b-a)))<|
  some ((ze d.1 (IntKind.u64.wrap (f-1)))-(b-a))) else(
  some (ze d.1 (IntKind.u64.wrap (f-1))))) fun e=>
  gd (in64 (a+e))<|
  gd (in64 (a+e))<|
  gd (okI c (a+e))<|
  gd (okI c x16)<|
  gd (okI c x16)<|
  gd (okI c (a+e))<|
  gd (in64 (x16+1))<|
  ut N a b f g (x16+1) (up (up c x16 (ix c (a+e))) (a+e) (ix c x16)) d.2) else(
  some c)
def xm(N:Nat)(data:List Int)(a:Int)(b:Int):Option (List Int):=
 gd (in64 (b-a))<|
 bif decide (8≤(b-a)) then(
 bd (ll N (b-a)) fun c=>
 gd (okQ (b-a) 4)<|
 gd (in64 (((b-a)/4)*2))<|
 gd (in64 (a+(((b-a)/4)*2)))<|
 gd (in64 ((a+(((b-a)/4)*2))-1))<|
 ut N a b c N ((a+(((b-a)/4)*2))-1) data (IntKind.u64.wrap (b-a))) else(
 some data)
def pq(N:Nat)(data:(List Int))(a:Int)(b:Int)(swaps:Int):Option (Int×Int×Int):=
 gd (okI data b)<|
 gd (okI data a)<|
 bd (uw N (ix data b) (ix data a)) fun c=>
 bif c then(
 gd (in64 (swaps+1))<|
 some (b,a,(swaps+1))) else(
 some (a,b,swaps))
def og(N:Nat)(data:(List Int))(a:Int)(b:Int)(c:Int)(swaps:Int):Option (Int×Int):=
 bd (pq N data a b swaps) fun e=>
 bd (pq N data e.2.1 c e.2.2) fun f=>
 bd (pq N data e.1 f.1 f.2.2) fun d=>
 some (d.2.1,d.2.2)
def jr(N:Nat)(data:(List Int))(a:Int)(swaps:Int):Option (Int×Int):=
 gd (in64 (a-1))<|
 gd (in64 (a+1))<|
 bd (og N data (a-1) a (a+1) swaps) fun b=>
 some (b.1,b.2)
def mr(N:Nat)(data:(List Int))(a:Int)(b:Int):Option (Int×Int):=
 gd (in64 (b-a))<|
 gd (okQ (b-a) 4)<|
 gd (in64 (((b-a)/4)*1))<|
 gd (in64 (a+(((b-a)/4)*1)))<|
 gd (okQ (b-a) 4)<|
 gd (in64 (((b-a)/4)*2))<|
 gd (in64 (a+(((b-a)/4)*2)))<|
 gd (okQ (b-a) 4)<|
 gd (in64 (((b-a)/4)*3))<|
 gd (in64 (a+(((b-a)/4)*3)))<|
 bd (
 bif decide (8≤(b-a)) then(
 bd (
 bif decide (50≤(b-a)) then(
 bd (jr N data (a+(((b-a)/4)*1)) 0) fun e=>
 bd (jr N data (a+(((b-a)/4)*2)) e.2) fun f=>
 bd (jr N data (a+(((b-a)/4)*3)) f.2) fun g=>
 some (e.1,f.1,g.1,g.2)) else(
 some (a+(((b-a)/4)*1),a+(((b-a)/4)*2),a+(((b-a)/4)*3),0))) fun d=>
 bd (og N data d.1 d.2.1 d.2.2.1 d.2.2.2) fun h=>
 some (h.1,h.2)) else(
 some (a+(((b-a)/4)*2),0))) fun c=>
 bif decide (c.2=0) then(
 some (c.1,1)) else(
 bif decide (c.2=12) then(
 some (c.1,2)) else(
 some (c.1,0)))
def uz(N:Nat):Nat→Int→Int→(List Int)→Option (List Int)
 |0,_,_,_=>none
 |d+1,b,c,a=>
  bif decide (b<c) then(
  gd (okI a c)<|
  gd (okI a b)<|
  gd (okI a b)<|
  gd (okI a c)<|
  gd (in64 (b+1))<|
  gd (in64 (c-1))<|
  uz N d (b+1) (c-1) (up (up a b (ix a c)) c (ix a b))) else(
  some a)
def gm(N:Nat)(data:List Int)(a:Int)(b:Int):Option (List Int):=
 gd (in64 (b-1))<|
 uz N N a (b-1) data
def jy(N:Nat)(b:Int)(c:List Int):Nat→Int→Option Int
 |0,_=>none
 |d+1,a=>
  gd ((true&&((decide (a<b))==true))=true→okI c a)<|
  gd ((true&&((decide (a<b))==true))=true→in64 (a-1))<|
  gd ((true&&((decide (a<b))==true))=true→okI c (a-1))<|
  bd (gop (true&&((decide (a<b))==true)) (uw N (ix c a) (ix c (a-1)))) fun e=>
  bif (decide (a<b))&&(!(e.getD default)) then(
  gd (in64 (a+1))<|
  jy N b c d (a+1)) else(
  some a)
def jm(N:Nat):Nat→Int→(List Int)→Option (List Int)
 |0,_,_=>none
 |c+1,a,b=>
  bif decide (1≤a) then(
  gd (okI b a)<|
  gd (in64 (a-1))<|
  gd (okI b (a-1))<|
  bd (uw N (ix b a) (ix b (a-1))) fun d=>
  bif !d then(
  some b) else(
  gd (in64 (a-1))<|
  gd (in64 (a-1))<|
  gd (okI b (a-1))<|
  gd (okI b a)<|
  gd (okI b a)<|
  gd (okI b (a-1))<|
  gd (in64 (a-1))<|
  jm N c (a-1) (up (up b a (ix b (a-1))) (a-1) (ix b a)))) else(
  some b)
def jo(N:Nat)(b:Int)(d:Int):Nat→Int→(List Int)→Option (Ex (Int×List Int) (Ex (List Int) (Bool×List Int)))
 |0,_,_=>none
 |e+1,a,c=>
  bif decide (a<b) then(
  gd (okI c a)<|
  gd (in64 (a-1))<|
  gd (okI c (a-1))<|
  bd (uw N (ix c a) (ix c (a-1))) fun f=>
  bif !f then(
  some (Ex.go (d,c))) else(
  gd (in64 (a-1))<|
  gd (in64 (a-1))<|
  gd (okI c (a-1))<|
  gd (okI c a)<|
  gd (okI c a)<|
  gd (okI c (a-1))<|
  gd (in64 (a+1))<|
  jo N b d e (a+1) (up (up c a (ix c (a-1))) (a-1) (ix c a)))) else(
  some (Ex.go (d,c)))
def kg(N:Nat)(a:Int)(b:Int):Nat→Int→Int→(List Int)→Option (Ex (List Int) (Bool×List Int))
 |0,_,_,_=>none
 |i+1,j,f,d=>
  bif decide (f<5) then(
  bd (
  bd (
  jy N b d N j) fun c=>
  bif decide (c=b) then(
  some (Ex.rt (Ex.rt (true,d)))) else(
  gd (in64 (b-a))<|
  bif decide ((b-a)<50) then(
  some (Ex.rt (Ex.rt (false,d)))) else(
  gd (in64 (c-1))<|
  gd (in64 (c-1))<|
  gd (okI d (c-1))<|
  gd (okI d c)<|
  gd (okI d c)<|
  gd (okI d (c-1))<|
  bd (
  gd (in64 (c-a))<|
  bif decide (2≤(c-a)) then(
  gd (in64 (c-1))<|
  jm N N (c-1) (up (up d c (ix d (c-1))) (c-1) (ix d c))) else(
  some (up (up d c (ix d (c-1))) (c-1) (ix d c)))) fun e=>
  gd (in64 (b-c))<|
  bif decide (2≤(b-c)) then(
  gd (in64 (c+1))<|
  jo N b c N (c+1) e) else(
  some (Ex.go (c,e)))))) fun h=>
  Ex.on h (fun g=>
  gd (in64 (f+1))<|
  kg N a b i g.1 (f+1) g.2) some) else(
  some (Ex.go d))
def uu(N:Nat)(data:List Int)(a:Int)(b:Int):Option (Bool×List Int):=
 gd (in64 (a+1))<|
 bd (
 kg N a b N (a+1) 0 data) fun c=>
 Ex.on c (fun d=>
 some (false,d)) some
def ug(N:Nat)(a:Int)(c:Int)(d:List Int):Nat→Int→Option Int
 |0,_=>none
 |e+1,b=>
  gd ((true&&((decide (b≤c))==true))=true→okI d a)<|
  gd ((true&&((decide (b≤c))==true))=true→okI d b)<|
  bd (gop (true&&((decide (b≤c))==true)) (uw N (ix d a) (ix d b))) fun f=>
  bif (decide (b≤c))&&(!(f.getD default)) then(
  gd (in64 (b+1))<|
  ug N a c d e (b+1)) else(
  some b)
def ui(N:Nat)(a:Int)(c:List Int)(d:Int):Nat→Int→Option Int
 |0,_=>none
 |e+1,b=>
  gd ((true&&((decide (d≤b))==true))=true→okI c a)<|
  gd ((true&&((decide (d≤b))==true))=true→okI c b)<|
  bd (gop (true&&((decide (d≤b))==true)) (uw N (ix c a) (ix c b))) fun f=>
  bif (decide (d≤b))&&(f.getD default) then(
  gd (in64 (b-1))<|
  ui N a c d e (b-1)) else(
  some b)
def uf(N:Nat)(a:Int):Nat→Int→Int→(List Int)→Option (Int×List Int)
 |0,_,_,_=>none
 |f+1,g,e,c=>
  bd (
  ug N a e c N g) fun d=>
  bd (
  ui N a c d N e) fun b=>
  bif decide (b<d) then(
  some (d,c)) else(
  gd (okI c b)<|
  gd (okI c d)<|
  gd (okI c d)<|
  gd (okI c b)<|
  gd (in64 (d+1))<|
  gd (in64 (b-1))<|
  uf N a f (d+1) (b-1) (up (up c d (ix c b)) b (ix c d)))
def dh(N:Nat)(data:List Int)(a:Int)(b:Int)(pivot:Int):Option (Int×List Int):=
 gd (okI data pivot)<|
 gd (okI data a)<|
 gd (okI data a)<|
 gd (okI data pivot)<|
 gd (in64 (a+1))<|
 gd (in64 (b-1))<|
 bd (
 uf N a N (a+1) (b-1) (up (up data a (ix data pivot)) pivot (ix data a))) fun c=>
 some (c.1,c.2)
def vv(N:Nat)(data:List Int)(a:Int)(b:Int)(pivot:Int):Nat→Int→Option Int
 |0,_=>none
 |d+1,c=>
  gd ((true&&((decide (c≤(b-1)))==true))=true→okI (up (up data a (ix data pivot)) pivot (ix data a)) c)<|
  gd ((true&&((decide (c≤(b-1)))==true))=true→okI (up (up data a (ix data pivot)) pivot (ix data a)) a)<|
  bd (gop (true&&((decide (c≤(b-1)))==true)) (uw N (ix (up (up data a (ix data pivot)) pivot (ix data a)) c) (ix (up (up data a (ix data pivot)) pivot (ix data a)) a))) fun e=>
  bif (decide (c≤(b-1)))&&(e.getD default) then(
  gd (in64 (c+1))<|
  vv N data a b pivot d (c+1)) else(
  some c)
def vw(N:Nat)(data:List Int)(a:Int)(pivot:Int)(c:Int):Nat→Int→Option Int
 |0,_=>none
 |d+1,b=>
  gd ((true&&((decide (c≤b))==true))=true→okI (up (up data a (ix data pivot)) pivot (ix data a)) b)<|
  gd ((true&&((decide (c≤b))==true))=true→okI (up (up data a (ix data pivot)) pivot (ix data a)) a)<|
  bd (gop (true&&((decide (c≤b))==true)) (uw N (ix (up (up data a (ix data pivot)) pivot (ix data a)) b) (ix (up (up data a (ix data pivot)) pivot (ix data a)) a))) fun e=>
  bif (decide (c≤b))&&(!(e.getD default)) then(
  gd (in64 (b-1))<|
  vw N data a pivot c d (b-1)) else(
  some b)
def vo(N:Nat)(a:Int)(c:Int)(d:List Int):Nat→Int→Option Int
 |0,_=>none
 |e+1,b=>
  gd ((true&&((decide (b≤c))==true))=true→okI d b)<|
  gd ((true&&((decide (b≤c))==true))=true→okI d a)<|
  bd (gop (true&&((decide (b≤c))==true)) (uw N (ix d b) (ix d a))) fun f=>
  bif (decide (b≤c))&&(f.getD default) then(
  gd (in64 (b+1))<|
  vo N a c d e (b+1)) else(
  some b)
def vg(N:Nat)(a:Int)(c:List Int)(d:Int):Nat→Int→Option Int
 |0,_=>none
 |e+1,b=>
  gd ((true&&((decide (d≤b))==true))=true→okI c b)<|
  gd ((true&&((decide (d≤b))==true))=true→okI c a)<|
  bd (gop (true&&((decide (d≤b))==true)) (uw N (ix c b) (ix c a))) fun f=>
  bif (decide (d≤b))&&(!(f.getD default)) then(
  gd (in64 (b-1))<|
  vg N a c d e (b-1)) else(
  some b)
def vk(N:Nat)(a:Int):Nat→Int→Int→(List Int)→Option (Int×List Int)
 |0,_,_,_=>none
 |f+1,g,e,b=>
  bd (
  vo N a e b N g) fun c=>
  bd (
  vg N a b c N e) fun d=>
  bif decide (d<c) then(
  some (d,b)) else(
  gd (okI b d)<|
  gd (okI b c)<|
  gd (okI b c)<|
  gd (okI b d)<|
  gd (in64 (c+1))<|
  gd (in64 (d-1))<|
  vk N a f (c+1) (d-1) (up (up b c (ix b d)) d (ix b c)))
def ae(N:Nat)(data:List Int)(a:Int)(b:Int)(pivot:Int):Option (Int×Bool×List Int):=
 gd (okI data pivot)<|
 gd (okI data a)<|
 gd (okI data a)<|
 gd (okI data pivot)<|
 gd (in64 (a+1))<|
 gd (in64 (b-1))<|
 bd (
 vv N data a b pivot N (a+1)) fun e=>
 bd (
 vw N data a pivot e N (b-1)) fun d=>
 bif decide (d<e) then(
 gd (okI (up (up data a (ix data pivot)) pivot (ix data a)) a)<|
 gd (okI (up (up data a (ix data pivot)) pivot (ix data a)) d)<|
 gd (okI (up (up data a (ix data pivot)) pivot (ix data a)) d)<|
 gd (okI (up (up data a (ix data pivot)) pivot (ix data a)) a)<|
 some (d,true,(up (up (up (up data a (ix data pivot)) pivot (ix data a)) d (ix (up (up data a (ix data pivot)) pivot (ix data a)) a)) a (ix (up (up data a (ix data pivot)) pivot (ix data a)) d)))) else(
 gd (okI (up (up data a (ix data pivot)) pivot (ix data a)) d)<|
 gd (okI (up (up data a (ix data pivot)) pivot (ix data a)) e)<|
 gd (okI (up (up data a (ix data pivot)) pivot (ix data a)) e)<|
 gd (okI (up (up data a (ix data pivot)) pivot (ix data a)) d)<|
 gd (in64 (e+1))<|
 gd (in64 (d-1))<|
 bd (
 vk N a N (e+1) (d-1) (up (up (up (up data a (ix data pivot)) pivot (ix data a)) e (ix (up (up data a (ix data pivot)) pivot (ix data a)) d)) d (ix (up (up data a (ix data pivot)) pivot (ix data a)) e))) fun c=>
 gd (okI c.2 a)<|
 gd (okI c.2 c.1)<|
 gd (okI c.2 c.1)<|
 gd (okI c.2 a)<|
 some (c.1,false,(up (up c.2 c.1 (ix c.2 a)) a (ix c.2 c.1))))
def u7(N:Nat)(self:List Int→Int→Int→Int→Option (List Int)):Nat→Int→Int→Int→Bool→Bool→(List Int)→Option (List Int)
 |0,_,_,_,_,_,_=>none
 |o+1,b,c,m,p,v,n=>
  gd (in64 (c-b))<|
  bif decide ((c-b)≤12) then(
  bd (ng N n b c) fun q=>
  some q) else(
  bif decide (m=0) then(
  bd (ak N n b c) fun r=>
  some r) else(
  bd (
  bif !p then(
  bd (xm N n b c) fun s=>
  gd (in64 (m-1))<|
  some (m-1,s)) else(
  some (m,n))) fun d=>
  bd (mr N d.2 b c) fun f=>
  bd (
  bif decide (f.2=2) then(
  bd (gm N d.2 b c) fun t=>
  gd (in64 (c-1))<|
  gd (in64 (f.1-b))<|
  gd (in64 ((c-1)-(f.1-b)))<|
  some ((c-1)-(f.1-b),1,t)) else(
  some (f.1,f.2,d.2))) fun e=>
  bd (
  bif (p&&v)&&(decide (e.2.1=1)) then(
  bd (uu N e.2.2 b c) fun h=>
  bif h.1 then(
  some (Ex.rt h.2)) else(
  some (Ex.go h.2))) else(
  some (Ex.go e.2.2))) fun u=>
  Ex.on u (fun g=>
  gd ((true&&((decide (0<b))==true))=true→in64 (b-1))<|
  gd ((true&&((decide (0<b))==true))=true→okI g (b-1))<|
  gd ((true&&((decide (0<b))==true))=true→okI g e.1)<|
  bd (gop (true&&((decide (0<b))==true)) (uw N (ix g (b-1)) (ix g e.1))) fun j=>
  bif (decide (0<b))&&(!(j.getD default)) then(
  bd (dh N g b c e.1) fun i=>
  u7 N self o i.1 c d.1 p v i.2) else(
  bd (ae N g b c e.1) fun a=>
  gd (in64 (a.1-b))<|
  gd (in64 (c-a.1))<|
  gd (okQ (c-b) 8)<|
  bif decide ((a.1-b)<(c-a.1)) then(
  bd (self a.2.2 b a.1 d.1) fun k=>
  gd (in64 (a.1+1))<|
  u7 N self o (a.1+1) c d.1 (decide (((c-b)/8)≤(a.1-b))) a.2.1 k) else(
  gd (in64 (a.1+1))<|
  bd (self a.2.2 (a.1+1) c d.1) fun l=>
  u7 N self o b a.1 d.1 (decide (((c-b)/8)≤(c-a.1))) a.2.1 l))) some))
def uk(N:Nat):Nat→List Int→Int→Int→Int→Option (List Int)
 |0,_,_,_,_=>none
 |F+1,data,a,b,limit=>
  u7 N (uk N F) N a b limit true true data
def z16(N:Nat)(x:List Int):Option (List Int):=
 bd (z1s N (IntKind.u64.wrap (↑x.length:Int))) fun a=>
 bd (uk N N x 0 (↑x.length:Int) a) fun b=>
 some b
def dm(N:Nat)(s:List Int)(a:Int):Nat→Int→Int→(List Int)→Option (Int×List Int)
 |0,_,_,_=>none
 |f+1,d,b,c=>
  bif decide (b<(↑(s.length-a.toNat:Nat):Int)) then(
  bd (
  gd (okA c a (s.length-a.toNat) b)<|
  gd (in64 (b-1))<|
  gd (okA c a (s.length-a.toNat) (b-1))<|
  bif decide ((ix c (a+b))≠(ix c (a+(b-1)))) then(
  gd (okA c a (s.length-a.toNat) b)<|
  gd (okI c d)<|
  gd (in64 (d+1))<|
  some (d+1,(up c d (ix c (a+b))))) else(
  some (d,c))) fun e=>
  gd (in64 (b+1))<|
  dm N s a f e.1 (b+1) e.2) else(
  some (d,c))
def xu(N:Nat)(s:List Int):Nat→Int→Option (Ex (Unit) ((List Int)))
 |0,_=>none
 |c+1,b=>
  bif decide (b<(↑s.length:Int)) then(
  gd (okI s b)<|
  gd (in64 (b-1))<|
  gd (okI s (b-1))<|
  bif decide ((ix s b)=(ix s (b-1))) then(
  gd (okS s b (↑s.length:Int))<|
  bd (
  dm N s b N b 1 s) fun a=>
  gd (okS a.2 a.1 (↑a.2.length:Int))<|
  gd (okS (z7o a.2 a.1.toNat (List.replicate (a.2.length-a.1.toNat) (0:Int))) 0 a.1)<|
  some (Ex.rt (cut (z7o a.2 a.1.toNat (List.replicate (a.2.length-a.1.toNat) (0:Int))) 0 a.1))) else(
  gd (in64 (b+1))<|
  xu N s c (b+1))) else(
  some (Ex.go ()))
def z0f(N:Nat)(s:List Int):Option (List Int):=
 bif decide ((↑s.length:Int)<2) then(
 some s) else(
 bd (
 xu N s N 1) fun a=>
 Ex.on a (fun b=>
 some s) some)
def ou(N:Nat)(g_:Sg)(l_:(List Int))(i:Int)(x16:Int):Nat→Int→(Arr 16 Int)→Option (Arr 16 Int)
 |0,_,_=>none
 |c+1,a,b=>
  bif decide (a<(↑g_.fG.rows.length:Int)) then(
  bd (
  gd (okI g_.fG.rows a)<|
  gd (okSh .u16 a)<|
  gd (okB .u16 (zt (ix l_ x16) a) 1)<|
  bif decide ((ze (zt (ix l_ x16) a) 1)=1) then(
  gd (okI (ix g_.fG.rows a) i)<|
  gd (okI b.1 ((ix (ix g_.fG.rows a) i).out))<|
  gd (okI (ix g_.fG.rows a) i)<|
  gd (okSh .u16 ((ix (ix g_.fG.rows a) i).to))<|
  gd (okB .u16 (ix b.1 ((ix (ix g_.fG.rows a) i).out)) (ax .u16 (1:Int) ((ix (ix g_.fG.rows a) i).to)))<|
  gd (okI b.1 ((ix (ix g_.fG.rows a) i).out))<|
  some (zfa b ((ix (ix g_.fG.rows a) i).out) (ior (ix b.1 ((ix (ix g_.fG.rows a) i).out)) (ax .u16 (1:Int) ((ix (ix g_.fG.rows a) i).to))))) else(
  some b)) fun d=>
  gd (in64 (a+1))<|
  ou N g_ l_ i x16 c (a+1) d) else(
  some b)
def om(N:Nat)(c:(Arr 16 Int)):Nat→Int→(List Int)→Option (List Int)
 |0,_,_=>none
 |d+1,a,b=>
  bif decide (a<16) then(
  bd (
  gd (okI c.1 a)<|
  bd (lu N (ix c.1 a)) fun e=>
  bif decide (1<e) then(
  gd (fits 2 b ([(ix c.1 a)]:List Int))<|
  some (b++([(ix c.1 a)]:List Int))) else(
  some b)) fun f=>
  gd (in64 (a+1))<|
  om N c d (a+1) f) else(
  some b)
def oo(N:Nat)(g_:Sg)(l_:(List Int))(i:Int):Nat→(List Int)→Int→Option (List Int)
 |0,_,_=>none
 |b+1,a,x16=>
  bif decide (x16<(↑l_.length:Int)) then(
  bd (
  gd (okI l_ x16)<|
  bd (
  ou N g_ l_ i x16 N 0 (zhg 16 (List.replicate 16 (0:Int)))) fun c=>
  om N c N 0 a) fun d=>
  gd (in64 (x16+1))<|
  oo N g_ l_ i b d (x16+1)) else(
  some a)
def il(N:Nat)(g_:Sg)(l_:(List Int))(i:Int):Option (List Int):=
 bd (
 oo N g_ l_ i N ([]:List Int) 0) fun c=>
 bd (z16 N c) fun a=>
 bd (z0f N a) fun b=>
 some b
def z1o(N:Nat)(m:Mach):Option ((List Int)×Int):=
 bd (z11 N m) fun e=>
 bif decide (e≠0) then(
 some (([]:(List Int)),e)) else(
 bif decide (8<(↑m.rows.length:Int)) then(
 some (([]:(List Int)),3)) else(
 bd (z5x N m) fun c=>
 bd (
 bif decide ((↑m.rows.length:Int)=1) then(
 some ([]:List Int)) else(
 some ([c]:List Int))) fun d=>
 bd (z0q N m.inputs d (fun a=>z4m N a) (fun a=>z5m N a) (fun a f=>il N (⟨(⟨m.inputs,m.outputs,m.rows⟩:Mach)⟩:Sg) a f)) fun b=>
 some (b.1,b.2)))
def z08(N:Nat)(inputs:Int)(key:Int→Option (List UInt8))(next:Int→Int→Option Int)(x23:List Sc)(x62:Int):Nat→Int→(List ((List UInt8)×Bool))→(List Sc)→Option (Ex (List ((List UInt8)×Bool)×List Sc) (Ex (List Sc×List ((List UInt8)×Bool)) (Ex (Unit) ((List Int)×Int))))
 |0,_,_,_=>none
 |h+1,a,b,c=>
  bif decide (a<inputs) then(
  bd (
  bd (next ((ix x23 x62).fH) a) fun d=>
  bd (key d) fun f=>
  bif !(z9t false b f) then(
  bd (ig N ((ix x23 x62).fJ)) fun e=>
  gd (fits 8 e ([a]:List Int)∧0<([a]:List Int).length)<|
  gd (fits 32 c ([(⟨d,(e++([a]:List Int))⟩:Sc)]:List Sc))<|
  some ((z3y b f true),(c++([(⟨d,(e++([a]:List Int))⟩:Sc)]:List Sc)))) else(
  some (b,c))) fun g=>
  gd (in64 (a+1))<|
  z08 N inputs key next x23 x62 h (a+1) g.1 g.2) else(
  some (Ex.go (b,c)))
def z0c(N:Nat)(inputs:Int)(key:Int→Option (List UInt8))(is:Int→Option Bool)(next:Int→Int→Option Int)(x23:List Sc):Nat→(List Sc)→Int→(List ((List UInt8)×Bool))→Option (Ex (List Sc×List ((List UInt8)×Bool)) (Ex (Unit) ((List Int)×Int)))
 |0,_,_,_=>none
 |d+1,a,x62,b=>
  bif decide (x62<(↑x23.length:Int)) then(
  bd (
  gd (okI x23 x62)<|
  bd (is ((ix x23 x62).fH)) fun e=>
  bif e then(
  bd (ig N ((ix x23 x62).fJ)) fun f=>
  some (Ex.rt (Ex.rt (Ex.rt (f,0))))) else(
  z08 N inputs key next x23 x62 N 0 b a)) fun g=>
  Ex.on g (fun c=>
  gd (in64 (x62+1))<|
  z0c N inputs key is next x23 d c.2 (x62+1) c.1) some) else(
  some (Ex.go (a,b)))
def z0b(N:Nat)(inputs:Int)(key:Int→Option (List UInt8))(is:Int→Option Bool)(next:Int→Int→Option Int):Nat→(List Sc)→Int→(List ((List UInt8)×Bool))→Option (Ex (Unit) ((List Int)×Int))
 |0,_,_,_=>none
 |c+1,x23,a,d=>
  bif (decide (0<(↑x23.length:Int)))&&(decide (a≤256)) then(
  bd (
  z0c N inputs key is next x23 N ([]:List Sc) 0 d) fun e=>
  Ex.on e (fun b=>
  gd (in64 (a+1))<|
  z0b N inputs key is next c b.1 (a+1) b.2) some) else(
  some (Ex.go ()))
def z3x(N:Nat)(inputs:Int)(from_:Int)(key:Int→Option (List UInt8))(is:Int→Option Bool)(next:Int→Int→Option Int):Option ((List Int)×Int):=
 bd (key from_) fun a=>
 bd (
 z0b N inputs key is next N ([(⟨from_,[]⟩:Sc)]:List Sc) 0 (z3y ([]:List ((List UInt8)×Bool)) a true)) fun b=>
 Ex.on b (fun c=>
 some (([]:(List Int)),7)) some
def za1(N:Nat)(x:Int):Option (List UInt8):=
 bd (z4m N ([x]:List Int)) fun a=>
 some a
def za2(N:Nat)(x:Int):Option Bool:=
 bd (lu N x) fun a=>
 some (decide (a=1))
def z1a(N:Nat)(g_:Sg)(x:Int)(i:Int):Nat→Int→Int→Option Int
 |0,_,_=>none
 |b+1,x16,a=>
  bif decide (a<(↑g_.fG.rows.length:Int)) then(
  bd (
  gd (okI g_.fG.rows a)<|
  gd (okSh .u16 a)<|
  gd (okB .u16 (zt x a) 1)<|
  bif decide ((ze (zt x a) 1)=1) then(
  gd (okI (ix g_.fG.rows a) i)<|
  gd (okSh .u16 ((ix (ix g_.fG.rows a) i).to))<|
  gd (okB .u16 x16 (ax .u16 (1:Int) ((ix (ix g_.fG.rows a) i).to)))<|
  some (ior x16 (ax .u16 (1:Int) ((ix (ix g_.fG.rows a) i).to)))) else(
  some x16)) fun c=>
  gd (in64 (a+1))<|
  z1a N g_ x i b c (a+1)) else(
  some x16)
def z6u(N:Nat)(g_:Sg)(x:Int)(i:Int):Option Int:=
 bd (
 z1a N g_ x i N 0 0) fun a=>
 some a
def z9i(N:Nat)(m:Mach):Option ((List Int)×Int):=
 bd (z11 N m) fun d=>
 bif decide (d≠0) then(
 some (([]:(List Int)),d)) else(
 bif decide (12<(↑m.rows.length:Int)) then(
 some (([]:(List Int)),3)) else(
 bd (z5x N (⟨m.inputs,m.outputs,m.rows⟩:Mach)) fun c=>
 bd (z3x N m.inputs c (fun a=>za1 N a) (fun a=>za2 N a) (fun a e=>z6u N (⟨(⟨m.inputs,m.outputs,m.rows⟩:Mach)⟩:Sg) a e)) fun b=>
 some (b.1,b.2)))
def z3d(N:Nat)(x:Int):Option Int:=
 gd (okSh .u64 (1:Int))<|
 gd (okB .u64 (zt x (1:Int)) 6148914691236517205)<|
 gd (okB .u64 x 6148914691236517205)<|
 gd (okSh .u64 (2:Int))<|
 gd (okB .u64 (zt (IntKind.u64.wrap ((ze (zt x (1:Int)) 6148914691236517205)+(ze x 6148914691236517205))) (2:Int)) 3689348814741910323)<|
 gd (okB .u64 (IntKind.u64.wrap ((ze (zt x (1:Int)) 6148914691236517205)+(ze x 6148914691236517205))) 3689348814741910323)<|
 gd (okSh .u64 (4:Int))<|
 gd (okB .u64 (IntKind.u64.wrap ((zt (IntKind.u64.wrap ((ze (zt (IntKind.u64.wrap ((ze (zt x (1:Int)) 6148914691236517205)+(ze x 6148914691236517205))) (2:Int)) 3689348814741910323)+(ze (IntKind.u64.wrap ((ze (zt x (1:Int)) 6148914691236517205)+(ze x 6148914691236517205))) 3689348814741910323))) (4:Int))+(IntKind.u64.wrap ((ze (zt (IntKind.u64.wrap ((ze (zt x (1:Int)) 6148914691236517205)+(ze x 6148914691236517205))) (2:Int)) 3689348814741910323)+(ze (IntKind.u64.wrap ((ze (zt x (1:Int)) 6148914691236517205)+(ze x 6148914691236517205))) 3689348814741910323))))) 1085102592571150095)<|
 gd (okSh .u64 (8:Int))<|
 gd (okSh .u64 (16:Int))<|
 gd (okSh .u64 (32:Int))<|
 gd (in64 (IntKind.u64.wrap ((IntKind.u64.wrap ((IntKind.u64.wrap ((ze (IntKind.u64.wrap ((zt (IntKind.u64.wrap ((ze (zt (IntKind.u64.wrap ((ze (zt x (1:Int)) 6148914691236517205)+(ze x 6148914691236517205))) (2:Int)) 3689348814741910323)+(ze (IntKind.u64.wrap ((ze (zt x (1:Int)) 6148914691236517205)+(ze x 6148914691236517205))) 3689348814741910323))) (4:Int))+(IntKind.u64.wrap ((ze (zt (IntKind.u64.wrap ((ze (zt x (1:Int)) 6148914691236517205)+(ze x 6148914691236517205))) (2:Int)) 3689348814741910323)+(ze (IntKind.u64.wrap ((ze (zt x (1:Int)) 6148914691236517205)+(ze x 6148914691236517205))) 3689348814741910323))))) 1085102592571150095)+(zt (ze (IntKind.u64.wrap ((zt (IntKind.u64.wrap ((ze (zt (IntKind.u64.wrap ((ze (zt x (1:Int)) 6148914691236517205)+(ze x 6148914691236517205))) (2:Int)) 3689348814741910323)+(ze (IntKind.u64.wrap ((ze (zt x (1:Int)) 6148914691236517205)+(ze x 6148914691236517205))) 3689348814741910323))) (4:Int))+(IntKind.u64.wrap ((ze (zt (IntKind.u64.wrap ((ze (zt x (1:Int)) 6148914691236517205)+(ze x 6148914691236517205))) (2:Int)) 3689348814741910323)+(ze (IntKind.u64.wrap ((ze (zt x (1:Int)) 6148914691236517205)+(ze x 6148914691236517205))) 3689348814741910323))))) 1085102592571150095) (8:Int))))+(zt (IntKind.u64.wrap ((ze (IntKind.u64.wrap ((zt (IntKind.u64.wrap ((ze (zt (IntKind.u64.wrap ((ze (zt x (1:Int)) 6148914691236517205)+(ze x 6148914691236517205))) (2:Int)) 3689348814741910323)+(ze (IntKind.u64.wrap ((ze (zt x (1:Int)) 6148914691236517205)+(ze x 6148914691236517205))) 3689348814741910323))) (4:Int))+(IntKind.u64.wrap ((ze (zt (IntKind.u64.wrap ((ze (zt x (1:Int)) 6148914691236517205)+(ze x 6148914691236517205))) (2:Int)) 3689348814741910323)+(ze (IntKind.u64.wrap ((ze (zt x (1:Int)) 6148914691236517205)+(ze x 6148914691236517205))) 3689348814741910323))))) 1085102592571150095)+(zt (ze (IntKind.u64.wrap ((zt (IntKind.u64.wrap ((ze (zt (IntKind.u64.wrap ((ze (zt x (1:Int)) 6148914691236517205)+(ze x 6148914691236517205))) (2:Int)) 3689348814741910323)+(ze (IntKind.u64.wrap ((ze (zt x (1:Int)) 6148914691236517205)+(ze x 6148914691236517205))) 3689348814741910323))) (4:Int))+(IntKind.u64.wrap ((ze (zt (IntKind.u64.wrap ((ze (zt x (1:Int)) 6148914691236517205)+(ze x 6148914691236517205))) (2:Int)) 3689348814741910323)+(ze (IntKind.u64.wrap ((ze (zt x (1:Int)) 6148914691236517205)+(ze x 6148914691236517205))) 3689348814741910323))))) 1085102592571150095) (8:Int)))) (16:Int))))+(zt (IntKind.u64.wrap ((IntKind.u64.wrap ((ze (IntKind.u64.wrap ((zt (IntKind.u64.wrap ((ze (zt (IntKind.u64.wrap ((ze (zt x (1:Int)) 6148914691236517205)+(ze x 6148914691236517205))) (2:Int)) 3689348814741910323)+(ze (IntKind.u64.wrap ((ze (zt x (1:Int)) 6148914691236517205)+(ze x 6148914691236517205))) 3689348814741910323))) (4:Int))+(IntKind.u64.wrap ((ze (zt (IntKind.u64.wrap ((ze (zt x (1:Int)) 6148914691236517205)+(ze x 6148914691236517205))) (2:Int)) 3689348814741910323)+(ze (IntKind.u64.wrap ((ze (zt x (1:Int)) 6148914691236517205)+(ze x 6148914691236517205))) 3689348814741910323))))) 1085102592571150095)+(zt (ze (IntKind.u64.wrap ((zt (IntKind.u64.wrap ((ze (zt (IntKind.u64.wrap ((ze (zt x (1:Int)) 6148914691236517205)+(ze x 6148914691236517205))) (2:Int)) 3689348814741910323)+(ze (IntKind.u64.wrap ((ze (zt x (1:Int)) 6148914691236517205)+(ze x 6148914691236517205))) 3689348814741910323))) (4:Int))+(IntKind.u64.wrap ((ze (zt (IntKind.u64.wrap ((ze (zt x (1:Int)) 6148914691236517205)+(ze x 6148914691236517205))) (2:Int)) 3689348814741910323)+(ze (IntKind.u64.wrap ((ze (zt x (1:Int)) 6148914691236517205)+(ze x 6148914691236517205))) 3689348814741910323))))) 1085102592571150095) (8:Int))))+(zt (IntKind.u64.wrap ((ze (IntKind.u64.wrap ((zt (IntKind.u64.wrap ((ze (zt (IntKind.u64.wrap ((ze (zt x (1:Int)) 6148914691236517205)+(ze x 6148914691236517205))) (2:Int)) 3689348814741910323)+(ze (IntKind.u64.wrap ((ze (zt x (1:Int)) 6148914691236517205)+(ze x 6148914691236517205))) 3689348814741910323))) (4:Int))+(IntKind.u64.wrap ((ze (zt (IntKind.u64.wrap ((ze (zt x (1:Int)) 6148914691236517205)+(ze x 6148914691236517205))) (2:Int)) 3689348814741910323)+(ze (IntKind.u64.wrap ((ze (zt x (1:Int)) 6148914691236517205)+(ze x 6148914691236517205))) 3689348814741910323))))) 1085102592571150095)+(zt (ze (IntKind.u64.wrap ((zt (IntKind.u64.wrap ((ze (zt (IntKind.u64.wrap ((ze (zt x (1:Int)) 6148914691236517205)+(ze x 6148914691236517205))) (2:Int)) 3689348814741910323)+(ze (IntKind.u64.wrap ((ze (zt x (1:Int)) 6148914691236517205)+(ze x 6148914691236517205))) 3689348814741910323))) (4:Int))+(IntKind.u64.wrap ((ze (zt (IntKind.u64.wrap ((ze (zt x (1:Int)) 6148914691236517205)+(ze x 6148914691236517205))) (2:Int)) 3689348814741910323)+(ze (IntKind.u64.wrap ((ze (zt x (1:Int)) 6148914691236517205)+(ze x 6148914691236517205))) 3689348814741910323))))) 1085102592571150095) (8:Int)))) (16:Int)))) (32:Int)))))<|
 gd (okB .i64 (IntKind.u64.wrap ((IntKind.u64.wrap ((IntKind.u64.wrap ((ze (IntKind.u64.wrap ((zt (IntKind.u64.wrap ((ze (zt (IntKind.u64.wrap ((ze (zt x (1:Int)) 6148914691236517205)+(ze x 6148914691236517205))) (2:Int)) 3689348814741910323)+(ze (IntKind.u64.wrap ((ze (zt x (1:Int)) 6148914691236517205)+(ze x 6148914691236517205))) 3689348814741910323))) (4:Int))+(IntKind.u64.wrap ((ze (zt (IntKind.u64.wrap ((ze (zt x (1:Int)) 6148914691236517205)+(ze x 6148914691236517205))) (2:Int)) 3689348814741910323)+(ze (IntKind.u64.wrap ((ze (zt x (1:Int)) 6148914691236517205)+(ze x 6148914691236517205))) 3689348814741910323))))) 1085102592571150095)+(zt (ze (IntKind.u64.wrap ((zt (IntKind.u64.wrap ((ze (zt (IntKind.u64.wrap ((ze (zt x (1:Int)) 6148914691236517205)+(ze x 6148914691236517205))) (2:Int)) 3689348814741910323)+(ze (IntKind.u64.wrap ((ze (zt x (1:Int)) 6148914691236517205)+(ze x 6148914691236517205))) 3689348814741910323))) (4:Int))+(IntKind.u64.wrap ((ze (zt (IntKind.u64.wrap ((ze (zt x (1:Int)) 6148914691236517205)+(ze x 6148914691236517205))) (2:Int)) 3689348814741910323)+(ze (IntKind.u64.wrap ((ze (zt x (1:Int)) 6148914691236517205)+(ze x 6148914691236517205))) 3689348814741910323))))) 1085102592571150095) (8:Int))))+(zt (IntKind.u64.wrap ((ze (IntKind.u64.wrap ((zt (IntKind.u64.wrap ((ze (zt (IntKind.u64.wrap ((ze (zt x (1:Int)) 6148914691236517205)+(ze x 6148914691236517205))) (2:Int)) 3689348814741910323)+(ze (IntKind.u64.wrap ((ze (zt x (1:Int)) 6148914691236517205)+(ze x 6148914691236517205))) 3689348814741910323))) (4:Int))+(IntKind.u64.wrap ((ze (zt (IntKind.u64.wrap ((ze (zt x (1:Int)) 6148914691236517205)+(ze x 6148914691236517205))) (2:Int)) 3689348814741910323)+(ze (IntKind.u64.wrap ((ze (zt x (1:Int)) 6148914691236517205)+(ze x 6148914691236517205))) 3689348814741910323))))) 1085102592571150095)+(zt (ze (IntKind.u64.wrap ((zt (IntKind.u64.wrap ((ze (zt (IntKind.u64.wrap ((ze (zt x (1:Int)) 6148914691236517205)+(ze x 6148914691236517205))) (2:Int)) 3689348814741910323)+(ze (IntKind.u64.wrap ((ze (zt x (1:Int)) 6148914691236517205)+(ze x 6148914691236517205))) 3689348814741910323))) (4:Int))+(IntKind.u64.wrap ((ze (zt (IntKind.u64.wrap ((ze (zt x (1:Int)) 6148914691236517205)+(ze x 6148914691236517205))) (2:Int)) 3689348814741910323)+(ze (IntKind.u64.wrap ((ze (zt x (1:Int)) 6148914691236517205)+(ze x 6148914691236517205))) 3689348814741910323))))) 1085102592571150095) (8:Int)))) (16:Int))))+(zt (IntKind.u64.wrap ((IntKind.u64.wrap ((ze (IntKind.u64.wrap ((zt (IntKind.u64.wrap ((ze (zt (IntKind.u64.wrap ((ze (zt x (1:Int)) 6148914691236517205)+(ze x 6148914691236517205))) (2:Int)) 3689348814741910323)+(ze (IntKind.u64.wrap ((ze (zt x (1:Int)) 6148914691236517205)+(ze x 6148914691236517205))) 3689348814741910323))) (4:Int))+(IntKind.u64.wrap ((ze (zt (IntKind.u64.wrap ((ze (zt x (1:Int)) 6148914691236517205)+(ze x 6148914691236517205))) (2:Int)) 3689348814741910323)+(ze (IntKind.u64.wrap ((ze (zt x (1:Int)) 6148914691236517205)+(ze x 6148914691236517205))) 3689348814741910323))))) 1085102592571150095)+(zt (ze (IntKind.u64.wrap ((zt (IntKind.u64.wrap ((ze (zt (IntKind.u64.wrap ((ze (zt x (1:Int)) 6148914691236517205)+(ze x 6148914691236517205))) (2:Int)) 3689348814741910323)+(ze (IntKind.u64.wrap ((ze (zt x (1:Int)) 6148914691236517205)+(ze x 6148914691236517205))) 3689348814741910323))) (4:Int))+(IntKind.u64.wrap ((ze (zt (IntKind.u64.wrap ((ze (zt x (1:Int)) 6148914691236517205)+(ze x 6148914691236517205))) (2:Int)) 3689348814741910323)+(ze (IntKind.u64.wrap ((ze (zt x (1:Int)) 6148914691236517205)+(ze x 6148914691236517205))) 3689348814741910323))))) 1085102592571150095) (8:Int))))+(zt (IntKind.u64.wrap ((ze (IntKind.u64.wrap ((zt (IntKind.u64.wrap ((ze (zt (IntKind.u64.wrap ((ze (zt x (1:Int)) 6148914691236517205)+(ze x 6148914691236517205))) (2:Int)) 3689348814741910323)+(ze (IntKind.u64.wrap ((ze (zt x (1:Int)) 6148914691236517205)+(ze x 6148914691236517205))) 3689348814741910323))) (4:Int))+(IntKind.u64.wrap ((ze (zt (IntKind.u64.wrap ((ze (zt x (1:Int)) 6148914691236517205)+(ze x 6148914691236517205))) (2:Int)) 3689348814741910323)+(ze (IntKind.u64.wrap ((ze (zt x (1:Int)) 6148914691236517205)+(ze x 6148914691236517205))) 3689348814741910323))))) 1085102592571150095)+(zt (ze (IntKind.u64.wrap ((zt (IntKind.u64.wrap ((ze (zt (IntKind.u64.wrap ((ze (zt x (1:Int)) 6148914691236517205)+(ze x 6148914691236517205))) (2:Int)) 3689348814741910323)+(ze (IntKind.u64.wrap ((ze (zt x (1:Int)) 6148914691236517205)+(ze x 6148914691236517205))) 3689348814741910323))) (4:Int))+(IntKind.u64.wrap ((ze (zt (IntKind.u64.wrap ((ze (zt x (1:Int)) 6148914691236517205)+(ze x 6148914691236517205))) (2:Int)) 3689348814741910323)+(ze (IntKind.u64.wrap ((ze (zt x (1:Int)) 6148914691236517205)+(ze x 6148914691236517205))) 3689348814741910323))))) 1085102592571150095) (8:Int)))) (16:Int)))) (32:Int)))) 127)<|
 some (ze (IntKind.u64.wrap ((IntKind.u64.wrap ((IntKind.u64.wrap ((ze (IntKind.u64.wrap ((zt (IntKind.u64.wrap ((ze (zt (IntKind.u64.wrap ((ze (zt x (1:Int)) 6148914691236517205)+(ze x 6148914691236517205))) (2:Int)) 3689348814741910323)+(ze (IntKind.u64.wrap ((ze (zt x (1:Int)) 6148914691236517205)+(ze x 6148914691236517205))) 3689348814741910323))) (4:Int))+(IntKind.u64.wrap ((ze (zt (IntKind.u64.wrap ((ze (zt x (1:Int)) 6148914691236517205)+(ze x 6148914691236517205))) (2:Int)) 3689348814741910323)+(ze (IntKind.u64.wrap ((ze (zt x (1:Int)) 6148914691236517205)+(ze x 6148914691236517205))) 3689348814741910323))))) 1085102592571150095)+(zt (ze (IntKind.u64.wrap ((zt (IntKind.u64.wrap ((ze (zt (IntKind.u64.wrap ((ze (zt x (1:Int)) 6148914691236517205)+(ze x 6148914691236517205))) (2:Int)) 3689348814741910323)+(ze (IntKind.u64.wrap ((ze (zt x (1:Int)) 6148914691236517205)+(ze x 6148914691236517205))) 3689348814741910323))) (4:Int))+(IntKind.u64.wrap ((ze (zt (IntKind.u64.wrap ((ze (zt x (1:Int)) 6148914691236517205)+(ze x 6148914691236517205))) (2:Int)) 3689348814741910323)+(ze (IntKind.u64.wrap ((ze (zt x (1:Int)) 6148914691236517205)+(ze x 6148914691236517205))) 3689348814741910323))))) 1085102592571150095) (8:Int))))+(zt (IntKind.u64.wrap ((ze (IntKind.u64.wrap ((zt (IntKind.u64.wrap ((ze (zt (IntKind.u64.wrap ((ze (zt x (1:Int)) 6148914691236517205)+(ze x 6148914691236517205))) (2:Int)) 3689348814741910323)+(ze (IntKind.u64.wrap ((ze (zt x (1:Int)) 6148914691236517205)+(ze x 6148914691236517205))) 3689348814741910323))) (4:Int))+(IntKind.u64.wrap ((ze (zt (IntKind.u64.wrap ((ze (zt x (1:Int)) 6148914691236517205)+(ze x 6148914691236517205))) (2:Int)) 3689348814741910323)+(ze (IntKind.u64.wrap ((ze (zt x (1:Int)) 6148914691236517205)+(ze x 6148914691236517205))) 3689348814741910323))))) 1085102592571150095)+(zt (ze (IntKind.u64.wrap ((zt (IntKind.u64.wrap ((ze (zt (IntKind.u64.wrap ((ze (zt x (1:Int)) 6148914691236517205)+(ze x 6148914691236517205))) (2:Int)) 3689348814741910323)+(ze (IntKind.u64.wrap ((ze (zt x (1:Int)) 6148914691236517205)+(ze x 6148914691236517205))) 3689348814741910323))) (4:Int))+(IntKind.u64.wrap ((ze (zt (IntKind.u64.wrap ((ze (zt x (1:Int)) 6148914691236517205)+(ze x 6148914691236517205))) (2:Int)) 3689348814741910323)+(ze (IntKind.u64.wrap ((ze (zt x (1:Int)) 6148914691236517205)+(ze x 6148914691236517205))) 3689348814741910323))))) 1085102592571150095) (8:Int)))) (16:Int))))+(zt (IntKind.u64.wrap ((IntKind.u64.wrap ((ze (IntKind.u64.wrap ((zt (IntKind.u64.wrap ((ze (zt (IntKind.u64.wrap ((ze (zt x (1:Int)) 6148914691236517205)+(ze x 6148914691236517205))) (2:Int)) 3689348814741910323)+(ze (IntKind.u64.wrap ((ze (zt x (1:Int)) 6148914691236517205)+(ze x 6148914691236517205))) 3689348814741910323))) (4:Int))+(IntKind.u64.wrap ((ze (zt (IntKind.u64.wrap ((ze (zt x (1:Int)) 6148914691236517205)+(ze x 6148914691236517205))) (2:Int)) 3689348814741910323)+(ze (IntKind.u64.wrap ((ze (zt x (1:Int)) 6148914691236517205)+(ze x 6148914691236517205))) 3689348814741910323))))) 1085102592571150095)+(zt (ze (IntKind.u64.wrap ((zt (IntKind.u64.wrap ((ze (zt (IntKind.u64.wrap ((ze (zt x (1:Int)) 6148914691236517205)+(ze x 6148914691236517205))) (2:Int)) 3689348814741910323)+(ze (IntKind.u64.wrap ((ze (zt x (1:Int)) 6148914691236517205)+(ze x 6148914691236517205))) 3689348814741910323))) (4:Int))+(IntKind.u64.wrap ((ze (zt (IntKind.u64.wrap ((ze (zt x (1:Int)) 6148914691236517205)+(ze x 6148914691236517205))) (2:Int)) 3689348814741910323)+(ze (IntKind.u64.wrap ((ze (zt x (1:Int)) 6148914691236517205)+(ze x 6148914691236517205))) 3689348814741910323))))) 1085102592571150095) (8:Int))))+(zt (IntKind.u64.wrap ((ze (IntKind.u64.wrap ((zt (IntKind.u64.wrap ((ze (zt (IntKind.u64.wrap ((ze (zt x (1:Int)) 6148914691236517205)+(ze x 6148914691236517205))) (2:Int)) 3689348814741910323)+(ze (IntKind.u64.wrap ((ze (zt x (1:Int)) 6148914691236517205)+(ze x 6148914691236517205))) 3689348814741910323))) (4:Int))+(IntKind.u64.wrap ((ze (zt (IntKind.u64.wrap ((ze (zt x (1:Int)) 6148914691236517205)+(ze x 6148914691236517205))) (2:Int)) 3689348814741910323)+(ze (IntKind.u64.wrap ((ze (zt x (1:Int)) 6148914691236517205)+(ze x 6148914691236517205))) 3689348814741910323))))) 1085102592571150095)+(zt (ze (IntKind.u64.wrap ((zt (IntKind.u64.wrap ((ze (zt (IntKind.u64.wrap ((ze (zt x (1:Int)) 6148914691236517205)+(ze x 6148914691236517205))) (2:Int)) 3689348814741910323)+(ze (IntKind.u64.wrap ((ze (zt x (1:Int)) 6148914691236517205)+(ze x 6148914691236517205))) 3689348814741910323))) (4:Int))+(IntKind.u64.wrap ((ze (zt (IntKind.u64.wrap ((ze (zt x (1:Int)) 6148914691236517205)+(ze x 6148914691236517205))) (2:Int)) 3689348814741910323)+(ze (IntKind.u64.wrap ((ze (zt x (1:Int)) 6148914691236517205)+(ze x 6148914691236517205))) 3689348814741910323))))) 1085102592571150095) (8:Int)))) (16:Int)))) (32:Int)))) 127)
def z0y(N:Nat)(x:Int):Option Int:=
 bd (z3d N x) fun a=>
 some a
def z0u(N:Nat)(s:(List Bool)):Option (List Bool):=
 gd (fits 1 ([]:List Bool) s)<|
 some (([]:List Bool)++s)
def ym(N:Nat)(s:(List Int))(f:Int→Option Bool):Nat→Int→Option (Ex (Unit) (Int))
 |0,_=>none
 |c+1,a=>
  bif decide (a<(↑s.length:Int)) then(
  gd (okI s a)<|
  bd (f (ix s a)) fun b=>
  bif b then(
  some (Ex.rt a)) else(
  gd (in64 (a+1))<|
  ym N s f c (a+1))) else(
  some (Ex.go ()))
def z0t(N:Nat)(s:(List Int))(f:Int→Option Bool):Option Int:=
 bd (
 ym N s f N 0) fun a=>
 Ex.on a (fun b=>
 some (-1)) some
def af(N:Nat)(s:(List Int))(f:Int→Option Bool):Option Bool:=
 bd (z0t N s f) fun a=>
 some (decide (0≤a))
def z2h(N:Nat)(p:Int)(p0_:(List Bool)):Option Bool:=
 gd (okI p0_ p)<|
 some (!(ix p0_ p))
def o5(N:Nat)(s1_:(List Bool))(s2_:(List Bool)):Nat→Int→Option (Ex (Unit) (Bool))
 |0,_=>none
 |b+1,a=>
  bif decide (a<(↑s1_.length:Int)) then(
  gd (okI s1_ a)<|
  gd (okI s2_ a)<|
  bif decide ((ix s1_ a)≠(ix s2_ a)) then(
  some (Ex.rt false)) else(
  gd (in64 (a+1))<|
  o5 N s1_ s2_ b (a+1))) else(
  some (Ex.go ()))
def z1r(N:Nat)(s1_:(List Bool))(s2_:(List Bool)):Option Bool:=
 bif decide ((↑s1_.length:Int)≠(↑s2_.length:Int)) then(
 some false) else(
 bd (
 o5 N s1_ s2_ N 0) fun a=>
 Ex.on a (fun b=>
 some true) some)
def su(N:Nat)(m:Mach):Nat→Int→(List Bool)→Option (List Bool)
 |0,_,_=>none
 |c+1,a,b=>
  bif decide (a<(↑(mk (ax .i64 (1:Int) (↑m.rows.length:Int)) false).length:Int)) then(
  bd (z0y N (IntKind.u64.wrap a)) fun d=>
  gd (okI b a)<|
  gd (in64 (a+1))<|
  su N m c (a+1) (up b a (decide (d<2)))) else(
  some b)
def rf(N:Nat)(m:Mach)(d:(List Bool))(a:Int):Nat→Int→(List Bool)→Option (List Bool)
 |0,_,_=>none
 |e+1,c,b=>
  bif decide (c<m.inputs) then(
  bd (
  gd (okI b a)<|
  bd (gop (true&&((!(ix b a))==true)) (il N (⟨(⟨m.inputs,m.outputs,m.rows⟩:Mach)⟩:Sg) ([IntKind.u16.wrap a]:List Int) c)) fun f=>
  bd (gop (true&&((!(ix b a))==true)) (af N (f.getD default) (fun i=>z2h N i d))) fun g=>
  bif (!(ix b a))&&(!(g.getD default)) then(
  gd (okI b a)<|
  some (up b a true)) else(
  some b)) fun h=>
  gd (in64 (c+1))<|
  rf N m d a e (c+1) h) else(
  some b)
def sj(N:Nat)(m:Mach)(c:List Bool)(d:(List Bool)):Nat→Int→(List Bool)→Option (List Bool)
 |0,_,_=>none
 |e+1,a,b=>
  bif decide (a<(↑c.length:Int)) then(
  bd (
  rf N m d a N 0 b) fun f=>
  gd (in64 (a+1))<|
  sj N m c d e (a+1) f) else(
  some b)
def z0d(N:Nat)(m:Mach):Nat→Int→(List Bool)→Option (Int×Int)
 |0,_,_=>none
 |g+1,b,a=>
  bd (z5x N (⟨m.inputs,m.outputs,m.rows⟩:Mach)) fun c=>
  gd (okI a c)<|
  bif (ix a c) then(
  some (b,0)) else(
  bd (z0u N a) fun d=>
  bd (
  sj N m a d N 0 a) fun e=>
  bd (z1r N d e) fun f=>
  bif f then(
  some (0,7)) else(
  gd (in64 (b+1))<|
  z0d N m g (b+1) e))
def z0n(N:Nat)(m:Mach):Option (Int×Int):=
 bd (z11 N m) fun b=>
 bif decide (b≠0) then(
 some (0,b)) else(
 bif decide (10<(↑m.rows.length:Int)) then(
 some (0,3)) else(
 gd (okSh .i64 (↑m.rows.length:Int))<|
 gd (okM 1 (ax .i64 (1:Int) (↑m.rows.length:Int)))<|
 bd (
 su N m N 0 (mk (ax .i64 (1:Int) (↑m.rows.length:Int)) false)) fun a=>
 z0d N m N 0 a))
def z05(N:Nat)(s:(List Int))(f:Int→Option Bool):Nat→Int→Option (Ex (Unit) (Int))
 |0,_=>none
 |c+1,a=>
  bif decide (a<(↑s.length:Int)) then(
  gd (okI s a)<|
  bd (f (ix s a)) fun b=>
  bif b then(
  some (Ex.rt a)) else(
  gd (in64 (a+1))<|
  z05 N s f c (a+1))) else(
  some (Ex.go ()))
def z3l(N:Nat)(s:(List Int))(f:Int→Option Bool):Option Int:=
 bd (
 z05 N s f N 0) fun a=>
 Ex.on a (fun b=>
 some (-1)) some
def z2i(N:Nat)(s:(List Int))(f:Int→Option Bool):Option Bool:=
 bd (z3l N s f) fun a=>
 some (decide (0≤a))
def z8o(N:Nat)(c:Int)(p0_:Int):Option Bool:=
 some ((decide (c<0))||(decide (p0_≤c)))
def z4v(N:Nat)(w_:(List Int))(inputs:Int):Option Int:=
 bif (decide (16<inputs))||(decide (256<(↑w_.length:Int))) then(
 some 3) else(
 bd (gop (true&&((decide (inputs<1))==false)) (z2i N w_ (fun b=>z8o N b inputs))) fun a=>
 bif (decide (inputs<1))||(a.getD default) then(
 some 1) else(
 some 0))
def z5b(N:Nat)(m:Mach)(s:Int):Option Int:=
 bd (z2f N m) fun a=>
 bif decide (a≠0) then(
 some a) else(
 bif (decide (s<0))||(decide ((↑m.rows.length:Int)≤s)) then(
 some 1) else(
 some 0))
def z2t(N:Nat)(m:Mach)(w_:(List Int)):Nat→Int→Int→(List Int)→Option (Int×List Int)
 |0,_,_,_=>none
 |f+1,b,a,c=>
  bif decide (a<(↑w_.length:Int)) then(
  gd (okI w_ a)<|
  bd (z1t N) fun d=>
  bd (
  bif decide (b≠(-1)) then(
  gd (okI m.rows b)<|
  gd (okI (ix m.rows b) (ix w_ a))<|
  some ((ix (ix m.rows b) (ix w_ a)).to,(ix (ix m.rows b) (ix w_ a)).out)) else(
  some (d.to,d.out))) fun e=>
  gd (okI c a)<|
  gd (in64 (a+1))<|
  z2t N m w_ f e.1 (a+1) (up c a e.2)) else(
  some (b,c))
def z6y(N:Nat)(m:Mach)(s:Int)(w_:(List Int)):Option ((List Int)×Int):=
 gd (okM 8 (↑w_.length:Int))<|
 bd (
 z2t N m w_ N s 0 (mk (↑w_.length:Int) (0:Int))) fun a=>
 some (a.2,a.1)
def z4y(N:Nat)(m:Mach)(s:Int)(w_:(List Int)):Option (Int×Int):=
 bd (z5b N m s) fun c=>
 bif decide (c≠0) then(
 some (0,c)) else(
 bd (z4v N w_ m.inputs) fun a=>
 bif decide (a≠0) then(
 some (0,a)) else(
 bd (z6y N m s w_) fun b=>
 some (b.2,0)))
def slices_Sort_int(N:Nat)(x:List Int):Option (List Int):=
 gd (x.length<4611686018427387904) (some (z4t x))
def z0g(N:Nat)(s:List Int)(a:Int):Nat→Int→Int→(List Int)→Option (Int×List Int)
 |0,_,_,_=>none
 |f+1,d,b,c=>
  bif decide (b<(↑(s.length-a.toNat:Nat):Int)) then(
  bd (
  gd (okA c a (s.length-a.toNat) b)<|
  gd (in64 (b-1))<|
  gd (okA c a (s.length-a.toNat) (b-1))<|
  bif decide ((ix c (a+b))≠(ix c (a+(b-1)))) then(
  gd (okA c a (s.length-a.toNat) b)<|
  gd (okI c d)<|
  gd (in64 (d+1))<|
  some (d+1,(up c d (ix c (a+b))))) else(
  some (d,c))) fun e=>
  gd (in64 (b+1))<|
  z0g N s a f e.1 (b+1) e.2) else(
  some (d,c))
def z0h(N:Nat)(s:List Int):Nat→Int→Option (Ex (Unit) ((List Int)))
 |0,_=>none
 |c+1,b=>
  bif decide (b<(↑s.length:Int)) then(
  gd (okI s b)<|
  gd (in64 (b-1))<|
  gd (okI s (b-1))<|
  bif decide ((ix s b)=(ix s (b-1))) then(
  gd (okS s b (↑s.length:Int))<|
  bd (
  z0g N s b N b 1 s) fun a=>
  gd (okS a.2 a.1 (↑a.2.length:Int))<|
  gd (okS (z7o a.2 a.1.toNat (List.replicate (a.2.length-a.1.toNat) (0:Int))) 0 a.1)<|
  some (Ex.rt (cut (z7o a.2 a.1.toNat (List.replicate (a.2.length-a.1.toNat) (0:Int))) 0 a.1))) else(
  gd (in64 (b+1))<|
  z0h N s c (b+1))) else(
  some (Ex.go ()))
def slices_Compact_int(N:Nat)(s:List Int):Option (List Int):=
 bif decide ((↑s.length:Int)<2) then(
 some s) else(
 bd (
 z0h N s N 1) fun a=>
 Ex.on a (fun b=>
 some s) some)
def z3i(N:Nat)(m:Mach)(l_:(List Int)):Nat→Int→Option (Ex (Unit) ((List Int)×Int))
 |0,_=>none
 |b+1,a=>
  bif decide (a<(↑l_.length:Int)) then(
  gd (okI l_ a)<|
  gd (((true&&(((decide ((ix l_ a)<0))||(decide ((↑m.rows.length:Int)≤(ix l_ a))))==false))&&((decide (0<a))==true))=true→in64 (a-1))<|
  gd (((true&&(((decide ((ix l_ a)<0))||(decide ((↑m.rows.length:Int)≤(ix l_ a))))==false))&&((decide (0<a))==true))=true→okI l_ (a-1))<|
  bif ((decide ((ix l_ a)<0))||(decide ((↑m.rows.length:Int)≤(ix l_ a))))||((decide (0<a))&&(decide ((ix l_ a)≤(ix l_ (a-1))))) then(
  some (Ex.rt (([]:(List Int)),1))) else(
  gd (in64 (a+1))<|
  z3i N m l_ b (a+1))) else(
  some (Ex.go ()))
def z3j(N:Nat)(m:Mach)(l_:(List Int))(w_:(List Int)):Nat→(List Int)→Int→Option (List Int)
 |0,_,_=>none
 |d+1,b,a=>
  bif decide (a<(↑l_.length:Int)) then(
  gd (okI l_ a)<|
  bd (z4y N m (ix l_ a) w_) fun c=>
  gd (fits 8 b ([c.1]:List Int))<|
  gd (in64 (a+1))<|
  z3j N m l_ w_ d (b++([c.1]:List Int)) (a+1)) else(
  some b)
def z88(N:Nat)(m:Mach)(l_:(List Int))(w_:(List Int)):Option ((List Int)×Int):=
 bd (z11 N m) fun g=>
 bif decide (g≠0) then(
 some (([]:(List Int)),g)) else(
 bd (
 z3i N m l_ N 0) fun e=>
 Ex.on e (fun h=>
 bd (z4v N w_ m.inputs) fun a=>
 bif decide (a≠0) then(
 some (([]:(List Int)),a)) else(
 bd (
 z3j N m l_ w_ N ([]:List Int) 0) fun f=>
 bd (slices_Sort_int N f) fun b=>
 bd (slices_Compact_int N b) fun c=>
 bd (ig N c) fun d=>
 some (d,0))) some)
def xw(N:Nat)(a:(List Int))(b:(List Int)):Nat→Int→Option (Ex (Unit) (Int))
 |0,_=>none
 |d+1,c=>
  bif decide (c<(↑a.length:Int)) then(
  gd (okI a c)<|
  gd (okI b c)<|
  bif decide ((ix a c)<(ix b c)) then(
  some (Ex.rt (-1))) else(
  gd (okI a c)<|
  gd (okI b c)<|
  bif decide ((ix b c)<(ix a c)) then(
  some (Ex.rt 1)) else(
  gd (in64 (c+1))<|
  xw N a b d (c+1)))) else(
  some (Ex.go ()))
def si(N:Nat)(a:(List Int))(b:(List Int)):Option Int:=
 bif decide ((↑a.length:Int)≠(↑b.length:Int)) then(
 bif decide ((↑a.length:Int)<(↑b.length:Int)) then(
 some (-1)) else(
 some 1)) else(
 bd (
 xw N a b N 0) fun c=>
 Ex.on c (fun d=>
 some 0) some)
def nu(N:Nat)(a:(List (List Int)))(b:(List (List Int))):Nat→Int→Option (Ex (Unit) (Bool))
 |0,_=>none
 |e+1,c=>
  bif decide (c<(↑a.length:Int)) then(
  gd (okI a c)<|
  gd (okI b c)<|
  bd (si N (ix a c) (ix b c)) fun d=>
  bif decide (d≠0) then(
  some (Ex.rt false)) else(
  gd (in64 (c+1))<|
  nu N a b e (c+1))) else(
  some (Ex.go ()))
def z15(N:Nat)(a:(List (List Int)))(b:(List (List Int))):Option Bool:=
 bif decide ((↑a.length:Int)≠(↑b.length:Int)) then(
 some false) else(
 bd (
 nu N a b N 0) fun c=>
 Ex.on c (fun d=>
 some true) some)
def cu(N:Nat)(a:(List Int))(b:(List Int)):Option Bool:=
 bd (z15 N ([a]:List (List Int)) ([b]:List (List Int))) fun c=>
 some (c&&(decide ((↑a.length:Int)=(↑a.length:Int))))
def z9p(N:Nat)(m:Mach)(s:Int)(w_:(List Int)):Option ((List Int)×Int):=
 bd (z5b N m s) fun c=>
 bif decide (c≠0) then(
 some (([]:(List Int)),c)) else(
 bd (z4v N w_ m.inputs) fun a=>
 bif decide (a≠0) then(
 some (([]:(List Int)),a)) else(
 bd (z6y N m s w_) fun b=>
 some (b.1,0)))
def z0v(N:Nat)(s1_:(List Int))(s2_:(List Int)):Nat→Int→Option (Ex (Unit) (Bool))
 |0,_=>none
 |b+1,a=>
  bif decide (a<(↑s1_.length:Int)) then(
  gd (okI s1_ a)<|
  gd (okI s2_ a)<|
  bif decide ((ix s1_ a)≠(ix s2_ a)) then(
  some (Ex.rt false)) else(
  gd (in64 (a+1))<|
  z0v N s1_ s2_ b (a+1))) else(
  some (Ex.go ()))
def slices_Equal_int(N:Nat)(s1_:(List Int))(s2_:(List Int)):Option Bool:=
 bif decide ((↑s1_.length:Int)≠(↑s2_.length:Int)) then(
 some false) else(
 bd (
 z0v N s1_ s2_ N 0) fun a=>
 Ex.on a (fun b=>
 some true) some)
def z3z(N:Nat)(m:Mach)(w_:(List Int))(response:(List Int)):Nat→Int→Int→Option (Ex (Int) (Int×Int))
 |0,_,_=>none
 |d+1,b,a=>
  bif decide (a<(↑m.rows.length:Int)) then(
  bd (
  bd (z9p N m a w_) fun e=>
  bd (slices_Equal_int N e.1 response) fun f=>
  bif !f then(
  some (Ex.go b)) else(
  bd (z4y N m a w_) fun c=>
  bif (decide (b≠(-1)))&&(decide (b≠c.1)) then(
  some (Ex.rt (Ex.rt (0,7)))) else(
  some (Ex.go c.1)))) fun g=>
  Ex.on g (fun h=>
  gd (in64 (a+1))<|
  z3z N m w_ response d h (a+1)) some) else(
  some (Ex.go b))
def z7x(N:Nat)(m:Mach)(w_:(List Int))(response:(List Int)):Option (Int×Int):=
 bd (z11 N m) fun d=>
 bif decide (d≠0) then(
 some (0,d)) else(
 bd (z4v N w_ m.inputs) fun a=>
 bif decide (a≠0) then(
 some (0,a)) else(
 bif decide ((↑w_.length:Int)≠(↑response.length:Int)) then(
 some (0,1)) else(
 bd (
 z3z N m w_ response N (-1) 0) fun c=>
 Ex.on c (fun b=>
 bif decide (b=(-1)) then(
 some (0,7)) else(
 some (b,0))) some)))
def iq(N:Nat):Option Bool:=
 bd (z2r N) fun a=>
 bd (z1o N (⟨a.1.inputs,a.1.outputs,a.1.rows⟩:Mach)) fun g=>
 bd (z9i N (⟨a.1.inputs,a.1.outputs,a.1.rows⟩:Mach)) fun l=>
 bd (z0n N (⟨a.1.inputs,a.1.outputs,a.1.rows⟩:Mach)) fun f=>
 bd (z88 N (⟨a.1.inputs,a.1.outputs,a.1.rows⟩:Mach) ([0,1,2]:List Int) ([0]:List Int)) fun h=>
 bd (z88 N (⟨a.1.inputs,a.1.outputs,a.1.rows⟩:Mach) ([1]:List Int) ([1,0]:List Int)) fun i=>
 bd (gop (true&&((((((decide (g.2≠0))||(decide (l.2≠7)))||(decide (f.2≠0)))||(decide (h.2≠0)))||(decide (i.2≠0)))==false)) (cu N g.1 ([0,0]:List Int))) fun j=>
 bd (gop (true&&((((((((decide (g.2≠0))||(decide (l.2≠7)))||(decide (f.2≠0)))||(decide (h.2≠0)))||(decide (i.2≠0)))||(!(j.getD default)))||(decide (f.1≠2)))==false)) (cu N h.1 ([0,1,2]:List Int))) fun m=>
 bd (gop (true&&(((((((((decide (g.2≠0))||(decide (l.2≠7)))||(decide (f.2≠0)))||(decide (h.2≠0)))||(decide (i.2≠0)))||(!(j.getD default)))||(decide (f.1≠2)))||(!(m.getD default)))==false)) (cu N i.1 ([2]:List Int))) fun q=>
 bif ((((((((decide (g.2≠0))||(decide (l.2≠7)))||(decide (f.2≠0)))||(decide (h.2≠0)))||(decide (i.2≠0)))||(!(j.getD default)))||(decide (f.1≠2)))||(!(m.getD default)))||(!(q.getD default)) then(
 some false) else(
 bd (z7x N (⟨a.1.inputs,a.1.outputs,a.1.rows⟩:Mach) ([0,0]:List Int) ([0,1]:List Int)) fun n=>
 bd (z7x N (⟨a.1.inputs,a.1.outputs,a.1.rows⟩:Mach) ([0]:List Int) ([0]:List Int)) fun r=>
 bd (z7x N (⟨a.1.inputs,a.1.outputs,a.1.rows⟩:Mach) ([0]:List Int) ([1]:List Int)) fun o=>
 bif ((((decide (n.2≠0))||(decide (r.2≠7)))||(decide (o.2≠0)))||(decide (n.1≠0)))||(decide (o.1≠0)) then(
 some false) else(
 bd (z9i N (⟨a.2.inputs,a.2.outputs,a.2.rows⟩:Mach)) fun b=>
 bd (z2n N (⟨a.2.inputs,a.2.outputs,a.2.rows⟩:Mach) 0 1) fun c=>
 bd (z2n N (⟨a.2.inputs,a.2.outputs,a.2.rows⟩:Mach) 1 2) fun d=>
 bd (z0n N (⟨a.2.inputs,a.2.outputs,a.2.rows⟩:Mach)) fun e=>
 bd (gop (true&&(((((decide (b.2=0))&&(decide (c.2=0)))&&(decide (d.2=0)))&&(decide (e.2=0)))==true)) (cu N b.1 ([1]:List Int))) fun k=>
 bd (gop (true&&((((((decide (b.2=0))&&(decide (c.2=0)))&&(decide (d.2=0)))&&(decide (e.2=0)))&&(k.getD default))==true)) (cu N c.1 ([1]:List Int))) fun p=>
 bd (gop (true&&(((((((decide (b.2=0))&&(decide (c.2=0)))&&(decide (d.2=0)))&&(decide (e.2=0)))&&(k.getD default))&&(p.getD default))==true)) (cu N d.1 ([0]:List Int))) fun s=>
 some ((((((((decide (b.2=0))&&(decide (c.2=0)))&&(decide (d.2=0)))&&(decide (e.2=0)))&&(k.getD default))&&(p.getD default))&&(s.getD default))&&(decide (e.1=1)))))
def lw(N:Nat)(x:Sd)(s:Int)(t:Int):Option Bool:=
 bd (z02 N x) fun b=>
 gd (in64 s)<|
 gd (okR s (↑b.rows.length:Int))<|
 gd (in64 t)<|
 gd (okR t (↑b.rows.length:Int))<|
 bd (z2n N (⟨b.inputs,b.outputs,b.rows⟩:Mach) (s%(↑b.rows.length:Int)) (t%(↑b.rows.length:Int))) fun a=>
 bd (iy N (⟨b.inputs,b.outputs,b.rows⟩:Mach) (s%(↑b.rows.length:Int)) (t%(↑b.rows.length:Int))) fun c=>
 bif !c.2 then(
 bd (gop (true&&(((decide (a.2=7))&&(decide ((↑a.1.length:Int)=0)))==true)) (iq N)) fun e=>
 some (((decide (a.2=7))&&(decide ((↑a.1.length:Int)=0)))&&(e.getD default))) else(
 bd (gop (true&&((decide (a.2=0))==true)) (cu N a.1 c.1)) fun d=>
 bd (gop (true&&(((decide (a.2=0))&&(d.getD default))==true)) (iq N)) fun f=>
 some (((decide (a.2=0))&&(d.getD default))&&(f.getD default)))
def mq(N:Nat)(l_:(List Int))(n:Int):Nat→(List Int)→Bool→Int→Option (List Int×Bool)
 |0,_,_,_=>none
 |f+1,c,d,a=>
  bif decide (a<(↑l_.length:Int)) then(
  bd (
  bd (
  gd ((true&&((!d)==true))=true→okI l_ a)<|
  bif (!d)&&(decide (n≤(ix l_ a))) then(
  gd (fits 8 c ([n]:List Int))<|
  some (true,(c++([n]:List Int)))) else(
  some (d,c))) fun b=>
  gd (okI l_ a)<|
  bif decide ((ix l_ a)≠n) then(
  gd (okI l_ a)<|
  gd (fits 8 b.2 ([(ix l_ a)]:List Int))<|
  some (b.1,(b.2++([(ix l_ a)]:List Int)))) else(
  some (b.1,b.2))) fun e=>
  gd (in64 (a+1))<|
  mq N l_ n f e.2 e.1 (a+1)) else(
  some (c,d))
def z1q(N:Nat)(l_:(List Int))(n:Int):Option (List Int):=
 bd (
 mq N l_ n N ([]:List Int) false 0) fun b=>
 bd (
 bif !b.2 then(
 gd (fits 8 b.1 ([n]:List Int))<|
 some (b.1++([n]:List Int))) else(
 some b.1)) fun a=>
 some a
def bf(N:Nat)(m:Mach)(set:(List Int))(b:Int)(d:Int):Nat→(List Int)→Int→Option (List Int)
 |0,_,_=>none
 |e+1,c,a=>
  bif decide (a<(↑set.length:Int)) then(
  bd (
  gd (okI set a)<|
  gd (okI m.rows (ix set a))<|
  gd (okI (ix m.rows (ix set a)) b)<|
  bif decide (((ix (ix m.rows (ix set a)) b).out)=d) then(
  gd (okI set a)<|
  gd (okI m.rows (ix set a))<|
  gd (okI (ix m.rows (ix set a)) b)<|
  bd (z1q N c ((ix (ix m.rows (ix set a)) b).to)) fun f=>
  some f) else(
  some c)) fun g=>
  gd (in64 (a+1))<|
  bf N m set b d e g (a+1)) else(
  some c)
def nz(N:Nat)(self:Mach→(List Int)→Int→Option Bool)(m:Mach)(set:(List Int))(d:Int)(c:Int):Nat→Bool→Int→Option Bool
 |0,_,_=>none
 |g+1,e,a=>
  bif (decide (a<m.outputs))&&e then(
  bd (
  bf N m set c a N ([]:(List Int)) 0) fun b=>
  gd ((true&&((decide ((↑b.length:Int)=0))==false))=true→in64 (d-1))<|
  bd (gop (true&&((decide ((↑b.length:Int)=0))==false)) (self m b (d-1))) fun f=>
  gd (in64 (a+1))<|
  nz N self m set d c g ((decide ((↑b.length:Int)=0))||(f.getD default)) (a+1)) else(
  some e)
def ma(N:Nat)(self:Mach→(List Int)→Int→Option Bool)(m:Mach)(set:(List Int))(d:Int):Nat→Int→Option (Ex (Unit) (Bool))
 |0,_=>none
 |b+1,a=>
  bif decide (a<m.inputs) then(
  bd (
  nz N self m set d a N true 0) fun c=>
  bif c then(
  some (Ex.rt true)) else(
  gd (in64 (a+1))<|
  ma N self m set d b (a+1))) else(
  some (Ex.go ()))
def uj(N:Nat):Nat→Mach→(List Int)→Int→Option Bool
 |0,_,_,_=>none
 |F+1,m,set,d=>
  bif decide ((↑set.length:Int)=1) then(
  some true) else(
  bif decide (d=0) then(
  some false) else(
  bd (
  ma N (uj N F) m set d N 0) fun a=>
  Ex.on a (fun b=>
  some false) some))
def yx(N:Nat)(m:Mach):Nat→(List Int)→Int→Option (List Int)
 |0,_,_=>none
 |b+1,a,x16=>
  bif decide (x16<(↑m.rows.length:Int)) then(
  gd (fits 8 a ([x16]:List Int))<|
  gd (in64 (x16+1))<|
  yx N m b (a++([x16]:List Int)) (x16+1)) else(
  some a)
def yw(N:Nat)(m:Mach)(most:Int)(d:List Int):Nat→Int→Option (Ex (Unit) (Int))
 |0,_=>none
 |b+1,a=>
  bif decide (a≤most) then(
  bd (uj N N m d a) fun c=>
  bif c then(
  some (Ex.rt a)) else(
  gd (in64 (a+1))<|
  yw N m most d b (a+1))) else(
  some (Ex.go ()))
def l5(N:Nat)(m:Mach)(most:Int):Option Int:=
 bd (
 yx N m N ([]:List Int) 0) fun b=>
 bd (
 yw N m most b N 0) fun a=>
 Ex.on a (fun c=>
 some (-1)) some
def sw(N:Nat)(x:Sd):Option Bool:=
 bd (z02 N x) fun b=>
 bd (z0n N (⟨b.inputs,b.outputs,b.rows⟩:Mach)) fun a=>
 bd (l5 N (⟨b.inputs,b.outputs,b.rows⟩:Mach) 4) fun c=>
 bd (z1o N (⟨b.inputs,b.outputs,b.rows⟩:Mach)) fun d=>
 bif ((decide (d.2=0))&&((decide (a.2≠0))||(decide ((↑d.1.length:Int)<a.1))))||((decide (a.2≠0))&&((decide (a.2≠7))||(decide (a.1≠0)))) then(
 some false) else(
 bif decide (0≤c) then(
 bd (gop (true&&(((decide (a.2=0))&&(decide (a.1=c)))==true)) (iq N)) fun e=>
 some (((decide (a.2=0))&&(decide (a.1=c)))&&(e.getD default))) else(
 bd (gop (true&&(((decide (a.2≠0))||(decide (4<a.1)))==true)) (iq N)) fun f=>
 some (((decide (a.2≠0))||(decide (4<a.1)))&&(f.getD default))))
end GV
end Go.Proofs.Ytjmlpkkbmnjhcaa
