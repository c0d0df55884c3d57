import Derived.Test.YtdhccodneoebpaaShTypes
set_option linter.unusedVariables false
set_option linter.unusedSimpArgs false
set_option linter.unusedSectionVars false
namespace Go.Proofs.Ytdhccodneoebpaa
namespace GV
set_option maxRecDepth 100000
def xh(N:Nat)(x:MDat)(c:Int):Nat→(List Edge)→Int→Option (List Edge)
 |0,_,_=>none
 |e+1,d,b=>
  bif decide (b<((1:Int)+(x.ins%3))) then(
  bd (
  bd (
  gd (in64 (c*((1:Int)+(x.ins%3))))<|
  gd (in64 ((c*((1:Int)+(x.ins%3)))+b))<|
  bif decide (((c*((1:Int)+(x.ins%3)))+b)<(↑x.edges.length:Int)) then(
  gd (okI x.edges ((c*((1:Int)+(x.ins%3)))+b))<|
  gd (in64 (ix x.edges ((c*((1:Int)+(x.ins%3)))+b)))<|
  some (ix x.edges ((c*((1:Int)+(x.ins%3)))+b))) else(
  some 0)) fun a=>
  gd ((true&&(x.part==true))=true→okR a 4)<|
  bif x.part&&(decide ((a%4)=3)) then(
  gd (fits 16 d ([(⟨(-1),(-1)⟩:Edge)]:List Edge))<|
  some (d++([(⟨(-1),(-1)⟩:Edge)]:List Edge))) else(
  gd (okQ a 4)<|
  gd (okR (a/4) ((1:Int)+(x.states%6)))<|
  gd (okQ a 4)<|
  gd (okQ (a/4) ((1:Int)+(x.states%6)))<|
  gd (okR ((a/4)/((1:Int)+(x.states%6))) ((1:Int)+(x.outs%3)))<|
  gd (fits 16 d ([(⟨(a/4)%((1:Int)+(x.states%6)),((a/4)/((1:Int)+(x.states%6)))%((1:Int)+(x.outs%3))⟩:Edge)]:List Edge))<|
  some (d++([(⟨(a/4)%((1:Int)+(x.states%6)),((a/4)/((1:Int)+(x.states%6)))%((1:Int)+(x.outs%3))⟩:Edge)]:List Edge)))) fun f=>
  gd (in64 (b+1))<|
  xh N x c e f (b+1)) else(
  some d)
def bn(N:Nat)(x:MDat):Nat→Int→(List (List Edge))→Option (List (List Edge))
 |0,_,_=>none
 |d+1,a,b=>
  bif decide (a<((1:Int)+(x.states%6))) then(
  bd (
  xh N x a N ([]:List Edge) 0) fun c=>
  gd (fits 24 b ([c]:List (List Edge)))<|
  gd (in64 (a+1))<|
  bn N x d (a+1) (b++([c]:List (List Edge)))) else(
  some b)
def z0s(N:Nat)(x:MDat):Option Mach:=
 gd (okR x.states 6)<|
 gd (in64 (x.states%6))<|
 gd (in64 ((1:Int)+(x.states%6)))<|
 gd (okR x.ins 3)<|
 gd (in64 (x.ins%3))<|
 gd (in64 ((1:Int)+(x.ins%3)))<|
 gd (okR x.outs 3)<|
 gd (in64 (x.outs%3))<|
 gd (in64 ((1:Int)+(x.outs%3)))<|
 bd (
 bn N x N 0 ([]:List (List Edge))) fun a=>
 some (⟨(1:Int)+(x.ins%3),(1:Int)+(x.outs%3),a⟩:Mach)
def z0y(N:Nat)(m:Mach)(s:Int)(i:Int):Option Edge:=
 bif decide (s<0) then(
 some (⟨(-1),(-1)⟩:Edge)) else(
 gd (okI m.rows s)<|
 gd (okI (ix m.rows s) i)<|
 some (⟨(ix (ix m.rows s) i).to,(ix (ix m.rows s) i).out⟩:Edge))
def dm(N:Nat):Nat→Mach→Int→(List Int)→Option Int
 |0,_,_,_=>none
 |F+1,m,s,w_=>
  bif decide ((↑w_.length:Int)=0) then(
  some s) else(
  gd (okI w_ 0)<|
  bd (z0y N m s (ix w_ 0)) fun b=>
  gd (okS w_ 1 (↑w_.length:Int))<|
  bd ((dm N F) m b.to (cut w_ 1 (↑w_.length:Int))) fun a=>
  some a)
def yl(N:Nat)(inputs:Int):Nat→Int→(List Int)→Option (Ex (List Int) ((List Int)))
 |0,_,_=>none
 |c+1,a,b=>
  bif decide (0≤a) then(
  gd (okI b a)<|
  gd (in64 ((ix b a)+1))<|
  bif decide (((ix b a)+1)<inputs) then(
  gd (okI b a)<|
  gd (in64 ((ix b a)+1))<|
  gd (okI b a)<|
  some (Ex.rt (up b a ((ix b a)+1)))) else(
  gd (okI b a)<|
  gd (in64 (a-1))<|
  yl N inputs c (a-1) (up b a 0))) else(
  some (Ex.go b))
def l6(N:Nat)(w_:(List Int))(inputs:Int):Option (List Int):=
 gd (fits 8 ([]:List Int) w_)<|
 bd (
 gd (in64 ((↑(([]:List Int)++w_).length:Int)-1))<|
 yl N inputs N ((↑(([]:List Int)++w_).length:Int)-1) (([]:List Int)++w_)) fun b=>
 Ex.on b (fun a=>
 gd (fits 8 a ([0]:List Int))<|
 some (a++([0]:List Int))) some
def w9(N:Nat)(m:Mach)(from_:Int):Nat→(List Int)→(List (List Int))→(List Bool)→Option (List (List Int)×List Bool)
 |0,_,_,_=>none
 |g+1,c,d,b=>
  bif decide ((↑c.length:Int)<(↑m.rows.length:Int)) then(
  bd (
  bd (dm N N m from_ c) fun a=>
  gd ((true&&((decide (0≤a))==true))=true→okI b a)<|
  bif (decide (0≤a))&&(!(ix b a)) then(
  gd (okI b a)<|
  gd (okI d a)<|
  some ((up d a c),(up b a true))) else(
  some (d,b))) fun e=>
  bd (l6 N c m.inputs) fun f=>
  w9 N m from_ g f e.1 e.2) else(
  some (d,b))
def iy(N:Nat)(m:Mach)(from_:Int):Option ((List (List Int))×(List Bool)):=
 gd (okM 24 (↑m.rows.length:Int))<|
 gd (okM 1 (↑m.rows.length:Int))<|
 bd (
 w9 N m from_ N ([]:List Int) (mk (↑m.rows.length:Int) ([]:List Int)) (mk (↑m.rows.length:Int) false)) fun a=>
 some (a.1,a.2)
def lh(N:Nat)(m:Mach):Option ((List (List Int))×(List Bool)):=
 bd (iy N m 0) fun a=>
 some (a.1,a.2)
def xk(N:Nat)(a:(List Int))(b:(List Int)):Nat→Int→Option (Ex (Unit) (Int))
 |0,_=>none
 |d+1,c=>
  bif decide (c<(↑a.length:Int)) then(
  gd (okI a c)<|
  gd (okI b c)<|
  bif decide ((ix a c)≠(ix b c)) then(
  gd (okI a c)<|
  gd (okI b c)<|
  bif decide ((ix a c)<(ix b c)) then(
  some (Ex.rt 1)) else(
  some (Ex.rt 0))) else(
  gd (in64 (c+1))<|
  xk N a b d (c+1))) else(
  some (Ex.go ()))
def ow(N:Nat)(a:(List Int))(b:(List Int)):Option Int:=
 bif decide ((↑a.length:Int)≠(↑b.length:Int)) then(
 bif decide ((↑a.length:Int)<(↑b.length:Int)) then(
 some 1) else(
 some 0)) else(
 bd (
 xk N a b N 0) fun c=>
 Ex.on c (fun d=>
 some 0) some)
def yo(N:Nat)(d:(List (List Int))×(List Bool))(b:List Int)(c:Int):Nat→Int→Option Int
 |0,_=>none
 |e+1,a=>
  gd ((true&&((decide (a<(↑b.length:Int)))==true))=true→okI b a)<|
  gd ((true&&((decide (a<(↑b.length:Int)))==true))=true→okI d.1 (ix b a))<|
  gd ((true&&((decide (a<(↑b.length:Int)))==true))=true→okI d.1 c)<|
  bd (gop (true&&((decide (a<(↑b.length:Int)))==true)) (ow N (ix d.1 (ix b a)) (ix d.1 c))) fun f=>
  bif (decide (a<(↑b.length:Int)))&&(decide ((f.getD default)=1)) then(
  gd (in64 (a+1))<|
  yo N d b c e (a+1)) else(
  some a)
def yz(N:Nat)(d:(List (List Int))×(List Bool)):Nat→(List Int)→Int→Option (List Int)
 |0,_,_=>none
 |e+1,a,b=>
  bif decide (b<(↑d.1.length:Int)) then(
  bd (
  gd (okI d.2 b)<|
  bif !(ix d.2 b) then(
  some a) else(
  bd (
  yo N d a b N 0) fun c=>
  gd (okS a 0 c)<|
  gd (fits 8 ([]:List Int) (cut a 0 c))<|
  gd (fits 8 (([]:List Int)++(cut a 0 c)) ([b]:List Int))<|
  gd (okS a c (↑a.length:Int))<|
  gd (fits 8 ((([]:List Int)++(cut a 0 c))++([b]:List Int)) (cut a c (↑a.length:Int)))<|
  some (((([]:List Int)++(cut a 0 c))++([b]:List Int))++(cut a c (↑a.length:Int))))) fun f=>
  gd (in64 (b+1))<|
  yz N d e f (b+1)) else(
  some a)
def z0b(N:Nat)(m:Mach):Option (List Int):=
 bd (lh N m) fun b=>
 bd (
 yz N b N ([]:List Int) 0) fun a=>
 some a
def xq(N:Nat)(m:Mach)(l_:(List Int))(b:Int)(c:Int):Nat→Int→Int→Option Int
 |0,_,_=>none
 |e+1,d,a=>
  bif decide (a<(↑l_.length:Int)) then(
  bd (
  gd (okI l_ a)<|
  bif decide ((ix l_ a)=((ix (ix m.rows (ix l_ b)) c).to)) then(
  some a) else(
  some d)) fun f=>
  gd (in64 (a+1))<|
  xq N m l_ b c e f (a+1)) else(
  some d)
def xg(N:Nat)(m:Mach)(l_:(List Int))(a:Int):Nat→(List Edge)→Int→Option (List Edge)
 |0,_,_=>none
 |e+1,c,b=>
  bif decide (b<m.inputs) then(
  gd (okI l_ a)<|
  gd (okI m.rows (ix l_ a))<|
  gd (okI (ix m.rows (ix l_ a)) b)<|
  bd (
  xq N m l_ a b N (-1) 0) fun d=>
  gd (fits 16 c ([(⟨d,(ix (ix m.rows (ix l_ a)) b).out⟩:Edge)]:List Edge))<|
  gd (in64 (b+1))<|
  xg N m l_ a e (c++([(⟨d,(ix (ix m.rows (ix l_ a)) b).out⟩:Edge)]:List Edge)) (b+1)) else(
  some c)
def xn(N:Nat)(m:Mach)(l_:(List Int)):Nat→Int→(List (List Edge))→Option (List (List Edge))
 |0,_,_=>none
 |d+1,a,b=>
  bif decide (a<(↑l_.length:Int)) then(
  bd (
  xg N m l_ a N ([]:List Edge) 0) fun c=>
  gd (fits 24 b ([c]:List (List Edge)))<|
  gd (in64 (a+1))<|
  xn N m l_ d (a+1) (b++([c]:List (List Edge)))) else(
  some b)
def fw(N:Nat)(m:Mach)(l_:(List Int)):Option Mach:=
 bd (
 xn N m l_ N 0 ([]:List (List Edge))) fun a=>
 some (⟨m.inputs,m.outputs,a⟩:Mach)
def ni(N:Nat)(m:Mach):Option Mach:=
 bd (z0b N m) fun b=>
 bd (fw N m b) fun a=>
 some (⟨a.inputs,a.outputs,a.rows⟩:Mach)
def uo(N:Nat)(s:(List Edge))(f:Edge→Option Bool):Nat→Int→Option (Ex (Unit) (Int))
 |0,_=>none
 |c+1,a=>
  bif decide (a<(↑s.length:Int)) then(
  gd (okI s a)<|
  bd (f (ix s a)) fun b=>
  bif b then(
  some (Ex.rt a)) else(
  gd (in64 (a+1))<|
  uo N s f c (a+1))) else(
  some (Ex.go ()))
def mg(N:Nat)(s:(List Edge))(f:Edge→Option Bool):Option Int:=
 bd (
 uo N s f N 0) fun a=>
 Ex.on a (fun b=>
 some (-1)) some
def dh(N:Nat)(s:(List Edge))(f:Edge→Option Bool):Option Bool:=
 bd (mg N s f) fun a=>
 some (decide (0≤a))
def z8z(N:Nat):Option Edge:=
 some (⟨(-1),(-1)⟩:Edge)
def z8y(N:Nat)(m:Mach)(x:Edge):Option Bool:=
 bd (z8z N) fun a=>
 some ((decide (x.to=a.to∧x.out=a.out))||((((decide (0≤x.to))&&(decide (x.to<(↑m.rows.length:Int))))&&(decide (0≤x.out)))&&(decide (x.out<m.outputs))))
def z6g(N:Nat)(x:Edge)(p0_:Mach):Option Bool:=
 bd (z8y N p0_ x) fun a=>
 some (!a)
def dz(N:Nat)(m:Mach):Nat→Int→Option (Ex (Unit) (Int))
 |0,_=>none
 |b+1,a=>
  bif decide (a<(↑m.rows.length:Int)) then(
  gd (okI m.rows a)<|
  bd (gop (true&&((decide ((↑(ix m.rows a).length:Int)≠m.inputs))==false)) (dh N (ix m.rows a) (fun d=>z6g N d m))) fun c=>
  bif (decide ((↑(ix m.rows a).length:Int)≠m.inputs))||(c.getD default) then(
  some (Ex.rt 1)) else(
  gd (in64 (a+1))<|
  dz N m b (a+1))) else(
  some (Ex.go ()))
def z1u(N:Nat)(m:Mach):Option Int:=
 bif ((decide (16<m.inputs))||(decide (16<m.outputs)))||(decide (64<(↑m.rows.length:Int))) then(
 some 3) else(
 bif ((decide (m.inputs<1))||(decide (m.outputs<1)))||(decide ((↑m.rows.length:Int)<1)) then(
 some 1) else(
 bd (
 dz N m N 0) fun a=>
 Ex.on a (fun b=>
 some 0) some))
def xx(N:Nat)(self:Int→List Bool→Mach→Option (List Bool))(s:Int)(p1_:Mach):Nat→Int→(List Bool)→Option (List Bool)
 |0,_,_=>none
 |c+1,a,b=>
  bif decide (a<(↑(ix p1_.rows s).length:Int)) then(
  gd (okI (ix p1_.rows s) a)<|
  bd (self ((ix (ix p1_.rows s) a).to) b p1_) fun d=>
  gd (in64 (a+1))<|
  xx N self s p1_ c (a+1) d) else(
  some b)
def x9(N:Nat):Nat→Int→List Bool→Mach→Option (List Bool)
 |0,_,_,_=>none
 |F+1,s,p0_,p1_=>
  gd ((true&&((decide (s=(-1)))==false))=true→okI p0_ s)<|
  bif (decide (s=(-1)))||(ix p0_ s) then(
  some p0_) else(
  gd (okI p0_ s)<|
  gd (okI p1_.rows s)<|
  xx N (x9 N F) s p1_ N 0 (up p0_ s true))
def gm(N:Nat)(s:(List Bool))(v_:Bool):Nat→Int→Option (Ex (Unit) (Int))
 |0,_=>none
 |b+1,a=>
  bif decide (a<(↑s.length:Int)) then(
  gd (okI s a)<|
  bif decide (v_=(ix s a)) then(
  some (Ex.rt a)) else(
  gd (in64 (a+1))<|
  gm N s v_ b (a+1))) else(
  some (Ex.go ()))
def z1e(N:Nat)(s:(List Bool))(v_:Bool):Option Int:=
 bd (
 gm N s v_ N 0) fun a=>
 Ex.on a (fun b=>
 some (-1)) some
def lc(N:Nat)(s:(List Bool))(v_:Bool):Option Bool:=
 bd (z1e N s v_) fun a=>
 some (decide (0≤a))
def z0m(N:Nat)(m:Mach):Option (Bool×Int):=
 bd (z1u N m) fun c=>
 bif decide (c≠0) then(
 some (false,c)) else(
 gd (okM 1 (↑m.rows.length:Int))<|
 bd (x9 N N 0 (mk (↑m.rows.length:Int) false) m) fun a=>
 bd (lc N a false) fun b=>
 some ((!b),0))
def sj(N:Nat)(m:Mach):Option Int:=
 bd (z0m N m) fun a=>
 bif (decide (a.2=0))&&(!a.1) then(
 some 11) else(
 some a.2)
def mo(N:Nat)(m:Mach)(s:Int):Option (Mach×Int):=
 some (m,s)
def af(N:Nat)(σ:Type)(B:Sb→σ→Option (Bool×σ))(p0_:Mach)(p1_:Int):Nat→σ→Int→Option σ
 |0,_,_=>none
 |d+1,b,a=>
  bif decide (a<(↑(ix p0_.rows p1_).length:Int)) then(
  bd (
  gd (okI (ix p0_.rows p1_) a)<|
  bif decide (((ix (ix p0_.rows p1_) a).to)≠(-1)) then(
  bd (B (⟨a,(ix (ix p0_.rows p1_) a).to⟩:Sb) b) fun c=>
  bif !c.1 then(
  some (Ex.rt c.2)) else(
  some (Ex.go c.2))) else(
  some (Ex.go b))) fun e=>
  Ex.on e (fun f=>
  gd (in64 (a+1))<|
  af N σ B p0_ p1_ d f (a+1)) some) else(
  some b)
def bi(N:Nat)(p0_:Mach)(p1_:Int)(σ:Type)(B:Sb→σ→Option (Bool×σ))(s0:σ):Option σ:=
 gd (okI p0_.rows p1_)<|
 af N σ B p0_ p1_ N s0 0
def lg(N:Nat)(m:Mach):Nat→(List Bool)→(List Int)→Option (List Bool)
 |0,_,_=>none
 |g+1,d,a=>
  bif decide (0<(↑a.length:Int)) then(
  gd (in64 ((↑a.length:Int)-1))<|
  gd (okI a ((↑a.length:Int)-1))<|
  gd (in64 ((↑a.length:Int)-1))<|
  gd (okS a 0 ((↑a.length:Int)-1))<|
  bd (mo N m (ix a ((↑a.length:Int)-1))) fun e=>
  bd (bi N e.1 e.2 (List Bool×List Int) (fun c b=>
  gd (okI b.1 c.fB)<|
  bif !(ix b.1 c.fB) then(
  gd (okI b.1 c.fB)<|
  gd (fits 8 b.2 ([c.fB]:List Int))<|
  some (true,((up b.1 c.fB true),(b.2++([c.fB]:List Int))))) else(
  some (true,(b.1,b.2)))) (d,(cut a 0 ((↑a.length:Int)-1)))) fun f=>
  lg N m g f.1 f.2) else(
  some d)
def z6w(N:Nat)(m:Mach)(s:Int):Option (List Bool):=
 gd (okM 1 (↑m.rows.length:Int))<|
 gd (okI (mk (↑m.rows.length:Int) false) s)<|
 bd (
 lg N m N (up (mk (↑m.rows.length:Int) false) s true) ([s]:List Int)) fun a=>
 some a
def ax(N:Nat)(m:Mach):Nat→Int→(List (List Bool))→Option (List (List Bool))
 |0,_,_=>none
 |c+1,a,b=>
  bif decide (a<(↑(mk (↑m.rows.length:Int) ([]:List Bool)).length:Int)) then(
  bd (z6w N m a) fun d=>
  gd (okI b a)<|
  gd (in64 (a+1))<|
  ax N m c (a+1) (up b a d)) else(
  some b)
def iq(N:Nat)(c:List (List Bool))(a:Int):Nat→(List Int)→Option (List Int)
 |0,_=>none
 |d+1,b=>
  gd (okI c a)<|
  gd (okI b a)<|
  gd (okI (ix c a) (ix b a))<|
  gd ((true&&((!(ix (ix c a) (ix b a)))==false))=true→okI b a)<|
  gd ((true&&((!(ix (ix c a) (ix b a)))==false))=true→okI c (ix b a))<|
  gd ((true&&((!(ix (ix c a) (ix b a)))==false))=true→okI (ix c (ix b a)) a)<|
  bif (!(ix (ix c a) (ix b a)))||(!(ix (ix c (ix b a)) a)) then(
  gd (okI b a)<|
  gd (in64 ((ix b a)+1))<|
  gd (okI b a)<|
  iq N c a d (up b a ((ix b a)+1))) else(
  some b)
def z04(N:Nat)(m:Mach)(b:List (List Bool)):Nat→Int→(List Int)→Option (List Int)
 |0,_,_=>none
 |d+1,a,c=>
  bif decide (a<(↑(mk (↑m.rows.length:Int) (0:Int)).length:Int)) then(
  bd (
  iq N b a N c) fun e=>
  gd (in64 (a+1))<|
  z04 N m b d (a+1) e) else(
  some c)
def z5b(N:Nat)(m:Mach):Option (List Int):=
 gd (okM 24 (↑m.rows.length:Int))<|
 bd (
 ax N m N 0 (mk (↑m.rows.length:Int) ([]:List Bool))) fun a=>
 gd (okM 8 (↑m.rows.length:Int))<|
 bd (
 z04 N m a N 0 (mk (↑m.rows.length:Int) (0:Int))) fun b=>
 some b
def z18(N:Nat)(s:(List Int)):Option (List Int):=
 gd (okS s 0 (↑s.length:Int))<|
 some (cut s 0 (↑s.length:Int))
def z1t(N:Nat)(s:(List (List Int))):Option (List (List Int)):=
 gd (okS s 0 (↑s.length:Int))<|
 some (cut s 0 (↑s.length:Int))
def ib(N:Nat)(b:(List Int))(d:Int):Nat→(List Int)→Int→Option (List Int)
 |0,_,_=>none
 |e+1,c,a=>
  bif decide (a<(↑b.length:Int)) then(
  bd (
  gd (okI b a)<|
  bif decide ((ix b a)=d) then(
  gd (fits 8 c ([a]:List Int))<|
  some (c++([a]:List Int))) else(
  some c)) fun f=>
  gd (in64 (a+1))<|
  ib N b d e f (a+1)) else(
  some c)
def l9(N:Nat)(b:(List Int)):Nat→(List (List Int))→Int→Option (List (List Int))
 |0,_,_=>none
 |e+1,c,a=>
  bif decide (a<(↑b.length:Int)) then(
  bd (
  gd (okI b a)<|
  bif decide ((ix b a)≠a) then(
  some c) else(
  bd (
  ib N b a N ([]:List Int) 0) fun f=>
  bd (z18 N f) fun d=>
  gd (fits 24 c ([d]:List (List Int)))<|
  some (c++([d]:List (List Int))))) fun g=>
  gd (in64 (a+1))<|
  l9 N b e g (a+1)) else(
  some c)
def z0i(N:Nat)(m:Mach):Option ((List (List Int))×Int):=
 bd (sj N m) fun d=>
 bif decide (d≠0) then(
 some (([]:(List (List Int))),d)) else(
 bd (z5b N m) fun b=>
 bd (
 l9 N b N ([]:List (List Int)) 0) fun c=>
 bd (z1t N c) fun a=>
 some (a,0))
def wm(N:Nat)(m:Mach)(a:Int):Nat→Int→(List Bool)→Option (List Bool)
 |0,_,_=>none
 |d+1,b,c=>
  gd ((true&&((decide (b<m.inputs))==true))=true→okI c a)<|
  bif (decide (b<m.inputs))&&(ix c a) then(
  bd (
  gd (okI m.rows a)<|
  gd (okI (ix m.rows a) b)<|
  bif decide (((ix (ix m.rows a) b).to)≠(-1)) then(
  gd (okI c ((ix (ix m.rows a) b).to))<|
  some (up c ((ix (ix m.rows a) b).to) true)) else(
  some c)) fun e=>
  gd (in64 (b+1))<|
  wm N m a d (b+1) e) else(
  some c)
def yw(N:Nat)(m:Mach):Nat→Int→(List Bool)→Option (List Bool)
 |0,_,_=>none
 |c+1,a,b=>
  bif decide (a<(↑m.rows.length:Int)) then(
  bd (
  wm N m a N 0 b) fun d=>
  gd (in64 (a+1))<|
  yw N m c (a+1) d) else(
  some b)
def gq(N:Nat)(m:Mach)(steps:Int):Nat→Int→(List Bool)→Option (List Bool)
 |0,_,_=>none
 |c+1,a,b=>
  bif decide (a<steps) then(
  bd (
  yw N m N 0 b) fun d=>
  gd (in64 (a+1))<|
  gq N m steps c (a+1) d) else(
  some b)
def di(N:Nat)(m:Mach)(s:Int)(t:Int)(steps:Int):Option Bool:=
 bif decide (s=t) then(
 some true) else(
 gd (okM 1 (↑m.rows.length:Int))<|
 gd (okI (mk (↑m.rows.length:Int) false) s)<|
 bd (
 gq N m steps N 0 (up (mk (↑m.rows.length:Int) false) s true)) fun a=>
 gd (okI a t)<|
 some (ix a t))
def yn(N:Nat)(m:Mach)(b:Int):Nat→Bool→(List Int)→Int→Option (Bool×List Int)
 |0,_,_,_=>none
 |g+1,d,c,a=>
  bif decide (a<(↑m.rows.length:Int)) then(
  bd (
  bd (di N m b a (↑m.rows.length:Int)) fun e=>
  bd (gop (true&&(e==true)) (di N m a b (↑m.rows.length:Int))) fun h=>
  bif e&&(h.getD default) then(
  gd (fits 8 c ([a]:List Int))<|
  some (d&&(decide (b≤a)),(c++([a]:List Int)))) else(
  some (d,c))) fun f=>
  gd (in64 (a+1))<|
  yn N m b g f.1 f.2 (a+1)) else(
  some (d,c))
def gu(N:Nat)(m:Mach):Nat→(List (List Int))→Int→Option (List (List Int))
 |0,_,_=>none
 |d+1,a,b=>
  bif decide (b<(↑m.rows.length:Int)) then(
  bd (
  bd (
  yn N m b N true ([]:List Int) 0) fun c=>
  bif c.1 then(
  gd (fits 24 a ([c.2]:List (List Int)))<|
  some (a++([c.2]:List (List Int)))) else(
  some a)) fun e=>
  gd (in64 (b+1))<|
  gu N m d e (b+1)) else(
  some a)
def z0c(N:Nat)(m:Mach):Option (List (List Int)):=
 bd (
 gu N m N ([]:List (List Int)) 0) fun a=>
 some a
def vo(N:Nat)(a:(List Int))(b:(List Int)):Nat→Int→Option (Ex (Unit) (Int))
 |0,_=>none
 |d+1,c=>
  bif decide (c<(↑a.length:Int)) then(
  gd (okI a c)<|
  gd (okI b c)<|
  bif decide ((ix a c)<(ix b c)) then(
  some (Ex.rt (-1))) else(
  gd (okI a c)<|
  gd (okI b c)<|
  bif decide ((ix b c)<(ix a c)) then(
  some (Ex.rt 1)) else(
  gd (in64 (c+1))<|
  vo N a b d (c+1)))) else(
  some (Ex.go ()))
def fq(N:Nat)(a:(List Int))(b:(List Int)):Option Int:=
 bif decide ((↑a.length:Int)≠(↑b.length:Int)) then(
 bif decide ((↑a.length:Int)<(↑b.length:Int)) then(
 some (-1)) else(
 some 1)) else(
 bd (
 vo N a b N 0) fun c=>
 Ex.on c (fun d=>
 some 0) some)
def xu(N:Nat)(a:(List (List Int)))(b:(List (List Int))):Nat→Int→Option (Ex (Unit) (Bool))
 |0,_=>none
 |e+1,c=>
  bif decide (c<(↑a.length:Int)) then(
  gd (okI a c)<|
  gd (okI b c)<|
  bd (fq N (ix a c) (ix b c)) fun d=>
  bif decide (d≠0) then(
  some (Ex.rt false)) else(
  gd (in64 (c+1))<|
  xu N a b e (c+1))) else(
  some (Ex.go ()))
def pz(N:Nat)(a:(List (List Int)))(b:(List (List Int))):Option Bool:=
 bif decide ((↑a.length:Int)≠(↑b.length:Int)) then(
 some false) else(
 bd (
 xu N a b N 0) fun c=>
 Ex.on c (fun d=>
 some true) some)
def z1m(N:Nat):Option Mach:=
 some (⟨2,2,([([(⟨1,0⟩:Edge),(⟨0,0⟩:Edge)]:List Edge),([(⟨0,1⟩:Edge),(⟨1,0⟩:Edge)]:List Edge)]:List (List Edge))⟩:Mach)
def z0l(N:Nat):Option Mach:=
 some (⟨1,1,([([(⟨1,0⟩:Edge)]:List Edge),([(⟨1,0⟩:Edge)]:List Edge)]:List (List Edge))⟩:Mach)
def z1l(N:Nat)(x:(List Int)):Nat→Int→Int→Option Int
 |0,_,_=>none
 |c+1,b,a=>
  bif decide (a<(↑x.length:Int)) then(
  gd (okI x a)<|
  gd (in64 (a+1))<|
  z1l N x c (max b (ix x a)) (a+1)) else(
  some b)
def slices_Max_int(N:Nat)(x:(List Int)):Option Int:=
 bif decide ((↑x.length:Int)<1) then(
 none) else(
 gd (okI x 0)<|
 bd (
 z1l N x N (ix x 0) 1) fun a=>
 some a)
def z2j(N:Nat)(m:Mach)(c:(List Int)):Nat→Int→(List Int)→Option (List Int)
 |0,_,_=>none
 |g+1,a,d=>
  bif decide (a<(↑m.rows.length:Int)) then(
  bd (mo N m a) fun e=>
  bd (bi N e.1 e.2 (List Int) (fun f b=>
  gd (okI c f.fB)<|
  gd (okI c a)<|
  bif decide ((ix c f.fB)≠(ix c a)) then(
  gd (okI c a)<|
  gd (okI b (ix c a))<|
  gd (in64 ((ix b (ix c a))+1))<|
  gd (okI b (ix c a))<|
  some (true,(up b (ix c a) ((ix b (ix c a))+1)))) else(
  some (true,b))) d) fun h=>
  gd (in64 (a+1))<|
  z2j N m c g (a+1) h) else(
  some d)
def z5i(N:Nat)(m:Mach)(round:Bool):Option Bool:=
 bd (z5b N m) fun d=>
 gd (okM 8 (↑m.rows.length:Int))<|
 bd (
 z2j N m d N 0 (mk (↑m.rows.length:Int) (0:Int))) fun c=>
 bd (
 bif round then(
 some 0) else(
 some 1)) fun a=>
 bd (slices_Max_int N c) fun b=>
 some (decide (b≤a))
def z0x(N:Nat)(m:Mach)(times:Int→Int→Option Int):Nat→Int→Int→(List (List Int))→Option (Int×List (List Int))
 |0,_,_,_=>none
 |i+1,a,f,e=>
  bif decide (a<(↑(mk (↑m.rows.length:Int) ([]:List Int)).length:Int)) then(
  gd (okM 8 m.inputs)<|
  gd (okI e a)<|
  bd (mo N (⟨m.inputs,m.outputs,m.rows⟩:Mach) a) fun g=>
  bd (bi N g.1 g.2 (Int×List (List Int)) (fun c b=>
  gd (okI b.2 a)<|
  bd (times a c.fA) fun d=>
  gd (okI (ix b.2 a) c.fA)<|
  gd (okI (up b.2 a (up (ix b.2 a) c.fA d)) a)<|
  gd (okI (ix (up b.2 a (up (ix b.2 a) c.fA d)) a) c.fA)<|
  gd (in64 (b.1+(ix (ix (up b.2 a (up (ix b.2 a) c.fA d)) a) c.fA)))<|
  some (true,(b.1+(ix (ix (up b.2 a (up (ix b.2 a) c.fA d)) a) c.fA),(up b.2 a (up (ix b.2 a) c.fA d))))) (f,(up e a (mk m.inputs (0:Int))))) fun h=>
  gd (in64 (a+1))<|
  z0x N m times i (a+1) h.1 h.2) else(
  some (f,e))
def z2p(N:Nat)(m:Mach)(times:Int→Int→Option Int):Option Sc:=
 gd (okM 24 (↑m.rows.length:Int))<|
 bd (
 z0x N m times N 0 0 (mk (↑m.rows.length:Int) ([]:List Int))) fun a=>
 some (⟨(⟨m.inputs,m.outputs,m.rows⟩:Mach),a.2,a.1⟩:Sc)
def z9s(N:Nat)(p0_:Int)(p1_:Int):Option Int:=
 some 1
def z1x(N:Nat)(r_:Sc)(s:Int):Option (Sc×Int):=
 some (r_,s)
def z0t(N:Nat)(p0_:Sc)(p1_:Int)(σ:Type)(B:Sb→σ→Option (Bool×σ))(s0:σ):Option σ:=
 bd (mo N p0_.fD p1_) fun f=>
 bd (bi N f.1 f.2 (Ex (σ) (σ)) (fun a s=>Ex.on s (fun c=>
 gd (okI p0_.fE p1_)<|
 gd (okI (ix p0_.fE p1_) a.fA)<|
 bif decide (0<(ix (ix p0_.fE p1_) a.fA)) then(
 bd (B (⟨a.fA,a.fB⟩:Sb) c) fun b=>
 bif !b.1 then(
 some (false,Ex.rt b.2)) else(
 some (true,Ex.go b.2))) else(
 some (true,Ex.go c))) fun _=>none) (Ex.go s0)) fun d=>
 Ex.on d (fun e=>
 some e) some
def fe(N:Nat)(r_:Sc):Nat→Int→(List Int)→Option (List Int)
 |0,_,_=>none
 |f+1,a,d=>
  bif decide (a<(↑(mk (↑r_.fE.length:Int) (0:Int)).length:Int)) then(
  bd (z1x N r_ a) fun e=>
  bd (z0t N e.1 e.2 (List Int) (fun b c=>
  gd (okI c a)<|
  gd (okI r_.fE a)<|
  gd (okI (ix r_.fE a) b.fA)<|
  gd (in64 ((ix c a)+(ix (ix r_.fE a) b.fA)))<|
  gd (okI c a)<|
  gd (okI (up c a ((ix c a)+(ix (ix r_.fE a) b.fA))) b.fB)<|
  gd (okI r_.fE a)<|
  gd (okI (ix r_.fE a) b.fA)<|
  gd (in64 ((ix (up c a ((ix c a)+(ix (ix r_.fE a) b.fA))) b.fB)-(ix (ix r_.fE a) b.fA)))<|
  gd (okI (up c a ((ix c a)+(ix (ix r_.fE a) b.fA))) b.fB)<|
  some (true,(up (up c a ((ix c a)+(ix (ix r_.fE a) b.fA))) b.fB ((ix (up c a ((ix c a)+(ix (ix r_.fE a) b.fA))) b.fB)-(ix (ix r_.fE a) b.fA))))) d) fun g=>
  gd (in64 (a+1))<|
  fe N r_ f (a+1) g) else(
  some d)
def z2e(N:Nat)(r_:Sc):Option (List Int):=
 gd (okM 8 (↑r_.fE.length:Int))<|
 bd (
 fe N r_ N 0 (mk (↑r_.fE.length:Int) (0:Int))) fun a=>
 some a
def z1s(N:Nat)(to_:Int)(x:Sa)(p0_:List Sa):Option (Bool×List Sa):=
 gd (okI p0_ to_)<|
 bif decide (((ix p0_ to_).fC)≤x.fC) then(
 some (false,p0_)) else(
 gd (okI p0_ to_)<|
 some (true,(up p0_ to_ x)))
def z00(N:Nat)(fP:List Int):Nat→Int→(List Sa)→Option (List Sa)
 |0,_,_=>none
 |c+1,a,b=>
  bif decide (a<(↑fP.length:Int)) then(
  bd (
  gd (okI fP a)<|
  gd (okI b a)<|
  bif decide (0<(ix fP a)) then(
  gd (okI (up b a (⟨(-1),0,false,1073741824⟩:Sa)) a)<|
  some (up (up b a (⟨(-1),0,false,1073741824⟩:Sa)) a (⟨(ix (up b a (⟨(-1),0,false,1073741824⟩:Sa)) a).fG,(ix (up b a (⟨(-1),0,false,1073741824⟩:Sa)) a).fA,(ix (up b a (⟨(-1),0,false,1073741824⟩:Sa)) a).fAa,0⟩:Sa))) else(
  some (up b a (⟨(-1),0,false,1073741824⟩:Sa)))) fun d=>
  gd (in64 (a+1))<|
  z00 N fP c (a+1) d) else(
  some b)
def lu(N:Nat)(fM:Int)(fO:Int)(fAd:(List (List Edge)))(fH:List (List Int)):Nat→Int→(List Sa)→Bool→Option (List Sa×Bool)
 |0,_,_,_=>none
 |k+1,a,g,h=>
  bif decide (a<(↑fH.length:Int)) then(
  bd (mo N (⟨fM,fO,fAd⟩:Mach) a) fun i=>
  bd (bi N i.1 i.2 (List Sa×Bool) (fun b c=>
  bd (
  gd (okI c.1 a)<|
  gd ((true&&((decide (((ix c.1 a).fC)<1073741824))==true))=true→okI c.1 a)<|
  gd ((true&&((decide (((ix c.1 a).fC)<1073741824))==true))=true→in64 (((ix c.1 a).fC)+1))<|
  bif decide (((ix c.1 a).fC)<1073741824) then(
  bd (z1s N b.fB (⟨a,b.fA,false,((ix c.1 a).fC)+1⟩:Sa) c.1) fun e=>
  bif e.1 then(
  some (e.2,true)) else(
  some (e.2,c.2))) else(
  some (c.1,c.2))) fun d=>
  gd (okI fH a)<|
  gd (okI (ix fH a) b.fA)<|
  gd ((true&&((decide (0<(ix (ix fH a) b.fA)))==true))=true→okI d.1 b.fB)<|
  gd ((true&&(((decide (0<(ix (ix fH a) b.fA)))&&(decide (((ix d.1 b.fB).fC)<1073741824)))==true))=true→okI d.1 b.fB)<|
  gd ((true&&(((decide (0<(ix (ix fH a) b.fA)))&&(decide (((ix d.1 b.fB).fC)<1073741824)))==true))=true→in64 (((ix d.1 b.fB).fC)-1))<|
  bif (decide (0<(ix (ix fH a) b.fA)))&&(decide (((ix d.1 b.fB).fC)<1073741824)) then(
  bd (z1s N a (⟨b.fB,b.fA,true,((ix d.1 b.fB).fC)-1⟩:Sa) d.1) fun f=>
  bif f.1 then(
  some (true,(f.2,true))) else(
  some (true,(f.2,d.2)))) else(
  some (true,(d.1,d.2)))) (g,h)) fun j=>
  gd (in64 (a+1))<|
  lu N fM fO fAd fH k (a+1) j.1 j.2) else(
  some (g,h))
def ll(N:Nat)(fM:Int)(fO:Int)(fAd:(List (List Edge)))(fH:List (List Int)):Nat→Bool→(List Sa)→Option (List Sa)
 |0,_,_=>none
 |c+1,d,a=>
  bif d then(
  bd (
  lu N fM fO fAd fH N 0 a false) fun b=>
  ll N fM fO fAd fH c b.2 b.1) else(
  some a)
def z5u(N:Nat)(fM:Int)(fO:Int)(fAd:(List (List Edge)))(fH:List (List Int))(fP:List Int):Option (List Sa):=
 gd (okM 32 (↑fH.length:Int))<|
 bd (
 z00 N fP N 0 (mk (↑fH.length:Int) (⟨(0:Int),(0:Int),false,(0:Int)⟩:Sa))) fun a=>
 bd (
 ll N fM fO fAd fH N true a) fun b=>
 some b
def z0u(N:Nat)(fP:List Int)(c:(List Sa)):Nat→Int→Int→Option Int
 |0,_,_=>none
 |d+1,b,a=>
  bif decide (a<(↑fP.length:Int)) then(
  bd (
  gd (okI fP a)<|
  gd (((true&&((decide ((ix fP a)<0))==true))&&((decide (b=(-1)))==false))=true→okI c a)<|
  gd (((true&&((decide ((ix fP a)<0))==true))&&((decide (b=(-1)))==false))=true→okI c b)<|
  bif (decide ((ix fP a)<0))&&((decide (b=(-1)))||(decide (((ix c a).fC)<((ix c b).fC)))) then(
  some a) else(
  some b)) fun e=>
  gd (in64 (a+1))<|
  z0u N fP c d e (a+1)) else(
  some b)
def z0o(N:Nat)(c:(List Sa)):Nat→Int→(List (List Int))→Option (Int×List (List Int))
 |0,_,_=>none
 |e+1,a,b=>
  gd (okI c a)<|
  bif decide (((ix c a).fG)≠(-1)) then(
  gd (okI c a)<|
  bd (
  bif (ix c a).fAa then(
  gd (okI b a)<|
  gd (okI (ix b a) ((ix c a).fA))<|
  gd (in64 ((ix (ix b a) ((ix c a).fA))-1))<|
  gd (okI (ix b a) ((ix c a).fA))<|
  some (up b a (up (ix b a) ((ix c a).fA) ((ix (ix b a) ((ix c a).fA))-1)))) else(
  gd (okI b ((ix c a).fG))<|
  gd (okI (ix b ((ix c a).fG)) ((ix c a).fA))<|
  gd (in64 ((ix (ix b ((ix c a).fG)) ((ix c a).fA))+1))<|
  gd (okI (ix b ((ix c a).fG)) ((ix c a).fA))<|
  some (up b ((ix c a).fG) (up (ix b ((ix c a).fG)) ((ix c a).fA) ((ix (ix b ((ix c a).fG)) ((ix c a).fA))+1))))) fun d=>
  z0o N c e ((ix c a).fG) d) else(
  some (a,b))
def z6y(N:Nat)(fM:Int)(fO:Int)(fAd:(List (List Edge)))(fH:List (List Int))(fP:List Int):Option (Bool×List (List Int)×List Int):=
 bd (z5u N fM fO fAd fH fP) fun c=>
 bd (
 z0u N fP c N (-1) 0) fun a=>
 bif decide (a=(-1)) then(
 some (false,fH,fP)) else(
 gd (okI fP a)<|
 gd (in64 ((ix fP a)+1))<|
 gd (okI fP a)<|
 bd (
 z0o N c N a fH) fun b=>
 gd (okI (up fP a ((ix fP a)+1)) b.1)<|
 gd (in64 ((ix (up fP a ((ix fP a)+1)) b.1)-1))<|
 gd (okI (up fP a ((ix fP a)+1)) b.1)<|
 some (true,b.2,(up (up fP a ((ix fP a)+1)) b.1 ((ix (up fP a ((ix fP a)+1)) b.1)-1))))
def z6i(N:Nat)(s:Int)(i:Int)(p0_:Sj):Option Int:=
 gd (okI p0_.fAg s)<|
 gd (okI (ix p0_.fAg s) i)<|
 gd (in64 ((1:Int)+(ix (ix p0_.fAg s) i)))<|
 some ((1:Int)+(ix (ix p0_.fAg s) i))
def z0f(N:Nat)(m:Mach):Nat→Int→(List (List Int))→Option (List (List Int))
 |0,_,_=>none
 |c+1,a,b=>
  bif decide (a<(↑(mk (↑m.rows.length:Int) ([]:List Int)).length:Int)) then(
  gd (okM 8 m.inputs)<|
  gd (okI b a)<|
  gd (in64 (a+1))<|
  z0f N m c (a+1) (up b a (mk m.inputs (0:Int)))) else(
  some b)
def z08(N:Nat)(b:(List Int)):Nat→Int→(List Int)→Option (List Int)
 |0,_,_=>none
 |d+1,a,c=>
  bif decide (a<(↑b.length:Int)) then(
  gd (okI b a)<|
  gd (okN (ix b a))<|
  gd (fits 8 c ([-(ix b a)]:List Int))<|
  gd (in64 (a+1))<|
  z08 N b d (a+1) (c++([-(ix b a)]:List Int))) else(
  some c)
def z0d(N:Nat)(m:Mach):Nat→(List (List Int))→(List Int)→Option (List (List Int)×List Int)
 |0,_,_=>none
 |b+1,c,d=>
  bd (z6y N m.inputs m.outputs m.rows c d) fun a=>
  bif a.1 then(
  z0d N m b a.2.1 a.2.2) else(
  some (a.2.1,a.2.2))
def z3t(N:Nat)(m:Mach):Option Sc:=
 gd (okM 24 (↑m.rows.length:Int))<|
 bd (
 z0f N m N 0 (mk (↑m.rows.length:Int) ([]:List Int))) fun e=>
 bd (
 bd (z2p N (⟨m.inputs,m.outputs,m.rows⟩:Mach) (fun f g=>z9s N f g)) fun b=>
 bd (z2e N (⟨(⟨b.fD.inputs,b.fD.outputs,b.fD.rows⟩:Mach),b.fE,b.fI⟩:Sc)) fun d=>
 z08 N d N 0 ([]:List Int)) fun h=>
 bd (
 z0d N m N e h) fun c=>
 bd (z2p N (⟨m.inputs,m.outputs,m.rows⟩:Mach) (fun f g=>z6i N f g (⟨(⟨m.inputs,m.outputs,m.rows⟩:Mach),c.1,c.2⟩:Sj))) fun a=>
 some (⟨(⟨a.fD.inputs,a.fD.outputs,a.fD.rows⟩:Mach),a.fE,a.fI⟩:Sc)
def z2g(N:Nat)(s:Int)(r__0_:Int)(r__1_:Int)(r__2_:(List (List Edge)))(r__3_:List (List Int))(r__4_:Int):Option Int:=
 some s
def z1f(N:Nat)(p1_:Int)(σ:Type)(get:σ→Option (Int×Int×(List (List Edge))×List (List Int)×Int))(B:Sb→σ→Option (Bool×σ))(s0:σ):Option σ:=
 bd (get s0) fun f=>
 bd (mo N (⟨f.1,f.2.1,f.2.2.1⟩:Mach) p1_) fun e=>
 bd (bi N e.1 e.2 (Ex (σ) (σ)) (fun b s=>Ex.on s (fun c=>
 bd (get c) fun d=>
 gd (okI d.2.2.2.1 p1_)<|
 gd (okI (ix d.2.2.2.1 p1_) b.fA)<|
 bif decide (0<(ix (ix d.2.2.2.1 p1_) b.fA)) then(
 bd (B (⟨b.fA,b.fB⟩:Sb) c) fun a=>
 bif !a.1 then(
 some (false,Ex.rt a.2)) else(
 some (true,Ex.go a.2))) else(
 some (true,Ex.go c))) fun _=>none) (Ex.go s0)) fun g=>
 Ex.on g (fun h=>
 some h) some
def z2n(N:Nat)(s:Int)(i:Int)(n:Int)(r__0_:Int)(r__1_:Int)(r__2_:(List (List Edge)))(r__3_:List (List Int))(r__4_:Int):Option (List (List Int)×Int):=
 gd (okI r__3_ s)<|
 gd (okI (ix r__3_ s) i)<|
 gd (in64 ((ix (ix r__3_ s) i)-n))<|
 gd (okI (ix r__3_ s) i)<|
 gd (in64 (r__4_-n))<|
 some ((up r__3_ s (up (ix r__3_ s) i ((ix (ix r__3_ s) i)-n))),(r__4_-n))
def ru(N:Nat):Nat→Int→Int→(List Int)→Option (List Int)
 |0,_,_,_=>none
 |d+1,b,c,a=>
  bif decide (b<c) then(
  gd (okI a c)<|
  gd (okI a b)<|
  gd (okI a b)<|
  gd (okI a c)<|
  gd (in64 (b+1))<|
  gd (in64 (c-1))<|
  ru N d (b+1) (c-1) (up (up a b (ix a c)) c (ix a b))) else(
  some a)
def slices_Reverse_int(N:Nat)(s:List Int):Option (List Int):=
 gd (in64 ((↑s.length:Int)-1))<|
 ru N N 0 ((↑s.length:Int)-1) s
def z1y(N:Nat)(b:Sc):Nat→Int→(List (List Int))→(List Int)→(List Sb)→Option (List Int)
 |0,_,_,_,_=>none
 |i+1,f,g,e,a=>
  bif decide (0<(↑a.length:Int)) then(
  gd (in64 ((↑a.length:Int)-1))<|
  gd (okI a ((↑a.length:Int)-1))<|
  bd (
  bd (z2g N ((ix a ((↑a.length:Int)-1)).fB) b.fD.inputs b.fD.outputs b.fD.rows g f) fun l=>
  bd (z1f N l (Ex (Unit) (Int×List (List Int)×List Sb×Bool)) (Ex.got (fun(o:Unit)=>(b.fD.inputs,b.fD.outputs,b.fD.rows,g,f))) (fun d s=>Ex.on s (fun m=>
  bd (z2n N ((ix a ((↑a.length:Int)-1)).fB) d.fA 1 b.fD.inputs b.fD.outputs b.fD.rows g f) fun h=>
  gd (fits 16 a ([(⟨d.fA,d.fB⟩:Sb)]:List Sb))<|
  some (false,Ex.rt (h.2,h.1,(a++([(⟨d.fA,d.fB⟩:Sb)]:List Sb)),true))) fun _=>none) (Ex.go ())) fun j=>
  Ex.on j (fun n=>
  some (f,g,a,false)) some) fun c=>
  bif !c.2.2.2 then(
  bd (
  bif decide (((ix a ((↑a.length:Int)-1)).fA)≠(-1)) then(
  gd (e.length+([(ix a ((↑a.length:Int)-1)).fA]:List Int).length≤b.fI.toNat)<|
  some (e++([(ix a ((↑a.length:Int)-1)).fA]:List Int))) else(
  some e)) fun k=>
  gd (in64 ((↑c.2.2.1.length:Int)-1))<|
  gd (okS c.2.2.1 0 ((↑c.2.2.1.length:Int)-1))<|
  z1y N b i c.1 c.2.1 k (cut c.2.2.1 0 ((↑c.2.2.1.length:Int)-1))) else(
  z1y N b i c.1 c.2.1 e c.2.2.1)) else(
  some e)
def z4v(N:Nat)(m:Mach):Option ((List Int)×Int):=
 bd (sj N m) fun e=>
 bif decide (e≠0) then(
 some (([]:(List Int)),e)) else(
 bd (z5i N m true) fun c=>
 bif !c then(
 some (([]:(List Int)),7)) else(
 bd (z3t N m) fun a=>
 bif decide (256<a.fI) then(
 some (([]:(List Int)),3)) else(
 gd (okM 8 a.fI∧0≤(0:Int)∧(0:Int)≤a.fI)<|
 bd (
 z1y N a N a.fI a.fE (mk 0 (0:Int)) ([(⟨(-1),0⟩:Sb)]:List Sb)) fun d=>
 bd (slices_Reverse_int N d) fun b=>
 gd (b.length=a.fI.toNat)<|
 some (b,0))))
def z3f(N:Nat)(m:Mach):Nat→Int→Int→Option Int
 |0,_,_=>none
 |e+1,a,b=>
  bif decide (a<(↑m.rows.length:Int)) then(
  bd (mo N m a) fun c=>
  bd (bi N c.1 c.2 (Int) (fun g d=>
  gd (in64 (d+1))<|
  some (true,d+1)) b) fun f=>
  gd (in64 (a+1))<|
  z3f N m e (a+1) f) else(
  some b)
def zb1(N:Nat)(m:Mach):Option Int:=
 bd (
 z3f N m N 0 0) fun a=>
 some a
def z4b(N:Nat)(m:Mach):Nat→Int→(List ((Int×Int)×Int))→Option (List ((Int×Int)×Int))
 |0,_,_=>none
 |e+1,a,b=>
  bif decide (a<(↑m.rows.length:Int)) then(
  bd (mo N m a) fun c=>
  bd (bi N c.1 c.2 (List ((Int×Int)×Int)) (fun f d=>
  some (true,(zh5 d ((a,f.fA):(Int×Int)) (↑d.length:Int)))) b) fun g=>
  gd (in64 (a+1))<|
  z4b N m e (a+1) g) else(
  some b)
def z4a(N:Nat)(m:Mach)(e:List ((Int×Int)×Int))(a:Int)(d:List (List Int)):Nat→Int→(List (List Int))→Option (List (List Int))
 |0,_,_=>none
 |f+1,b,c=>
  bif decide (b<(↑(ix (up d a (mk m.inputs (0:Int))) a).length:Int)) then(
  gd (okI c a)<|
  gd (okSh .i64 (ze2 (0:Int) e ((a,b):(Int×Int))))<|
  gd (okI (ix c a) b)<|
  gd (in64 (b+1))<|
  z4a N m e a d f (b+1) (up c a (up (ix c a) b (z7f .i64 (1:Int) (ze2 (0:Int) e ((a,b):(Int×Int))))))) else(
  some c)
def z4h(N:Nat)(m:Mach)(c:List ((Int×Int)×Int)):Nat→Int→(List (List Int))→Option (List (List Int))
 |0,_,_=>none
 |d+1,a,b=>
  bif decide (a<(↑(mk (↑m.rows.length:Int) ([]:List Int)).length:Int)) then(
  bd (
  gd (okM 8 m.inputs)<|
  gd (okI b a)<|
  gd (okI (up b a (mk m.inputs (0:Int))) a)<|
  z4a N m c a b N 0 (up b a (mk m.inputs (0:Int)))) fun e=>
  gd (in64 (a+1))<|
  z4h N m c d (a+1) e) else(
  some b)
def z4e(N:Nat)(a:List Sg):Nat→(List Int)→Int→Option (List Int)
 |0,_,_=>none
 |d+1,c,b=>
  bif decide (0<b) then(
  gd (okI a b)<|
  gd (fits 8 c ([(ix a b).fA]:List Int))<|
  gd (okI a b)<|
  z4e N a d (c++([(ix a b).fA]:List Int)) ((ix a b).fG)) else(
  some c)
def z4f(N:Nat)(m:Mach)(round:Bool)(g:Int)(d:List (List Int)):Nat→Int→(List Bool)→(List (Int×Int))→(List Sg)→Option (Ex (Unit) ((List Int)×Int))
 |0,_,_,_,_=>none
 |k+1,a,l,b,h=>
  bif decide (a<(↑b.length:Int)) then(
  gd (okI b a)<|
  gd (okSh .i64 g)<|
  gd (in64 ((z7f .i64 (1:Int) g)-1))<|
  bif (decide (((ix b a).2)=((z7f .i64 (1:Int) g)-1)))&&((!round)||(decide (((ix b a).1)=0))) then(
  bd (
  z4e N h N ([]:List Int) a) fun i=>
  bif decide (256<(↑i.length:Int)) then(
  some (Ex.rt (([]:(List Int)),3))) else(
  bd (slices_Reverse_int N i) fun n=>
  bd (z18 N n) fun o=>
  some (Ex.rt (o,0)))) else(
  bd (mo N m ((ix b a).1)) fun j=>
  bd (bi N j.1 j.2 (List Bool×List (Int×Int)×List Sg) (fun c e=>
  gd (okI d ((ix b a).1))<|
  gd (okI (ix d ((ix b a).1)) c.fA)<|
  gd (okB .i64 ((ix b a).2) (ix (ix d ((ix b a).1)) c.fA))<|
  gd (in64 ((ior ((ix b a).2) (ix (ix d ((ix b a).1)) c.fA))*(↑m.rows.length:Int)))<|
  gd (in64 (((ior ((ix b a).2) (ix (ix d ((ix b a).1)) c.fA))*(↑m.rows.length:Int))+c.fB))<|
  gd (okI e.1 (((ior ((ix b a).2) (ix (ix d ((ix b a).1)) c.fA))*(↑m.rows.length:Int))+c.fB))<|
  bif !(ix e.1 (((ior ((ix b a).2) (ix (ix d ((ix b a).1)) c.fA))*(↑m.rows.length:Int))+c.fB)) then(
  gd (okI e.1 (((ior ((ix b a).2) (ix (ix d ((ix b a).1)) c.fA))*(↑m.rows.length:Int))+c.fB))<|
  gd (fits 16 e.2.1 ([((c.fB,ior ((ix b a).2) (ix (ix d ((ix b a).1)) c.fA)):(Int×Int))]:List (Int×Int)))<|
  gd (fits 16 e.2.2 ([(⟨a,c.fA⟩:Sg)]:List Sg))<|
  some (true,((up e.1 (((ior ((ix b a).2) (ix (ix d ((ix b a).1)) c.fA))*(↑m.rows.length:Int))+c.fB) true),(e.2.1++([((c.fB,ior ((ix b a).2) (ix (ix d ((ix b a).1)) c.fA)):(Int×Int))]:List (Int×Int))),(e.2.2++([(⟨a,c.fA⟩:Sg)]:List Sg))))) else(
  some (true,(e.1,e.2.1,e.2.2)))) (l,b,h)) fun f=>
  gd (in64 (a+1))<|
  z4f N m round g d k (a+1) f.1 f.2.1 f.2.2)) else(
  some (Ex.go ()))
def z4q(N:Nat)(m:Mach)(round:Bool):Option ((List Int)×Int):=
 bd (sj N m) fun f=>
 bif decide (f≠0) then(
 some (([]:(List Int)),f)) else(
 bd (z5i N m round) fun d=>
 bif !d then(
 some (([]:(List Int)),7)) else(
 bd (zb1 N m) fun a=>
 bif decide (16<a) then(
 some (([]:(List Int)),3)) else(
 bd (
 z4b N m N 0 ([]:List ((Int×Int)×Int))) fun e=>
 gd (okM 24 (↑m.rows.length:Int))<|
 bd (
 z4h N m e N 0 (mk (↑m.rows.length:Int) ([]:List Int))) fun b=>
 gd (okSh .i64 a)<|
 gd (okM 1 (z7f .i64 (↑m.rows.length:Int) a))<|
 gd (okI (mk (z7f .i64 (↑m.rows.length:Int) a) false) 0)<|
 bd (
 z4f N m round a b N 0 (up (mk (z7f .i64 (↑m.rows.length:Int) a) false) 0 true) ([((0,0):(Int×Int))]:List (Int×Int)) ([(⟨0,0⟩:Sg)]:List Sg)) fun c=>
 Ex.on c (fun g=>
 some (([]:(List Int)),7)) some)))
def ry(N:Nat)(r_:Sc):Nat→(List Bool)→(List Int)→Option (List Bool)
 |0,_,_=>none
 |g+1,d,a=>
  bif decide (0<(↑a.length:Int)) then(
  gd (in64 ((↑a.length:Int)-1))<|
  gd (okI a ((↑a.length:Int)-1))<|
  gd (in64 ((↑a.length:Int)-1))<|
  gd (okS a 0 ((↑a.length:Int)-1))<|
  bd (z1x N r_ (ix a ((↑a.length:Int)-1))) fun e=>
  bd (z0t N e.1 e.2 (List Bool×List Int) (fun c b=>
  gd (okI b.1 c.fB)<|
  bif !(ix b.1 c.fB) then(
  gd (okI b.1 c.fB)<|
  gd (fits 8 b.2 ([c.fB]:List Int))<|
  some (true,((up b.1 c.fB true),(b.2++([c.fB]:List Int))))) else(
  some (true,(b.1,b.2)))) (d,(cut a 0 ((↑a.length:Int)-1)))) fun f=>
  ry N r_ g f.1 f.2) else(
  some d)
def rz(N:Nat)(r_:Sc)(c:List Bool):Nat→Int→Option (Ex (Unit) (Bool))
 |0,_=>none
 |d+1,a=>
  bif decide (a<(↑r_.fE.length:Int)) then(
  bd (z1x N r_ a) fun b=>
  bd (z0t N b.1 b.2 (Ex (Unit) (Ex (Unit) (Bool))) (fun f s=>Ex.on s (fun g=>
  gd (okI c a)<|
  bif !(ix c a) then(
  some (false,Ex.rt (Ex.rt false))) else(
  some (true,Ex.go ()))) fun _=>none) (Ex.go ())) fun e=>
  Ex.on e (fun h=>
  gd (in64 (a+1))<|
  rz N r_ c d (a+1)) some) else(
  some (Ex.go ()))
def z4m(N:Nat)(r_:Sc)(at_:Int):Option Bool:=
 gd (okM 1 (↑r_.fE.length:Int))<|
 gd (okI (mk (↑r_.fE.length:Int) false) at_)<|
 bd (
 ry N r_ N (up (mk (↑r_.fE.length:Int) false) at_ true) ([at_]:List Int)) fun b=>
 bd (
 rz N r_ b N 0) fun a=>
 Ex.on a (fun c=>
 some true) some
def z1k(N:Nat)(at_:Int)(round:Bool)(b:(List Int)):Nat→Int→Int→Int→Option (Ex (Int×Int) (Bool))
 |0,_,_,_=>none
 |f+1,c,d,a=>
  bif decide (a<(↑b.length:Int)) then(
  bd (
  gd (okI b a)<|
  bif decide ((ix b a)=0) then(
  some (Ex.go (c,d))) else(
  bif (decide ((ix b a)=1))&&(decide (a=at_)) then(
  gd (in64 (c+1))<|
  some (Ex.go (c+1,d))) else(
  bif (decide ((ix b a)=(-1)))&&((!round)||(decide (a=0))) then(
  gd (in64 (d+1))<|
  some (Ex.go (c,d+1))) else(
  some (Ex.rt (Ex.rt false)))))) fun g=>
  Ex.on g (fun e=>
  gd (in64 (a+1))<|
  z1k N at_ round b f e.1 e.2 (a+1)) some) else(
  some (Ex.go (c,d)))
def z5j(N:Nat)(r_:Sc)(at_:Int)(round:Bool):Option Bool:=
 bif decide (r_.fI=0) then(
 some ((!round)||(decide (at_=0)))) else(
 bd (
 bd (z2e N r_) fun c=>
 z1k N at_ round c N 0 0 0) fun d=>
 Ex.on d (fun a=>
 bif (decide (a.1≠a.2))||((round&&(decide (a.1=0)))&&(decide (at_≠0))) then(
 some false) else(
 bd (z4m N r_ at_) fun b=>
 some b)) some)
def z3l(N:Nat)(round:Bool)(a:Sc):Nat→Int→Int→(List (List Int))→(List Int)→Int→Option (List Int)
 |0,_,_,_,_,_=>none
 |p+1,q,d,k,e,f=>
  bd (
  bif (decide (0<d))&&(decide (q≠d)) then(
  bd (z2g N f a.fD.inputs a.fD.outputs a.fD.rows k d) fun l=>
  bd (z1f N l (Ex (Int×List (List Int)) (Ex (Int×List (List Int)×List Int×Int) (List Int))) (Ex.got (fun(o:Int×List (List Int))=>(a.fD.inputs,a.fD.outputs,a.fD.rows,o.2,o.1))) (fun b s=>Ex.on s (fun h=>
  bd (z2n N f b.fA 1 a.fD.inputs a.fD.outputs a.fD.rows h.2 h.1) fun c=>
  bd (z5j N (⟨(⟨a.fD.inputs,a.fD.outputs,a.fD.rows⟩:Mach),c.1,c.2⟩:Sc) b.fB round) fun m=>
  bif m then(
  gd (e.length+([b.fA]:List Int).length≤a.fI.toNat)<|
  some (false,Ex.rt (Ex.go (c.2,c.1,(e++([b.fA]:List Int)),b.fB)))) else(
  bd (z2n N f b.fA (-1) a.fD.inputs a.fD.outputs a.fD.rows c.1 c.2) fun i=>
  some (true,Ex.go (i.2,i.1)))) fun _=>none) (Ex.go (d,k))) fun n=>
  Ex.on n (fun j=>
  some (Ex.go (j.1,j.2,e,f))) some) else(
  some (Ex.rt e))) fun r=>
  Ex.on r (fun g=>
  z3l N round a p d g.1 g.2.1 g.2.2.1 g.2.2.2) some
def z3n(N:Nat)(m:Mach)(round:Bool):Option ((List Int)×Int):=
 bd (sj N m) fun b=>
 bif decide (b≠0) then(
 some (([]:(List Int)),b)) else(
 bd (z2p N m (fun e f=>z9s N e f)) fun a=>
 bd (z5j N (⟨(⟨a.fD.inputs,a.fD.outputs,a.fD.rows⟩:Mach),a.fE,a.fI⟩:Sc) 0 round) fun d=>
 bif !d then(
 some (([]:(List Int)),7)) else(
 bif decide (256<a.fI) then(
 some (([]:(List Int)),3)) else(
 gd (okM 8 a.fI∧0≤(0:Int)∧(0:Int)≤a.fI)<|
 bd (
 z3l N round a N (-1) a.fI a.fE (mk 0 (0:Int)) 0) fun c=>
 gd (c.length=a.fI.toNat)<|
 some (c,0))))
def z3u(N:Nat)(m:Mach):Option (Int×Int):=
 bd (sj N m) fun c=>
 bif decide (c≠0) then(
 some (0,c)) else(
 bd (z5i N m true) fun a=>
 bif !a then(
 some (0,7)) else(
 bd (z3t N m) fun b=>
 some (b.fI,0)))
def ol(N:Nat)(a:(List Int))(b:(List Int)):Nat→Int→Option (Ex (Unit) (Int))
 |0,_=>none
 |d+1,c=>
  bif decide (c<(↑a.length:Int)) then(
  gd (okI a c)<|
  gd (okI b c)<|
  bif decide ((ix a c)<(ix b c)) then(
  some (Ex.rt (-1))) else(
  gd (okI a c)<|
  gd (okI b c)<|
  bif decide ((ix b c)<(ix a c)) then(
  some (Ex.rt 1)) else(
  gd (in64 (c+1))<|
  ol N a b d (c+1)))) else(
  some (Ex.go ()))
def z2v(N:Nat)(a:(List Int))(b:(List Int)):Option Int:=
 bif decide ((↑a.length:Int)<(↑b.length:Int)) then(
 some (-1)) else(
 bif decide ((↑b.length:Int)<(↑a.length:Int)) then(
 some 1) else(
 bd (
 ol N a b N 0) fun c=>
 Ex.on c (fun d=>
 some 0) some))
def l5(N:Nat)(a:(List Int))(b:(List Int)):Option Bool:=
 bd (z2v N a b) fun c=>
 some (decide (c=0))
def si(N:Nat)(m:Mach)(tour:(List Int))(round:(List Int))(exact:(List Int))(exactRound:(List Int))(e:(Int×Int×Int×Int))(length:Int):Option Bool:=
 bd (z4q N m false) fun b=>
 bd (z4q N m true) fun a=>
 bd (z3n N m false) fun c=>
 bd (z3n N m true) fun d=>
 bd (z3u N m) fun h=>
 bd (gop (true&&((decide (((b.2,a.2,c.2,d.2):(Int×Int×Int×Int))=e))==true)) (l5 N b.1 tour)) fun f=>
 bd (gop (true&&(((decide (((b.2,a.2,c.2,d.2):(Int×Int×Int×Int))=e))&&(f.getD default))==true)) (l5 N a.1 round)) fun g=>
 bd (gop (true&&((((decide (((b.2,a.2,c.2,d.2):(Int×Int×Int×Int))=e))&&(f.getD default))&&(g.getD default))==true)) (l5 N c.1 exact)) fun i=>
 bd (gop (true&&(((((decide (((b.2,a.2,c.2,d.2):(Int×Int×Int×Int))=e))&&(f.getD default))&&(g.getD default))&&(i.getD default))==true)) (l5 N d.1 exactRound)) fun j=>
 some (((((((decide (((b.2,a.2,c.2,d.2):(Int×Int×Int×Int))=e))&&(f.getD default))&&(g.getD default))&&(i.getD default))&&(j.getD default))&&(decide (h.1=length)))&&(decide (h.2=a.2)))
def z5v(N:Nat):Option Mach:=
 some (⟨2,1,([([(⟨1,0⟩:Edge),(⟨1,0⟩:Edge)]:List Edge),([(⟨0,0⟩:Edge),(⟨(-1),(-1)⟩:Edge)]:List Edge)]:List (List Edge))⟩:Mach)
def bq(N:Nat):Option Bool:=
 bd (z1m N) fun o=>
 bd (z0i N o) fun b=>
 bd (z0l N) fun m=>
 bd (z0i N m) fun c=>
 bd (z0l N) fun n=>
 bd (z4v N n) fun d=>
 bd (gop (true&&((((decide (b.2=0))&&(decide (c.2=0)))&&(decide (d.2=7)))==true)) (pz N b.1 ([([0,1]:List Int)]:List (List Int)))) fun f=>
 bd (gop (true&&(((((decide (b.2=0))&&(decide (c.2=0)))&&(decide (d.2=7)))&&(f.getD default))==true)) (pz N c.1 ([([0]:List Int),([1]:List Int)]:List (List Int)))) fun a=>
 bd (gop (true&&((((((decide (b.2=0))&&(decide (c.2=0)))&&(decide (d.2=7)))&&(f.getD default))&&(a.getD default))==true)) (z1m N)) fun i=>
 bd (gop (true&&((((((decide (b.2=0))&&(decide (c.2=0)))&&(decide (d.2=7)))&&(f.getD default))&&(a.getD default))==true)) (si N (i.getD default) ([0,1,0,1]:List Int) ([0,1,0,1]:List Int) ([0,1,0,1]:List Int) ([0,1,0,1]:List Int) ((0,0,0,0):(Int×Int×Int×Int)) 4)) fun e=>
 bd (gop (true&&(((((((decide (b.2=0))&&(decide (c.2=0)))&&(decide (d.2=7)))&&(f.getD default))&&(a.getD default))&&(e.getD default))==true)) (z5v N)) fun j=>
 bd (gop (true&&(((((((decide (b.2=0))&&(decide (c.2=0)))&&(decide (d.2=7)))&&(f.getD default))&&(a.getD default))&&(e.getD default))==true)) (si N (j.getD default) ([0,0,1]:List Int) ([0,0,1,0]:List Int) ([0,0,1]:List Int) ([]:(List Int)) ((0,0,0,7):(Int×Int×Int×Int)) 4)) fun g=>
 bd (gop (true&&((((((((decide (b.2=0))&&(decide (c.2=0)))&&(decide (d.2=7)))&&(f.getD default))&&(a.getD default))&&(e.getD default))&&(g.getD default))==true)) (z0l N)) fun k=>
 bd (gop (true&&((((((((decide (b.2=0))&&(decide (c.2=0)))&&(decide (d.2=7)))&&(f.getD default))&&(a.getD default))&&(e.getD default))&&(g.getD default))==true)) (si N (k.getD default) ([0,0]:List Int) ([]:(List Int)) ([0,0]:List Int) ([]:(List Int)) ((0,7,0,7):(Int×Int×Int×Int)) 0)) fun h=>
 bd (gop (true&&(((((((((decide (b.2=0))&&(decide (c.2=0)))&&(decide (d.2=7)))&&(f.getD default))&&(a.getD default))&&(e.getD default))&&(g.getD default))&&(h.getD default))==true)) (si N (⟨1,1,([([(⟨(-1),(-1)⟩:Edge)]:List Edge)]:List (List Edge))⟩:Mach) ([]:(List Int)) ([]:(List Int)) ([]:(List Int)) ([]:(List Int)) ((0,0,0,0):(Int×Int×Int×Int)) 0)) fun l=>
 some (((((((((decide (b.2=0))&&(decide (c.2=0)))&&(decide (d.2=7)))&&(f.getD default))&&(a.getD default))&&(e.getD default))&&(g.getD default))&&(h.getD default))&&(l.getD default))
def uy(N:Nat)(b:(List (List Int))×Int):Nat→Int→Option (Ex (Unit) (Bool))
 |0,_=>none
 |c+1,a=>
  bif decide (a<(↑b.1.length:Int)) then(
  gd (okI b.1 a)<|
  gd (okI b.1 a)<|
  bif decide ((↑(ix b.1 a).length:Int)≠(↑(ix b.1 a).length:Int)) then(
  some (Ex.rt false)) else(
  gd (in64 (a+1))<|
  uy N b c (a+1))) else(
  some (Ex.go ()))
def oh(N:Nat)(x:MDat):Option Bool:=
 bd (z0s N x) fun g=>
 bd (ni N g) fun b=>
 bd (z0i N (⟨b.inputs,b.outputs,b.rows⟩:Mach)) fun a=>
 bd (gop (true&&((decide (a.2≠0))==false)) (z0c N (⟨b.inputs,b.outputs,b.rows⟩:Mach))) fun d=>
 bd (gop (true&&((decide (a.2≠0))==false)) (pz N a.1 (d.getD default))) fun e=>
 bif ((decide (a.2≠0))||(!(e.getD default)))||(decide ((↑a.1.length:Int)≠(↑a.1.length:Int))) then(
 some false) else(
 bd (
 uy N a N 0) fun f=>
 Ex.on f (fun h=>
 bd (bq N) fun c=>
 some c) some)
def xm(N:Nat)(x:Sd)(b:Int):Nat→(List Edge)→Int→Option (List Edge)
 |0,_,_=>none
 |e+1,d,a=>
  bif decide (a<((1:Int)+(x.fK%2))) then(
  bd (
  gd (in64 (b*((1:Int)+(x.fK%2))))<|
  gd (in64 ((b*((1:Int)+(x.fK%2)))+a))<|
  gd ((true&&((decide (((b*((1:Int)+(x.fK%2)))+a)<(↑x.fU.length:Int)))==true))=true→okI x.fU ((b*((1:Int)+(x.fK%2)))+a))<|
  gd ((true&&((decide (((b*((1:Int)+(x.fK%2)))+a)<(↑x.fU.length:Int)))==true))=true→okR (ix x.fU ((b*((1:Int)+(x.fK%2)))+a)) 8)<|
  bif (decide (((b*((1:Int)+(x.fK%2)))+a)<(↑x.fU.length:Int)))&&(decide (((ix x.fU ((b*((1:Int)+(x.fK%2)))+a))%8)<6)) then(
  gd (okI x.fU ((b*((1:Int)+(x.fK%2)))+a))<|
  gd (8≠(0:Int))<|
  gd (in64 (IntKind.u8.wrap (Int.tdiv (ix x.fU ((b*((1:Int)+(x.fK%2)))+a)) 8)))<|
  gd (okR (IntKind.u8.wrap (Int.tdiv (ix x.fU ((b*((1:Int)+(x.fK%2)))+a)) 8)) ((1:Int)+(x.fAc%5)))<|
  gd (okI x.fU ((b*((1:Int)+(x.fK%2)))+a))<|
  gd (in64 (ix x.fU ((b*((1:Int)+(x.fK%2)))+a)))<|
  gd (okR (ix x.fU ((b*((1:Int)+(x.fK%2)))+a)) 2)<|
  some ((IntKind.u8.wrap (Int.tdiv (ix x.fU ((b*((1:Int)+(x.fK%2)))+a)) 8))%((1:Int)+(x.fAc%5)),(ix x.fU ((b*((1:Int)+(x.fK%2)))+a))%2)) else(
  some ((-1),(-1)))) fun c=>
  gd (fits 16 d ([(⟨c.1,c.2⟩:Edge)]:List Edge))<|
  gd (in64 (a+1))<|
  xm N x b e (d++([(⟨c.1,c.2⟩:Edge)]:List Edge)) (a+1)) else(
  some d)
def xw(N:Nat)(x:Sd):Nat→Int→(List (List Edge))→Option (List (List Edge))
 |0,_,_=>none
 |d+1,a,b=>
  bif decide (a<((1:Int)+(x.fAc%5))) then(
  bd (
  xm N x a N ([]:List Edge) 0) fun c=>
  gd (fits 24 b ([c]:List (List Edge)))<|
  gd (in64 (a+1))<|
  xw N x d (a+1) (b++([c]:List (List Edge)))) else(
  some b)
def z0z(N:Nat)(x:Sd):Option Mach:=
 gd (in64 x.fAc)<|
 gd (okR x.fAc 5)<|
 gd (in64 ((1:Int)+(x.fAc%5)))<|
 gd (in64 x.fK)<|
 gd (okR x.fK 2)<|
 gd (in64 ((1:Int)+(x.fK%2)))<|
 bd (
 xw N x N 0 ([]:List (List Edge))) fun b=>
 bd (ni N (⟨(1:Int)+(x.fK%2),2,b⟩:Mach)) fun a=>
 some (⟨a.inputs,a.outputs,a.rows⟩:Mach)
def yx(N:Nat)(m:Mach)(b:Int):Nat→Int→(List (Int×Int))→Option (List (Int×Int))
 |0,_,_=>none
 |d+1,a,c=>
  bif decide (a<m.inputs) then(
  bd (
  gd (okI m.rows b)<|
  gd (okI (ix m.rows b) a)<|
  bif decide (((ix (ix m.rows b) a).to)≠(-1)) then(
  gd (fits 16 c ([((b,a):(Int×Int))]:List (Int×Int)))<|
  some (c++([((b,a):(Int×Int))]:List (Int×Int)))) else(
  some c)) fun e=>
  gd (in64 (a+1))<|
  yx N m b d (a+1) e) else(
  some c)
def gp(N:Nat)(m:Mach):Nat→(List (Int×Int))→Int→Option (List (Int×Int))
 |0,_,_=>none
 |c+1,b,a=>
  bif decide (a<(↑m.rows.length:Int)) then(
  bd (
  yx N m a N 0 b) fun d=>
  gd (in64 (a+1))<|
  gp N m c d (a+1)) else(
  some b)
def z07(N:Nat)(m:Mach):Option (List (Int×Int)):=
 bd (
 gp N m N ([]:List (Int×Int)) 0) fun a=>
 some a
def yt(N:Nat)(m:Mach):Nat→(List (List Int))→Int→Option (List (List Int))
 |0,_,_=>none
 |c+1,a,b=>
  bif decide (b<(↑m.rows.length:Int)) then(
  gd (okM 8 m.inputs)<|
  gd (fits 24 a [(mk m.inputs (0:Int))])<|
  gd (in64 (b+1))<|
  yt N m c (a++[(mk m.inputs (0:Int))]) (b+1)) else(
  some a)
def bf(N:Nat)(m:Mach)(w_:(List Int)):Nat→Int→Int→(List (List Int))→Option (Ex (Int×List (List Int)) ((List (List Int))×Int×Bool))
 |0,_,_,_=>none
 |d+1,b,a,c=>
  bif decide (a<(↑w_.length:Int)) then(
  gd (okI m.rows b)<|
  gd (okI w_ a)<|
  gd (okI (ix m.rows b) (ix w_ a))<|
  bif decide (((ix (ix m.rows b) (ix w_ a)).to)=(-1)) then(
  some (Ex.rt (([]:(List (List Int))),0,false))) else(
  gd (okI c b)<|
  gd (okI w_ a)<|
  gd (okI (ix c b) (ix w_ a))<|
  gd (in64 ((ix (ix c b) (ix w_ a))+1))<|
  gd (okI (ix c b) (ix w_ a))<|
  gd (in64 (a+1))<|
  bf N m w_ d ((ix (ix m.rows b) (ix w_ a)).to) (a+1) (up c b (up (ix c b) (ix w_ a) ((ix (ix c b) (ix w_ a))+1))))) else(
  some (Ex.go (b,c)))
def iw(N:Nat)(m:Mach)(w_:(List Int)):Option ((List (List Int))×Int×Bool):=
 bd (
 yt N m N ([]:List (List Int)) 0) fun c=>
 bd (
 bf N m w_ N 0 0 c) fun b=>
 Ex.on b (fun a=>
 some (a.2,a.1,true)) some
def yj(N:Nat)(m:Mach)(w_:(List Int)):Nat→Int→Option (Ex (Unit) (Bool))
 |0,_=>none
 |b+1,a=>
  bif decide (a<(↑w_.length:Int)) then(
  gd (okI w_ a)<|
  gd ((true&&((decide ((ix w_ a)<0))==false))=true→okI w_ a)<|
  bif (decide ((ix w_ a)<0))||(decide (m.inputs≤(ix w_ a))) then(
  some (Ex.rt false)) else(
  gd (in64 (a+1))<|
  yj N m w_ b (a+1))) else(
  some (Ex.go ()))
def yg(N:Nat)(c:(List (List Int))×Int×Bool)(b:(List (Int×Int))):Nat→Int→Option (Ex (Unit) (Bool))
 |0,_=>none
 |d+1,a=>
  bif decide (a<(↑b.length:Int)) then(
  gd (okI b a)<|
  gd (okI c.1 ((ix b a).1))<|
  gd (okI b a)<|
  gd (okI (ix c.1 ((ix b a).1)) ((ix b a).2))<|
  bif decide ((ix (ix c.1 ((ix b a).1)) ((ix b a).2))=0) then(
  some (Ex.rt false)) else(
  gd (in64 (a+1))<|
  yg N c b d (a+1))) else(
  some (Ex.go ()))
def z02(N:Nat)(m:Mach)(w_:(List Int))(round:Bool):Option Bool:=
 bif decide (256<(↑w_.length:Int)) then(
 some false) else(
 bd (
 yj N m w_ N 0) fun d=>
 Ex.on d (fun f=>
 bd (iw N m w_) fun a=>
 bif (!a.2.2)||(round&&(decide (a.2.1≠0))) then(
 some false) else(
 bd (z07 N m) fun b=>
 bd (
 yg N a b N 0) fun c=>
 Ex.on c (fun e=>
 some true) some)) some)
def yf(N:Nat)(s:(List Int))(f:Int→Option Bool):Nat→Int→Option (Ex (Unit) (Int))
 |0,_=>none
 |c+1,a=>
  bif decide (a<(↑s.length:Int)) then(
  gd (okI s a)<|
  bd (f (ix s a)) fun b=>
  bif b then(
  some (Ex.rt a)) else(
  gd (in64 (a+1))<|
  yf N s f c (a+1))) else(
  some (Ex.go ()))
def lm(N:Nat)(s:(List Int))(f:Int→Option Bool):Option Int:=
 bd (
 yf N s f N 0) fun a=>
 Ex.on a (fun b=>
 some (-1)) some
def aa(N:Nat)(s:(List Int))(f:Int→Option Bool):Option Bool:=
 bd (lm N s f) fun a=>
 some (decide (0≤a))
def z94(N:Nat)(c:Int)(p0_:Int):Option Bool:=
 some ((decide (c<0))||(decide (p0_≤c)))
def z4u(N:Nat)(w_:(List Int))(inputs:Int):Option Int:=
 bif (decide (16<inputs))||(decide (256<(↑w_.length:Int))) then(
 some 3) else(
 bd (gop (true&&((decide (inputs<1))==false)) (aa N w_ (fun b=>z94 N b inputs))) fun a=>
 bif (decide (inputs<1))||(a.getD default) then(
 some 1) else(
 some 0))
def il(N:Nat)(m:Mach):Nat→Int→(List (List Int))→Option (List (List Int))
 |0,_,_=>none
 |c+1,a,b=>
  bif decide (a<(↑(mk (↑m.rows.length:Int) ([]:List Int)).length:Int)) then(
  gd (okM 8 m.inputs)<|
  gd (okI b a)<|
  gd (in64 (a+1))<|
  il N m c (a+1) (up b a (mk m.inputs (0:Int)))) else(
  some b)
def lw(N:Nat)(m:Mach)(w_:(List Int)):Nat→Int→Int→(List (List Int))→Option (Ex (Int×List (List Int)) ((List (List Int))×Int×Bool))
 |0,_,_,_=>none
 |d+1,a,b,c=>
  bif decide (b<(↑w_.length:Int)) then(
  gd (okI w_ b)<|
  gd (okI m.rows a)<|
  gd (okI (ix m.rows a) (ix w_ b))<|
  bif decide (((ix (ix m.rows a) (ix w_ b)).to)=(-1)) then(
  some (Ex.rt (([]:(List (List Int))),0,false))) else(
  gd (okI c a)<|
  gd (okI (ix c a) (ix w_ b))<|
  gd (in64 ((ix (ix c a) (ix w_ b))+1))<|
  gd (okI (ix c a) (ix w_ b))<|
  gd (in64 (b+1))<|
  lw N m w_ d ((ix (ix m.rows a) (ix w_ b)).to) (b+1) (up c a (up (ix c a) (ix w_ b) ((ix (ix c a) (ix w_ b))+1))))) else(
  some (Ex.go (a,c)))
def z5c(N:Nat)(m:Mach)(w_:(List Int)):Option ((List (List Int))×Int×Bool):=
 gd (okM 24 (↑m.rows.length:Int))<|
 bd (
 il N m N 0 (mk (↑m.rows.length:Int) ([]:List Int))) fun b=>
 bd (
 lw N m w_ N 0 0 b) fun c=>
 Ex.on c (fun a=>
 some (a.2,a.1,true)) some
def z1z(N:Nat)(m:Mach)(w_:(List Int)):Option ((List (List Int))×Int×Int):=
 bd (sj N m) fun c=>
 bif decide (c≠0) then(
 some (([]:(List (List Int))),0,c)) else(
 bd (z4u N w_ m.inputs) fun b=>
 bif decide (b≠0) then(
 some (([]:(List (List Int))),0,b)) else(
 bd (z5c N m w_) fun a=>
 bif !a.2.2 then(
 some (([]:(List (List Int))),0,7)) else(
 some (a.1,a.2.1,0))))
def oo(N:Nat)(m:Mach)(b:(List (List Int))×Int×Bool):Nat→Int→Option (Ex (Unit) (Bool×Int))
 |0,_=>none
 |e+1,a=>
  bif decide (a<(↑m.rows.length:Int)) then(
  bd (mo N m a) fun c=>
  bd (bi N c.1 c.2 (Ex (Unit) (Ex (Unit) (Bool×Int))) (fun d s=>Ex.on s (fun g=>
  gd (okI b.1 a)<|
  gd (okI (ix b.1 a) d.fA)<|
  bif decide ((ix (ix b.1 a) d.fA)=0) then(
  some (false,Ex.rt (Ex.rt (false,0)))) else(
  some (true,Ex.go ()))) fun _=>none) (Ex.go ())) fun f=>
  Ex.on f (fun h=>
  gd (in64 (a+1))<|
  oo N m b e (a+1)) some) else(
  some (Ex.go ()))
def z1h(N:Nat)(m:Mach)(w_:(List Int))(round:Bool):Option (Bool×Int):=
 bd (sj N m) fun b=>
 bif decide (b≠0) then(
 some (false,b)) else(
 bd (z4u N w_ m.inputs) fun c=>
 bif decide (c≠0) then(
 some (false,0)) else(
 bd (z5c N m w_) fun a=>
 bif (!a.2.2)||(round&&(decide (a.2.1≠0))) then(
 some (false,0)) else(
 bd (
 oo N m a N 0) fun d=>
 Ex.on d (fun e=>
 some (true,0)) some)))
def ky(N:Nat)(w_:(List Int))(e:Mach):Nat→Int→Int→Option Int
 |0,_,_=>none
 |c+1,b,a=>
  bif (decide (a<(↑w_.length:Int)))&&(decide ((↑w_.length:Int)≤256)) then(
  bd (
  gd (okI w_ a)<|
  gd ((true&&((decide ((ix w_ a)<0))==false))=true→okI w_ a)<|
  bif (decide ((ix w_ a)<0))||(decide (e.inputs≤(ix w_ a))) then(
  some 1) else(
  some b)) fun d=>
  gd (in64 (a+1))<|
  ky N w_ e c d (a+1)) else(
  some b)
def og(N:Nat)(x:Sd)(w_:(List Int))(round:Bool):Option Bool:=
 bif decide (300<(↑w_.length:Int)) then(
 some true) else(
 bd (z0z N x) fun c=>
 bd (z1z N (⟨c.inputs,c.outputs,c.rows⟩:Mach) w_) fun a=>
 bd (z1h N (⟨c.inputs,c.outputs,c.rows⟩:Mach) w_ round) fun e=>
 bd (gop (true&&((decide (e.2≠0))==false)) (z02 N (⟨c.inputs,c.outputs,c.rows⟩:Mach) w_ round)) fun j=>
 bif (decide (e.2≠0))||(decide (e.1≠(j.getD default))) then(
 some false) else(
 bd (
 bif decide (256<(↑w_.length:Int)) then(
 some 3) else(
 some 0)) fun k=>
 bd (
 ky N w_ c N k 0) fun f=>
 bif decide (f≠0) then(
 bd (gop (true&&((((decide (a.2.2=f))&&(decide ((↑a.1.length:Int)=0)))&&(decide (a.2.1=0)))==true)) (bq N)) fun g=>
 some ((((decide (a.2.2=f))&&(decide ((↑a.1.length:Int)=0)))&&(decide (a.2.1=0)))&&(g.getD default))) else(
 bd (iw N (⟨c.inputs,c.outputs,c.rows⟩:Mach) w_) fun b=>
 bif !b.2.2 then(
 bd (gop (true&&((((decide (a.2.2=7))&&(decide ((↑a.1.length:Int)=0)))&&(decide (a.2.1=0)))==true)) (bq N)) fun h=>
 some ((((decide (a.2.2=7))&&(decide ((↑a.1.length:Int)=0)))&&(decide (a.2.1=0)))&&(h.getD default))) else(
 bd (gop (true&&(((decide (a.2.2=0))&&(decide (a.2.1=b.2.1)))==true)) (pz N a.1 b.1)) fun d=>
 bd (gop (true&&(((((decide (a.2.2=0))&&(decide (a.2.1=b.2.1)))&&(d.getD default))&&(decide ((↑a.1.length:Int)=(↑a.1.length:Int))))==true)) (bq N)) fun i=>
 some (((((decide (a.2.2=0))&&(decide (a.2.1=b.2.1)))&&(d.getD default))&&(decide ((↑a.1.length:Int)=(↑a.1.length:Int))))&&(i.getD default))))))
def vv(N:Nat)(m:Mach)(b:Int):Nat→Int→Option (Ex (Unit) (Ex (Unit) (Int)))
 |0,_=>none
 |c+1,a=>
  bif decide (a<m.inputs) then(
  bd (
  gd (okI m.rows b)<|
  gd (okI (ix m.rows b) a)<|
  bif (decide (((ix (ix m.rows b) a).to)=(-1)))&&(decide (((ix (ix m.rows b) a).out)=(-1))) then(
  some (Ex.go ())) else(
  bif (((decide (((ix (ix m.rows b) a).to)<0))||(decide ((↑m.rows.length:Int)≤((ix (ix m.rows b) a).to))))||(decide (((ix (ix m.rows b) a).out)<0)))||(decide (m.outputs≤((ix (ix m.rows b) a).out))) then(
  some (Ex.rt (Ex.rt (Ex.rt 1)))) else(
  some (Ex.go ())))) fun d=>
  Ex.on d (fun e=>
  gd (in64 (a+1))<|
  vv N m b c (a+1)) some) else(
  some (Ex.go ()))
def wh(N:Nat)(m:Mach):Nat→Int→Option (Ex (Unit) (Int))
 |0,_=>none
 |b+1,a=>
  bif decide (a<(↑m.rows.length:Int)) then(
  bd (
  gd (okI m.rows a)<|
  bif decide ((↑(ix m.rows a).length:Int)≠m.inputs) then(
  some (Ex.rt (Ex.rt 1))) else(
  vv N m a N 0)) fun c=>
  Ex.on c (fun d=>
  gd (in64 (a+1))<|
  wh N m b (a+1)) some) else(
  some (Ex.go ()))
def z09(N:Nat)(m:Mach):Option Int:=
 bif ((decide (16<m.inputs))||(decide (16<m.outputs)))||(decide (64<(↑m.rows.length:Int))) then(
 some 3) else(
 bif ((decide (m.inputs<1))||(decide (m.outputs<1)))||(decide ((↑m.rows.length:Int)=0)) then(
 some 1) else(
 bd (
 wh N m N 0) fun a=>
 Ex.on a (fun b=>
 some 0) some))
def yu(N:Nat)(m:Mach):Nat→Int→Option (Ex (Unit) (Int))
 |0,_=>none
 |b+1,a=>
  bif decide (a<(↑m.rows.length:Int)) then(
  bd (di N m 0 a (↑m.rows.length:Int)) fun c=>
  bif !c then(
  some (Ex.rt 11)) else(
  gd (in64 (a+1))<|
  yu N m b (a+1))) else(
  some (Ex.go ()))
def z0e(N:Nat)(m:Mach):Option Int:=
 bd (z09 N m) fun b=>
 bif decide (b≠0) then(
 some b) else(
 bd (
 yu N m N 0) fun a=>
 Ex.on a (fun c=>
 some 0) some)
def um(N:Nat)(m:Mach):Nat→Int→Option (Ex (Unit) (Bool))
 |0,_=>none
 |b+1,a=>
  bif decide (a<(↑m.rows.length:Int)) then(
  gd (okI m.rows a)<|
  bif decide (20<(↑(ix m.rows a).length:Int)) then(
  some (Ex.rt true)) else(
  gd (in64 (a+1))<|
  um N m b (a+1))) else(
  some (Ex.go ()))
def mf(N:Nat)(m:Mach):Option Bool:=
 bif decide (10<(↑m.rows.length:Int)) then(
 some true) else(
 bd (
 um N m N 0) fun j=>
 Ex.on j (fun l=>
 bd (z0e N m) fun a=>
 bd (z0i N m) fun d=>
 bif decide (a=0) then(
 bd (gop (true&&((decide (d.2=0))==true)) (bq N)) fun k=>
 some ((decide (d.2=0))&&(k.getD default))) else(
 bd (z1z N m ([]:(List Int))) fun b=>
 bd (z1h N m ([]:(List Int)) false) fun f=>
 bd (z4q N m false) fun g=>
 bd (z3n N m true) fun h=>
 bd (z3u N m) fun c=>
 bd (z4v N m) fun e=>
 gd ((true&&(((((((((decide (d.2=a))&&(decide (b.2.2=a)))&&(decide (f.2=a)))&&(decide (g.2=a)))&&(decide (h.2=a)))&&(decide (c.2=a)))&&(decide (e.2=a)))&&(!f.1))==true))=true→in64 ((↑d.1.length:Int)+(↑b.1.length:Int)))<|
 gd ((true&&(((((((((decide (d.2=a))&&(decide (b.2.2=a)))&&(decide (f.2=a)))&&(decide (g.2=a)))&&(decide (h.2=a)))&&(decide (c.2=a)))&&(decide (e.2=a)))&&(!f.1))==true))=true→in64 (((↑d.1.length:Int)+(↑b.1.length:Int))+b.2.1))<|
 gd ((true&&(((((((((decide (d.2=a))&&(decide (b.2.2=a)))&&(decide (f.2=a)))&&(decide (g.2=a)))&&(decide (h.2=a)))&&(decide (c.2=a)))&&(decide (e.2=a)))&&(!f.1))==true))=true→in64 ((((↑d.1.length:Int)+(↑b.1.length:Int))+b.2.1)+(↑g.1.length:Int)))<|
 gd ((true&&(((((((((decide (d.2=a))&&(decide (b.2.2=a)))&&(decide (f.2=a)))&&(decide (g.2=a)))&&(decide (h.2=a)))&&(decide (c.2=a)))&&(decide (e.2=a)))&&(!f.1))==true))=true→in64 (((((↑d.1.length:Int)+(↑b.1.length:Int))+b.2.1)+(↑g.1.length:Int))+(↑h.1.length:Int)))<|
 gd ((true&&(((((((((decide (d.2=a))&&(decide (b.2.2=a)))&&(decide (f.2=a)))&&(decide (g.2=a)))&&(decide (h.2=a)))&&(decide (c.2=a)))&&(decide (e.2=a)))&&(!f.1))==true))=true→in64 ((((((↑d.1.length:Int)+(↑b.1.length:Int))+b.2.1)+(↑g.1.length:Int))+(↑h.1.length:Int))+c.1))<|
 gd ((true&&(((((((((decide (d.2=a))&&(decide (b.2.2=a)))&&(decide (f.2=a)))&&(decide (g.2=a)))&&(decide (h.2=a)))&&(decide (c.2=a)))&&(decide (e.2=a)))&&(!f.1))==true))=true→in64 (((((((↑d.1.length:Int)+(↑b.1.length:Int))+b.2.1)+(↑g.1.length:Int))+(↑h.1.length:Int))+c.1)+(↑e.1.length:Int)))<|
 bd (gop (true&&((((((((((decide (d.2=a))&&(decide (b.2.2=a)))&&(decide (f.2=a)))&&(decide (g.2=a)))&&(decide (h.2=a)))&&(decide (c.2=a)))&&(decide (e.2=a)))&&(!f.1))&&(decide ((((((((↑d.1.length:Int)+(↑b.1.length:Int))+b.2.1)+(↑g.1.length:Int))+(↑h.1.length:Int))+c.1)+(↑e.1.length:Int))=0)))==true)) (bq N)) fun i=>
 some ((((((((((decide (d.2=a))&&(decide (b.2.2=a)))&&(decide (f.2=a)))&&(decide (g.2=a)))&&(decide (h.2=a)))&&(decide (c.2=a)))&&(decide (e.2=a)))&&(!f.1))&&(decide ((((((((↑d.1.length:Int)+(↑b.1.length:Int))+b.2.1)+(↑g.1.length:Int))+(↑h.1.length:Int))+c.1)+(↑e.1.length:Int))=0)))&&(i.getD default)))) some)
end GV
end Go.Proofs.Ytdhccodneoebpaa
