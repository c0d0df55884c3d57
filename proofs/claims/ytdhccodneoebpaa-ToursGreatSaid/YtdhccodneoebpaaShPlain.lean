import Derived.Test.YtdhccodneoebpaaShTypes
set_option linter.unusedVariables false
set_option linter.unusedSimpArgs false
set_option linter.unusedSectionVars false
namespace Go.Proofs.Ytdhccodneoebpaa
namespace GV
set_option maxRecDepth 100000
def xk(N:Nat)(x:MDat)(c:Int):Nat→(List Edge)→Int→Option (List Edge)
 |0,_,_=>none
 |e+1,d,b=>
  bif decide (b<((1:Int)+(x.ins%3))) then(
  bd (
  bd (
  gd (in64 (c*((1:Int)+(x.ins%3))))<|
  gd (in64 ((c*((1:Int)+(x.ins%3)))+b))<|
  bif decide (((c*((1:Int)+(x.ins%3)))+b)<(↑x.edges.length:Int)) then(
  gd (okI x.edges ((c*((1:Int)+(x.ins%3)))+b))<|
  gd (in64 (ix x.edges ((c*((1:Int)+(x.ins%3)))+b)))<|
  some (ix x.edges ((c*((1:Int)+(x.ins%3)))+b))) else(
  some 0)) fun a=>
  gd ((true&&(x.part==true))=true→okR a 4)<|
  bif x.part&&(decide ((a%4)=3)) then(
  gd (fits 16 d ([(⟨(-1),(-1)⟩:Edge)]:List Edge))<|
  some (d++([(⟨(-1),(-1)⟩:Edge)]:List Edge))) else(
  gd (okQ a 4)<|
  gd (okR (a/4) ((1:Int)+(x.states%6)))<|
  gd (okQ a 4)<|
  gd (okQ (a/4) ((1:Int)+(x.states%6)))<|
  gd (okR ((a/4)/((1:Int)+(x.states%6))) ((1:Int)+(x.outs%3)))<|
  gd (fits 16 d ([(⟨(a/4)%((1:Int)+(x.states%6)),((a/4)/((1:Int)+(x.states%6)))%((1:Int)+(x.outs%3))⟩:Edge)]:List Edge))<|
  some (d++([(⟨(a/4)%((1:Int)+(x.states%6)),((a/4)/((1:Int)+(x.states%6)))%((1:Int)+(x.outs%3))⟩:Edge)]:List Edge)))) fun f=>
  gd (in64 (b+1))<|
  xk N x c e f (b+1)) else(
  some d)
def pz(N:Nat)(x:MDat):Nat→Int→(List (List Edge))→Option (List (List Edge))
 |0,_,_=>none
 |d+1,a,b=>
  bif decide (a<((1:Int)+(x.states%6))) then(
  bd (
  xk N x a N ([]:List Edge) 0) fun c=>
  gd (fits 24 b ([c]:List (List Edge)))<|
  gd (in64 (a+1))<|
  pz N x d (a+1) (b++([c]:List (List Edge)))) else(
  some b)
def z1c(N:Nat)(x:MDat):Option Mach:=
 gd (okR x.states 6)<|
 gd (in64 (x.states%6))<|
 gd (in64 ((1:Int)+(x.states%6)))<|
 gd (okR x.ins 3)<|
 gd (in64 (x.ins%3))<|
 gd (in64 ((1:Int)+(x.ins%3)))<|
 gd (okR x.outs 3)<|
 gd (in64 (x.outs%3))<|
 gd (in64 ((1:Int)+(x.outs%3)))<|
 bd (
 pz N x N 0 ([]:List (List Edge))) fun a=>
 some (⟨(1:Int)+(x.ins%3),(1:Int)+(x.outs%3),a⟩:Mach)
def z18(N:Nat)(m:Mach)(s:Int)(i:Int):Option Edge:=
 bif decide (s<0) then(
 some (⟨(-1),(-1)⟩:Edge)) else(
 gd (okI m.rows s)<|
 gd (okI (ix m.rows s) i)<|
 some (⟨(ix (ix m.rows s) i).to,(ix (ix m.rows s) i).out⟩:Edge))
def nz(N:Nat):Nat→Mach→Int→(List Int)→Option Int
 |0,_,_,_=>none
 |F+1,m,s,w_=>
  bif decide ((↑w_.length:Int)=0) then(
  some s) else(
  gd (okI w_ 0)<|
  bd (z18 N m s (ix w_ 0)) fun b=>
  gd (okS w_ 1 (↑w_.length:Int))<|
  bd ((nz N F) m b.to (cut w_ 1 (↑w_.length:Int))) fun a=>
  some a)
def yc(N:Nat)(inputs:Int):Nat→Int→(List Int)→Option (Ex (List Int) ((List Int)))
 |0,_,_=>none
 |c+1,a,b=>
  bif decide (0≤a) then(
  gd (okI b a)<|
  gd (in64 ((ix b a)+1))<|
  bif decide (((ix b a)+1)<inputs) then(
  gd (okI b a)<|
  gd (in64 ((ix b a)+1))<|
  gd (okI b a)<|
  some (Ex.rt (up b a ((ix b a)+1)))) else(
  gd (okI b a)<|
  gd (in64 (a-1))<|
  yc N inputs c (a-1) (up b a 0))) else(
  some (Ex.go b))
def lv(N:Nat)(w_:(List Int))(inputs:Int):Option (List Int):=
 gd (fits 8 ([]:List Int) w_)<|
 bd (
 gd (in64 ((↑(([]:List Int)++w_).length:Int)-1))<|
 yc N inputs N ((↑(([]:List Int)++w_).length:Int)-1) (([]:List Int)++w_)) fun b=>
 Ex.on b (fun a=>
 gd (fits 8 a ([0]:List Int))<|
 some (a++([0]:List Int))) some
def uy(N:Nat)(m:Mach)(from_:Int):Nat→(List Int)→(List (List Int))→(List Bool)→Option (List (List Int)×List Bool)
 |0,_,_,_=>none
 |g+1,c,d,b=>
  bif decide ((↑c.length:Int)<(↑m.rows.length:Int)) then(
  bd (
  bd (nz N N m from_ c) fun a=>
  gd ((true&&((decide (0≤a))==true))=true→okI b a)<|
  bif (decide (0≤a))&&(!(ix b a)) then(
  gd (okI b a)<|
  gd (okI d a)<|
  some ((up d a c),(up b a true))) else(
  some (d,b))) fun e=>
  bd (lv N c m.inputs) fun f=>
  uy N m from_ g f e.1 e.2) else(
  some (d,b))
def fw(N:Nat)(m:Mach)(from_:Int):Option ((List (List Int))×(List Bool)):=
 gd (okM 24 (↑m.rows.length:Int))<|
 gd (okM 1 (↑m.rows.length:Int))<|
 bd (
 uy N m from_ N ([]:List Int) (mk (↑m.rows.length:Int) ([]:List Int)) (mk (↑m.rows.length:Int) false)) fun a=>
 some (a.1,a.2)
def z0i(N:Nat)(m:Mach):Option ((List (List Int))×(List Bool)):=
 bd (fw N m 0) fun a=>
 some (a.1,a.2)
def xu(N:Nat)(a:(List Int))(b:(List Int)):Nat→Int→Option (Ex (Unit) (Int))
 |0,_=>none
 |d+1,c=>
  bif decide (c<(↑a.length:Int)) then(
  gd (okI a c)<|
  gd (okI b c)<|
  bif decide ((ix a c)≠(ix b c)) then(
  gd (okI a c)<|
  gd (okI b c)<|
  bif decide ((ix a c)<(ix b c)) then(
  some (Ex.rt 1)) else(
  some (Ex.rt 0))) else(
  gd (in64 (c+1))<|
  xu N a b d (c+1))) else(
  some (Ex.go ()))
def il(N:Nat)(a:(List Int))(b:(List Int)):Option Int:=
 bif decide ((↑a.length:Int)≠(↑b.length:Int)) then(
 bif decide ((↑a.length:Int)<(↑b.length:Int)) then(
 some 1) else(
 some 0)) else(
 bd (
 xu N a b N 0) fun c=>
 Ex.on c (fun d=>
 some 0) some)
def yt(N:Nat)(d:(List (List Int))×(List Bool))(b:List Int)(c:Int):Nat→Int→Option Int
 |0,_=>none
 |e+1,a=>
  gd ((true&&((decide (a<(↑b.length:Int)))==true))=true→okI b a)<|
  gd ((true&&((decide (a<(↑b.length:Int)))==true))=true→okI d.1 (ix b a))<|
  gd ((true&&((decide (a<(↑b.length:Int)))==true))=true→okI d.1 c)<|
  bd (gop (true&&((decide (a<(↑b.length:Int)))==true)) (il N (ix d.1 (ix b a)) (ix d.1 c))) fun f=>
  bif (decide (a<(↑b.length:Int)))&&(decide ((f.getD default)=1)) then(
  gd (in64 (a+1))<|
  yt N d b c e (a+1)) else(
  some a)
def yo(N:Nat)(d:(List (List Int))×(List Bool)):Nat→(List Int)→Int→Option (List Int)
 |0,_,_=>none
 |e+1,a,b=>
  bif decide (b<(↑d.1.length:Int)) then(
  bd (
  gd (okI d.2 b)<|
  bif !(ix d.2 b) then(
  some a) else(
  bd (
  yt N d a b N 0) fun c=>
  gd (okS a 0 c)<|
  gd (fits 8 ([]:List Int) (cut a 0 c))<|
  gd (fits 8 (([]:List Int)++(cut a 0 c)) ([b]:List Int))<|
  gd (okS a c (↑a.length:Int))<|
  gd (fits 8 ((([]:List Int)++(cut a 0 c))++([b]:List Int)) (cut a c (↑a.length:Int)))<|
  some (((([]:List Int)++(cut a 0 c))++([b]:List Int))++(cut a c (↑a.length:Int))))) fun f=>
  gd (in64 (b+1))<|
  yo N d e f (b+1)) else(
  some a)
def z0z(N:Nat)(m:Mach):Option (List Int):=
 bd (z0i N m) fun b=>
 bd (
 yo N b N ([]:List Int) 0) fun a=>
 some a
def xm(N:Nat)(m:Mach)(l_:(List Int))(b:Int)(c:Int):Nat→Int→Int→Option Int
 |0,_,_=>none
 |e+1,d,a=>
  bif decide (a<(↑l_.length:Int)) then(
  bd (
  gd (okI l_ a)<|
  bif decide ((ix l_ a)=((ix (ix m.rows (ix l_ b)) c).to)) then(
  some a) else(
  some d)) fun f=>
  gd (in64 (a+1))<|
  xm N m l_ b c e f (a+1)) else(
  some d)
def xn(N:Nat)(m:Mach)(l_:(List Int))(a:Int):Nat→(List Edge)→Int→Option (List Edge)
 |0,_,_=>none
 |e+1,c,b=>
  bif decide (b<m.inputs) then(
  gd (okI l_ a)<|
  gd (okI m.rows (ix l_ a))<|
  gd (okI (ix m.rows (ix l_ a)) b)<|
  bd (
  xm N m l_ a b N (-1) 0) fun d=>
  gd (fits 16 c ([(⟨d,(ix (ix m.rows (ix l_ a)) b).out⟩:Edge)]:List Edge))<|
  gd (in64 (b+1))<|
  xn N m l_ a e (c++([(⟨d,(ix (ix m.rows (ix l_ a)) b).out⟩:Edge)]:List Edge)) (b+1)) else(
  some c)
def xq(N:Nat)(m:Mach)(l_:(List Int)):Nat→Int→(List (List Edge))→Option (List (List Edge))
 |0,_,_=>none
 |d+1,a,b=>
  bif decide (a<(↑l_.length:Int)) then(
  bd (
  xn N m l_ a N ([]:List Edge) 0) fun c=>
  gd (fits 24 b ([c]:List (List Edge)))<|
  gd (in64 (a+1))<|
  xq N m l_ d (a+1) (b++([c]:List (List Edge)))) else(
  some b)
def lq(N:Nat)(m:Mach)(l_:(List Int)):Option Mach:=
 bd (
 xq N m l_ N 0 ([]:List (List Edge))) fun a=>
 some (⟨m.inputs,m.outputs,a⟩:Mach)
def mr(N:Nat)(m:Mach):Option Mach:=
 bd (z0z N m) fun b=>
 bd (lq N m b) fun a=>
 some (⟨a.inputs,a.outputs,a.rows⟩:Mach)
def um(N:Nat)(s:(List Edge))(f:Edge→Option Bool):Nat→Int→Option (Ex (Unit) (Int))
 |0,_=>none
 |c+1,a=>
  bif decide (a<(↑s.length:Int)) then(
  gd (okI s a)<|
  bd (f (ix s a)) fun b=>
  bif b then(
  some (Ex.rt a)) else(
  gd (in64 (a+1))<|
  um N s f c (a+1))) else(
  some (Ex.go ()))
def oq(N:Nat)(s:(List Edge))(f:Edge→Option Bool):Option Int:=
 bd (
 um N s f N 0) fun a=>
 Ex.on a (fun b=>
 some (-1)) some
def nu(N:Nat)(s:(List Edge))(f:Edge→Option Bool):Option Bool:=
 bd (oq N s f) fun a=>
 some (decide (0≤a))
def za1(N:Nat):Option Edge:=
 some (⟨(-1),(-1)⟩:Edge)
def za7(N:Nat)(m:Mach)(x:Edge):Option Bool:=
 bd (za1 N) fun a=>
 some ((decide (x.to=a.to∧x.out=a.out))||((((decide (0≤x.to))&&(decide (x.to<(↑m.rows.length:Int))))&&(decide (0≤x.out)))&&(decide (x.out<m.outputs))))
def z6z(N:Nat)(x:Edge)(p0_:Mach):Option Bool:=
 bd (za7 N p0_ x) fun a=>
 some (!a)
def mi(N:Nat)(m:Mach):Nat→Int→Option (Ex (Unit) (Int))
 |0,_=>none
 |b+1,a=>
  bif decide (a<(↑m.rows.length:Int)) then(
  gd (okI m.rows a)<|
  bd (gop (true&&((decide ((↑(ix m.rows a).length:Int)≠m.inputs))==false)) (nu N (ix m.rows a) (fun d=>z6z N d m))) fun c=>
  bif (decide ((↑(ix m.rows a).length:Int)≠m.inputs))||(c.getD default) then(
  some (Ex.rt 1)) else(
  gd (in64 (a+1))<|
  mi N m b (a+1))) else(
  some (Ex.go ()))
def z2o(N:Nat)(m:Mach):Option Int:=
 bif ((decide (16<m.inputs))||(decide (16<m.outputs)))||(decide (64<(↑m.rows.length:Int))) then(
 some 3) else(
 bif ((decide (m.inputs<1))||(decide (m.outputs<1)))||(decide ((↑m.rows.length:Int)<1)) then(
 some 1) else(
 bd (
 mi N m N 0) fun a=>
 Ex.on a (fun b=>
 some 0) some))
def xy(N:Nat)(self:Int→List Bool→Mach→Option (List Bool))(s:Int)(p1_:Mach):Nat→Int→(List Bool)→Option (List Bool)
 |0,_,_=>none
 |c+1,a,b=>
  bif decide (a<(↑(ix p1_.rows s).length:Int)) then(
  gd (okI (ix p1_.rows s) a)<|
  bd (self ((ix (ix p1_.rows s) a).to) b p1_) fun d=>
  gd (in64 (a+1))<|
  xy N self s p1_ c (a+1) d) else(
  some b)
def x9(N:Nat):Nat→Int→List Bool→Mach→Option (List Bool)
 |0,_,_,_=>none
 |F+1,s,p0_,p1_=>
  gd ((true&&((decide (s=(-1)))==false))=true→okI p0_ s)<|
  bif (decide (s=(-1)))||(ix p0_ s) then(
  some p0_) else(
  gd (okI p0_ s)<|
  gd (okI p1_.rows s)<|
  xy N (x9 N F) s p1_ N 0 (up p0_ s true))
def gu(N:Nat)(s:(List Bool))(v_:Bool):Nat→Int→Option (Ex (Unit) (Int))
 |0,_=>none
 |b+1,a=>
  bif decide (a<(↑s.length:Int)) then(
  gd (okI s a)<|
  bif decide (v_=(ix s a)) then(
  some (Ex.rt a)) else(
  gd (in64 (a+1))<|
  gu N s v_ b (a+1))) else(
  some (Ex.go ()))
def z1x(N:Nat)(s:(List Bool))(v_:Bool):Option Int:=
 bd (
 gu N s v_ N 0) fun a=>
 Ex.on a (fun b=>
 some (-1)) some
def z0g(N:Nat)(s:(List Bool))(v_:Bool):Option Bool:=
 bd (z1x N s v_) fun a=>
 some (decide (0≤a))
def z1a(N:Nat)(m:Mach):Option (Bool×Int):=
 bd (z2o N m) fun c=>
 bif decide (c≠0) then(
 some (false,c)) else(
 gd (okM 1 (↑m.rows.length:Int))<|
 bd (x9 N N 0 (mk (↑m.rows.length:Int) false) m) fun a=>
 bd (z0g N a false) fun b=>
 some ((!b),0))
def z0c(N:Nat)(m:Mach):Option Int:=
 bd (z1a N m) fun a=>
 bif (decide (a.2=0))&&(!a.1) then(
 some 11) else(
 some a.2)
def xz(N:Nat)(m:Mach)(s:Int):Option (Mach×Int):=
 some (m,s)
def sj(N:Nat)(σ:Type)(B:Sb→σ→Option (Bool×σ))(p0_:Mach)(p1_:Int):Nat→σ→Int→Option σ
 |0,_,_=>none
 |d+1,b,a=>
  bif decide (a<(↑(ix p0_.rows p1_).length:Int)) then(
  bd (
  gd (okI (ix p0_.rows p1_) a)<|
  bif decide (((ix (ix p0_.rows p1_) a).to)≠(-1)) then(
  bd (B (⟨a,(ix (ix p0_.rows p1_) a).to⟩:Sb) b) fun c=>
  bif !c.1 then(
  some (Ex.rt c.2)) else(
  some (Ex.go c.2))) else(
  some (Ex.go b))) fun e=>
  Ex.on e (fun f=>
  gd (in64 (a+1))<|
  sj N σ B p0_ p1_ d f (a+1)) some) else(
  some b)
def dw(N:Nat)(p0_:Mach)(p1_:Int)(σ:Type)(B:Sb→σ→Option (Bool×σ))(s0:σ):Option σ:=
 gd (okI p0_.rows p1_)<|
 sj N σ B p0_ p1_ N s0 0
def z0l(N:Nat)(m:Mach):Nat→(List Bool)→(List Int)→Option (List Bool)
 |0,_,_=>none
 |g+1,d,a=>
  bif decide (0<(↑a.length:Int)) then(
  gd (in64 ((↑a.length:Int)-1))<|
  gd (okI a ((↑a.length:Int)-1))<|
  gd (in64 ((↑a.length:Int)-1))<|
  gd (okS a 0 ((↑a.length:Int)-1))<|
  bd (xz N m (ix a ((↑a.length:Int)-1))) fun e=>
  bd (dw N e.1 e.2 (List Bool×List Int) (fun c b=>
  gd (okI b.1 c.fB)<|
  bif !(ix b.1 c.fB) then(
  gd (okI b.1 c.fB)<|
  gd (fits 8 b.2 ([c.fB]:List Int))<|
  some (true,((up b.1 c.fB true),(b.2++([c.fB]:List Int))))) else(
  some (true,(b.1,b.2)))) (d,(cut a 0 ((↑a.length:Int)-1)))) fun f=>
  z0l N m g f.1 f.2) else(
  some d)
def z7k(N:Nat)(m:Mach)(s:Int):Option (List Bool):=
 gd (okM 1 (↑m.rows.length:Int))<|
 gd (okI (mk (↑m.rows.length:Int) false) s)<|
 bd (
 z0l N m N (up (mk (↑m.rows.length:Int) false) s true) ([s]:List Int)) fun a=>
 some a
def ry(N:Nat)(m:Mach):Nat→Int→(List (List Bool))→Option (List (List Bool))
 |0,_,_=>none
 |c+1,a,b=>
  bif decide (a<(↑(mk (↑m.rows.length:Int) ([]:List Bool)).length:Int)) then(
  bd (z7k N m a) fun d=>
  gd (okI b a)<|
  gd (in64 (a+1))<|
  ry N m c (a+1) (up b a d)) else(
  some b)
def rz(N:Nat)(c:List (List Bool))(a:Int):Nat→(List Int)→Option (List Int)
 |0,_=>none
 |d+1,b=>
  gd (okI c a)<|
  gd (okI b a)<|
  gd (okI (ix c a) (ix b a))<|
  gd ((true&&((!(ix (ix c a) (ix b a)))==false))=true→okI b a)<|
  gd ((true&&((!(ix (ix c a) (ix b a)))==false))=true→okI c (ix b a))<|
  gd ((true&&((!(ix (ix c a) (ix b a)))==false))=true→okI (ix c (ix b a)) a)<|
  bif (!(ix (ix c a) (ix b a)))||(!(ix (ix c (ix b a)) a)) then(
  gd (okI b a)<|
  gd (in64 ((ix b a)+1))<|
  gd (okI b a)<|
  rz N c a d (up b a ((ix b a)+1))) else(
  some b)
def z0e(N:Nat)(m:Mach)(b:List (List Bool)):Nat→Int→(List Int)→Option (List Int)
 |0,_,_=>none
 |d+1,a,c=>
  bif decide (a<(↑(mk (↑m.rows.length:Int) (0:Int)).length:Int)) then(
  bd (
  rz N b a N c) fun e=>
  gd (in64 (a+1))<|
  z0e N m b d (a+1) e) else(
  some c)
def z5s(N:Nat)(m:Mach):Option (List Int):=
 gd (okM 24 (↑m.rows.length:Int))<|
 bd (
 ry N m N 0 (mk (↑m.rows.length:Int) ([]:List Bool))) fun a=>
 gd (okM 8 (↑m.rows.length:Int))<|
 bd (
 z0e N m a N 0 (mk (↑m.rows.length:Int) (0:Int))) fun b=>
 some b
def z1p(N:Nat)(s:(List Int)):Option (List Int):=
 gd (okS s 0 (↑s.length:Int))<|
 some (cut s 0 (↑s.length:Int))
def z6u(N:Nat)(s:(List (List Int))):Option (List (List Int)):=
 gd (okS s 0 (↑s.length:Int))<|
 some (cut s 0 (↑s.length:Int))
def z4g(N:Nat)(b:(List Int))(d:Int):Nat→(List Int)→Int→Option (List Int)
 |0,_,_=>none
 |e+1,c,a=>
  bif decide (a<(↑b.length:Int)) then(
  bd (
  gd (okI b a)<|
  bif decide ((ix b a)=d) then(
  gd (fits 8 c ([a]:List Int))<|
  some (c++([a]:List Int))) else(
  some c)) fun f=>
  gd (in64 (a+1))<|
  z4g N b d e f (a+1)) else(
  some c)
def z4j(N:Nat)(b:(List Int)):Nat→(List (List Int))→Int→Option (List (List Int))
 |0,_,_=>none
 |e+1,c,a=>
  bif decide (a<(↑b.length:Int)) then(
  bd (
  gd (okI b a)<|
  bif decide ((ix b a)≠a) then(
  some c) else(
  bd (
  z4g N b a N ([]:List Int) 0) fun f=>
  bd (z1p N f) fun d=>
  gd (fits 24 c ([d]:List (List Int)))<|
  some (c++([d]:List (List Int))))) fun g=>
  gd (in64 (a+1))<|
  z4j N b e g (a+1)) else(
  some c)
def z9n(N:Nat)(m:Mach):Option ((List (List Int))×Int):=
 bd (z0c N m) fun d=>
 bif decide (d≠0) then(
 some (([]:(List (List Int))),d)) else(
 bd (z5s N m) fun b=>
 bd (
 z4j N b N ([]:List (List Int)) 0) fun c=>
 bd (z6u N c) fun a=>
 some (a,0))
def uz(N:Nat)(m:Mach)(a:Int):Nat→Int→(List Bool)→Option (List Bool)
 |0,_,_=>none
 |d+1,b,c=>
  gd ((true&&((decide (b<m.inputs))==true))=true→okI c a)<|
  bif (decide (b<m.inputs))&&(ix c a) then(
  bd (
  gd (okI m.rows a)<|
  gd (okI (ix m.rows a) b)<|
  bif decide (((ix (ix m.rows a) b).to)≠(-1)) then(
  gd (okI c ((ix (ix m.rows a) b).to))<|
  some (up c ((ix (ix m.rows a) b).to) true)) else(
  some c)) fun e=>
  gd (in64 (b+1))<|
  uz N m a d (b+1) e) else(
  some c)
def yx(N:Nat)(m:Mach):Nat→Int→(List Bool)→Option (List Bool)
 |0,_,_=>none
 |c+1,a,b=>
  bif decide (a<(↑m.rows.length:Int)) then(
  bd (
  uz N m a N 0 b) fun d=>
  gd (in64 (a+1))<|
  yx N m c (a+1) d) else(
  some b)
def bf(N:Nat)(m:Mach)(steps:Int):Nat→Int→(List Bool)→Option (List Bool)
 |0,_,_=>none
 |c+1,a,b=>
  bif decide (a<steps) then(
  bd (
  yx N m N 0 b) fun d=>
  gd (in64 (a+1))<|
  bf N m steps c (a+1) d) else(
  some b)
def fq(N:Nat)(m:Mach)(s:Int)(t:Int)(steps:Int):Option Bool:=
 bif decide (s=t) then(
 some true) else(
 gd (okM 1 (↑m.rows.length:Int))<|
 gd (okI (mk (↑m.rows.length:Int) false) s)<|
 bd (
 bf N m steps N 0 (up (mk (↑m.rows.length:Int) false) s true)) fun a=>
 gd (okI a t)<|
 some (ix a t))
def yn(N:Nat)(m:Mach)(b:Int):Nat→Bool→(List Int)→Int→Option (Bool×List Int)
 |0,_,_,_=>none
 |g+1,d,c,a=>
  bif decide (a<(↑m.rows.length:Int)) then(
  bd (
  bd (fq N m b a (↑m.rows.length:Int)) fun e=>
  bd (gop (true&&(e==true)) (fq N m a b (↑m.rows.length:Int))) fun h=>
  bif e&&(h.getD default) then(
  gd (fits 8 c ([a]:List Int))<|
  some (d&&(decide (b≤a)),(c++([a]:List Int)))) else(
  some (d,c))) fun f=>
  gd (in64 (a+1))<|
  yn N m b g f.1 f.2 (a+1)) else(
  some (d,c))
def gz(N:Nat)(m:Mach):Nat→(List (List Int))→Int→Option (List (List Int))
 |0,_,_=>none
 |d+1,a,b=>
  bif decide (b<(↑m.rows.length:Int)) then(
  bd (
  bd (
  yn N m b N true ([]:List Int) 0) fun c=>
  bif c.1 then(
  gd (fits 24 a ([c.2]:List (List Int)))<|
  some (a++([c.2]:List (List Int)))) else(
  some a)) fun e=>
  gd (in64 (b+1))<|
  gz N m d e (b+1)) else(
  some a)
def z0r(N:Nat)(m:Mach):Option (List (List Int)):=
 bd (
 gz N m N ([]:List (List Int)) 0) fun a=>
 some a
def ay(N:Nat)(a:(List Int))(b:(List Int)):Nat→Int→Option (Ex (Unit) (Int))
 |0,_=>none
 |d+1,c=>
  bif decide (c<(↑a.length:Int)) then(
  gd (okI a c)<|
  gd (okI b c)<|
  bif decide ((ix a c)<(ix b c)) then(
  some (Ex.rt (-1))) else(
  gd (okI a c)<|
  gd (okI b c)<|
  bif decide ((ix b c)<(ix a c)) then(
  some (Ex.rt 1)) else(
  gd (in64 (c+1))<|
  ay N a b d (c+1)))) else(
  some (Ex.go ()))
def z3p(N:Nat)(a:(List Int))(b:(List Int)):Option Int:=
 bif decide ((↑a.length:Int)≠(↑b.length:Int)) then(
 bif decide ((↑a.length:Int)<(↑b.length:Int)) then(
 some (-1)) else(
 some 1)) else(
 bd (
 ay N a b N 0) fun c=>
 Ex.on c (fun d=>
 some 0) some)
def lc(N:Nat)(a:(List (List Int)))(b:(List (List Int))):Nat→Int→Option (Ex (Unit) (Bool))
 |0,_=>none
 |e+1,c=>
  bif decide (c<(↑a.length:Int)) then(
  gd (okI a c)<|
  gd (okI b c)<|
  bd (z3p N (ix a c) (ix b c)) fun d=>
  bif decide (d≠0) then(
  some (Ex.rt false)) else(
  gd (in64 (c+1))<|
  lc N a b e (c+1))) else(
  some (Ex.go ()))
def z2y(N:Nat)(a:(List (List Int)))(b:(List (List Int))):Option Bool:=
 bif decide ((↑a.length:Int)≠(↑b.length:Int)) then(
 some false) else(
 bd (
 lc N a b N 0) fun c=>
 Ex.on c (fun d=>
 some true) some)
def z1z(N:Nat):Option Mach:=
 some (⟨2,2,([([(⟨1,0⟩:Edge),(⟨0,0⟩:Edge)]:List Edge),([(⟨0,1⟩:Edge),(⟨1,0⟩:Edge)]:List Edge)]:List (List Edge))⟩:Mach)
def z1b(N:Nat):Option Mach:=
 some (⟨1,1,([([(⟨1,0⟩:Edge)]:List Edge),([(⟨1,0⟩:Edge)]:List Edge)]:List (List Edge))⟩:Mach)
def mo(N:Nat)(x:(List Int)):Nat→Int→Int→Option Int
 |0,_,_=>none
 |c+1,b,a=>
  bif decide (a<(↑x.length:Int)) then(
  gd (okI x a)<|
  gd (in64 (a+1))<|
  mo N x c (max b (ix x a)) (a+1)) else(
  some b)
def slices_Max_int(N:Nat)(x:(List Int)):Option Int:=
 bif decide ((↑x.length:Int)<1) then(
 none) else(
 gd (okI x 0)<|
 bd (
 mo N x N (ix x 0) 1) fun a=>
 some a)
def ic(N:Nat)(m:Mach)(c:(List Int)):Nat→Int→(List Int)→Option (List Int)
 |0,_,_=>none
 |g+1,a,d=>
  bif decide (a<(↑m.rows.length:Int)) then(
  bd (xz N m a) fun e=>
  bd (dw N e.1 e.2 (List Int) (fun f b=>
  gd (okI c f.fB)<|
  gd (okI c a)<|
  bif decide ((ix c f.fB)≠(ix c a)) then(
  gd (okI c a)<|
  gd (okI b (ix c a))<|
  gd (in64 ((ix b (ix c a))+1))<|
  gd (okI b (ix c a))<|
  some (true,(up b (ix c a) ((ix b (ix c a))+1)))) else(
  some (true,b))) d) fun h=>
  gd (in64 (a+1))<|
  ic N m c g (a+1) h) else(
  some d)
def z1v(N:Nat)(m:Mach)(round:Bool):Option Bool:=
 bd (z5s N m) fun d=>
 gd (okM 8 (↑m.rows.length:Int))<|
 bd (
 ic N m d N 0 (mk (↑m.rows.length:Int) (0:Int))) fun c=>
 bd (
 bif round then(
 some 0) else(
 some 1)) fun a=>
 bd (slices_Max_int N c) fun b=>
 some (decide (b≤a))
def og(N:Nat)(m:Mach)(times:Int→Int→Option Int):Nat→Int→Int→(List (List Int))→Option (Int×List (List Int))
 |0,_,_,_=>none
 |i+1,a,f,e=>
  bif decide (a<(↑(mk (↑m.rows.length:Int) ([]:List Int)).length:Int)) then(
  gd (okM 8 m.inputs)<|
  gd (okI e a)<|
  bd (xz N (⟨m.inputs,m.outputs,m.rows⟩:Mach) a) fun g=>
  bd (dw N g.1 g.2 (Int×List (List Int)) (fun c b=>
  gd (okI b.2 a)<|
  bd (times a c.fA) fun d=>
  gd (okI (ix b.2 a) c.fA)<|
  gd (okI (up b.2 a (up (ix b.2 a) c.fA d)) a)<|
  gd (okI (ix (up b.2 a (up (ix b.2 a) c.fA d)) a) c.fA)<|
  gd (in64 (b.1+(ix (ix (up b.2 a (up (ix b.2 a) c.fA d)) a) c.fA)))<|
  some (true,(b.1+(ix (ix (up b.2 a (up (ix b.2 a) c.fA d)) a) c.fA),(up b.2 a (up (ix b.2 a) c.fA d))))) (f,(up e a (mk m.inputs (0:Int))))) fun h=>
  gd (in64 (a+1))<|
  og N m times i (a+1) h.1 h.2) else(
  some (f,e))
def l6(N:Nat)(m:Mach)(times:Int→Int→Option Int):Option Sd:=
 gd (okM 24 (↑m.rows.length:Int))<|
 bd (
 og N m times N 0 0 (mk (↑m.rows.length:Int) ([]:List Int))) fun a=>
 some (⟨(⟨m.inputs,m.outputs,m.rows⟩:Mach),a.2,a.1⟩:Sd)
def z99(N:Nat)(p0_:Int)(p1_:Int):Option Int:=
 some 1
def si(N:Nat)(r_:Sd)(s:Int):Option (Sd×Int):=
 some (r_,s)
def ol(N:Nat)(p0_:Sd)(p1_:Int)(σ:Type)(B:Sb→σ→Option (Bool×σ))(s0:σ):Option σ:=
 bd (xz N p0_.fE p1_) fun f=>
 bd (dw N f.1 f.2 (Ex (σ) (σ)) (fun a s=>Ex.on s (fun c=>
 gd (okI p0_.fF p1_)<|
 gd (okI (ix p0_.fF p1_) a.fA)<|
 bif decide (0<(ix (ix p0_.fF p1_) a.fA)) then(
 bd (B (⟨a.fA,a.fB⟩:Sb) c) fun b=>
 bif !b.1 then(
 some (false,Ex.rt b.2)) else(
 some (true,Ex.go b.2))) else(
 some (true,Ex.go c))) fun _=>none) (Ex.go s0)) fun d=>
 Ex.on d (fun e=>
 some e) some
def pu(N:Nat)(r_:Sd):Nat→Int→(List Int)→Option (List Int)
 |0,_,_=>none
 |f+1,a,d=>
  bif decide (a<(↑(mk (↑r_.fF.length:Int) (0:Int)).length:Int)) then(
  bd (si N r_ a) fun e=>
  bd (ol N e.1 e.2 (List Int) (fun b c=>
  gd (okI c a)<|
  gd (okI r_.fF a)<|
  gd (okI (ix r_.fF a) b.fA)<|
  gd (in64 ((ix c a)+(ix (ix r_.fF a) b.fA)))<|
  gd (okI c a)<|
  gd (okI (up c a ((ix c a)+(ix (ix r_.fF a) b.fA))) b.fB)<|
  gd (okI r_.fF a)<|
  gd (okI (ix r_.fF a) b.fA)<|
  gd (in64 ((ix (up c a ((ix c a)+(ix (ix r_.fF a) b.fA))) b.fB)-(ix (ix r_.fF a) b.fA)))<|
  gd (okI (up c a ((ix c a)+(ix (ix r_.fF a) b.fA))) b.fB)<|
  some (true,(up (up c a ((ix c a)+(ix (ix r_.fF a) b.fA))) b.fB ((ix (up c a ((ix c a)+(ix (ix r_.fF a) b.fA))) b.fB)-(ix (ix r_.fF a) b.fA))))) d) fun g=>
  gd (in64 (a+1))<|
  pu N r_ f (a+1) g) else(
  some d)
def lu(N:Nat)(r_:Sd):Option (List Int):=
 gd (okM 8 (↑r_.fF.length:Int))<|
 bd (
 pu N r_ N 0 (mk (↑r_.fF.length:Int) (0:Int))) fun a=>
 some a
def yf(N:Nat)(to_:Int)(x:Sa)(p0_:List Sa):Option (Bool×List Sa):=
 gd (okI p0_ to_)<|
 bif decide (((ix p0_ to_).fC)≤x.fC) then(
 some (false,p0_)) else(
 gd (okI p0_ to_)<|
 some (true,(up p0_ to_ x)))
def bi(N:Nat)(fT:List Int):Nat→Int→(List Sa)→Option (List Sa)
 |0,_,_=>none
 |c+1,a,b=>
  bif decide (a<(↑fT.length:Int)) then(
  bd (
  gd (okI fT a)<|
  gd (okI b a)<|
  bif decide (0<(ix fT a)) then(
  gd (okI (up b a (⟨(-1),0,false,1073741824⟩:Sa)) a)<|
  some (up (up b a (⟨(-1),0,false,1073741824⟩:Sa)) a (⟨(ix (up b a (⟨(-1),0,false,1073741824⟩:Sa)) a).fD,(ix (up b a (⟨(-1),0,false,1073741824⟩:Sa)) a).fA,(ix (up b a (⟨(-1),0,false,1073741824⟩:Sa)) a).fAb,0⟩:Sa))) else(
  some (up b a (⟨(-1),0,false,1073741824⟩:Sa)))) fun d=>
  gd (in64 (a+1))<|
  bi N fT c (a+1) d) else(
  some b)
def yz(N:Nat)(fP:Int)(fQ:Int)(fAf:(List (List Edge)))(fK:List (List Int)):Nat→Int→(List Sa)→Bool→Option (List Sa×Bool)
 |0,_,_,_=>none
 |k+1,a,g,h=>
  bif decide (a<(↑fK.length:Int)) then(
  bd (xz N (⟨fP,fQ,fAf⟩:Mach) a) fun i=>
  bd (dw N i.1 i.2 (List Sa×Bool) (fun b c=>
  bd (
  gd (okI c.1 a)<|
  gd ((true&&((decide (((ix c.1 a).fC)<1073741824))==true))=true→okI c.1 a)<|
  gd ((true&&((decide (((ix c.1 a).fC)<1073741824))==true))=true→in64 (((ix c.1 a).fC)+1))<|
  bif decide (((ix c.1 a).fC)<1073741824) then(
  bd (yf N b.fB (⟨a,b.fA,false,((ix c.1 a).fC)+1⟩:Sa) c.1) fun e=>
  bif e.1 then(
  some (e.2,true)) else(
  some (e.2,c.2))) else(
  some (c.1,c.2))) fun d=>
  gd (okI fK a)<|
  gd (okI (ix fK a) b.fA)<|
  gd ((true&&((decide (0<(ix (ix fK a) b.fA)))==true))=true→okI d.1 b.fB)<|
  gd ((true&&(((decide (0<(ix (ix fK a) b.fA)))&&(decide (((ix d.1 b.fB).fC)<1073741824)))==true))=true→okI d.1 b.fB)<|
  gd ((true&&(((decide (0<(ix (ix fK a) b.fA)))&&(decide (((ix d.1 b.fB).fC)<1073741824)))==true))=true→in64 (((ix d.1 b.fB).fC)-1))<|
  bif (decide (0<(ix (ix fK a) b.fA)))&&(decide (((ix d.1 b.fB).fC)<1073741824)) then(
  bd (yf N a (⟨b.fB,b.fA,true,((ix d.1 b.fB).fC)-1⟩:Sa) d.1) fun f=>
  bif f.1 then(
  some (true,(f.2,true))) else(
  some (true,(f.2,d.2)))) else(
  some (true,(d.1,d.2)))) (g,h)) fun j=>
  gd (in64 (a+1))<|
  yz N fP fQ fAf fK k (a+1) j.1 j.2) else(
  some (g,h))
def o5(N:Nat)(fP:Int)(fQ:Int)(fAf:(List (List Edge)))(fK:List (List Int)):Nat→Bool→(List Sa)→Option (List Sa)
 |0,_,_=>none
 |c+1,d,a=>
  bif d then(
  bd (
  yz N fP fQ fAf fK N 0 a false) fun b=>
  o5 N fP fQ fAf fK c b.2 b.1) else(
  some a)
def z2e(N:Nat)(fP:Int)(fQ:Int)(fAf:(List (List Edge)))(fK:List (List Int))(fT:List Int):Option (List Sa):=
 gd (okM 32 (↑fK.length:Int))<|
 bd (
 bi N fT N 0 (mk (↑fK.length:Int) (⟨(0:Int),(0:Int),false,(0:Int)⟩:Sa))) fun a=>
 bd (
 o5 N fP fQ fAf fK N true a) fun b=>
 some b
def nk(N:Nat)(fT:List Int)(c:(List Sa)):Nat→Int→Int→Option Int
 |0,_,_=>none
 |d+1,b,a=>
  bif decide (a<(↑fT.length:Int)) then(
  bd (
  gd (okI fT a)<|
  gd (((true&&((decide ((ix fT a)<0))==true))&&((decide (b=(-1)))==false))=true→okI c a)<|
  gd (((true&&((decide ((ix fT a)<0))==true))&&((decide (b=(-1)))==false))=true→okI c b)<|
  bif (decide ((ix fT a)<0))&&((decide (b=(-1)))||(decide (((ix c a).fC)<((ix c b).fC)))) then(
  some a) else(
  some b)) fun e=>
  gd (in64 (a+1))<|
  nk N fT c d e (a+1)) else(
  some b)
def iw(N:Nat)(c:(List Sa)):Nat→Int→(List (List Int))→Option (Int×List (List Int))
 |0,_,_=>none
 |e+1,a,b=>
  gd (okI c a)<|
  bif decide (((ix c a).fD)≠(-1)) then(
  gd (okI c a)<|
  bd (
  bif (ix c a).fAb then(
  gd (okI b a)<|
  gd (okI (ix b a) ((ix c a).fA))<|
  gd (in64 ((ix (ix b a) ((ix c a).fA))-1))<|
  gd (okI (ix b a) ((ix c a).fA))<|
  some (up b a (up (ix b a) ((ix c a).fA) ((ix (ix b a) ((ix c a).fA))-1)))) else(
  gd (okI b ((ix c a).fD))<|
  gd (okI (ix b ((ix c a).fD)) ((ix c a).fA))<|
  gd (in64 ((ix (ix b ((ix c a).fD)) ((ix c a).fA))+1))<|
  gd (okI (ix b ((ix c a).fD)) ((ix c a).fA))<|
  some (up b ((ix c a).fD) (up (ix b ((ix c a).fD)) ((ix c a).fA) ((ix (ix b ((ix c a).fD)) ((ix c a).fA))+1))))) fun d=>
  iw N c e ((ix c a).fD) d) else(
  some (a,b))
def z1o(N:Nat)(fP:Int)(fQ:Int)(fAf:(List (List Edge)))(fK:List (List Int))(fT:List Int):Option (Bool×List (List Int)×List Int):=
 bd (z2e N fP fQ fAf fK fT) fun c=>
 bd (
 nk N fT c N (-1) 0) fun a=>
 bif decide (a=(-1)) then(
 some (false,fK,fT)) else(
 gd (okI fT a)<|
 gd (in64 ((ix fT a)+1))<|
 gd (okI fT a)<|
 bd (
 iw N c N a fK) fun b=>
 gd (okI (up fT a ((ix fT a)+1)) b.1)<|
 gd (in64 ((ix (up fT a ((ix fT a)+1)) b.1)-1))<|
 gd (okI (up fT a ((ix fT a)+1)) b.1)<|
 some (true,b.2,(up (up fT a ((ix fT a)+1)) b.1 ((ix (up fT a ((ix fT a)+1)) b.1)-1))))
def z2q(N:Nat)(s:Int)(i:Int)(p0_:Sk):Option Int:=
 gd (okI p0_.fAi s)<|
 gd (okI (ix p0_.fAi s) i)<|
 gd (in64 ((1:Int)+(ix (ix p0_.fAi s) i)))<|
 some ((1:Int)+(ix (ix p0_.fAi s) i))
def di(N:Nat)(m:Mach):Nat→Int→(List (List Int))→Option (List (List Int))
 |0,_,_=>none
 |c+1,a,b=>
  bif decide (a<(↑(mk (↑m.rows.length:Int) ([]:List Int)).length:Int)) then(
  gd (okM 8 m.inputs)<|
  gd (okI b a)<|
  gd (in64 (a+1))<|
  di N m c (a+1) (up b a (mk m.inputs (0:Int)))) else(
  some b)
def dh(N:Nat)(b:(List Int)):Nat→Int→(List Int)→Option (List Int)
 |0,_,_=>none
 |d+1,a,c=>
  bif decide (a<(↑b.length:Int)) then(
  gd (okI b a)<|
  gd (okN (ix b a))<|
  gd (fits 8 c ([-(ix b a)]:List Int))<|
  gd (in64 (a+1))<|
  dh N b d (a+1) (c++([-(ix b a)]:List Int))) else(
  some c)
def ae(N:Nat)(m:Mach):Nat→(List (List Int))→(List Int)→Option (List (List Int)×List Int)
 |0,_,_=>none
 |b+1,c,d=>
  bd (z1o N m.inputs m.outputs m.rows c d) fun a=>
  bif a.1 then(
  ae N m b a.2.1 a.2.2) else(
  some (a.2.1,a.2.2))
def z03(N:Nat)(m:Mach):Option Sd:=
 gd (okM 24 (↑m.rows.length:Int))<|
 bd (
 di N m N 0 (mk (↑m.rows.length:Int) ([]:List Int))) fun e=>
 bd (
 bd (l6 N (⟨m.inputs,m.outputs,m.rows⟩:Mach) (fun f g=>z99 N f g)) fun b=>
 bd (lu N (⟨(⟨b.fE.inputs,b.fE.outputs,b.fE.rows⟩:Mach),b.fF,b.fJ⟩:Sd)) fun d=>
 dh N d N 0 ([]:List Int)) fun h=>
 bd (
 ae N m N e h) fun c=>
 bd (l6 N (⟨m.inputs,m.outputs,m.rows⟩:Mach) (fun f g=>z2q N f g (⟨(⟨m.inputs,m.outputs,m.rows⟩:Mach),c.1,c.2⟩:Sk))) fun a=>
 some (⟨(⟨a.fE.inputs,a.fE.outputs,a.fE.rows⟩:Mach),a.fF,a.fJ⟩:Sd)
def z00(N:Nat)(s:Int)(r__0_:Int)(r__1_:Int)(r__2_:(List (List Edge)))(r__3_:List (List Int))(r__4_:Int):Option Int:=
 some s
def iy(N:Nat)(p1_:Int)(σ:Type)(get:σ→Option (Int×Int×(List (List Edge))×List (List Int)×Int))(B:Sb→σ→Option (Bool×σ))(s0:σ):Option σ:=
 bd (get s0) fun f=>
 bd (xz N (⟨f.1,f.2.1,f.2.2.1⟩:Mach) p1_) fun e=>
 bd (dw N e.1 e.2 (Ex (σ) (σ)) (fun b s=>Ex.on s (fun c=>
 bd (get c) fun d=>
 gd (okI d.2.2.2.1 p1_)<|
 gd (okI (ix d.2.2.2.1 p1_) b.fA)<|
 bif decide (0<(ix (ix d.2.2.2.1 p1_) b.fA)) then(
 bd (B (⟨b.fA,b.fB⟩:Sb) c) fun a=>
 bif !a.1 then(
 some (false,Ex.rt a.2)) else(
 some (true,Ex.go a.2))) else(
 some (true,Ex.go c))) fun _=>none) (Ex.go s0)) fun g=>
 Ex.on g (fun h=>
 some h) some
def gp(N:Nat)(s:Int)(i:Int)(n:Int)(r__0_:Int)(r__1_:Int)(r__2_:(List (List Edge)))(r__3_:List (List Int))(r__4_:Int):Option (List (List Int)×Int):=
 gd (okI r__3_ s)<|
 gd (okI (ix r__3_ s) i)<|
 gd (in64 ((ix (ix r__3_ s) i)-n))<|
 gd (okI (ix r__3_ s) i)<|
 gd (in64 (r__4_-n))<|
 some ((up r__3_ s (up (ix r__3_ s) i ((ix (ix r__3_ s) i)-n))),(r__4_-n))
def df(N:Nat):Nat→Int→Int→(List Int)→Option (List Int)
 |0,_,_,_=>none
 |d+1,b,c,a=>
  bif decide (b<c) then(
  gd (okI a c)<|
  gd (okI a b)<|
  gd (okI a b)<|
  gd (okI a c)<|
  gd (in64 (b+1))<|
  gd (in64 (c-1))<|
  df N d (b+1) (c-1) (up (up a b (ix a c)) c (ix a b))) else(
  some a)
def slices_Reverse_int(N:Nat)(s:List Int):Option (List Int):=
 gd (in64 ((↑s.length:Int)-1))<|
 df N N 0 ((↑s.length:Int)-1) s
def fo(N:Nat)(b:Sd):Nat→Int→(List (List Int))→(List Int)→(List Sb)→Option (List Int)
 |0,_,_,_,_=>none
 |i+1,f,g,e,a=>
  bif decide (0<(↑a.length:Int)) then(
  gd (in64 ((↑a.length:Int)-1))<|
  gd (okI a ((↑a.length:Int)-1))<|
  bd (
  bd (z00 N ((ix a ((↑a.length:Int)-1)).fB) b.fE.inputs b.fE.outputs b.fE.rows g f) fun l=>
  bd (iy N l (Ex (Unit) (Int×List (List Int)×List Sb×Bool)) (Ex.got (fun(o:Unit)=>(b.fE.inputs,b.fE.outputs,b.fE.rows,g,f))) (fun d s=>Ex.on s (fun m=>
  bd (gp N ((ix a ((↑a.length:Int)-1)).fB) d.fA 1 b.fE.inputs b.fE.outputs b.fE.rows g f) fun h=>
  gd (fits 16 a ([(⟨d.fA,d.fB⟩:Sb)]:List Sb))<|
  some (false,Ex.rt (h.2,h.1,(a++([(⟨d.fA,d.fB⟩:Sb)]:List Sb)),true))) fun _=>none) (Ex.go ())) fun j=>
  Ex.on j (fun n=>
  some (f,g,a,false)) some) fun c=>
  bif !c.2.2.2 then(
  bd (
  bif decide (((ix a ((↑a.length:Int)-1)).fA)≠(-1)) then(
  gd (e.length+([(ix a ((↑a.length:Int)-1)).fA]:List Int).length≤b.fJ.toNat)<|
  some (e++([(ix a ((↑a.length:Int)-1)).fA]:List Int))) else(
  some e)) fun k=>
  gd (in64 ((↑c.2.2.1.length:Int)-1))<|
  gd (okS c.2.2.1 0 ((↑c.2.2.1.length:Int)-1))<|
  fo N b i c.1 c.2.1 k (cut c.2.2.1 0 ((↑c.2.2.1.length:Int)-1))) else(
  fo N b i c.1 c.2.1 e c.2.2.1)) else(
  some e)
def z2d(N:Nat)(m:Mach):Option ((List Int)×Int):=
 bd (z0c N m) fun e=>
 bif decide (e≠0) then(
 some (([]:(List Int)),e)) else(
 bd (z1v N m true) fun c=>
 bif !c then(
 some (([]:(List Int)),7)) else(
 bd (z03 N m) fun a=>
 bif decide (256<a.fJ) then(
 some (([]:(List Int)),3)) else(
 gd (okM 8 a.fJ∧0≤(0:Int)∧(0:Int)≤a.fJ)<|
 bd (
 fo N a N a.fJ a.fF (mk 0 (0:Int)) ([(⟨(-1),0⟩:Sb)]:List Sb)) fun d=>
 bd (slices_Reverse_int N d) fun b=>
 gd (b.length=a.fJ.toNat)<|
 some (b,0))))
def z0j(N:Nat)(m:Mach):Nat→Int→Int→Option Int
 |0,_,_=>none
 |e+1,a,b=>
  bif decide (a<(↑m.rows.length:Int)) then(
  bd (xz N m a) fun c=>
  bd (dw N c.1 c.2 (Int) (fun g d=>
  gd (in64 (d+1))<|
  some (true,d+1)) b) fun f=>
  gd (in64 (a+1))<|
  z0j N m e (a+1) f) else(
  some b)
def z7u(N:Nat)(m:Mach):Option Int:=
 bd (
 z0j N m N 0 0) fun a=>
 some a
def z06(N:Nat)(m:Mach):Nat→Int→(List ((Int×Int)×Int))→Option (List ((Int×Int)×Int))
 |0,_,_=>none
 |e+1,a,b=>
  bif decide (a<(↑m.rows.length:Int)) then(
  bd (xz N m a) fun c=>
  bd (dw N c.1 c.2 (List ((Int×Int)×Int)) (fun f d=>
  some (true,(zft d ((a,f.fA):(Int×Int)) (↑d.length:Int)))) b) fun g=>
  gd (in64 (a+1))<|
  z06 N m e (a+1) g) else(
  some b)
def z07(N:Nat)(m:Mach)(e:List ((Int×Int)×Int))(a:Int)(d:List (List Int)):Nat→Int→(List (List Int))→Option (List (List Int))
 |0,_,_=>none
 |f+1,b,c=>
  bif decide (b<(↑(ix (up d a (mk m.inputs (0:Int))) a).length:Int)) then(
  gd (okI c a)<|
  gd (okSh .i64 (zcs (0:Int) e ((a,b):(Int×Int))))<|
  gd (okI (ix c a) b)<|
  gd (in64 (b+1))<|
  z07 N m e a d f (b+1) (up c a (up (ix c a) b (z1w .i64 (1:Int) (zcs (0:Int) e ((a,b):(Int×Int))))))) else(
  some c)
def z09(N:Nat)(m:Mach)(c:List ((Int×Int)×Int)):Nat→Int→(List (List Int))→Option (List (List Int))
 |0,_,_=>none
 |d+1,a,b=>
  bif decide (a<(↑(mk (↑m.rows.length:Int) ([]:List Int)).length:Int)) then(
  bd (
  gd (okM 8 m.inputs)<|
  gd (okI b a)<|
  gd (okI (up b a (mk m.inputs (0:Int))) a)<|
  z07 N m c a b N 0 (up b a (mk m.inputs (0:Int)))) fun e=>
  gd (in64 (a+1))<|
  z09 N m c d (a+1) e) else(
  some b)
def z2j(N:Nat)(a:List Sj):Nat→(List Int)→Int→Option (List Int)
 |0,_,_=>none
 |d+1,c,b=>
  bif decide (0<b) then(
  gd (okI a b)<|
  gd (fits 8 c ([(ix a b).fA]:List Int))<|
  gd (okI a b)<|
  z2j N a d (c++([(ix a b).fA]:List Int)) ((ix a b).fD)) else(
  some c)
def z2h(N:Nat)(m:Mach)(round:Bool)(g:Int)(d:List (List Int)):Nat→Int→(List Bool)→(List (Int×Int))→(List Sj)→Option (Ex (Unit) ((List Int)×Int))
 |0,_,_,_,_=>none
 |k+1,a,l,b,h=>
  bif decide (a<(↑b.length:Int)) then(
  gd (okI b a)<|
  gd (okSh .i64 g)<|
  gd (in64 ((z1w .i64 (1:Int) g)-1))<|
  bif (decide (((ix b a).2)=((z1w .i64 (1:Int) g)-1)))&&((!round)||(decide (((ix b a).1)=0))) then(
  bd (
  z2j N h N ([]:List Int) a) fun i=>
  bif decide (256<(↑i.length:Int)) then(
  some (Ex.rt (([]:(List Int)),3))) else(
  bd (slices_Reverse_int N i) fun n=>
  bd (z1p N n) fun o=>
  some (Ex.rt (o,0)))) else(
  bd (xz N m ((ix b a).1)) fun j=>
  bd (dw N j.1 j.2 (List Bool×List (Int×Int)×List Sj) (fun c e=>
  gd (okI d ((ix b a).1))<|
  gd (okI (ix d ((ix b a).1)) c.fA)<|
  gd (okB .i64 ((ix b a).2) (ix (ix d ((ix b a).1)) c.fA))<|
  gd (in64 ((ior ((ix b a).2) (ix (ix d ((ix b a).1)) c.fA))*(↑m.rows.length:Int)))<|
  gd (in64 (((ior ((ix b a).2) (ix (ix d ((ix b a).1)) c.fA))*(↑m.rows.length:Int))+c.fB))<|
  gd (okI e.1 (((ior ((ix b a).2) (ix (ix d ((ix b a).1)) c.fA))*(↑m.rows.length:Int))+c.fB))<|
  bif !(ix e.1 (((ior ((ix b a).2) (ix (ix d ((ix b a).1)) c.fA))*(↑m.rows.length:Int))+c.fB)) then(
  gd (okI e.1 (((ior ((ix b a).2) (ix (ix d ((ix b a).1)) c.fA))*(↑m.rows.length:Int))+c.fB))<|
  gd (fits 16 e.2.1 ([((c.fB,ior ((ix b a).2) (ix (ix d ((ix b a).1)) c.fA)):(Int×Int))]:List (Int×Int)))<|
  gd (fits 16 e.2.2 ([(⟨a,c.fA⟩:Sj)]:List Sj))<|
  some (true,((up e.1 (((ior ((ix b a).2) (ix (ix d ((ix b a).1)) c.fA))*(↑m.rows.length:Int))+c.fB) true),(e.2.1++([((c.fB,ior ((ix b a).2) (ix (ix d ((ix b a).1)) c.fA)):(Int×Int))]:List (Int×Int))),(e.2.2++([(⟨a,c.fA⟩:Sj)]:List Sj))))) else(
  some (true,(e.1,e.2.1,e.2.2)))) (l,b,h)) fun f=>
  gd (in64 (a+1))<|
  z2h N m round g d k (a+1) f.1 f.2.1 f.2.2)) else(
  some (Ex.go ()))
def z14(N:Nat)(m:Mach)(round:Bool):Option ((List Int)×Int):=
 bd (z0c N m) fun f=>
 bif decide (f≠0) then(
 some (([]:(List Int)),f)) else(
 bd (z1v N m round) fun d=>
 bif !d then(
 some (([]:(List Int)),7)) else(
 bd (z7u N m) fun a=>
 bif decide (16<a) then(
 some (([]:(List Int)),3)) else(
 bd (
 z06 N m N 0 ([]:List ((Int×Int)×Int))) fun e=>
 gd (okM 24 (↑m.rows.length:Int))<|
 bd (
 z09 N m e N 0 (mk (↑m.rows.length:Int) ([]:List Int))) fun b=>
 gd (okSh .i64 a)<|
 gd (okM 1 (z1w .i64 (↑m.rows.length:Int) a))<|
 gd (okI (mk (z1w .i64 (↑m.rows.length:Int) a) false) 0)<|
 bd (
 z2h N m round a b N 0 (up (mk (z1w .i64 (↑m.rows.length:Int) a) false) 0 true) ([((0,0):(Int×Int))]:List (Int×Int)) ([(⟨0,0⟩:Sj)]:List Sj)) fun c=>
 Ex.on c (fun g=>
 some (([]:(List Int)),7)) some)))
def pq(N:Nat)(r_:Sd):Nat→(List Bool)→(List Int)→Option (List Bool)
 |0,_,_=>none
 |g+1,d,a=>
  bif decide (0<(↑a.length:Int)) then(
  gd (in64 ((↑a.length:Int)-1))<|
  gd (okI a ((↑a.length:Int)-1))<|
  gd (in64 ((↑a.length:Int)-1))<|
  gd (okS a 0 ((↑a.length:Int)-1))<|
  bd (si N r_ (ix a ((↑a.length:Int)-1))) fun e=>
  bd (ol N e.1 e.2 (List Bool×List Int) (fun c b=>
  gd (okI b.1 c.fB)<|
  bif !(ix b.1 c.fB) then(
  gd (okI b.1 c.fB)<|
  gd (fits 8 b.2 ([c.fB]:List Int))<|
  some (true,((up b.1 c.fB true),(b.2++([c.fB]:List Int))))) else(
  some (true,(b.1,b.2)))) (d,(cut a 0 ((↑a.length:Int)-1)))) fun f=>
  pq N r_ g f.1 f.2) else(
  some d)
def xw(N:Nat)(r_:Sd)(c:List Bool):Nat→Int→Option (Ex (Unit) (Bool))
 |0,_=>none
 |d+1,a=>
  bif decide (a<(↑r_.fF.length:Int)) then(
  bd (si N r_ a) fun b=>
  bd (ol N b.1 b.2 (Ex (Unit) (Ex (Unit) (Bool))) (fun f s=>Ex.on s (fun g=>
  gd (okI c a)<|
  bif !(ix c a) then(
  some (false,Ex.rt (Ex.rt false))) else(
  some (true,Ex.go ()))) fun _=>none) (Ex.go ())) fun e=>
  Ex.on e (fun h=>
  gd (in64 (a+1))<|
  xw N r_ c d (a+1)) some) else(
  some (Ex.go ()))
def z15(N:Nat)(r_:Sd)(at_:Int):Option Bool:=
 gd (okM 1 (↑r_.fF.length:Int))<|
 gd (okI (mk (↑r_.fF.length:Int) false) at_)<|
 bd (
 pq N r_ N (up (mk (↑r_.fF.length:Int) false) at_ true) ([at_]:List Int)) fun b=>
 bd (
 xw N r_ b N 0) fun a=>
 Ex.on a (fun c=>
 some true) some
def mg(N:Nat)(at_:Int)(round:Bool)(b:(List Int)):Nat→Int→Int→Int→Option (Ex (Int×Int) (Bool))
 |0,_,_,_=>none
 |f+1,c,d,a=>
  bif decide (a<(↑b.length:Int)) then(
  bd (
  gd (okI b a)<|
  bif decide ((ix b a)=0) then(
  some (Ex.go (c,d))) else(
  bif (decide ((ix b a)=1))&&(decide (a=at_)) then(
  gd (in64 (c+1))<|
  some (Ex.go (c+1,d))) else(
  bif (decide ((ix b a)=(-1)))&&((!round)||(decide (a=0))) then(
  gd (in64 (d+1))<|
  some (Ex.go (c,d+1))) else(
  some (Ex.rt (Ex.rt false)))))) fun g=>
  Ex.on g (fun e=>
  gd (in64 (a+1))<|
  mg N at_ round b f e.1 e.2 (a+1)) some) else(
  some (Ex.go (c,d)))
def z0f(N:Nat)(r_:Sd)(at_:Int)(round:Bool):Option Bool:=
 bif decide (r_.fJ=0) then(
 some ((!round)||(decide (at_=0)))) else(
 bd (
 bd (lu N r_) fun c=>
 mg N at_ round c N 0 0 0) fun d=>
 Ex.on d (fun a=>
 bif (decide (a.1≠a.2))||((round&&(decide (a.1=0)))&&(decide (at_≠0))) then(
 some false) else(
 bd (z15 N r_ at_) fun b=>
 some b)) some)
def z19(N:Nat)(round:Bool)(a:Sd):Nat→Int→Int→(List (List Int))→(List Int)→Int→Option (List Int)
 |0,_,_,_,_,_=>none
 |p+1,q,d,k,e,f=>
  bd (
  bif (decide (0<d))&&(decide (q≠d)) then(
  bd (z00 N f a.fE.inputs a.fE.outputs a.fE.rows k d) fun l=>
  bd (iy N l (Ex (Int×List (List Int)) (Ex (Int×List (List Int)×List Int×Int) (List Int))) (Ex.got (fun(o:Int×List (List Int))=>(a.fE.inputs,a.fE.outputs,a.fE.rows,o.2,o.1))) (fun b s=>Ex.on s (fun h=>
  bd (gp N f b.fA 1 a.fE.inputs a.fE.outputs a.fE.rows h.2 h.1) fun c=>
  bd (z0f N (⟨(⟨a.fE.inputs,a.fE.outputs,a.fE.rows⟩:Mach),c.1,c.2⟩:Sd) b.fB round) fun m=>
  bif m then(
  gd (e.length+([b.fA]:List Int).length≤a.fJ.toNat)<|
  some (false,Ex.rt (Ex.go (c.2,c.1,(e++([b.fA]:List Int)),b.fB)))) else(
  bd (gp N f b.fA (-1) a.fE.inputs a.fE.outputs a.fE.rows c.1 c.2) fun i=>
  some (true,Ex.go (i.2,i.1)))) fun _=>none) (Ex.go (d,k))) fun n=>
  Ex.on n (fun j=>
  some (Ex.go (j.1,j.2,e,f))) some) else(
  some (Ex.rt e))) fun r=>
  Ex.on r (fun g=>
  z19 N round a p d g.1 g.2.1 g.2.2.1 g.2.2.2) some
def z3z(N:Nat)(m:Mach)(round:Bool):Option ((List Int)×Int):=
 bd (z0c N m) fun b=>
 bif decide (b≠0) then(
 some (([]:(List Int)),b)) else(
 bd (l6 N m (fun e f=>z99 N e f)) fun a=>
 bd (z0f N (⟨(⟨a.fE.inputs,a.fE.outputs,a.fE.rows⟩:Mach),a.fF,a.fJ⟩:Sd) 0 round) fun d=>
 bif !d then(
 some (([]:(List Int)),7)) else(
 bif decide (256<a.fJ) then(
 some (([]:(List Int)),3)) else(
 gd (okM 8 a.fJ∧0≤(0:Int)∧(0:Int)≤a.fJ)<|
 bd (
 z19 N round a N (-1) a.fJ a.fF (mk 0 (0:Int)) 0) fun c=>
 gd (c.length=a.fJ.toNat)<|
 some (c,0))))
def z2z(N:Nat)(m:Mach):Option (Int×Int):=
 bd (z0c N m) fun c=>
 bif decide (c≠0) then(
 some (0,c)) else(
 bd (z1v N m true) fun a=>
 bif !a then(
 some (0,7)) else(
 bd (z03 N m) fun b=>
 some (b.fJ,0)))
def av(N:Nat)(a:(List Int))(b:(List Int)):Nat→Int→Option (Ex (Unit) (Int))
 |0,_=>none
 |d+1,c=>
  bif decide (c<(↑a.length:Int)) then(
  gd (okI a c)<|
  gd (okI b c)<|
  bif decide ((ix a c)<(ix b c)) then(
  some (Ex.rt (-1))) else(
  gd (okI a c)<|
  gd (okI b c)<|
  bif decide ((ix b c)<(ix a c)) then(
  some (Ex.rt 1)) else(
  gd (in64 (c+1))<|
  av N a b d (c+1)))) else(
  some (Ex.go ()))
def z3s(N:Nat)(a:(List Int))(b:(List Int)):Option Int:=
 bif decide ((↑a.length:Int)<(↑b.length:Int)) then(
 some (-1)) else(
 bif decide ((↑b.length:Int)<(↑a.length:Int)) then(
 some 1) else(
 bd (
 av N a b N 0) fun c=>
 Ex.on c (fun d=>
 some 0) some))
def z01(N:Nat)(a:(List Int))(b:(List Int)):Option Bool:=
 bd (z3s N a b) fun c=>
 some (decide (c=0))
def l5(N:Nat)(m:Mach)(tour:(List Int))(round:(List Int))(exact:(List Int))(exactRound:(List Int))(e:(Int×Int×Int×Int))(length:Int):Option Bool:=
 bd (z14 N m false) fun b=>
 bd (z14 N m true) fun a=>
 bd (z3z N m false) fun c=>
 bd (z3z N m true) fun d=>
 bd (z2z N m) fun h=>
 bd (gop (true&&((decide (((b.2,a.2,c.2,d.2):(Int×Int×Int×Int))=e))==true)) (z01 N b.1 tour)) fun f=>
 bd (gop (true&&(((decide (((b.2,a.2,c.2,d.2):(Int×Int×Int×Int))=e))&&(f.getD default))==true)) (z01 N a.1 round)) fun g=>
 bd (gop (true&&((((decide (((b.2,a.2,c.2,d.2):(Int×Int×Int×Int))=e))&&(f.getD default))&&(g.getD default))==true)) (z01 N c.1 exact)) fun i=>
 bd (gop (true&&(((((decide (((b.2,a.2,c.2,d.2):(Int×Int×Int×Int))=e))&&(f.getD default))&&(g.getD default))&&(i.getD default))==true)) (z01 N d.1 exactRound)) fun j=>
 some (((((((decide (((b.2,a.2,c.2,d.2):(Int×Int×Int×Int))=e))&&(f.getD default))&&(g.getD default))&&(i.getD default))&&(j.getD default))&&(decide (h.1=length)))&&(decide (h.2=a.2)))
def z6i(N:Nat):Option Mach:=
 some (⟨2,1,([([(⟨1,0⟩:Edge),(⟨1,0⟩:Edge)]:List Edge),([(⟨0,0⟩:Edge),(⟨(-1),(-1)⟩:Edge)]:List Edge)]:List (List Edge))⟩:Mach)
def ny(N:Nat):Option Bool:=
 bd (z1z N) fun o=>
 bd (z9n N o) fun b=>
 bd (z1b N) fun m=>
 bd (z9n N m) fun c=>
 bd (z1b N) fun n=>
 bd (z2d N n) fun d=>
 bd (gop (true&&((((decide (b.2=0))&&(decide (c.2=0)))&&(decide (d.2=7)))==true)) (z2y N b.1 ([([0,1]:List Int)]:List (List Int)))) fun f=>
 bd (gop (true&&(((((decide (b.2=0))&&(decide (c.2=0)))&&(decide (d.2=7)))&&(f.getD default))==true)) (z2y N c.1 ([([0]:List Int),([1]:List Int)]:List (List Int)))) fun a=>
 bd (gop (true&&((((((decide (b.2=0))&&(decide (c.2=0)))&&(decide (d.2=7)))&&(f.getD default))&&(a.getD default))==true)) (z1z N)) fun i=>
 bd (gop (true&&((((((decide (b.2=0))&&(decide (c.2=0)))&&(decide (d.2=7)))&&(f.getD default))&&(a.getD default))==true)) (l5 N (i.getD default) ([0,1,0,1]:List Int) ([0,1,0,1]:List Int) ([0,1,0,1]:List Int) ([0,1,0,1]:List Int) ((0,0,0,0):(Int×Int×Int×Int)) 4)) fun e=>
 bd (gop (true&&(((((((decide (b.2=0))&&(decide (c.2=0)))&&(decide (d.2=7)))&&(f.getD default))&&(a.getD default))&&(e.getD default))==true)) (z6i N)) fun j=>
 bd (gop (true&&(((((((decide (b.2=0))&&(decide (c.2=0)))&&(decide (d.2=7)))&&(f.getD default))&&(a.getD default))&&(e.getD default))==true)) (l5 N (j.getD default) ([0,0,1]:List Int) ([0,0,1,0]:List Int) ([0,0,1]:List Int) ([]:(List Int)) ((0,0,0,7):(Int×Int×Int×Int)) 4)) fun g=>
 bd (gop (true&&((((((((decide (b.2=0))&&(decide (c.2=0)))&&(decide (d.2=7)))&&(f.getD default))&&(a.getD default))&&(e.getD default))&&(g.getD default))==true)) (z1b N)) fun k=>
 bd (gop (true&&((((((((decide (b.2=0))&&(decide (c.2=0)))&&(decide (d.2=7)))&&(f.getD default))&&(a.getD default))&&(e.getD default))&&(g.getD default))==true)) (l5 N (k.getD default) ([0,0]:List Int) ([]:(List Int)) ([0,0]:List Int) ([]:(List Int)) ((0,7,0,7):(Int×Int×Int×Int)) 0)) fun h=>
 bd (gop (true&&(((((((((decide (b.2=0))&&(decide (c.2=0)))&&(decide (d.2=7)))&&(f.getD default))&&(a.getD default))&&(e.getD default))&&(g.getD default))&&(h.getD default))==true)) (l5 N (⟨1,1,([([(⟨(-1),(-1)⟩:Edge)]:List Edge)]:List (List Edge))⟩:Mach) ([]:(List Int)) ([]:(List Int)) ([]:(List Int)) ([]:(List Int)) ((0,0,0,0):(Int×Int×Int×Int)) 0)) fun l=>
 some (((((((((decide (b.2=0))&&(decide (c.2=0)))&&(decide (d.2=7)))&&(f.getD default))&&(a.getD default))&&(e.getD default))&&(g.getD default))&&(h.getD default))&&(l.getD default))
def xx(N:Nat)(x:Sg)(b:Int):Nat→(List Edge)→Int→Option (List Edge)
 |0,_,_=>none
 |e+1,d,a=>
  bif decide (a<((1:Int)+(x.fO%2))) then(
  bd (
  gd (in64 (b*((1:Int)+(x.fO%2))))<|
  gd (in64 ((b*((1:Int)+(x.fO%2)))+a))<|
  gd ((true&&((decide (((b*((1:Int)+(x.fO%2)))+a)<(↑x.fZ.length:Int)))==true))=true→okI x.fZ ((b*((1:Int)+(x.fO%2)))+a))<|
  gd ((true&&((decide (((b*((1:Int)+(x.fO%2)))+a)<(↑x.fZ.length:Int)))==true))=true→okR (ix x.fZ ((b*((1:Int)+(x.fO%2)))+a)) 8)<|
  bif (decide (((b*((1:Int)+(x.fO%2)))+a)<(↑x.fZ.length:Int)))&&(decide (((ix x.fZ ((b*((1:Int)+(x.fO%2)))+a))%8)<6)) then(
  gd (okI x.fZ ((b*((1:Int)+(x.fO%2)))+a))<|
  gd (8≠(0:Int))<|
  gd (in64 (IntKind.u8.wrap (Int.tdiv (ix x.fZ ((b*((1:Int)+(x.fO%2)))+a)) 8)))<|
  gd (okR (IntKind.u8.wrap (Int.tdiv (ix x.fZ ((b*((1:Int)+(x.fO%2)))+a)) 8)) ((1:Int)+(x.fAe%5)))<|
  gd (okI x.fZ ((b*((1:Int)+(x.fO%2)))+a))<|
  gd (in64 (ix x.fZ ((b*((1:Int)+(x.fO%2)))+a)))<|
  gd (okR (ix x.fZ ((b*((1:Int)+(x.fO%2)))+a)) 2)<|
  some ((IntKind.u8.wrap (Int.tdiv (ix x.fZ ((b*((1:Int)+(x.fO%2)))+a)) 8))%((1:Int)+(x.fAe%5)),(ix x.fZ ((b*((1:Int)+(x.fO%2)))+a))%2)) else(
  some ((-1),(-1)))) fun c=>
  gd (fits 16 d ([(⟨c.1,c.2⟩:Edge)]:List Edge))<|
  gd (in64 (a+1))<|
  xx N x b e (d++([(⟨c.1,c.2⟩:Edge)]:List Edge)) (a+1)) else(
  some d)
def xh(N:Nat)(x:Sg):Nat→Int→(List (List Edge))→Option (List (List Edge))
 |0,_,_=>none
 |d+1,a,b=>
  bif decide (a<((1:Int)+(x.fAe%5))) then(
  bd (
  xx N x a N ([]:List Edge) 0) fun c=>
  gd (fits 24 b ([c]:List (List Edge)))<|
  gd (in64 (a+1))<|
  xh N x d (a+1) (b++([c]:List (List Edge)))) else(
  some b)
def z13(N:Nat)(x:Sg):Option Mach:=
 gd (in64 x.fAe)<|
 gd (okR x.fAe 5)<|
 gd (in64 ((1:Int)+(x.fAe%5)))<|
 gd (in64 x.fO)<|
 gd (okR x.fO 2)<|
 gd (in64 ((1:Int)+(x.fO%2)))<|
 bd (
 xh N x N 0 ([]:List (List Edge))) fun b=>
 bd (mr N (⟨(1:Int)+(x.fO%2),2,b⟩:Mach)) fun a=>
 some (⟨a.inputs,a.outputs,a.rows⟩:Mach)
def yw(N:Nat)(m:Mach)(b:Int):Nat→Int→(List (Int×Int))→Option (List (Int×Int))
 |0,_,_=>none
 |d+1,a,c=>
  bif decide (a<m.inputs) then(
  bd (
  gd (okI m.rows b)<|
  gd (okI (ix m.rows b) a)<|
  bif decide (((ix (ix m.rows b) a).to)≠(-1)) then(
  gd (fits 16 c ([((b,a):(Int×Int))]:List (Int×Int)))<|
  some (c++([((b,a):(Int×Int))]:List (Int×Int)))) else(
  some c)) fun e=>
  gd (in64 (a+1))<|
  yw N m b d (a+1) e) else(
  some c)
def gy(N:Nat)(m:Mach):Nat→(List (Int×Int))→Int→Option (List (Int×Int))
 |0,_,_=>none
 |c+1,b,a=>
  bif decide (a<(↑m.rows.length:Int)) then(
  bd (
  yw N m a N 0 b) fun d=>
  gd (in64 (a+1))<|
  gy N m c d (a+1)) else(
  some b)
def aa(N:Nat)(m:Mach):Option (List (Int×Int)):=
 bd (
 gy N m N ([]:List (Int×Int)) 0) fun a=>
 some a
def cu(N:Nat)(l_:(List (Int×Int)))(s:Int)(i:Int):Nat→Int→Option (Ex (Unit) (Int))
 |0,_=>none
 |b+1,a=>
  bif decide (a<(↑l_.length:Int)) then(
  gd (okI l_ a)<|
  bif decide (((ix l_ a).1)=s∧((ix l_ a).2)=i) then(
  gd (okSh .i64 a)<|
  some (Ex.rt (z1w .i64 (1:Int) a))) else(
  gd (in64 (a+1))<|
  cu N l_ s i b (a+1))) else(
  some (Ex.go ()))
def z2c(N:Nat)(l_:(List (Int×Int)))(s:Int)(i:Int):Option Int:=
 bd (
 cu N l_ s i N 0) fun a=>
 Ex.on a (fun b=>
 some 0) some
def ma(N:Nat)(b:List Sc):Nat→(List Int)→Int→Option (List Int)
 |0,_,_=>none
 |d+1,c,a=>
  gd (okI b a)<|
  bif decide (0≤((ix b a).fD)) then(
  gd (okI b a)<|
  gd (fits 8 ([(ix b a).fA]:List Int) c)<|
  gd (okI b a)<|
  ma N b d (([(ix b a).fA]:List Int)++c) ((ix b a).fD)) else(
  some c)
def y7(N:Nat)(m:Mach)(i:(List (Int×Int)))(a:Int)(c:List Sc):Nat→Int→(List Bool)→(List Sc)→Option (Ex (List Bool×List Sc) (Ex (Unit) ((List Int)×Bool)))
 |0,_,_,_=>none
 |h+1,b,e,f=>
  bif decide (b<m.inputs) then(
  bd (
  gd (okI m.rows ((ix c a).fG))<|
  gd (okI (ix m.rows ((ix c a).fG)) b)<|
  bif decide (((ix (ix m.rows ((ix c a).fG)) b).to)=(-1)) then(
  some (e,f)) else(
  bd (z2c N i ((ix c a).fG) b) fun d=>
  gd (okB .i64 ((ix c a).fI) d)<|
  gd (in64 ((ior ((ix c a).fI) d)*(↑m.rows.length:Int)))<|
  gd (in64 (((ior ((ix c a).fI) d)*(↑m.rows.length:Int))+((ix (ix m.rows ((ix c a).fG)) b).to)))<|
  gd (okI e (((ior ((ix c a).fI) d)*(↑m.rows.length:Int))+((ix (ix m.rows ((ix c a).fG)) b).to)))<|
  bif !(ix e (((ior ((ix c a).fI) d)*(↑m.rows.length:Int))+((ix (ix m.rows ((ix c a).fG)) b).to))) then(
  gd (in64 ((ior ((ix c a).fI) d)*(↑m.rows.length:Int)))<|
  gd (in64 (((ior ((ix c a).fI) d)*(↑m.rows.length:Int))+((ix (ix m.rows ((ix c a).fG)) b).to)))<|
  gd (okI e (((ior ((ix c a).fI) d)*(↑m.rows.length:Int))+((ix (ix m.rows ((ix c a).fG)) b).to)))<|
  gd (fits 32 f ([(⟨(ix (ix m.rows ((ix c a).fG)) b).to,ior ((ix c a).fI) d,a,b⟩:Sc)]:List Sc))<|
  some ((up e (((ior ((ix c a).fI) d)*(↑m.rows.length:Int))+((ix (ix m.rows ((ix c a).fG)) b).to)) true),(f++([(⟨(ix (ix m.rows ((ix c a).fG)) b).to,ior ((ix c a).fI) d,a,b⟩:Sc)]:List Sc)))) else(
  some (e,f)))) fun g=>
  gd (in64 (b+1))<|
  y7 N m i a c h (b+1) g.1 g.2) else(
  some (Ex.go (e,f)))
def mf(N:Nat)(m:Mach)(round:Bool)(d:(List (Int×Int))):Nat→Int→(List Bool)→(List Sc)→Option (Ex (Unit) ((List Int)×Bool))
 |0,_,_,_=>none
 |e+1,a,f,b=>
  bif decide (a<(↑b.length:Int)) then(
  bd (
  gd (okI b a)<|
  bif (decide (((ix b a).fI)=((z1w .i64 (1:Int) (↑d.length:Int))-1)))&&((!round)||(decide (((ix b a).fG)=0))) then(
  bd (
  ma N b N ([]:List Int) a) fun g=>
  some (Ex.rt (Ex.rt (g,true)))) else(
  y7 N m d a b N 0 f b)) fun h=>
  Ex.on h (fun c=>
  gd (in64 (a+1))<|
  mf N m round d e (a+1) c.1 c.2) some) else(
  some (Ex.go ()))
def z16(N:Nat)(m:Mach)(round:Bool):Option ((List Int)×Bool):=
 bd (aa N m) fun a=>
 gd (okSh .i64 (↑a.length:Int))<|
 gd (in64 ((z1w .i64 (1:Int) (↑a.length:Int))-1))<|
 gd (in64 (((z1w .i64 (1:Int) (↑a.length:Int))-1)+1))<|
 gd (in64 ((↑m.rows.length:Int)*(((z1w .i64 (1:Int) (↑a.length:Int))-1)+1)))<|
 gd (okM 1 ((↑m.rows.length:Int)*(((z1w .i64 (1:Int) (↑a.length:Int))-1)+1)))<|
 gd (okI (mk ((↑m.rows.length:Int)*(((z1w .i64 (1:Int) (↑a.length:Int))-1)+1)) false) 0)<|
 bd (
 mf N m round a N 0 (up (mk ((↑m.rows.length:Int)*(((z1w .i64 (1:Int) (↑a.length:Int))-1)+1)) false) 0 true) ([(⟨0,0,(-1),0⟩:Sc)]:List Sc)) fun b=>
 Ex.on b (fun c=>
 some (([]:(List Int)),false)) some
def yu(N:Nat)(m:Mach):Nat→(List (List Int))→Int→Option (List (List Int))
 |0,_,_=>none
 |c+1,a,b=>
  bif decide (b<(↑m.rows.length:Int)) then(
  gd (okM 8 m.inputs)<|
  gd (fits 24 a [(mk m.inputs (0:Int))])<|
  gd (in64 (b+1))<|
  yu N m c (a++[(mk m.inputs (0:Int))]) (b+1)) else(
  some a)
def bg(N:Nat)(m:Mach)(w_:(List Int)):Nat→Int→Int→(List (List Int))→Option (Ex (Int×List (List Int)) ((List (List Int))×Int×Bool))
 |0,_,_,_=>none
 |d+1,b,a,c=>
  bif decide (a<(↑w_.length:Int)) then(
  gd (okI m.rows b)<|
  gd (okI w_ a)<|
  gd (okI (ix m.rows b) (ix w_ a))<|
  bif decide (((ix (ix m.rows b) (ix w_ a)).to)=(-1)) then(
  some (Ex.rt (([]:(List (List Int))),0,false))) else(
  gd (okI c b)<|
  gd (okI w_ a)<|
  gd (okI (ix c b) (ix w_ a))<|
  gd (in64 ((ix (ix c b) (ix w_ a))+1))<|
  gd (okI (ix c b) (ix w_ a))<|
  gd (in64 (a+1))<|
  bg N m w_ d ((ix (ix m.rows b) (ix w_ a)).to) (a+1) (up c b (up (ix c b) (ix w_ a) ((ix (ix c b) (ix w_ a))+1))))) else(
  some (Ex.go (b,c)))
def z0w(N:Nat)(m:Mach)(w_:(List Int)):Option ((List (List Int))×Int×Bool):=
 bd (
 yu N m N ([]:List (List Int)) 0) fun c=>
 bd (
 bg N m w_ N 0 0 c) fun b=>
 Ex.on b (fun a=>
 some (a.2,a.1,true)) some
def vz(N:Nat)(m:Mach)(w_:(List Int)):Nat→Int→Option (Ex (Unit) (Bool))
 |0,_=>none
 |b+1,a=>
  bif decide (a<(↑w_.length:Int)) then(
  gd (okI w_ a)<|
  gd ((true&&((decide ((ix w_ a)<0))==false))=true→okI w_ a)<|
  bif (decide ((ix w_ a)<0))||(decide (m.inputs≤(ix w_ a))) then(
  some (Ex.rt false)) else(
  gd (in64 (a+1))<|
  vz N m w_ b (a+1))) else(
  some (Ex.go ()))
def vv(N:Nat)(c:(List (List Int))×Int×Bool)(b:(List (Int×Int))):Nat→Int→Option (Ex (Unit) (Bool))
 |0,_=>none
 |d+1,a=>
  bif decide (a<(↑b.length:Int)) then(
  gd (okI b a)<|
  gd (okI c.1 ((ix b a).1))<|
  gd (okI b a)<|
  gd (okI (ix c.1 ((ix b a).1)) ((ix b a).2))<|
  bif decide ((ix (ix c.1 ((ix b a).1)) ((ix b a).2))=0) then(
  some (Ex.rt false)) else(
  gd (in64 (a+1))<|
  vv N c b d (a+1))) else(
  some (Ex.go ()))
def om(N:Nat)(m:Mach)(w_:(List Int))(round:Bool):Option Bool:=
 bif decide (256<(↑w_.length:Int)) then(
 some false) else(
 bd (
 vz N m w_ N 0) fun d=>
 Ex.on d (fun f=>
 bd (z0w N m w_) fun a=>
 bif (!a.2.2)||(round&&(decide (a.2.1≠0))) then(
 some false) else(
 bd (aa N m) fun b=>
 bd (
 vv N a b N 0) fun c=>
 Ex.on c (fun e=>
 some true) some)) some)
def oz(N:Nat)(x:Sg):Option Bool:=
 bd (z13 N x) fun c=>
 bd (z2z N (⟨c.inputs,c.outputs,c.rows⟩:Mach)) fun b=>
 bd (z2d N (⟨c.inputs,c.outputs,c.rows⟩:Mach)) fun a=>
 bd (z16 N (⟨c.inputs,c.outputs,c.rows⟩:Mach) true) fun d=>
 bif !d.2 then(
 bd (gop (true&&(((((decide (b.2=7))&&(decide (a.2=7)))&&(decide (b.1=0)))&&(decide ((↑a.1.length:Int)=0)))==true)) (ny N)) fun g=>
 some (((((decide (b.2=7))&&(decide (a.2=7)))&&(decide (b.1=0)))&&(decide ((↑a.1.length:Int)=0)))&&(g.getD default))) else(
 bd (gop (true&&(((((decide (b.2=0))&&(decide (a.2=0)))&&(decide (b.1=(↑d.1.length:Int))))&&(decide ((↑a.1.length:Int)=b.1)))==true)) (om N (⟨c.inputs,c.outputs,c.rows⟩:Mach) a.1 true)) fun e=>
 bd (gop (true&&(((((((decide (b.2=0))&&(decide (a.2=0)))&&(decide (b.1=(↑d.1.length:Int))))&&(decide ((↑a.1.length:Int)=b.1)))&&(e.getD default))&&(decide ((↑a.1.length:Int)=(↑a.1.length:Int))))==true)) (ny N)) fun f=>
 some (((((((decide (b.2=0))&&(decide (a.2=0)))&&(decide (b.1=(↑d.1.length:Int))))&&(decide ((↑a.1.length:Int)=b.1)))&&(e.getD default))&&(decide ((↑a.1.length:Int)=(↑a.1.length:Int))))&&(f.getD default)))
def ax(N:Nat)(x:MDat):Option Bool:=
 bd (z1c N x) fun m=>
 bd (mr N m) fun a=>
 bd (aa N (⟨a.inputs,a.outputs,a.rows⟩:Mach)) fun e=>
 bd (z0r N (⟨a.inputs,a.outputs,a.rows⟩:Mach)) fun k=>
 bd (z2z N (⟨a.inputs,a.outputs,a.rows⟩:Mach)) fun c=>
 bd (z2d N (⟨a.inputs,a.outputs,a.rows⟩:Mach)) fun d=>
 bd (z3z N (⟨a.inputs,a.outputs,a.rows⟩:Mach) true) fun g=>
 bif !(decide ((↑k.length:Int)=1)) then(
 bd (gop (true&&((((decide (c.2=7))&&(decide (d.2=7)))&&(decide (g.2=7)))==true)) (ny N)) fun l=>
 some ((((decide (c.2=7))&&(decide (d.2=7)))&&(decide (g.2=7)))&&(l.getD default))) else(
 bd (gop (true&&(((((decide (c.2≠0))||(decide (d.2≠0)))||(decide ((↑d.1.length:Int)≠c.1)))||(decide (c.1<(↑e.length:Int))))==false)) (om N (⟨a.inputs,a.outputs,a.rows⟩:Mach) d.1 true)) fun h=>
 bif (((((decide (c.2≠0))||(decide (d.2≠0)))||(decide ((↑d.1.length:Int)≠c.1)))||(decide (c.1<(↑e.length:Int))))||(!(h.getD default)))||(decide ((decide (c.1=(↑e.length:Int)))≠(decide (g.2=0)))) then(
 some false) else(
 bd (z14 N (⟨a.inputs,a.outputs,a.rows⟩:Mach) false) fun b=>
 bif decide (16<(↑e.length:Int)) then(
 bd (gop (true&&(((decide (b.2=3))&&(decide ((↑b.1.length:Int)=0)))==true)) (ny N)) fun i=>
 some (((decide (b.2=3))&&(decide ((↑b.1.length:Int)=0)))&&(i.getD default))) else(
 bd (gop (true&&(((decide (b.2=0))&&(decide ((↑b.1.length:Int)≤c.1)))==true)) (om N (⟨a.inputs,a.outputs,a.rows⟩:Mach) b.1 false)) fun f=>
 bd (gop (true&&((((decide (b.2=0))&&(decide ((↑b.1.length:Int)≤c.1)))&&(f.getD default))==true)) (ny N)) fun j=>
 some ((((decide (b.2=0))&&(decide ((↑b.1.length:Int)≤c.1)))&&(f.getD default))&&(j.getD default)))))
end GV
end Go.Proofs.Ytdhccodneoebpaa
