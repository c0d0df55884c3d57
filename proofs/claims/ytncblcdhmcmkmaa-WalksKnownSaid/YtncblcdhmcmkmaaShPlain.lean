import Derived.Test.YtncblcdhmcmkmaaShTypes
set_option linter.unusedVariables false
set_option linter.unusedSimpArgs false
namespace Go.Proofs.Ytncblcdhmcmkmaa
namespace GV
set_option maxRecDepth 100000
def bz(N:Nat)(x:MDat)(c:Int):Nat→(List Edge)→Int→Option (List Edge)
 |0,_,_=>none
 |e+1,d,b=>
  bif decide (b<((1:Int)+(x.ins%3))) then(
  bd (
  bd (
  gd (in64 (c*((1:Int)+(x.ins%3))))<|
  gd (in64 ((c*((1:Int)+(x.ins%3)))+b))<|
  bif decide (((c*((1:Int)+(x.ins%3)))+b)<(↑x.edges.length:Int)) then(
  gd (okI x.edges ((c*((1:Int)+(x.ins%3)))+b))<|
  gd (in64 (ix x.edges ((c*((1:Int)+(x.ins%3)))+b)))<|
  some (ix x.edges ((c*((1:Int)+(x.ins%3)))+b))) else(
  some 0)) fun a=>
  gd ((true&&(x.part==true))=true→okR a 4)<|
  bif x.part&&(decide ((a%4)=3)) then(
  gd (fits 16 d ([(⟨(-1),(-1)⟩:Edge)]:List Edge))<|
  some (d++([(⟨(-1),(-1)⟩:Edge)]:List Edge))) else(
  gd (okQ a 4)<|
  gd (okR (a/4) ((1:Int)+(x.states%6)))<|
  gd (okQ a 4)<|
  gd (okQ (a/4) ((1:Int)+(x.states%6)))<|
  gd (okR ((a/4)/((1:Int)+(x.states%6))) ((1:Int)+(x.outs%3)))<|
  gd (fits 16 d ([(⟨(a/4)%((1:Int)+(x.states%6)),((a/4)/((1:Int)+(x.states%6)))%((1:Int)+(x.outs%3))⟩:Edge)]:List Edge))<|
  some (d++([(⟨(a/4)%((1:Int)+(x.states%6)),((a/4)/((1:Int)+(x.states%6)))%((1:Int)+(x.outs%3))⟩:Edge)]:List Edge)))) fun f=>
  gd (in64 (b+1))<|
  bz N x c e f (b+1)) else(
  some d)
def nu(N:Nat)(x:MDat):Nat→Int→(List (List Edge))→Option (List (List Edge))
 |0,_,_=>none
 |d+1,a,b=>
  bif decide (a<((1:Int)+(x.states%6))) then(
  bd (
  bz N x a N ([]:List Edge) 0) fun c=>
  gd (fits 24 b ([c]:List (List Edge)))<|
  gd (in64 (a+1))<|
  nu N x d (a+1) (b++([c]:List (List Edge)))) else(
  some b)
def ni(N:Nat)(x:MDat):Option Mach:=
 gd (okR x.states 6)<|
 gd (in64 (x.states%6))<|
 gd (in64 ((1:Int)+(x.states%6)))<|
 gd (okR x.ins 3)<|
 gd (in64 (x.ins%3))<|
 gd (in64 ((1:Int)+(x.ins%3)))<|
 gd (okR x.outs 3)<|
 gd (in64 (x.outs%3))<|
 gd (in64 ((1:Int)+(x.outs%3)))<|
 bd (
 nu N x N 0 ([]:List (List Edge))) fun a=>
 some (⟨(1:Int)+(x.ins%3),(1:Int)+(x.outs%3),a⟩:Mach)
def wm(N:Nat)(s:(List Edge))(f:Edge→Option Bool):Nat→Int→Option (Ex (Unit) (Int))
 |0,_=>none
 |c+1,a=>
  bif decide (a<(↑s.length:Int)) then(
  gd (okI s a)<|
  bd (f (ix s a)) fun b=>
  bif b then(
  some (Ex.rt a)) else(
  gd (in64 (a+1))<|
  wm N s f c (a+1))) else(
  some (Ex.go ()))
def si(N:Nat)(s:(List Edge))(f:Edge→Option Bool):Option Int:=
 bd (
 wm N s f N 0) fun a=>
 Ex.on a (fun b=>
 some (-1)) some
def om(N:Nat)(s:(List Edge))(f:Edge→Option Bool):Option Bool:=
 bd (si N s f) fun a=>
 some (decide (0≤a))
def z7l(N:Nat):Option Edge:=
 some (⟨(-1),(-1)⟩:Edge)
def z7o(N:Nat)(m:Mach)(x:Edge):Option Bool:=
 bd (z7l N) fun a=>
 some ((decide (x.to=a.to∧x.out=a.out))||((((decide (0≤x.to))&&(decide (x.to<(↑m.rows.length:Int))))&&(decide (0≤x.out)))&&(decide (x.out<m.outputs))))
def z4z(N:Nat)(x:Edge)(p0_:Mach):Option Bool:=
 bd (z7o N p0_ x) fun a=>
 some (!a)
def ah(N:Nat)(m:Mach):Nat→Int→Option (Ex (Unit) (Int))
 |0,_=>none
 |b+1,a=>
  bif decide (a<(↑m.rows.length:Int)) then(
  gd (okI m.rows a)<|
  bd (gop (true&&((decide ((↑(ix m.rows a).length:Int)≠m.inputs))==false)) (om N (ix m.rows a) (fun d=>z4z N d m))) fun c=>
  bif (decide ((↑(ix m.rows a).length:Int)≠m.inputs))||(c.getD default) then(
  some (Ex.rt 1)) else(
  gd (in64 (a+1))<|
  ah N m b (a+1))) else(
  some (Ex.go ()))
def mh(N:Nat)(m:Mach):Option Int:=
 bif ((decide (16<m.inputs))||(decide (16<m.outputs)))||(decide (64<(↑m.rows.length:Int))) then(
 some 3) else(
 bif ((decide (m.inputs<1))||(decide (m.outputs<1)))||(decide ((↑m.rows.length:Int)<1)) then(
 some 1) else(
 bd (
 ah N m N 0) fun a=>
 Ex.on a (fun b=>
 some 0) some))
def z1p(N:Nat)(m:Mach)(from_:Int):Option (Mach×Int):=
 some (m,from_)
def ma(N:Nat)(σ:Type)(p0_:Mach)(b:List Sa):Nat→σ→Int→(List Bool)→(List Sa)→Option (Ex (σ×List Bool×List Sa) (σ))
 |0,_,_,_,_=>none
 |g+1,e,a,c,d=>
  bif decide (a<(↑(ix p0_.rows ((ix b 0).fB)).length:Int)) then(
  bd (
  gd (okI (ix p0_.rows ((ix b 0).fB)) a)<|
  gd ((true&&((decide (((ix (ix p0_.rows ((ix b 0).fB)) a).to)≠(-1)))==true))=true→okI c ((ix (ix p0_.rows ((ix b 0).fB)) a).to))<|
  bif (decide (((ix (ix p0_.rows ((ix b 0).fB)) a).to)≠(-1)))&&(!(ix c ((ix (ix p0_.rows ((ix b 0).fB)) a).to))) then(
  gd (okI c ((ix (ix p0_.rows ((ix b 0).fB)) a).to))<|
  gd (fits 24 d ([(⟨(ix (ix p0_.rows ((ix b 0).fB)) a).to,(ix b 0).fB,a⟩:Sa)]:List Sa))<|
  some (e,(up c ((ix (ix p0_.rows ((ix b 0).fB)) a).to) true),(d++([(⟨(ix (ix p0_.rows ((ix b 0).fB)) a).to,(ix b 0).fB,a⟩:Sa)]:List Sa)))) else(
  some (e,c,d))) fun f=>
  gd (in64 (a+1))<|
  ma N σ p0_ b g f.1 (a+1) f.2.1 f.2.2) else(
  some (Ex.go (e,c,d)))
def r9(N:Nat)(σ:Type)(B:Sa→σ→Option (Bool×σ))(p0_:Mach):Nat→σ→(List Bool)→(List Sa)→Option σ
 |0,_,_,_=>none
 |e+1,d,f,a=>
  bd (
  bif decide (0<(↑a.length:Int)) then(
  gd (okI a 0)<|
  gd (okS a 1 (↑a.length:Int))<|
  bd (B (⟨(ix a 0).fB,(ix a 0).fH,(ix a 0).fG⟩:Sa) d) fun b=>
  bif !b.1 then(
  some (Ex.rt b.2)) else(
  gd (okI p0_.rows ((ix a 0).fB))<|
  ma N σ p0_ a N b.2 0 f (cut a 1 (↑a.length:Int)))) else(
  some (Ex.rt d))) fun g=>
  Ex.on g (fun c=>
  r9 N σ B p0_ e c.1 c.2.1 c.2.2) some
def z08(N:Nat)(p0_:Mach)(p1_:Int)(σ:Type)(B:Sa→σ→Option (Bool×σ))(s0:σ):Option σ:=
 gd (okM 1 (↑p0_.rows.length:Int))<|
 gd (okI (mk (↑p0_.rows.length:Int) false) p1_)<|
 r9 N σ B p0_ N s0 (up (mk (↑p0_.rows.length:Int) false) p1_ true) ([(⟨p1_,(-1),(-1)⟩:Sa)]:List Sa)
def rz(N:Nat)(s:(List Int)):Option (List Int):=
 gd (okS s 0 (↑s.length:Int))<|
 some (cut s 0 (↑s.length:Int))
def fq(N:Nat)(s:(List Int)):Option (List Int):=
 gd (fits 8 ([]:List Int) s)<|
 some (([]:List Int)++s)
def z1q(N:Nat)(m:Mach)(from_:Int):Option ((List (List Int))×(List Bool)):=
 gd (okM 24 (↑m.rows.length:Int))<|
 gd (okM 1 (↑m.rows.length:Int))<|
 bd (z1p N m from_) fun c=>
 bd (z08 N c.1 c.2 (List (List Int)×List Bool) (fun a b=>
 gd (okI b.2 a.fB)<|
 bif decide (a.fH≠(-1)) then(
 gd (okI b.1 a.fH)<|
 bd (fq N (ix b.1 a.fH)) fun d=>
 gd (fits 8 d ([a.fG]:List Int))<|
 bd (rz N (d++([a.fG]:List Int))) fun f=>
 gd (okI b.1 a.fB)<|
 some (true,((up b.1 a.fB f),(up b.2 a.fB true)))) else(
 some (true,(b.1,(up b.2 a.fB true))))) ((mk (↑m.rows.length:Int) ([]:List Int)),(mk (↑m.rows.length:Int) false))) fun e=>
 some (e.1,e.2)
def z3h(N:Nat)(m:Mach):Option ((List (List Int))×(List Bool)×Int):=
 bd (mh N m) fun b=>
 bif decide (b≠0) then(
 some (([]:(List (List Int))),([]:(List Bool)),b)) else(
 bd (z1q N m 0) fun a=>
 some (a.1,a.2,0))
def z05(N:Nat)(m:Mach)(s:Int)(i:Int):Option Edge:=
 bif decide (s<0) then(
 some (⟨(-1),(-1)⟩:Edge)) else(
 gd (okI m.rows s)<|
 gd (okI (ix m.rows s) i)<|
 some (⟨(ix (ix m.rows s) i).to,(ix (ix m.rows s) i).out⟩:Edge))
def gq(N:Nat):Nat→Mach→Int→(List Int)→Option Int
 |0,_,_,_=>none
 |F+1,m,s,w_=>
  bif decide ((↑w_.length:Int)=0) then(
  some s) else(
  gd (okI w_ 0)<|
  bd (z05 N m s (ix w_ 0)) fun b=>
  gd (okS w_ 1 (↑w_.length:Int))<|
  bd ((gq N F) m b.to (cut w_ 1 (↑w_.length:Int))) fun a=>
  some a)
def gm(N:Nat)(inputs:Int):Nat→Int→(List Int)→Option (Ex (List Int) ((List Int)))
 |0,_,_=>none
 |c+1,a,b=>
  bif decide (0≤a) then(
  gd (okI b a)<|
  gd (in64 ((ix b a)+1))<|
  bif decide (((ix b a)+1)<inputs) then(
  gd (okI b a)<|
  gd (in64 ((ix b a)+1))<|
  gd (okI b a)<|
  some (Ex.rt (up b a ((ix b a)+1)))) else(
  gd (okI b a)<|
  gd (in64 (a-1))<|
  gm N inputs c (a-1) (up b a 0))) else(
  some (Ex.go b))
def z09(N:Nat)(w_:(List Int))(inputs:Int):Option (List Int):=
 gd (fits 8 ([]:List Int) w_)<|
 bd (
 gd (in64 ((↑(([]:List Int)++w_).length:Int)-1))<|
 gm N inputs N ((↑(([]:List Int)++w_).length:Int)-1) (([]:List Int)++w_)) fun b=>
 Ex.on b (fun a=>
 gd (fits 8 a ([0]:List Int))<|
 some (a++([0]:List Int))) some
def yj(N:Nat)(m:Mach)(from_:Int):Nat→(List Int)→(List (List Int))→(List Bool)→Option (List (List Int)×List Bool)
 |0,_,_,_=>none
 |g+1,c,d,b=>
  bif decide ((↑c.length:Int)<(↑m.rows.length:Int)) then(
  bd (
  bd (gq N N m from_ c) fun a=>
  gd ((true&&((decide (0≤a))==true))=true→okI b a)<|
  bif (decide (0≤a))&&(!(ix b a)) then(
  gd (okI b a)<|
  gd (okI d a)<|
  some ((up d a c),(up b a true))) else(
  some (d,b))) fun e=>
  bd (z09 N c m.inputs) fun f=>
  yj N m from_ g f e.1 e.2) else(
  some (d,b))
def su(N:Nat)(m:Mach)(from_:Int):Option ((List (List Int))×(List Bool)):=
 gd (okM 24 (↑m.rows.length:Int))<|
 gd (okM 1 (↑m.rows.length:Int))<|
 bd (
 yj N m from_ N ([]:List Int) (mk (↑m.rows.length:Int) ([]:List Int)) (mk (↑m.rows.length:Int) false)) fun a=>
 some (a.1,a.2)
def tu(N:Nat)(m:Mach):Option ((List (List Int))×(List Bool)):=
 bd (su N m 0) fun a=>
 some (a.1,a.2)
def xk(N:Nat)(a:(List Int))(b:(List Int)):Nat→Int→Option (Ex (Unit) (Int))
 |0,_=>none
 |d+1,c=>
  bif decide (c<(↑a.length:Int)) then(
  gd (okI a c)<|
  gd (okI b c)<|
  bif decide ((ix a c)<(ix b c)) then(
  some (Ex.rt (-1))) else(
  gd (okI a c)<|
  gd (okI b c)<|
  bif decide ((ix b c)<(ix a c)) then(
  some (Ex.rt 1)) else(
  gd (in64 (c+1))<|
  xk N a b d (c+1)))) else(
  some (Ex.go ()))
def z02(N:Nat)(a:(List Int))(b:(List Int)):Option Int:=
 bif decide ((↑a.length:Int)<(↑b.length:Int)) then(
 some (-1)) else(
 bif decide ((↑b.length:Int)<(↑a.length:Int)) then(
 some 1) else(
 bd (
 xk N a b N 0) fun c=>
 Ex.on c (fun d=>
 some 0) some))
def bv(N:Nat)(a:(List Int))(b:(List Int)):Option Bool:=
 bd (z02 N a b) fun c=>
 some (decide (c=0))
def jm(N:Nat)(l_:(List Int))(e:Int)(want:(List Int))(f:Int):Option Bool:=
 bd (gop (true&&((decide (e=f))==true)) (bv N l_ want)) fun a=>
 some (((decide (e=f))&&(a.getD default))&&(decide ((↑l_.length:Int)=(↑l_.length:Int))))
def z0w(N:Nat)(m:Mach):Option (List Int):=
 bd (z1p N m 0) fun d=>
 bd (z08 N d.1 d.2 (List Int) (fun a b=>
 gd (fits 8 b ([a.fB]:List Int))<|
 some (true,(b++([a.fB]:List Int)))) ([]:List Int)) fun c=>
 some c
def z2n(N:Nat)(s:(List Int)):Option (List Int):=
 some s
def dz(N:Nat)(σ:Type)(B:Int→σ→Option (Bool×σ))(p0_:(List Int)):Nat→σ→Int→Option σ
 |0,_,_=>none
 |d+1,c,b=>
  bif decide (b<(↑p0_.length:Int)) then(
  gd (okI p0_ b)<|
  bd (B (ix p0_ b) c) fun a=>
  bif !a.1 then(
  some a.2) else(
  gd (in64 (b+1))<|
  dz N σ B p0_ d a.2 (b+1))) else(
  some c)
def z0s(N:Nat)(p0_:(List Int))(σ:Type)(B:Int→σ→Option (Bool×σ))(s0:σ):Option σ:=
 dz N σ B p0_ N s0 0
def slices_Sort_int(N:Nat)(x:List Int):Option (List Int):=
 gd (0<x.length∧x.length<4611686018427387904) (some (z2o x))
def iq(N:Nat)(s:List Int)(seq_0_:(List Int)):Option (List Int):=
 bd (z0s N seq_0_ (List Int) (fun a b=>
 gd (fits 8 b ([a]:List Int))<|
 some (true,(b++([a]:List Int)))) s) fun c=>
 some c
def z1d(N:Nat)(seq_0_:(List Int)):Option (List Int):=
 bd (iq N ([]:List Int) seq_0_) fun a=>
 some a
def z1f(N:Nat)(seq_0_:(List Int)):Option (List Int):=
 bd (z1d N seq_0_) fun b=>
 bd (slices_Sort_int N b) fun a=>
 some a
def z1u(N:Nat)(m:Mach):Option ((List Int)×Int):=
 bd (mh N m) fun e=>
 bif decide (e≠0) then(
 some (([]:(List Int)),e)) else(
 bd (z0w N m) fun a=>
 bd (z2n N a) fun b=>
 bd (z1f N b) fun c=>
 bd (rz N c) fun d=>
 some (d,0))
def kw(N:Nat)(to_:Int)(out:Int):Option Edge:=
 some (⟨to_,out⟩:Edge)
def xu(N:Nat)(s:(List Int))(f:Int→Option Bool):Nat→Int→Option (Ex (Unit) (Int))
 |0,_=>none
 |c+1,a=>
  bif decide (a<(↑s.length:Int)) then(
  gd (okI s a)<|
  bd (f (ix s a)) fun b=>
  bif b then(
  some (Ex.rt a)) else(
  gd (in64 (a+1))<|
  xu N s f c (a+1))) else(
  some (Ex.go ()))
def z0h(N:Nat)(s:(List Int))(f:Int→Option Bool):Option Int:=
 bd (
 xu N s f N 0) fun a=>
 Ex.on a (fun b=>
 some (-1)) some
def lg(N:Nat)(s:(List Int))(f:Int→Option Bool):Option Bool:=
 bd (z0h N s f) fun a=>
 some (decide (0≤a))
def z7k(N:Nat)(s:Int)(p0_:Mach):Option Bool:=
 some ((decide (s<0))||(decide ((↑p0_.rows.length:Int)≤s)))
def z3y(N:Nat)(m:Mach)(l_:(List Int)):Option Int:=
 bd (mh N m) fun b=>
 bif decide (b≠0) then(
 some b) else(
 bd (lg N l_ (fun c=>z7k N c m)) fun a=>
 bif a then(
 some 1) else(
 some 0))
def z11(N:Nat)(m:Mach)(s:Int)(t:Int):Option ((List Int)×Bool×Int):=
 bd (z3y N m ([s,t]:List Int)) fun b=>
 bif decide (b≠0) then(
 some (([]:(List Int)),false,b)) else(
 bd (z1q N m s) fun a=>
 gd (okI a.1 t)<|
 gd (okI a.2 t)<|
 some ((ix a.1 t),(ix a.2 t),0))
def og(N:Nat)(b:(List (List Int))×(List Bool)):Nat→Int→(List Int)→Option (List Int)
 |0,_,_=>none
 |d+1,a,c=>
  bif decide (a<(↑b.1.length:Int)) then(
  bd (
  gd (okI b.1 a)<|
  gd (okI c a)<|
  gd (okI b.2 a)<|
  bif (ix b.2 a) then(
  gd (okI (up c a (-1)) a)<|
  some (up (up c a (-1)) a (↑(ix b.1 a).length:Int))) else(
  some (up c a (-1)))) fun e=>
  gd (in64 (a+1))<|
  og N b d (a+1) e) else(
  some c)
def lw(N:Nat)(m:Mach)(s:Int):Option ((List Int)×Int):=
 bd (z3y N m ([s]:List Int)) fun b=>
 bif decide (b≠0) then(
 some (([]:(List Int)),b)) else(
 bd (z1q N m s) fun a=>
 gd (okM 8 (↑a.1.length:Int))<|
 bd (
 og N a N 0 (mk (↑a.1.length:Int) (0:Int))) fun c=>
 some (c,0))
def z5t(N:Nat)(x:Edge)(p0_:(List (Int×Int))):Option Edge:=
 some (⟨(z6b (0:Int) p0_ x.to),x.out⟩:Edge)
def z0b(N:Nat)(l_:(List Int)):Nat→Int→(List (Int×Int))→Option (List (Int×Int))
 |0,_,_=>none
 |c+1,a,b=>
  bif decide (a<(↑l_.length:Int)) then(
  gd (okI l_ a)<|
  gd (in64 (a+1))<|
  z0b N l_ c (a+1) (z8c b (ix l_ a) a)) else(
  some b)
def z0e(N:Nat)(m:Mach)(l_:(List Int))(d:List (Int×Int))(b:Int):Nat→Int→(List (List Edge))→Option (List (List Edge))
 |0,_,_=>none
 |e+1,a,c=>
  bif decide (a<(↑(ix m.rows (ix l_ b)).length:Int)) then(
  gd (okI (ix m.rows (ix l_ b)) a)<|
  gd (okI c b)<|
  bd (z5t N (⟨(ix (ix m.rows (ix l_ b)) a).to,(ix (ix m.rows (ix l_ b)) a).out⟩:Edge) d) fun f=>
  gd (okI (ix c b) a)<|
  gd (in64 (a+1))<|
  z0e N m l_ d b e (a+1) (up c b (up (ix c b) a f))) else(
  some c)
def z0f(N:Nat)(m:Mach)(l_:(List Int))(c:List (Int×Int)):Nat→Int→(List (List Edge))→Option (List (List Edge))
 |0,_,_=>none
 |d+1,a,b=>
  bif decide (a<(↑l_.length:Int)) then(
  bd (
  gd (okI l_ a)<|
  gd (okM 16 m.inputs)<|
  gd (okI b a)<|
  gd (okI m.rows (ix l_ a))<|
  z0e N m l_ c a N 0 (up b a (mk m.inputs (⟨(0:Int),(0:Int)⟩:Edge)))) fun e=>
  gd (in64 (a+1))<|
  z0f N m l_ c d (a+1) e) else(
  some b)
def z0p(N:Nat)(m:Mach)(l_:(List Int)):Option Mach:=
 bd (
 z0b N l_ N 0 (z8c ([]:List (Int×Int)) (-1) (-1))) fun a=>
 gd (okM 24 (↑l_.length:Int))<|
 bd (
 z0f N m l_ a N 0 (mk (↑l_.length:Int) ([]:List Edge))) fun b=>
 some (⟨m.inputs,m.outputs,b⟩:Mach)
def z4v(N:Nat)(m:Mach):Option (Mach×(List Int)×Int):=
 bd (z1u N m) fun b=>
 bif decide (b.2≠0) then(
 some ((⟨0,0,[]⟩:Mach),([]:(List Int)),b.2)) else(
 bd (z0p N m b.1) fun a=>
 some ((⟨a.inputs,a.outputs,a.rows⟩:Mach),b.1,0))
def ru(N:Nat)(m:Mach):Option (Mach×Int):=
 bd (mh N m) fun c=>
 bif decide (c≠0) then(
 some ((⟨0,0,[]⟩:Mach),c)) else(
 bd (z0w N m) fun b=>
 bd (z0p N m b) fun a=>
 some ((⟨a.inputs,a.outputs,a.rows⟩:Mach),0))
def uo(N:Nat)(s1_:(List (List Edge)))(s2_:(List (List Edge)))(eq:(List Edge)→(List Edge)→Option Bool):Nat→Int→Option (Ex (Unit) (Bool))
 |0,_=>none
 |c+1,a=>
  bif decide (a<(↑s1_.length:Int)) then(
  gd (okI s1_ a)<|
  gd (okI s2_ a)<|
  bd (eq (ix s1_ a) (ix s2_ a)) fun b=>
  bif !b then(
  some (Ex.rt false)) else(
  gd (in64 (a+1))<|
  uo N s1_ s2_ eq c (a+1))) else(
  some (Ex.go ()))
def ic(N:Nat)(s1_:(List (List Edge)))(s2_:(List (List Edge)))(eq:(List Edge)→(List Edge)→Option Bool):Option Bool:=
 bif decide ((↑s1_.length:Int)≠(↑s2_.length:Int)) then(
 some false) else(
 bd (
 uo N s1_ s2_ eq N 0) fun a=>
 Ex.on a (fun b=>
 some true) some)
def xh(N:Nat)(s1_:(List Edge))(s2_:(List Edge)):Nat→Int→Option (Ex (Unit) (Bool))
 |0,_=>none
 |b+1,a=>
  bif decide (a<(↑s1_.length:Int)) then(
  gd (okI s1_ a)<|
  gd (okI s2_ a)<|
  bif decide (¬(((ix s1_ a).to)=((ix s2_ a).to)∧((ix s1_ a).out)=((ix s2_ a).out))) then(
  some (Ex.rt false)) else(
  gd (in64 (a+1))<|
  xh N s1_ s2_ b (a+1))) else(
  some (Ex.go ()))
def z03(N:Nat)(s1_:(List Edge))(s2_:(List Edge)):Option Bool:=
 bif decide ((↑s1_.length:Int)≠(↑s2_.length:Int)) then(
 some false) else(
 bd (
 xh N s1_ s2_ N 0) fun a=>
 Ex.on a (fun b=>
 some true) some)
def z1l(N:Nat)(a:Mach)(b:Mach):Option Bool:=
 bd (mh N a) fun c=>
 bd (gop (true&&((decide (c=0))==true)) (mh N b)) fun d=>
 bd (gop (true&&(((((decide (c=0))&&(decide ((d.getD default)=0)))&&(decide (a.inputs=b.inputs)))&&(decide (a.outputs=b.outputs)))==true)) (ic N a.rows b.rows (fun f g=>z03 N f g))) fun e=>
 some (((((decide (c=0))&&(decide ((d.getD default)=0)))&&(decide (a.inputs=b.inputs)))&&(decide (a.outputs=b.outputs)))&&(e.getD default))
def lm(N:Nat)(m:Mach):Option (Bool×Int):=
 bd (ru N m) fun a=>
 bd (gop (true&&((decide (a.2=0))==true)) (z1l N (⟨a.1.inputs,a.1.outputs,a.1.rows⟩:Mach) m)) fun b=>
 some (((decide (a.2=0))&&(b.getD default)),a.2)
def mf(N:Nat)(vals:(List Int)):Nat→Int→Option (Ex (Unit) (Int))
 |0,_=>none
 |b+1,a=>
  bif decide (a<(↑vals.length:Int)) then(
  gd (okI vals a)<|
  bif decide ((ix vals a)≠0) then(
  some (Ex.rt (ix vals a))) else(
  gd (in64 (a+1))<|
  mf N vals b (a+1))) else(
  some (Ex.go ()))
def z1o(N:Nat)(vals:(List Int)):Option Int:=
 bd (
 mf N vals N 0) fun a=>
 Ex.on a (fun b=>
 some 0) some
def z3q(N:Nat)(x y:Int):Option (Int×Int):=
 gd ((0≤x∧x<18446744073709551616)∧0≤y∧y<18446744073709551616) (some (x*y/18446744073709551616,x*y%18446744073709551616))
def cu(N:Nat):Nat→Int→(List Int)→Option (List Int)
 |0,_,_=>none
 |c+1,a,b=>
  bif decide (a<(↑b.length:Int)) then(
  gd (okS b a (↑b.length:Int))<|
  gd (okS b 0 a)<|
  gd (in64 (a+(↑(min (a.toNat-0) (b.length-a.toNat)):Int)))<|
  cu N c (a+(↑(min (a.toNat-0) (b.length-a.toNat)):Int)) (z4p b a.toNat ((b.drop 0).take (min (a.toNat-0) (b.length-a.toNat))))) else(
  some b)
def z0u(N:Nat)(x:(List Int))(count:Int):Option (List Int):=
 bif decide (count<0) then(
 none) else(
 bd (z3q N (IntKind.u64.wrap (↑x.length:Int)) (IntKind.u64.wrap count)) fun a=>
 bif (decide (0<a.1))||(decide (9223372036854775807<a.2)) then(
 none) else(
 gd (in64 a.2)<|
 gd (okM 8 a.2)<|
 bd (
 cu N N (↑(min x.length (mk a.2 (0:Int)).length):Int) (z4p (mk a.2 (0:Int)) 0 (x.take (min x.length (mk a.2 (0:Int)).length)))) fun b=>
 some b))
def mg(N:Nat)(b:(List Int))(d:(List Int)):Nat→Int→(List Int)→Option (List Int)
 |0,_,_=>none
 |e+1,a,c=>
  bif decide (a<(↑b.length:Int)) then(
  gd (okI b a)<|
  gd (okI d a)<|
  gd (okI c (ix b a))<|
  gd (in64 (a+1))<|
  mg N b d e (a+1) (up c (ix b a) (ix d a))) else(
  some c)
def z0x(N:Nat)(a:Mach)(b:Mach):Option ((List Int)×Bool×Int):=
 bd (mh N a) fun h=>
 bd (mh N b) fun i=>
 bd (z1o N ([h,i]:List Int)) fun c=>
 bif decide (c≠0) then(
 some (([]:(List Int)),false,c)) else(
 bd (z0w N a) fun d=>
 bd (z0w N b) fun e=>
 bd (z0p N a d) fun j=>
 bd (z0p N b e) fun k=>
 bd (z1l N j k) fun l=>
 bif !l then(
 some (([]:(List Int)),false,0)) else(
 bd (z0u N ([(-1)]:List Int) (↑a.rows.length:Int)) fun m=>
 bd (
 mg N d e N 0 m) fun f=>
 bd (rz N f) fun g=>
 some (g,true,0)))
def xz(N:Nat)(a:Mach)(b:Mach)(d:Int):Nat→Int→Option (Ex (Unit) (Ex (Unit) (Bool)))
 |0,_=>none
 |e+1,c=>
  gd (okI a.rows d)<|
  bif decide (c<(↑(ix a.rows d).length:Int)) then(
  gd (okI a.rows d)<|
  gd (okI (ix a.rows d) c)<|
  gd (okI b.rows d)<|
  gd (okI (ix b.rows d) c)<|
  bif decide (¬(((ix (ix a.rows d) c).to)=((ix (ix b.rows d) c).to)∧((ix (ix a.rows d) c).out)=((ix (ix b.rows d) c).out))) then(
  some (Ex.rt (Ex.rt false))) else(
  gd (in64 (c+1))<|
  xz N a b d e (c+1))) else(
  some (Ex.go ()))
def yu(N:Nat)(a:Mach)(b:Mach):Nat→Int→Option (Ex (Unit) (Bool))
 |0,_=>none
 |d+1,c=>
  bif decide (c<(↑a.rows.length:Int)) then(
  bd (
  gd (okI a.rows c)<|
  gd (okI b.rows c)<|
  bif decide ((↑(ix a.rows c).length:Int)≠(↑(ix b.rows c).length:Int)) then(
  some (Ex.rt (Ex.rt false))) else(
  xz N a b c N 0)) fun e=>
  Ex.on e (fun f=>
  gd (in64 (c+1))<|
  yu N a b d (c+1)) some) else(
  some (Ex.go ()))
def fe(N:Nat)(a:Mach)(b:Mach):Option Bool:=
 bif ((decide (a.inputs≠b.inputs))||(decide (a.outputs≠b.outputs)))||(decide ((↑a.rows.length:Int)≠(↑b.rows.length:Int))) then(
 some false) else(
 bd (
 yu N a b N 0) fun c=>
 Ex.on c (fun d=>
 some true) some)
def yz(N:Nat)(m:Mach):Nat→Int→Option (Ex (Unit) (Bool))
 |0,_=>none
 |b+1,a=>
  bif decide (a<(↑m.rows.length:Int)) then(
  gd (okI m.rows a)<|
  gd (okI m.rows a)<|
  bif decide ((↑(ix m.rows a).length:Int)≠(↑(ix m.rows a).length:Int)) then(
  some (Ex.rt false)) else(
  gd (in64 (a+1))<|
  yz N m b (a+1))) else(
  some (Ex.go ()))
def yt(N:Nat)(m:Mach)(e:Int)(want:Mach):Option Bool:=
 bd (gop (true&&((decide (e≠0))==false)) (fe N m want)) fun a=>
 bif ((decide (e≠0))||(!(a.getD default)))||(decide ((↑m.rows.length:Int)≠(↑m.rows.length:Int))) then(
 some false) else(
 bd (
 yz N m N 0) fun b=>
 Ex.on b (fun c=>
 some true) some)
def gp(N:Nat):Option Bool:=
 bd (kw N 2 0) fun q=>
 bd (kw N 0 1) fun r=>
 bd (kw N 1 0) fun b=>
 bd (kw N 2 0) fun c=>
 bd (kw N (-1) (-1)) fun d=>
 bd (kw N 3 1) fun e=>
 bd (kw N 2 0) fun f=>
 bd (kw N 0 0) fun g=>
 bd (kw N 1 0) fun D=>
 bd (kw N 0 1) fun E=>
 bd (kw N (-1) (-1)) fun s=>
 bd (kw N 2 1) fun t=>
 bd (kw N 1 0) fun u=>
 bd (kw N 0 0) fun v=>
 bd (z1u N (⟨2,2,([([(⟨q.to,q.out⟩:Edge),(⟨r.to,r.out⟩:Edge)]:List Edge),([(⟨b.to,b.out⟩:Edge),(⟨c.to,c.out⟩:Edge)]:List Edge),([(⟨d.to,d.out⟩:Edge),(⟨e.to,e.out⟩:Edge)]:List Edge),([(⟨f.to,f.out⟩:Edge),(⟨g.to,g.out⟩:Edge)]:List Edge)]:List (List Edge))⟩:Mach)) fun I=>
 bd (z3h N (⟨2,2,([([(⟨q.to,q.out⟩:Edge),(⟨r.to,r.out⟩:Edge)]:List Edge),([(⟨b.to,b.out⟩:Edge),(⟨c.to,c.out⟩:Edge)]:List Edge),([(⟨d.to,d.out⟩:Edge),(⟨e.to,e.out⟩:Edge)]:List Edge),([(⟨f.to,f.out⟩:Edge),(⟨g.to,g.out⟩:Edge)]:List Edge)]:List (List Edge))⟩:Mach)) fun a=>
 bd (jm N I.1 I.2 ([0,2,3]:List Int) 0) fun h=>
 gd ((true&&(((((!h)||(decide (a.2.2≠0)))||(decide ((↑a.1.length:Int)≠4)))||(decide ((↑a.2.1.length:Int)≠4)))==false))=true→okI a.2.1 0)<|
 gd ((true&&((((((!h)||(decide (a.2.2≠0)))||(decide ((↑a.1.length:Int)≠4)))||(decide ((↑a.2.1.length:Int)≠4)))||(!(ix a.2.1 0)))==false))=true→okI a.2.1 1)<|
 gd ((true&&(((((((!h)||(decide (a.2.2≠0)))||(decide ((↑a.1.length:Int)≠4)))||(decide ((↑a.2.1.length:Int)≠4)))||(!(ix a.2.1 0)))||(ix a.2.1 1))==false))=true→okI a.2.1 2)<|
 gd ((true&&((((((((!h)||(decide (a.2.2≠0)))||(decide ((↑a.1.length:Int)≠4)))||(decide ((↑a.2.1.length:Int)≠4)))||(!(ix a.2.1 0)))||(ix a.2.1 1))||(!(ix a.2.1 2)))==false))=true→okI a.2.1 3)<|
 gd ((true&&(((((((((!h)||(decide (a.2.2≠0)))||(decide ((↑a.1.length:Int)≠4)))||(decide ((↑a.2.1.length:Int)≠4)))||(!(ix a.2.1 0)))||(ix a.2.1 1))||(!(ix a.2.1 2)))||(!(ix a.2.1 3)))==false))=true→okI a.1 0)<|
 bd (gop (true&&(((((((((!h)||(decide (a.2.2≠0)))||(decide ((↑a.1.length:Int)≠4)))||(decide ((↑a.2.1.length:Int)≠4)))||(!(ix a.2.1 0)))||(ix a.2.1 1))||(!(ix a.2.1 2)))||(!(ix a.2.1 3)))==false)) (jm N (ix a.1 0) 0 ([]:(List Int)) 0)) fun o=>
 gd ((true&&((((((((((!h)||(decide (a.2.2≠0)))||(decide ((↑a.1.length:Int)≠4)))||(decide ((↑a.2.1.length:Int)≠4)))||(!(ix a.2.1 0)))||(ix a.2.1 1))||(!(ix a.2.1 2)))||(!(ix a.2.1 3)))||(!(o.getD default)))==false))=true→okI a.1 1)<|
 bd (gop (true&&((((((((((!h)||(decide (a.2.2≠0)))||(decide ((↑a.1.length:Int)≠4)))||(decide ((↑a.2.1.length:Int)≠4)))||(!(ix a.2.1 0)))||(ix a.2.1 1))||(!(ix a.2.1 2)))||(!(ix a.2.1 3)))||(!(o.getD default)))==false)) (jm N (ix a.1 1) 0 ([]:(List Int)) 0)) fun y=>
 gd ((true&&(((((((((((!h)||(decide (a.2.2≠0)))||(decide ((↑a.1.length:Int)≠4)))||(decide ((↑a.2.1.length:Int)≠4)))||(!(ix a.2.1 0)))||(ix a.2.1 1))||(!(ix a.2.1 2)))||(!(ix a.2.1 3)))||(!(o.getD default)))||(!(y.getD default)))==false))=true→okI a.1 2)<|
 bd (gop (true&&(((((((((((!h)||(decide (a.2.2≠0)))||(decide ((↑a.1.length:Int)≠4)))||(decide ((↑a.2.1.length:Int)≠4)))||(!(ix a.2.1 0)))||(ix a.2.1 1))||(!(ix a.2.1 2)))||(!(ix a.2.1 3)))||(!(o.getD default)))||(!(y.getD default)))==false)) (jm N (ix a.1 2) 0 ([0]:List Int) 0)) fun F=>
 gd ((true&&((((((((((((!h)||(decide (a.2.2≠0)))||(decide ((↑a.1.length:Int)≠4)))||(decide ((↑a.2.1.length:Int)≠4)))||(!(ix a.2.1 0)))||(ix a.2.1 1))||(!(ix a.2.1 2)))||(!(ix a.2.1 3)))||(!(o.getD default)))||(!(y.getD default)))||(!(F.getD default)))==false))=true→okI a.1 3)<|
 bd (gop (true&&((((((((((((!h)||(decide (a.2.2≠0)))||(decide ((↑a.1.length:Int)≠4)))||(decide ((↑a.2.1.length:Int)≠4)))||(!(ix a.2.1 0)))||(ix a.2.1 1))||(!(ix a.2.1 2)))||(!(ix a.2.1 3)))||(!(o.getD default)))||(!(y.getD default)))||(!(F.getD default)))==false)) (jm N (ix a.1 3) 0 ([0,1]:List Int) 0)) fun L=>
 bif (((((((((((!h)||(decide (a.2.2≠0)))||(decide ((↑a.1.length:Int)≠4)))||(decide ((↑a.2.1.length:Int)≠4)))||(!(ix a.2.1 0)))||(ix a.2.1 1))||(!(ix a.2.1 2)))||(!(ix a.2.1 3)))||(!(o.getD default)))||(!(y.getD default)))||(!(F.getD default)))||(!(L.getD default)) then(
 some false) else(
 bd (z11 N (⟨2,2,([([(⟨q.to,q.out⟩:Edge),(⟨r.to,r.out⟩:Edge)]:List Edge),([(⟨b.to,b.out⟩:Edge),(⟨c.to,c.out⟩:Edge)]:List Edge),([(⟨d.to,d.out⟩:Edge),(⟨e.to,e.out⟩:Edge)]:List Edge),([(⟨f.to,f.out⟩:Edge),(⟨g.to,g.out⟩:Edge)]:List Edge)]:List (List Edge))⟩:Mach) 3 2) fun i=>
 bd (z11 N (⟨2,2,([([(⟨q.to,q.out⟩:Edge),(⟨r.to,r.out⟩:Edge)]:List Edge),([(⟨b.to,b.out⟩:Edge),(⟨c.to,c.out⟩:Edge)]:List Edge),([(⟨d.to,d.out⟩:Edge),(⟨e.to,e.out⟩:Edge)]:List Edge),([(⟨f.to,f.out⟩:Edge),(⟨g.to,g.out⟩:Edge)]:List Edge)]:List (List Edge))⟩:Mach) 2 2) fun j=>
 bd (z11 N (⟨2,2,([([(⟨q.to,q.out⟩:Edge),(⟨r.to,r.out⟩:Edge)]:List Edge),([(⟨b.to,b.out⟩:Edge),(⟨c.to,c.out⟩:Edge)]:List Edge),([(⟨d.to,d.out⟩:Edge),(⟨e.to,e.out⟩:Edge)]:List Edge),([(⟨f.to,f.out⟩:Edge),(⟨g.to,g.out⟩:Edge)]:List Edge)]:List (List Edge))⟩:Mach) 2 0) fun k=>
 bd (z11 N (⟨2,2,([([(⟨q.to,q.out⟩:Edge),(⟨r.to,r.out⟩:Edge)]:List Edge),([(⟨b.to,b.out⟩:Edge),(⟨c.to,c.out⟩:Edge)]:List Edge),([(⟨d.to,d.out⟩:Edge),(⟨e.to,e.out⟩:Edge)]:List Edge),([(⟨f.to,f.out⟩:Edge),(⟨g.to,g.out⟩:Edge)]:List Edge)]:List (List Edge))⟩:Mach) 0 1) fun m=>
 bd (lw N (⟨2,2,([([(⟨q.to,q.out⟩:Edge),(⟨r.to,r.out⟩:Edge)]:List Edge),([(⟨b.to,b.out⟩:Edge),(⟨c.to,c.out⟩:Edge)]:List Edge),([(⟨d.to,d.out⟩:Edge),(⟨e.to,e.out⟩:Edge)]:List Edge),([(⟨f.to,f.out⟩:Edge),(⟨g.to,g.out⟩:Edge)]:List Edge)]:List (List Edge))⟩:Mach) 2) fun J=>
 bd (z4v N (⟨2,2,([([(⟨q.to,q.out⟩:Edge),(⟨r.to,r.out⟩:Edge)]:List Edge),([(⟨b.to,b.out⟩:Edge),(⟨c.to,c.out⟩:Edge)]:List Edge),([(⟨d.to,d.out⟩:Edge),(⟨e.to,e.out⟩:Edge)]:List Edge),([(⟨f.to,f.out⟩:Edge),(⟨g.to,g.out⟩:Edge)]:List Edge)]:List (List Edge))⟩:Mach)) fun w=>
 bd (ru N (⟨2,2,([([(⟨q.to,q.out⟩:Edge),(⟨r.to,r.out⟩:Edge)]:List Edge),([(⟨b.to,b.out⟩:Edge),(⟨c.to,c.out⟩:Edge)]:List Edge),([(⟨d.to,d.out⟩:Edge),(⟨e.to,e.out⟩:Edge)]:List Edge),([(⟨f.to,f.out⟩:Edge),(⟨g.to,g.out⟩:Edge)]:List Edge)]:List (List Edge))⟩:Mach)) fun A=>
 bd (lm N (⟨2,2,([([(⟨q.to,q.out⟩:Edge),(⟨r.to,r.out⟩:Edge)]:List Edge),([(⟨b.to,b.out⟩:Edge),(⟨c.to,c.out⟩:Edge)]:List Edge),([(⟨d.to,d.out⟩:Edge),(⟨e.to,e.out⟩:Edge)]:List Edge),([(⟨f.to,f.out⟩:Edge),(⟨g.to,g.out⟩:Edge)]:List Edge)]:List (List Edge))⟩:Mach)) fun B=>
 bd (z0x N (⟨2,2,([([(⟨q.to,q.out⟩:Edge),(⟨r.to,r.out⟩:Edge)]:List Edge),([(⟨b.to,b.out⟩:Edge),(⟨c.to,c.out⟩:Edge)]:List Edge),([(⟨d.to,d.out⟩:Edge),(⟨e.to,e.out⟩:Edge)]:List Edge),([(⟨f.to,f.out⟩:Edge),(⟨g.to,g.out⟩:Edge)]:List Edge)]:List (List Edge))⟩:Mach) (⟨2,2,([([(⟨D.to,D.out⟩:Edge),(⟨E.to,E.out⟩:Edge)]:List Edge),([(⟨s.to,s.out⟩:Edge),(⟨t.to,t.out⟩:Edge)]:List Edge),([(⟨u.to,u.out⟩:Edge),(⟨v.to,v.out⟩:Edge)]:List Edge)]:List (List Edge))⟩:Mach)) fun G=>
 bd (jm N i.1 i.2.2 ([0]:List Int) 0) fun l=>
 bd (gop (true&&((l&&i.2.1)==true)) (jm N j.1 j.2.2 ([]:(List Int)) 0)) fun n=>
 bd (gop (true&&((((l&&i.2.1)&&(n.getD default))&&j.2.1)==true)) (jm N k.1 k.2.2 ([1,1]:List Int) 0)) fun p=>
 bd (gop (true&&((((((l&&i.2.1)&&(n.getD default))&&j.2.1)&&(p.getD default))&&k.2.1)==true)) (jm N m.1 m.2.2 ([]:(List Int)) 0)) fun x=>
 bd (gop (true&&((((((((l&&i.2.1)&&(n.getD default))&&j.2.1)&&(p.getD default))&&k.2.1)&&(x.getD default))&&(!m.2.1))==true)) (jm N J.1 J.2 ([2,(-1),0,1]:List Int) 0)) fun z=>
 bd (gop (true&&(((((((((l&&i.2.1)&&(n.getD default))&&j.2.1)&&(p.getD default))&&k.2.1)&&(x.getD default))&&(!m.2.1))&&(z.getD default))==true)) (yt N (⟨w.1.inputs,w.1.outputs,w.1.rows⟩:Mach) w.2.2 (⟨2,2,([([(⟨D.to,D.out⟩:Edge),(⟨E.to,E.out⟩:Edge)]:List Edge),([(⟨s.to,s.out⟩:Edge),(⟨t.to,t.out⟩:Edge)]:List Edge),([(⟨u.to,u.out⟩:Edge),(⟨v.to,v.out⟩:Edge)]:List Edge)]:List (List Edge))⟩:Mach))) fun C=>
 bd (gop (true&&((((((((((l&&i.2.1)&&(n.getD default))&&j.2.1)&&(p.getD default))&&k.2.1)&&(x.getD default))&&(!m.2.1))&&(z.getD default))&&(C.getD default))==true)) (jm N w.2.1 w.2.2 ([0,2,3]:List Int) 0)) fun H=>
 bd (gop (true&&(((((((((((l&&i.2.1)&&(n.getD default))&&j.2.1)&&(p.getD default))&&k.2.1)&&(x.getD default))&&(!m.2.1))&&(z.getD default))&&(C.getD default))&&(H.getD default))==true)) (yt N (⟨A.1.inputs,A.1.outputs,A.1.rows⟩:Mach) A.2 (⟨2,2,([([(⟨D.to,D.out⟩:Edge),(⟨E.to,E.out⟩:Edge)]:List Edge),([(⟨s.to,s.out⟩:Edge),(⟨t.to,t.out⟩:Edge)]:List Edge),([(⟨u.to,u.out⟩:Edge),(⟨v.to,v.out⟩:Edge)]:List Edge)]:List (List Edge))⟩:Mach))) fun K=>
 bd (gop (true&&((((((((((((((l&&i.2.1)&&(n.getD default))&&j.2.1)&&(p.getD default))&&k.2.1)&&(x.getD default))&&(!m.2.1))&&(z.getD default))&&(C.getD default))&&(H.getD default))&&(K.getD default))&&(!B.1))&&(decide (B.2=0)))==true)) (jm N G.1 G.2.2 ([0,(-1),1,2]:List Int) 0)) fun M=>
 some (((((((((((((((l&&i.2.1)&&(n.getD default))&&j.2.1)&&(p.getD default))&&k.2.1)&&(x.getD default))&&(!m.2.1))&&(z.getD default))&&(C.getD default))&&(H.getD default))&&(K.getD default))&&(!B.1))&&(decide (B.2=0)))&&(M.getD default))&&G.2.1))
def w9(N:Nat)(h:Mach)(b:(List (List Int))×(List Bool)×Int)(e:List Int)(a:Int):Nat→Int→Option (Ex (List Int) (Ex (List Int) (Bool)))
 |0,_=>none
 |f+1,c=>
  gd (okI b.1 a)<|
  bif decide (c<(↑(ix b.1 a).length:Int)) then(
  gd (okI b.1 a)<|
  gd (okS (ix b.1 a) 0 c)<|
  bd (gq N N (⟨h.inputs,h.outputs,h.rows⟩:Mach) 0 (cut (ix b.1 a) 0 c)) fun d=>
  gd ((true&&((decide (d<0))==false))=true→okI b.1 d)<|
  gd ((true&&((decide (d<0))==false))=true→okI b.1 a)<|
  gd ((true&&((decide (d<0))==false))=true→okS (ix b.1 a) 0 c)<|
  bd (gop (true&&((decide (d<0))==false)) (bv N (ix b.1 d) (cut (ix b.1 a) 0 c))) fun g=>
  bif (decide (d<0))||(!(g.getD default)) then(
  some (Ex.rt (Ex.rt false))) else(
  gd (in64 (c+1))<|
  w9 N h b e a f (c+1))) else(
  some (Ex.go (e++([a]:List Int))))
def wh(N:Nat)(i:Mach)(b:(List (List Int))×(List Bool)×Int)(c:(List (List Int))×(List Bool)):Nat→(List Int)→Int→Option (Ex (List Int) (Bool))
 |0,_,_=>none
 |e+1,d,a=>
  bif decide (a<(↑b.1.length:Int)) then(
  bd (
  gd (okI b.2.1 a)<|
  gd (okI c.2 a)<|
  gd ((true&&((decide ((ix b.2.1 a)≠(ix c.2 a)))==false))=true→okI b.1 a)<|
  gd ((true&&((decide ((ix b.2.1 a)≠(ix c.2 a)))==false))=true→okI c.1 a)<|
  bd (gop (true&&((decide ((ix b.2.1 a)≠(ix c.2 a)))==false)) (jm N (ix b.1 a) 0 (ix c.1 a) 0)) fun f=>
  bif (decide ((ix b.2.1 a)≠(ix c.2 a)))||(!(f.getD default)) then(
  some (Ex.rt (Ex.rt false))) else(
  gd (okI b.2.1 a)<|
  bif !(ix b.2.1 a) then(
  some (Ex.go d)) else(
  gd (fits 8 d ([a]:List Int))<|
  w9 N i b d a N 0))) fun g=>
  Ex.on g (fun h=>
  gd (in64 (a+1))<|
  wh N i b c e h (a+1)) some) else(
  some (Ex.go d))
def iy(N:Nat)(x:MDat):Option Bool:=
 bd (ni N x) fun b=>
 bd (z3h N (⟨b.inputs,b.outputs,b.rows⟩:Mach)) fun a=>
 bd (tu N (⟨b.inputs,b.outputs,b.rows⟩:Mach)) fun e=>
 bif ((((decide (a.2.2≠0))||(decide ((↑a.1.length:Int)≠(↑e.1.length:Int))))||(decide ((↑a.2.1.length:Int)≠(↑e.2.length:Int))))||(decide ((↑a.1.length:Int)≠(↑a.1.length:Int))))||(decide ((↑a.2.1.length:Int)≠(↑a.2.1.length:Int))) then(
 some false) else(
 bd (
 wh N b a e N ([]:List Int) 0) fun g=>
 Ex.on g (fun h=>
 bd (z1u N (⟨b.inputs,b.outputs,b.rows⟩:Mach)) fun c=>
 bd (jm N c.1 c.2 h 0) fun d=>
 bd (gop (true&&(d==true)) (gp N)) fun f=>
 some (d&&(f.getD default))) some)
def yh(N:Nat)(d:Mach)(c:(List Int)×Int)(a:Int):Nat→Int→Option (Ex (Unit) (Ex (Unit) (Bool)))
 |0,_=>none
 |e+1,b=>
  bif decide (b<d.inputs) then(
  gd (okI d.rows a)<|
  gd (okI (ix d.rows a) b)<|
  gd (okI c.1 a)<|
  gd ((true&&(((decide (0≤(ix c.1 a)))&&(decide (0≤((ix (ix d.rows a) b).to))))==true))=true→okI c.1 ((ix (ix d.rows a) b).to))<|
  gd (((true&&(((decide (0≤(ix c.1 a)))&&(decide (0≤((ix (ix d.rows a) b).to))))==true))&&((decide ((ix c.1 ((ix (ix d.rows a) b).to))<0))==false))=true→okI c.1 ((ix (ix d.rows a) b).to))<|
  gd (((true&&(((decide (0≤(ix c.1 a)))&&(decide (0≤((ix (ix d.rows a) b).to))))==true))&&((decide ((ix c.1 ((ix (ix d.rows a) b).to))<0))==false))=true→okI c.1 a)<|
  gd (((true&&(((decide (0≤(ix c.1 a)))&&(decide (0≤((ix (ix d.rows a) b).to))))==true))&&((decide ((ix c.1 ((ix (ix d.rows a) b).to))<0))==false))=true→in64 ((ix c.1 a)+1))<|
  bif ((decide (0≤(ix c.1 a)))&&(decide (0≤((ix (ix d.rows a) b).to))))&&((decide ((ix c.1 ((ix (ix d.rows a) b).to))<0))||(decide (((ix c.1 a)+1)<(ix c.1 ((ix (ix d.rows a) b).to))))) then(
  some (Ex.rt (Ex.rt false))) else(
  gd (in64 (b+1))<|
  yh N d c a e (b+1))) else(
  some (Ex.go ()))
def yf(N:Nat)(g:Mach)(c:(List Int)×Int)(b:(List (List Int))×(List Bool)):Nat→Int→Option (Ex (Unit) (Bool))
 |0,_=>none
 |d+1,a=>
  bif decide (a<(↑b.1.length:Int)) then(
  bd (
  bd (
  gd (okI b.2 a)<|
  bif (ix b.2 a) then(
  gd (okI b.1 a)<|
  some (↑(ix b.1 a).length:Int)) else(
  some (-1))) fun e=>
  gd (okI c.1 a)<|
  bif decide ((ix c.1 a)≠e) then(
  some (Ex.rt (Ex.rt false))) else(
  yh N g c a N 0)) fun f=>
  Ex.on f (fun h=>
  gd (in64 (a+1))<|
  yf N g c b d (a+1)) some) else(
  some (Ex.go ()))
def lc(N:Nat)(x:MDat)(from_:Int)(to_:Int):Option Bool:=
 bd (ni N x) fun a=>
 gd (in64 from_)<|
 gd (okR from_ (↑a.rows.length:Int))<|
 gd (in64 to_)<|
 gd (okR to_ (↑a.rows.length:Int))<|
 bd (z11 N (⟨a.inputs,a.outputs,a.rows⟩:Mach) (from_%(↑a.rows.length:Int)) (to_%(↑a.rows.length:Int))) fun d=>
 bd (lw N (⟨a.inputs,a.outputs,a.rows⟩:Mach) (from_%(↑a.rows.length:Int))) fun c=>
 bd (su N (⟨a.inputs,a.outputs,a.rows⟩:Mach) (from_%(↑a.rows.length:Int))) fun b=>
 gd (okI b.1 (to_%(↑a.rows.length:Int)))<|
 bd (jm N d.1 d.2.2 (ix b.1 (to_%(↑a.rows.length:Int))) 0) fun e=>
 gd ((true&&((!e)==false))=true→okI b.2 (to_%(↑a.rows.length:Int)))<|
 bif ((((!e)||(decide (d.2.1≠(ix b.2 (to_%(↑a.rows.length:Int))))))||(decide (c.2≠0)))||(decide ((↑c.1.length:Int)≠(↑b.1.length:Int))))||(decide ((↑c.1.length:Int)≠(↑c.1.length:Int))) then(
 some false) else(
 bd (
 yf N a c b N 0) fun f=>
 Ex.on f (fun h=>
 bd (gp N) fun g=>
 some g) some)
def ny(N:Nat)(x:WDat)(inputs:Int):Nat→(List Int)→Int→Option (List Int)
 |0,_,_=>none
 |c+1,b,a=>
  bif (decide (a<(↑x.syms.length:Int)))&&(decide (a<12)) then(
  gd (okI x.syms a)<|
  gd (in64 (ix x.syms a))<|
  gd (okR (ix x.syms a) inputs)<|
  gd (fits 8 b ([(ix x.syms a)%inputs]:List Int))<|
  gd (in64 (a+1))<|
  ny N x inputs c (b++([(ix x.syms a)%inputs]:List Int)) (a+1)) else(
  some b)
def z0a(N:Nat)(x:WDat)(inputs:Int):Option (List Int):=
 bd (
 ny N x inputs N ([]:List Int) 0) fun a=>
 some a
def p9(N:Nat)(m:Mach)(l_:(List Int))(b:Int)(c:Int):Nat→Int→Int→Option Int
 |0,_,_=>none
 |e+1,d,a=>
  bif decide (a<(↑l_.length:Int)) then(
  bd (
  gd (okI l_ a)<|
  bif decide ((ix l_ a)=((ix (ix m.rows (ix l_ b)) c).to)) then(
  some a) else(
  some d)) fun f=>
  gd (in64 (a+1))<|
  p9 N m l_ b c e f (a+1)) else(
  some d)
def df(N:Nat)(m:Mach)(l_:(List Int))(a:Int):Nat→(List Edge)→Int→Option (List Edge)
 |0,_,_=>none
 |e+1,c,b=>
  bif decide (b<m.inputs) then(
  gd (okI l_ a)<|
  gd (okI m.rows (ix l_ a))<|
  gd (okI (ix m.rows (ix l_ a)) b)<|
  bd (
  p9 N m l_ a b N (-1) 0) fun d=>
  gd (fits 16 c ([(⟨d,(ix (ix m.rows (ix l_ a)) b).out⟩:Edge)]:List Edge))<|
  gd (in64 (b+1))<|
  df N m l_ a e (c++([(⟨d,(ix (ix m.rows (ix l_ a)) b).out⟩:Edge)]:List Edge)) (b+1)) else(
  some c)
def pu(N:Nat)(m:Mach)(l_:(List Int)):Nat→Int→(List (List Edge))→Option (List (List Edge))
 |0,_,_=>none
 |d+1,a,b=>
  bif decide (a<(↑l_.length:Int)) then(
  bd (
  df N m l_ a N ([]:List Edge) 0) fun c=>
  gd (fits 24 b ([c]:List (List Edge)))<|
  gd (in64 (a+1))<|
  pu N m l_ d (a+1) (b++([c]:List (List Edge)))) else(
  some b)
def ng(N:Nat)(m:Mach)(l_:(List Int)):Option Mach:=
 bd (
 pu N m l_ N 0 ([]:List (List Edge))) fun a=>
 some (⟨m.inputs,m.outputs,a⟩:Mach)
def yx(N:Nat)(m:Mach)(a:Int):Nat→Int→(List Bool)→Option (List Bool)
 |0,_,_=>none
 |d+1,b,c=>
  bif decide (b<m.inputs) then(
  bd (
  gd (okI m.rows a)<|
  gd (okI (ix m.rows a) b)<|
  gd (okI c a)<|
  bif (ix c a)&&(decide (0≤((ix (ix m.rows a) b).to))) then(
  gd (okI c ((ix (ix m.rows a) b).to))<|
  some (up c ((ix (ix m.rows a) b).to) true)) else(
  some c)) fun e=>
  gd (in64 (b+1))<|
  yx N m a d (b+1) e) else(
  some c)
def xe(N:Nat)(m:Mach):Nat→Int→(List Bool)→Option (List Bool)
 |0,_,_=>none
 |c+1,a,b=>
  bif decide (a<(↑m.rows.length:Int)) then(
  bd (
  yx N m a N 0 b) fun d=>
  gd (in64 (a+1))<|
  xe N m c (a+1) d) else(
  some b)
def bi(N:Nat)(m:Mach):Nat→Int→(List Bool)→Option (List Bool)
 |0,_,_=>none
 |c+1,a,b=>
  bif decide (a<(↑m.rows.length:Int)) then(
  bd (
  xe N m N 0 b) fun d=>
  gd (in64 (a+1))<|
  bi N m c (a+1) d) else(
  some b)
def rf(N:Nat)(m:Mach)(from_:Int):Option (List Bool):=
 gd (okM 1 (↑m.rows.length:Int))<|
 gd (okI (mk (↑m.rows.length:Int) false) from_)<|
 bd (
 bi N m N 0 (up (mk (↑m.rows.length:Int) false) from_ true)) fun a=>
 some a
def vv(N:Nat)(b:(List Bool)):Nat→Int→Option (Ex (Unit) (Bool))
 |0,_=>none
 |c+1,a=>
  bif decide (a<(↑b.length:Int)) then(
  gd (okI b a)<|
  bif !(ix b a) then(
  some (Ex.rt false)) else(
  gd (in64 (a+1))<|
  vv N b c (a+1))) else(
  some (Ex.go ()))
def ai(N:Nat)(m:Mach):Option Bool:=
 bd (rf N m 0) fun b=>
 bd (
 vv N b N 0) fun a=>
 Ex.on a (fun c=>
 some true) some
def mr(N:Nat)(m:Mach)(w_:(List Int)):Nat→Int→(List Int)→Int→Option (List Int)
 |0,_,_,_=>none
 |d+1,e,b,a=>
  bif decide (a<(↑w_.length:Int)) then(
  gd (okI w_ a)<|
  bd (z05 N m e (ix w_ a)) fun c=>
  gd (fits 8 b ([c.out]:List Int))<|
  gd (in64 (a+1))<|
  mr N m w_ d c.to (b++([c.out]:List Int)) (a+1)) else(
  some b)
def bq(N:Nat)(m:Mach)(s:Int)(w_:(List Int)):Option (List Int):=
 bd (
 mr N m w_ N s ([]:List Int) 0) fun a=>
 some a
def yc(N:Nat)(b:(List (List Int))×(List Bool)):Nat→(List Int)→Int→Option (List Int)
 |0,_,_=>none
 |d+1,c,a=>
  bif decide (a<(↑b.2.length:Int)) then(
  bd (
  gd (okI b.2 a)<|
  bif (ix b.2 a) then(
  gd (fits 8 c ([a]:List Int))<|
  some (c++([a]:List Int))) else(
  some c)) fun e=>
  gd (in64 (a+1))<|
  yc N b d e (a+1)) else(
  some c)
def l5(N:Nat)(x:MDat)(y:WDat):Option Bool:=
 bd (ni N x) fun a=>
 bd (z0a N y a.inputs) fun g=>
 bd (z4v N (⟨a.inputs,a.outputs,a.rows⟩:Mach)) fun c=>
 bd (tu N (⟨a.inputs,a.outputs,a.rows⟩:Mach)) fun m=>
 bd (
 yc N m N ([]:List Int) 0) fun h=>
 bd (jm N c.2.1 c.2.2 h 0) fun b=>
 bd (gop (true&&(b==true)) (ng N (⟨a.inputs,a.outputs,a.rows⟩:Mach) h)) fun i=>
 bd (gop (true&&(b==true)) (yt N (⟨c.1.inputs,c.1.outputs,c.1.rows⟩:Mach) c.2.2 (i.getD default))) fun d=>
 bd (gop (true&&((b&&(d.getD default))==true)) (ai N (⟨c.1.inputs,c.1.outputs,c.1.rows⟩:Mach))) fun e=>
 bd (gop (true&&(((b&&(d.getD default))&&(e.getD default))==true)) (bq N (⟨c.1.inputs,c.1.outputs,c.1.rows⟩:Mach) 0 g)) fun j=>
 bd (gop (true&&(((b&&(d.getD default))&&(e.getD default))==true)) (bq N (⟨a.inputs,a.outputs,a.rows⟩:Mach) 0 g)) fun k=>
 bd (gop (true&&(((b&&(d.getD default))&&(e.getD default))==true)) (bv N (j.getD default) (k.getD default))) fun f=>
 bd (gop (true&&((((b&&(d.getD default))&&(e.getD default))&&(f.getD default))==true)) (gp N)) fun l=>
 some ((((b&&(d.getD default))&&(e.getD default))&&(f.getD default))&&(l.getD default))
def p8(N:Nat)(a:(List Int))(b:(List Int)):Nat→Int→Option (Ex (Unit) (Int))
 |0,_=>none
 |d+1,c=>
  bif decide (c<(↑a.length:Int)) then(
  gd (okI a c)<|
  gd (okI b c)<|
  bif decide ((ix a c)≠(ix b c)) then(
  gd (okI a c)<|
  gd (okI b c)<|
  bif decide ((ix a c)<(ix b c)) then(
  some (Ex.rt 1)) else(
  some (Ex.rt 0))) else(
  gd (in64 (c+1))<|
  p8 N a b d (c+1))) else(
  some (Ex.go ()))
def fo(N:Nat)(a:(List Int))(b:(List Int)):Option Int:=
 bif decide ((↑a.length:Int)≠(↑b.length:Int)) then(
 bif decide ((↑a.length:Int)<(↑b.length:Int)) then(
 some 1) else(
 some 0)) else(
 bd (
 p8 N a b N 0) fun c=>
 Ex.on c (fun d=>
 some 0) some)
def bf(N:Nat)(d:(List (List Int))×(List Bool))(b:List Int)(c:Int):Nat→Int→Option Int
 |0,_=>none
 |e+1,a=>
  gd ((true&&((decide (a<(↑b.length:Int)))==true))=true→okI b a)<|
  gd ((true&&((decide (a<(↑b.length:Int)))==true))=true→okI d.1 (ix b a))<|
  gd ((true&&((decide (a<(↑b.length:Int)))==true))=true→okI d.1 c)<|
  bd (gop (true&&((decide (a<(↑b.length:Int)))==true)) (fo N (ix d.1 (ix b a)) (ix d.1 c))) fun f=>
  bif (decide (a<(↑b.length:Int)))&&(decide ((f.getD default)=1)) then(
  gd (in64 (a+1))<|
  bf N d b c e (a+1)) else(
  some a)
def gy(N:Nat)(d:(List (List Int))×(List Bool)):Nat→(List Int)→Int→Option (List Int)
 |0,_,_=>none
 |e+1,a,b=>
  bif decide (b<(↑d.1.length:Int)) then(
  bd (
  gd (okI d.2 b)<|
  bif !(ix d.2 b) then(
  some a) else(
  bd (
  bf N d a b N 0) fun c=>
  gd (okS a 0 c)<|
  gd (fits 8 ([]:List Int) (cut a 0 c))<|
  gd (fits 8 (([]:List Int)++(cut a 0 c)) ([b]:List Int))<|
  gd (okS a c (↑a.length:Int))<|
  gd (fits 8 ((([]:List Int)++(cut a 0 c))++([b]:List Int)) (cut a c (↑a.length:Int)))<|
  some (((([]:List Int)++(cut a 0 c))++([b]:List Int))++(cut a c (↑a.length:Int))))) fun f=>
  gd (in64 (b+1))<|
  gy N d e f (b+1)) else(
  some a)
def z0q(N:Nat)(m:Mach):Option (List Int):=
 bd (tu N m) fun b=>
 bd (
 gy N b N ([]:List Int) 0) fun a=>
 some a
def mi(N:Nat)(m:Mach):Option Mach:=
 bd (z0q N m) fun b=>
 bd (ng N m b) fun a=>
 some (⟨a.inputs,a.outputs,a.rows⟩:Mach)
def ui(N:Nat)(c:Mach):Nat→(List Int)→Int→Option (List Int)
 |0,_,_=>none
 |d+1,b,a=>
  bif decide (a<(↑c.rows.length:Int)) then(
  gd (fits 8 b ([a]:List Int))<|
  gd (in64 (a+1))<|
  ui N c d (b++([a]:List Int)) (a+1)) else(
  some b)
def ug(N:Nat)(swaps:(List Int))(b:Mach):Nat→Int→(List Int)→Option (List Int)
 |0,_,_=>none
 |d+1,a,c=>
  gd (in64 (a+1))<|
  bif ((decide ((a+1)<(↑swaps.length:Int)))&&(decide (a<20)))&&(decide (1<(↑b.rows.length:Int))) then(
  gd (okI swaps a)<|
  gd (in64 (ix swaps a))<|
  gd (in64 ((↑b.rows.length:Int)-1))<|
  gd (okR (ix swaps a) ((↑b.rows.length:Int)-1))<|
  gd (in64 ((1:Int)+((ix swaps a)%((↑b.rows.length:Int)-1))))<|
  gd (in64 (a+1))<|
  gd (okI swaps (a+1))<|
  gd (in64 (ix swaps (a+1)))<|
  gd (in64 ((↑b.rows.length:Int)-1))<|
  gd (okR (ix swaps (a+1)) ((↑b.rows.length:Int)-1))<|
  gd (in64 ((1:Int)+((ix swaps (a+1))%((↑b.rows.length:Int)-1))))<|
  gd (okI c ((1:Int)+((ix swaps (a+1))%((↑b.rows.length:Int)-1))))<|
  gd (okI c ((1:Int)+((ix swaps a)%((↑b.rows.length:Int)-1))))<|
  gd (okI c ((1:Int)+((ix swaps a)%((↑b.rows.length:Int)-1))))<|
  gd (okI c ((1:Int)+((ix swaps (a+1))%((↑b.rows.length:Int)-1))))<|
  gd (in64 (a+2))<|
  ug N swaps b d (a+2) (up (up c ((1:Int)+((ix swaps a)%((↑b.rows.length:Int)-1))) (ix c ((1:Int)+((ix swaps (a+1))%((↑b.rows.length:Int)-1))))) ((1:Int)+((ix swaps (a+1))%((↑b.rows.length:Int)-1))) (ix c ((1:Int)+((ix swaps a)%((↑b.rows.length:Int)-1)))))) else(
  some c)
def oh(N:Nat)(x:MDat)(y:WDat)(swaps:(List Int)):Option Bool:=
 bd (ni N x) fun b=>
 bd (z0a N y b.inputs) fun k=>
 bd (ru N (⟨b.inputs,b.outputs,b.rows⟩:Mach)) fun a=>
 bd (mi N (⟨b.inputs,b.outputs,b.rows⟩:Mach)) fun p=>
 bd (yt N (⟨a.1.inputs,a.1.outputs,a.1.rows⟩:Mach) a.2 p) fun e=>
 bd (gop (true&&((!e)==false)) (bq N (⟨a.1.inputs,a.1.outputs,a.1.rows⟩:Mach) 0 k)) fun q=>
 bd (gop (true&&((!e)==false)) (bq N (⟨b.inputs,b.outputs,b.rows⟩:Mach) 0 k)) fun r=>
 bd (gop (true&&((!e)==false)) (bv N (q.getD default) (r.getD default))) fun s=>
 bif (!e)||(!(s.getD default)) then(
 some false) else(
 bd (ru N (⟨a.1.inputs,a.1.outputs,a.1.rows⟩:Mach)) fun f=>
 bd (lm N (⟨b.inputs,b.outputs,b.rows⟩:Mach)) fun j=>
 bd (lm N (⟨a.1.inputs,a.1.outputs,a.1.rows⟩:Mach)) fun g=>
 bd (yt N (⟨f.1.inputs,f.1.outputs,f.1.rows⟩:Mach) f.2 (⟨a.1.inputs,a.1.outputs,a.1.rows⟩:Mach)) fun h=>
 bd (gop (true&&(((!h)||(decide (j.2≠0)))==false)) (fe N (⟨b.inputs,b.outputs,b.rows⟩:Mach) (⟨a.1.inputs,a.1.outputs,a.1.rows⟩:Mach))) fun l=>
 bif ((((!h)||(decide (j.2≠0)))||(decide (j.1≠(l.getD default))))||(decide (g.2≠0)))||(!g.1) then(
 some false) else(
 bd (
 ui N b N ([]:List Int) 0) fun m=>
 bd (
 ug N swaps b N 0 m) fun n=>
 bd (ng N (⟨b.inputs,b.outputs,b.rows⟩:Mach) n) fun d=>
 bd (ru N (⟨d.inputs,d.outputs,d.rows⟩:Mach)) fun c=>
 bd (yt N (⟨c.1.inputs,c.1.outputs,c.1.rows⟩:Mach) c.2 (⟨a.1.inputs,a.1.outputs,a.1.rows⟩:Mach)) fun i=>
 bd (gop (true&&(i==true)) (gp N)) fun o=>
 some (i&&(o.getD default))))
def u6(N:Nat)(c:Mach):Nat→(List Int)→Int→Option (List Int)
 |0,_,_=>none
 |d+1,b,a=>
  bif decide (a<(↑c.rows.length:Int)) then(
  gd (fits 8 b ([a]:List Int))<|
  gd (in64 (a+1))<|
  u6 N c d (b++([a]:List Int)) (a+1)) else(
  some b)
def kz(N:Nat)(d:Int×Int×(List (List Edge)))(c:(List Int)×Bool×Int)(b:(List (List Int))×(List Bool)):Nat→Int→Option (Ex (Unit) (Bool))
 |0,_=>none
 |e+1,a=>
  bif decide (a<(↑c.1.length:Int)) then(
  bd (
  gd (okI b.2 a)<|
  bif (ix b.2 a) then(
  gd (okI b.1 a)<|
  bd (gq N N (⟨d.1,d.2.1,d.2.2⟩:Mach) 0 (ix b.1 a)) fun f=>
  some f) else(
  some (-1))) fun g=>
  gd (okI c.1 a)<|
  bif decide ((ix c.1 a)≠g) then(
  some (Ex.rt false)) else(
  gd (in64 (a+1))<|
  kz N d c b e (a+1))) else(
  some (Ex.go ()))
def o5(N:Nat)(x:MDat)(y:MDat)(swap:(Int×Int)):Option Bool:=
 bd (ni N x) fun b=>
 bd (ni N y) fun h=>
 bd (
 gd (okR swap.1 2)<|
 bif (decide ((swap.1%2)=0))&&(decide (1<(↑b.rows.length:Int))) then(
 bd (
 u6 N b N ([]:List Int) 0) fun a=>
 gd (in64 swap.1)<|
 gd (in64 ((↑a.length:Int)-1))<|
 gd (okR swap.1 ((↑a.length:Int)-1))<|
 gd (in64 ((1:Int)+(swap.1%((↑a.length:Int)-1))))<|
 gd (in64 swap.2)<|
 gd (in64 ((↑a.length:Int)-1))<|
 gd (okR swap.2 ((↑a.length:Int)-1))<|
 gd (in64 ((1:Int)+(swap.2%((↑a.length:Int)-1))))<|
 gd (okI a ((1:Int)+(swap.2%((↑a.length:Int)-1))))<|
 gd (okI a ((1:Int)+(swap.1%((↑a.length:Int)-1))))<|
 gd (okI a ((1:Int)+(swap.1%((↑a.length:Int)-1))))<|
 gd (okI a ((1:Int)+(swap.2%((↑a.length:Int)-1))))<|
 bd (ng N (⟨b.inputs,b.outputs,b.rows⟩:Mach) (up (up a ((1:Int)+(swap.1%((↑a.length:Int)-1))) (ix a ((1:Int)+(swap.2%((↑a.length:Int)-1))))) ((1:Int)+(swap.2%((↑a.length:Int)-1))) (ix a ((1:Int)+(swap.1%((↑a.length:Int)-1)))))) fun e=>
 some (e.inputs,e.outputs,e.rows)) else(
 some (h.inputs,h.outputs,h.rows))) fun d=>
 bd (z0x N (⟨b.inputs,b.outputs,b.rows⟩:Mach) (⟨d.1,d.2.1,d.2.2⟩:Mach)) fun c=>
 bd (mi N (⟨b.inputs,b.outputs,b.rows⟩:Mach)) fun i=>
 bd (mi N (⟨d.1,d.2.1,d.2.2⟩:Mach)) fun j=>
 bd (fe N i j) fun f=>
 bif (decide (c.2.2≠0))||(decide (c.2.1≠f)) then(
 some false) else(
 bif !f then(
 bd (gop (true&&((decide ((↑c.1.length:Int)=0))==true)) (gp N)) fun k=>
 some ((decide ((↑c.1.length:Int)=0))&&(k.getD default))) else(
 bd (tu N (⟨b.inputs,b.outputs,b.rows⟩:Mach)) fun g=>
 bif (decide ((↑c.1.length:Int)≠(↑g.1.length:Int)))||(decide ((↑c.1.length:Int)≠(↑c.1.length:Int))) then(
 some false) else(
 bd (
 kz N d c g N 0) fun l=>
 Ex.on l (fun n=>
 bd (gp N) fun m=>
 some m) some)))
def x9(N:Nat)(m:Mach)(b:Int):Nat→Int→Option (Ex (Unit) (Ex (Unit) (Int)))
 |0,_=>none
 |c+1,a=>
  bif decide (a<m.inputs) then(
  bd (
  gd (okI m.rows b)<|
  gd (okI (ix m.rows b) a)<|
  bif (decide (((ix (ix m.rows b) a).to)=(-1)))&&(decide (((ix (ix m.rows b) a).out)=(-1))) then(
  some (Ex.go ())) else(
  bif (((decide (((ix (ix m.rows b) a).to)<0))||(decide ((↑m.rows.length:Int)≤((ix (ix m.rows b) a).to))))||(decide (((ix (ix m.rows b) a).out)<0)))||(decide (m.outputs≤((ix (ix m.rows b) a).out))) then(
  some (Ex.rt (Ex.rt (Ex.rt 1)))) else(
  some (Ex.go ())))) fun d=>
  Ex.on d (fun e=>
  gd (in64 (a+1))<|
  x9 N m b c (a+1)) some) else(
  some (Ex.go ()))
def vz(N:Nat)(m:Mach):Nat→Int→Option (Ex (Unit) (Int))
 |0,_=>none
 |b+1,a=>
  bif decide (a<(↑m.rows.length:Int)) then(
  bd (
  gd (okI m.rows a)<|
  bif decide ((↑(ix m.rows a).length:Int)≠m.inputs) then(
  some (Ex.rt (Ex.rt 1))) else(
  x9 N m a N 0)) fun c=>
  Ex.on c (fun d=>
  gd (in64 (a+1))<|
  vz N m b (a+1)) some) else(
  some (Ex.go ()))
def z0r(N:Nat)(m:Mach):Option Int:=
 bif ((decide (16<m.inputs))||(decide (16<m.outputs)))||(decide (64<(↑m.rows.length:Int))) then(
 some 3) else(
 bif ((decide (m.inputs<1))||(decide (m.outputs<1)))||(decide ((↑m.rows.length:Int)=0)) then(
 some 1) else(
 bd (
 vz N m N 0) fun a=>
 Ex.on a (fun b=>
 some 0) some))
def l9(N:Nat)(l_:(List Int))(k:Int):Option Int:=
 bif decide (k<(↑l_.length:Int)) then(
 gd (okI l_ k)<|
 gd (in64 (ix l_ k))<|
 some (ix l_ k)) else(
 some 0)
def pz(N:Nat)(x:Sb)(b:Int):Nat→(List Edge)→Int→Option (List Edge)
 |0,_,_=>none
 |e+1,d,a=>
  bif decide (a<((1:Int)+(x.fA%3))) then(
  gd (in64 (b*((1:Int)+(x.fA%3))))<|
  gd (in64 ((b*((1:Int)+(x.fA%3)))+a))<|
  bd (l9 N x.fM ((b*((1:Int)+(x.fA%3)))+a)) fun c=>
  gd (okQ c ((1:Int)+(x.fF%6)))<|
  gd (okR (c/((1:Int)+(x.fF%6))) ((1:Int)+(x.fD%3)))<|
  gd (fits 16 d ([(⟨(-1),(c/((1:Int)+(x.fF%6)))%((1:Int)+(x.fD%3))⟩:Edge)]:List Edge))<|
  gd (in64 (a+1))<|
  pz N x b e (d++([(⟨(-1),(c/((1:Int)+(x.fF%6)))%((1:Int)+(x.fD%3))⟩:Edge)]:List Edge)) (a+1)) else(
  some d)
def xy(N:Nat)(x:Sb):Nat→Int→(List (List Edge))→Option (List (List Edge))
 |0,_,_=>none
 |d+1,a,b=>
  bif decide (a<((1:Int)+(x.fF%6))) then(
  bd (
  pz N x a N ([]:List Edge) 0) fun c=>
  gd (fits 24 b [c])<|
  gd (in64 (a+1))<|
  xy N x d (a+1) (b++[c])) else(
  some b)
def yo(N:Nat)(x:Sb)(d:Int)(b:List (List Edge)):Nat→(List Int)→Int→Option (List Int)
 |0,_,_=>none
 |e+1,c,a=>
  gd (in64 (d*((1:Int)+(x.fA%3))))<|
  bif decide (a<(d*((1:Int)+(x.fA%3)))) then(
  bd (
  gd (okQ a ((1:Int)+(x.fA%3)))<|
  gd (okI b (a/((1:Int)+(x.fA%3))))<|
  gd (okR a ((1:Int)+(x.fA%3)))<|
  gd (okI (ix b (a/((1:Int)+(x.fA%3)))) (a%((1:Int)+(x.fA%3))))<|
  bif decide (((ix (ix b (a/((1:Int)+(x.fA%3)))) (a%((1:Int)+(x.fA%3)))).to)<0) then(
  gd (fits 8 c ([a]:List Int))<|
  some (c++([a]:List Int))) else(
  some c)) fun f=>
  gd (in64 (a+1))<|
  yo N x d b e f (a+1)) else(
  some c)
def pq(N:Nat)(x:Sb):Nat→Int→(List (List Edge))→Option (List (List Edge))
 |0,_,_=>none
 |e+1,a,c=>
  bif decide (a<((1:Int)+(x.fF%6))) then(
  bd (
  yo N x a c N ([]:List Int) 0) fun d=>
  gd (okI d 0)<|
  bd (
  gd (in64 (a-1))<|
  bif decide ((a-1)<(↑x.fJ.length:Int)) then(
  gd (in64 (a-1))<|
  gd (okI x.fJ (a-1))<|
  gd (in64 (ix x.fJ (a-1)))<|
  gd (okR (ix x.fJ (a-1)) (↑d.length:Int))<|
  gd (okI d ((ix x.fJ (a-1))%(↑d.length:Int)))<|
  some (ix d ((ix x.fJ (a-1))%(↑d.length:Int)))) else(
  some (ix d 0))) fun b=>
  gd (okQ b ((1:Int)+(x.fA%3)))<|
  gd (okI c (b/((1:Int)+(x.fA%3))))<|
  gd (okR b ((1:Int)+(x.fA%3)))<|
  gd (okI (ix c (b/((1:Int)+(x.fA%3)))) (b%((1:Int)+(x.fA%3))))<|
  gd (in64 (a+1))<|
  pq N x e (a+1) (up c (b/((1:Int)+(x.fA%3))) (up (ix c (b/((1:Int)+(x.fA%3)))) (b%((1:Int)+(x.fA%3))) (⟨a,(ix (ix c (b/((1:Int)+(x.fA%3)))) (b%((1:Int)+(x.fA%3)))).out⟩:Edge)))) else(
  some c)
def yn(N:Nat)(x:Sb)(a:Int):Nat→Int→(List (List Edge))→Option (List (List Edge))
 |0,_,_=>none
 |e+1,b,c=>
  bif decide (b<((1:Int)+(x.fA%3))) then(
  bd (
  gd (okI c a)<|
  gd (okI (ix c a) b)<|
  bif decide (((ix (ix c a) b).to)<0) then(
  gd (okI c a)<|
  gd (in64 (a*((1:Int)+(x.fA%3))))<|
  gd (in64 ((a*((1:Int)+(x.fA%3)))+b))<|
  bd (l9 N x.fM ((a*((1:Int)+(x.fA%3)))+b)) fun d=>
  gd (okR d ((1:Int)+(x.fF%6)))<|
  gd (okI (ix c a) b)<|
  some (up c a (up (ix c a) b (⟨d%((1:Int)+(x.fF%6)),(ix (ix c a) b).out⟩:Edge)))) else(
  some c)) fun f=>
  gd (in64 (b+1))<|
  yn N x a e (b+1) f) else(
  some c)
def pg(N:Nat)(x:Sb):Nat→Int→(List (List Edge))→Option (List (List Edge))
 |0,_,_=>none
 |c+1,a,b=>
  bif decide (a<((1:Int)+(x.fF%6))) then(
  bd (
  yn N x a N 0 b) fun d=>
  gd (in64 (a+1))<|
  pg N x c (a+1) d) else(
  some b)
def z06(N:Nat)(x:Sb):Option Mach:=
 gd (okR x.fF 6)<|
 gd (in64 (x.fF%6))<|
 gd (in64 ((1:Int)+(x.fF%6)))<|
 gd (okR x.fA 3)<|
 gd (in64 (x.fA%3))<|
 gd (in64 ((1:Int)+(x.fA%3)))<|
 gd (okR x.fD 3)<|
 gd (in64 (x.fD%3))<|
 gd (in64 ((1:Int)+(x.fD%3)))<|
 bd (
 xy N x N 0 ([]:List (List Edge))) fun c=>
 bd (
 pq N x N 1 c) fun a=>
 bd (
 pg N x N 0 a) fun b=>
 some (⟨(1:Int)+(x.fA%3),(1:Int)+(x.fD%3),b⟩:Mach)
def xc(N:Nat)(m:Mach)(b:Int):Nat→Int→Int→Option Int
 |0,_,_=>none
 |d+1,c,a=>
  bif decide (a<m.inputs) then(
  bd (
  gd (okI m.rows b)<|
  gd (okI (ix m.rows b) a)<|
  bif decide (0≤((ix (ix m.rows b) a).to)) then(
  gd (in64 (c+1))<|
  some (c+1)) else(
  some c)) fun e=>
  gd (in64 (a+1))<|
  xc N m b d e (a+1)) else(
  some c)
def bg(N:Nat)(m:Mach):Nat→Int→Int→Option Int
 |0,_,_=>none
 |d+1,b,a=>
  bif decide (a<(↑m.rows.length:Int)) then(
  bd (
  xc N m a N b 0) fun c=>
  gd (in64 (a+1))<|
  bg N m d c (a+1)) else(
  some b)
def z01(N:Nat)(m:Mach):Option Int:=
 bd (
 bg N m N 0 0) fun a=>
 some a
def il(N:Nat)(m:Mach):Option Bool:=
 bd (z01 N m) fun a=>
 gd (in64 ((↑m.rows.length:Int)*m.inputs))<|
 some (decide (a=((↑m.rows.length:Int)*m.inputs)))
def z0i(N:Nat)(x:Sb):Option Bool:=
 bd (z06 N x) fun a=>
 bd (z1u N (⟨a.inputs,a.outputs,a.rows⟩:Mach)) fun b=>
 bd (z0r N (⟨a.inputs,a.outputs,a.rows⟩:Mach)) fun c=>
 bd (gop (true&&((decide (c=0))==true)) (il N (⟨a.inputs,a.outputs,a.rows⟩:Mach))) fun d=>
 bd (gop (true&&(((((decide (c=0))&&(d.getD default))&&(decide (b.2=0)))&&(decide ((↑b.1.length:Int)=(↑a.rows.length:Int))))==true)) (gp N)) fun e=>
 some (((((decide (c=0))&&(d.getD default))&&(decide (b.2=0)))&&(decide ((↑b.1.length:Int)=(↑a.rows.length:Int))))&&(e.getD default))
def nk(N:Nat):Nat→Int→(List (List Edge))→Option (List (List Edge))
 |0,_,_=>none
 |e+1,a,d=>
  bif decide (a<64) then(
  gd (in64 (a+63))<|
  gd (okR (a+63) 64)<|
  bd (kw N ((a+63)%64) 0) fun b=>
  bd (kw N a 0) fun c=>
  gd (fits 24 d ([([(⟨b.to,b.out⟩:Edge),(⟨c.to,c.out⟩:Edge)]:List Edge)]:List (List Edge)))<|
  gd (in64 (a+1))<|
  nk N e (a+1) (d++([([(⟨b.to,b.out⟩:Edge),(⟨c.to,c.out⟩:Edge)]:List Edge)]:List (List Edge)))) else(
  some d)
def vg(N:Nat):Nat→Int→(List Int)→(List Int)→Int→Option (Int×List Int×List Int)
 |0,_,_,_,_=>none
 |e+1,b,c,d,a=>
  bif decide (a<18) then(
  gd (in64 (b*31))<|
  gd (in64 ((7:Int)*a))<|
  gd (in64 ((b*31)+((7:Int)*a)))<|
  gd (in64 (((b*31)+((7:Int)*a))+11))<|
  gd (okR (((b*31)+((7:Int)*a))+11) 100003)<|
  gd (fits 2 c ([IntKind.u16.wrap ((((b*31)+((7:Int)*a))+11)%100003)]:List Int))<|
  gd (okQ ((((b*31)+((7:Int)*a))+11)%100003) 7)<|
  gd (fits 1 d ([IntKind.u8.wrap (((((b*31)+((7:Int)*a))+11)%100003)/7)]:List Int))<|
  gd (in64 (a+1))<|
  vg N e ((((b*31)+((7:Int)*a))+11)%100003) (c++([IntKind.u16.wrap ((((b*31)+((7:Int)*a))+11)%100003)]:List Int)) (d++([IntKind.u8.wrap (((((b*31)+((7:Int)*a))+11)%100003)/7)]:List Int)) (a+1)) else(
  some (b,c,d))
def wy(N:Nat):Nat→Int→Int→Option (Ex (Unit) (Bool))
 |0,_,_=>none
 |h+1,i,a=>
  bif decide (a<60) then(
  bd (
  vg N N i ([]:List Int) ([]:List Int) 0) fun b=>
  gd (okQ a 3)<|
  gd (okQ a 2)<|
  gd (okR a 2)<|
  gd (okQ b.1 7)<|
  bd (iy N (⟨IntKind.u8.wrap a,IntKind.u8.wrap (a/3),IntKind.u8.wrap (a/2),decide ((a%2)=0),b.2.1⟩:MDat)) fun c=>
  bd (gop (true&&((!c)==false)) (lc N (⟨IntKind.u8.wrap a,IntKind.u8.wrap (a/3),IntKind.u8.wrap (a/2),decide ((a%2)=0),b.2.1⟩:MDat) (IntKind.u8.wrap a) (IntKind.u8.wrap b.1))) fun d=>
  bd (gop (true&&(((!c)||(!(d.getD default)))==false)) (l5 N (⟨IntKind.u8.wrap a,IntKind.u8.wrap (a/3),IntKind.u8.wrap (a/2),decide ((a%2)=0),b.2.1⟩:MDat) (⟨([IntKind.u8.wrap b.1,IntKind.u8.wrap a,1,2,IntKind.u8.wrap (b.1/7)]:List Int)⟩:WDat))) fun e=>
  bd (gop (true&&((((!c)||(!(d.getD default)))||(!(e.getD default)))==false)) (oh N (⟨IntKind.u8.wrap a,IntKind.u8.wrap (a/3),IntKind.u8.wrap (a/2),decide ((a%2)=0),b.2.1⟩:MDat) (⟨([IntKind.u8.wrap b.1,IntKind.u8.wrap a,1,2,IntKind.u8.wrap (b.1/7)]:List Int)⟩:WDat) b.2.2)) fun f=>
  bd (gop (true&&(((((!c)||(!(d.getD default)))||(!(e.getD default)))||(!(f.getD default)))==false)) (o5 N (⟨IntKind.u8.wrap a,IntKind.u8.wrap (a/3),IntKind.u8.wrap (a/2),decide ((a%2)=0),b.2.1⟩:MDat) (⟨IntKind.u8.wrap a,IntKind.u8.wrap (a/3),IntKind.u8.wrap (a/2),decide ((a%2)=0),b.2.1⟩:MDat) ((IntKind.u8.wrap a,IntKind.u8.wrap b.1):(Int×Int)))) fun g=>
  gd ((true&&((((((!c)||(!(d.getD default)))||(!(e.getD default)))||(!(f.getD default)))||(!(g.getD default)))==false))=true→okQ a 3)<|
  gd ((true&&((((((!c)||(!(d.getD default)))||(!(e.getD default)))||(!(f.getD default)))||(!(g.getD default)))==false))=true→okQ a 2)<|
  bd (gop (true&&((((((!c)||(!(d.getD default)))||(!(e.getD default)))||(!(f.getD default)))||(!(g.getD default)))==false)) (z0i N (⟨IntKind.u8.wrap a,IntKind.u8.wrap (a/3),IntKind.u8.wrap (a/2),b.2.2,b.2.1⟩:Sb))) fun j=>
  bif (((((!c)||(!(d.getD default)))||(!(e.getD default)))||(!(f.getD default)))||(!(g.getD default)))||(!(j.getD default)) then(
  some (Ex.rt false)) else(
  gd (in64 (a+1))<|
  wy N h b.1 (a+1))) else(
  some (Ex.go ()))
def z0d(N:Nat):Option Bool:=
 bd (
 nk N N 0 ([]:List (List Edge))) fun e=>
 bd (z11 N (⟨2,1,e⟩:Mach) 0 1) fun b=>
 bd (lw N (⟨2,1,e⟩:Mach) 10) fun a=>
 gd ((true&&((((((decide (b.2.2≠0))||(!b.2.1))||(decide ((↑b.1.length:Int)≠63)))||(decide (a.2≠0)))||(decide ((↑a.1.length:Int)≠64)))==false))=true→okI a.1 10)<|
 gd ((true&&(((((((decide (b.2.2≠0))||(!b.2.1))||(decide ((↑b.1.length:Int)≠63)))||(decide (a.2≠0)))||(decide ((↑a.1.length:Int)≠64)))||(decide ((ix a.1 10)≠0)))==false))=true→okI a.1 11)<|
 gd ((true&&((((((((decide (b.2.2≠0))||(!b.2.1))||(decide ((↑b.1.length:Int)≠63)))||(decide (a.2≠0)))||(decide ((↑a.1.length:Int)≠64)))||(decide ((ix a.1 10)≠0)))||(decide ((ix a.1 11)≠63)))==false))=true→okI a.1 9)<|
 bif (((((((decide (b.2.2≠0))||(!b.2.1))||(decide ((↑b.1.length:Int)≠63)))||(decide (a.2≠0)))||(decide ((↑a.1.length:Int)≠64)))||(decide ((ix a.1 10)≠0)))||(decide ((ix a.1 11)≠63)))||(decide ((ix a.1 9)≠1)) then(
 some false) else(
 bd (
 wy N N 1 0) fun c=>
 Ex.on c (fun f=>
 bd (gp N) fun d=>
 some d) some)
end GV
end Go.Proofs.Ytncblcdhmcmkmaa
