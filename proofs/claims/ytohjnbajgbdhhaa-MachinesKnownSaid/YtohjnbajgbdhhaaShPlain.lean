import Derived.Test.YtohjnbajgbdhhaaShTypes
set_option linter.unusedVariables false
set_option linter.unusedSimpArgs false
namespace Go.Proofs.Ytohjnbajgbdhhaa
namespace GV
set_option maxRecDepth 100000
def xq(N:Nat)(x:MDat)(c:Int):Nat→(List Edge)→Int→Option (List Edge)
 |0,_,_=>none
 |e+1,d,b=>
  bif decide (b<((1:Int)+(x.ins%3))) then(
  bd (
  bd (
  gd (in64 (c*((1:Int)+(x.ins%3))))<|
  gd (in64 ((c*((1:Int)+(x.ins%3)))+b))<|
  bif decide (((c*((1:Int)+(x.ins%3)))+b)<(↑x.edges.length:Int)) then(
  gd (okI x.edges ((c*((1:Int)+(x.ins%3)))+b))<|
  gd (in64 (ix x.edges ((c*((1:Int)+(x.ins%3)))+b)))<|
  some (ix x.edges ((c*((1:Int)+(x.ins%3)))+b))) else(
  some 0)) fun a=>
  gd ((true&&(x.part==true))=true→okR a 4)<|
  bif x.part&&(decide ((a%4)=3)) then(
  gd (fits 16 d ([(⟨(-1),(-1)⟩:Edge)]:List Edge))<|
  some (d++([(⟨(-1),(-1)⟩:Edge)]:List Edge))) else(
  gd (okQ a 4)<|
  gd (okR (a/4) ((1:Int)+(x.states%6)))<|
  gd (okQ a 4)<|
  gd (okQ (a/4) ((1:Int)+(x.states%6)))<|
  gd (okR ((a/4)/((1:Int)+(x.states%6))) ((1:Int)+(x.outs%3)))<|
  gd (fits 16 d ([(⟨(a/4)%((1:Int)+(x.states%6)),((a/4)/((1:Int)+(x.states%6)))%((1:Int)+(x.outs%3))⟩:Edge)]:List Edge))<|
  some (d++([(⟨(a/4)%((1:Int)+(x.states%6)),((a/4)/((1:Int)+(x.states%6)))%((1:Int)+(x.outs%3))⟩:Edge)]:List Edge)))) fun f=>
  gd (in64 (b+1))<|
  xq N x c e f (b+1)) else(
  some d)
def bu(N:Nat)(x:MDat):Nat→Int→(List (List Edge))→Option (List (List Edge))
 |0,_,_=>none
 |d+1,a,b=>
  bif decide (a<((1:Int)+(x.states%6))) then(
  bd (
  xq N x a N ([]:List Edge) 0) fun c=>
  gd (fits 24 b ([c]:List (List Edge)))<|
  gd (in64 (a+1))<|
  bu N x d (a+1) (b++([c]:List (List Edge)))) else(
  some b)
def xh(N:Nat)(x:MDat):Option Mach:=
 gd (okR x.states 6)<|
 gd (in64 (x.states%6))<|
 gd (in64 ((1:Int)+(x.states%6)))<|
 gd (okR x.ins 3)<|
 gd (in64 (x.ins%3))<|
 gd (in64 ((1:Int)+(x.ins%3)))<|
 gd (okR x.outs 3)<|
 gd (in64 (x.outs%3))<|
 gd (in64 ((1:Int)+(x.outs%3)))<|
 bd (
 bu N x N 0 ([]:List (List Edge))) fun a=>
 some (⟨(1:Int)+(x.ins%3),(1:Int)+(x.outs%3),a⟩:Mach)
def uw(N:Nat)(s:(List Edge))(f:Edge→Option Bool):Nat→Int→Option (Ex (Unit) (Int))
 |0,_=>none
 |c+1,a=>
  bif decide (a<(↑s.length:Int)) then(
  gd (okI s a)<|
  bd (f (ix s a)) fun b=>
  bif b then(
  some (Ex.rt a)) else(
  gd (in64 (a+1))<|
  uw N s f c (a+1))) else(
  some (Ex.go ()))
def o8(N:Nat)(s:(List Edge))(f:Edge→Option Bool):Option Int:=
 bd (
 uw N s f N 0) fun a=>
 Ex.on a (fun b=>
 some (-1)) some
def pz(N:Nat)(s:(List Edge))(f:Edge→Option Bool):Option Bool:=
 bd (o8 N s f) fun a=>
 some (decide (0≤a))
def lh(N:Nat):Option Edge:=
 some (⟨(-1),(-1)⟩:Edge)
def z0z(N:Nat)(m:Mach)(x:Edge):Option Bool:=
 bd (lh N) fun a=>
 some ((decide (x.to=a.to∧x.out=a.out))||((((decide (0≤x.to))&&(decide (x.to<(↑m.rows.length:Int))))&&(decide (0≤x.out)))&&(decide (x.out<m.outputs))))
def z3j(N:Nat)(x:Edge)(p0_:Mach):Option Bool:=
 bd (z0z N p0_ x) fun a=>
 some (!a)
def cz(N:Nat)(m:Mach):Nat→Int→Option (Ex (Unit) (Int))
 |0,_=>none
 |b+1,a=>
  bif decide (a<(↑m.rows.length:Int)) then(
  gd (okI m.rows a)<|
  bd (gop (true&&((decide ((↑(ix m.rows a).length:Int)≠m.inputs))==false)) (pz N (ix m.rows a) (fun d=>z3j N d m))) fun c=>
  bif (decide ((↑(ix m.rows a).length:Int)≠m.inputs))||(c.getD default) then(
  some (Ex.rt 1)) else(
  gd (in64 (a+1))<|
  cz N m b (a+1))) else(
  some (Ex.go ()))
def uj(N:Nat)(m:Mach):Option Int:=
 bif ((decide (16<m.inputs))||(decide (16<m.outputs)))||(decide (64<(↑m.rows.length:Int))) then(
 some 3) else(
 bif ((decide (m.inputs<1))||(decide (m.outputs<1)))||(decide ((↑m.rows.length:Int)<1)) then(
 some 1) else(
 bd (
 cz N m N 0) fun a=>
 Ex.on a (fun b=>
 some 0) some))
def z2w(N:Nat)(m:Mach):Option Mach:=
 some m
def bz(N:Nat)(σ:Type)(B:((Int×Int)×Edge)→σ→Option (Bool×σ))(p0_:Mach)(c:Int):Nat→σ→Int→Option (Ex (σ) (σ))
 |0,_,_=>none
 |e+1,d,a=>
  bif decide (a<(↑(ix p0_.rows c).length:Int)) then(
  gd (okI (ix p0_.rows c) a)<|
  bd (B (((c,a):(Int×Int)),(⟨(ix (ix p0_.rows c) a).to,(ix (ix p0_.rows c) a).out⟩:Edge)) d) fun b=>
  bif !b.1 then(
  some (Ex.rt b.2)) else(
  gd (in64 (a+1))<|
  bz N σ B p0_ c e b.2 (a+1))) else(
  some (Ex.go d))
def dn(N:Nat)(σ:Type)(B:((Int×Int)×Edge)→σ→Option (Bool×σ))(p0_:Mach):Nat→σ→Int→Option σ
 |0,_,_=>none
 |e+1,d,a=>
  bif decide (a<(↑p0_.rows.length:Int)) then(
  bd (
  gd (okI p0_.rows a)<|
  bz N σ B p0_ a N d 0) fun b=>
  Ex.on b (fun c=>
  gd (in64 (a+1))<|
  dn N σ B p0_ e c (a+1)) some) else(
  some d)
def z0c(N:Nat)(p0_:Mach)(σ:Type)(B:((Int×Int)×Edge)→σ→Option (Bool×σ))(a:σ):Option σ:=
 dn N σ B p0_ N a 0
def z0n(N:Nat)(s:(List (Int×Int))):Option (List (Int×Int)):=
 gd (okS s 0 (↑s.length:Int))<|
 some (cut s 0 (↑s.length:Int))
def ae(N:Nat)(m:Mach):Option (List (Int×Int)):=
 bd (z2w N m) fun f=>
 bd (z0c N f (List (Int×Int)) (fun a b=>
 bd (lh N) fun c=>
 bif decide (a.2.to=c.to∧a.2.out=c.out) then(
 gd (fits 16 b ([((a.1.1,a.1.2):(Int×Int))]:List (Int×Int)))<|
 some (true,(b++([((a.1.1,a.1.2):(Int×Int))]:List (Int×Int))))) else(
 some (true,b))) ([]:List (Int×Int))) fun d=>
 bd (z0n N d) fun e=>
 some e
def ol(N:Nat)(m:Mach):Option (Bool×Int):=
 bd (uj N m) fun b=>
 bif decide (b≠0) then(
 some (false,b)) else(
 bd (ae N m) fun a=>
 some ((decide ((↑a.length:Int)=0)),0))
def xz(N:Nat)(self:Int→List Bool→Mach→Option (List Bool))(s:Int)(p1_:Mach):Nat→Int→(List Bool)→Option (List Bool)
 |0,_,_=>none
 |c+1,a,b=>
  bif decide (a<(↑(ix p1_.rows s).length:Int)) then(
  gd (okI (ix p1_.rows s) a)<|
  bd (self ((ix (ix p1_.rows s) a).to) b p1_) fun d=>
  gd (in64 (a+1))<|
  xz N self s p1_ c (a+1) d) else(
  some b)
def yz(N:Nat):Nat→Int→List Bool→Mach→Option (List Bool)
 |0,_,_,_=>none
 |F+1,s,p0_,p1_=>
  gd ((true&&((decide (s=(-1)))==false))=true→okI p0_ s)<|
  bif (decide (s=(-1)))||(ix p0_ s) then(
  some p0_) else(
  gd (okI p0_ s)<|
  gd (okI p1_.rows s)<|
  xz N (yz N F) s p1_ N 0 (up p0_ s true))
def gu(N:Nat)(s:(List Bool))(v_:Bool):Nat→Int→Option (Ex (Unit) (Int))
 |0,_=>none
 |b+1,a=>
  bif decide (a<(↑s.length:Int)) then(
  gd (okI s a)<|
  bif decide (v_=(ix s a)) then(
  some (Ex.rt a)) else(
  gd (in64 (a+1))<|
  gu N s v_ b (a+1))) else(
  some (Ex.go ()))
def z08(N:Nat)(s:(List Bool))(v_:Bool):Option Int:=
 bd (
 gu N s v_ N 0) fun a=>
 Ex.on a (fun b=>
 some (-1)) some
def l8(N:Nat)(s:(List Bool))(v_:Bool):Option Bool:=
 bd (z08 N s v_) fun a=>
 some (decide (0≤a))
def ah(N:Nat)(m:Mach):Option (Bool×Int):=
 bd (uj N m) fun c=>
 bif decide (c≠0) then(
 some (false,c)) else(
 gd (okM 1 (↑m.rows.length:Int))<|
 bd (yz N N 0 (mk (↑m.rows.length:Int) false) m) fun a=>
 bd (l8 N a false) fun b=>
 some ((!b),0))
def mo(N:Nat)(m:Mach):Option (Int×Int):=
 bd (uj N m) fun b=>
 bif decide (b≠0) then(
 some (0,b)) else(
 gd (in64 ((↑m.rows.length:Int)*m.inputs))<|
 bd (ae N m) fun a=>
 gd (in64 (((↑m.rows.length:Int)*m.inputs)-(↑a.length:Int)))<|
 some ((((↑m.rows.length:Int)*m.inputs)-(↑a.length:Int)),0))
def aj(N:Nat)(m:Mach):Option ((List (Int×Int))×Int):=
 bd (uj N m) fun b=>
 bif decide (b≠0) then(
 some (([]:(List (Int×Int))),b)) else(
 bd (ae N m) fun a=>
 some (a,0))
def yf(N:Nat)(m:Mach)(b:Int):Nat→Int→Int→Option Int
 |0,_,_=>none
 |d+1,c,a=>
  bif decide (a<m.inputs) then(
  bd (
  gd (okI m.rows b)<|
  gd (okI (ix m.rows b) a)<|
  bif decide (0≤((ix (ix m.rows b) a).to)) then(
  gd (in64 (c+1))<|
  some (c+1)) else(
  some c)) fun e=>
  gd (in64 (a+1))<|
  yf N m b d e (a+1)) else(
  some c)
def xe(N:Nat)(m:Mach):Nat→Int→Int→Option Int
 |0,_,_=>none
 |d+1,b,a=>
  bif decide (a<(↑m.rows.length:Int)) then(
  bd (
  yf N m a N b 0) fun c=>
  gd (in64 (a+1))<|
  xe N m d c (a+1)) else(
  some b)
def om(N:Nat)(m:Mach):Option Int:=
 bd (
 xe N m N 0 0) fun a=>
 some a
def tu(N:Nat)(m:Mach):Option Bool:=
 bd (om N m) fun a=>
 gd (in64 ((↑m.rows.length:Int)*m.inputs))<|
 some (decide (a=((↑m.rows.length:Int)*m.inputs)))
def yj(N:Nat)(m:Mach)(a:Int):Nat→Int→(List Bool)→Option (List Bool)
 |0,_,_=>none
 |d+1,b,c=>
  bif decide (b<m.inputs) then(
  bd (
  gd (okI m.rows a)<|
  gd (okI (ix m.rows a) b)<|
  gd (okI c a)<|
  bif (ix c a)&&(decide (0≤((ix (ix m.rows a) b).to))) then(
  gd (okI c ((ix (ix m.rows a) b).to))<|
  some (up c ((ix (ix m.rows a) b).to) true)) else(
  some c)) fun e=>
  gd (in64 (b+1))<|
  yj N m a d (b+1) e) else(
  some c)
def yc(N:Nat)(m:Mach):Nat→Int→(List Bool)→Option (List Bool)
 |0,_,_=>none
 |c+1,a,b=>
  bif decide (a<(↑m.rows.length:Int)) then(
  bd (
  yj N m a N 0 b) fun d=>
  gd (in64 (a+1))<|
  yc N m c (a+1) d) else(
  some b)
def xc(N:Nat)(m:Mach):Nat→Int→(List Bool)→Option (List Bool)
 |0,_,_=>none
 |c+1,a,b=>
  bif decide (a<(↑m.rows.length:Int)) then(
  bd (
  yc N m N 0 b) fun d=>
  gd (in64 (a+1))<|
  xc N m c (a+1) d) else(
  some b)
def oq(N:Nat)(m:Mach)(from_:Int):Option (List Bool):=
 gd (okM 1 (↑m.rows.length:Int))<|
 gd (okI (mk (↑m.rows.length:Int) false) from_)<|
 bd (
 xc N m N 0 (up (mk (↑m.rows.length:Int) false) from_ true)) fun a=>
 some a
def wz(N:Nat)(b:(List Bool)):Nat→Int→Option (Ex (Unit) (Bool))
 |0,_=>none
 |c+1,a=>
  bif decide (a<(↑b.length:Int)) then(
  gd (okI b a)<|
  bif !(ix b a) then(
  some (Ex.rt false)) else(
  gd (in64 (a+1))<|
  wz N b c (a+1))) else(
  some (Ex.go ()))
def ak(N:Nat)(m:Mach):Option Bool:=
 bd (oq N m 0) fun b=>
 bd (
 wz N b N 0) fun a=>
 Ex.on a (fun c=>
 some true) some
def ji(N:Nat)(to_:Int)(out:Int):Option Edge:=
 some (⟨to_,out⟩:Edge)
def iq(N:Nat)(m:Mach)(s:Int):Option Int:=
 bd (uj N m) fun a=>
 bif decide (a≠0) then(
 some a) else(
 bif (decide (s<0))||(decide ((↑m.rows.length:Int)≤s)) then(
 some 1) else(
 some 0))
def yl(N:Nat)(s:(List Int))(f:Int→Option Bool):Nat→Int→Option (Ex (Unit) (Int))
 |0,_=>none
 |c+1,a=>
  bif decide (a<(↑s.length:Int)) then(
  gd (okI s a)<|
  bd (f (ix s a)) fun b=>
  bif b then(
  some (Ex.rt a)) else(
  gd (in64 (a+1))<|
  yl N s f c (a+1))) else(
  some (Ex.go ()))
def l6(N:Nat)(s:(List Int))(f:Int→Option Bool):Option Int:=
 bd (
 yl N s f N 0) fun a=>
 Ex.on a (fun b=>
 some (-1)) some
def av(N:Nat)(s:(List Int))(f:Int→Option Bool):Option Bool:=
 bd (l6 N s f) fun a=>
 some (decide (0≤a))
def z5s(N:Nat)(c:Int)(p0_:Int):Option Bool:=
 some ((decide (c<0))||(decide (p0_≤c)))
def z2q(N:Nat)(w_:(List Int))(inputs:Int):Option Int:=
 bif (decide (16<inputs))||(decide (256<(↑w_.length:Int))) then(
 some 3) else(
 bd (gop (true&&((decide (inputs<1))==false)) (av N w_ (fun b=>z5s N b inputs))) fun a=>
 bif (decide (inputs<1))||(a.getD default) then(
 some 1) else(
 some 0))
def sj(N:Nat)(m:Mach)(w_:(List Int)):Nat→Int→Int→(List Int)→Option (Int×List Int)
 |0,_,_,_=>none
 |f+1,b,a,c=>
  bif decide (a<(↑w_.length:Int)) then(
  gd (okI w_ a)<|
  bd (lh N) fun d=>
  bd (
  bif decide (b≠(-1)) then(
  gd (okI m.rows b)<|
  gd (okI (ix m.rows b) (ix w_ a))<|
  some ((ix (ix m.rows b) (ix w_ a)).to,(ix (ix m.rows b) (ix w_ a)).out)) else(
  some (d.to,d.out))) fun e=>
  gd (okI c a)<|
  gd (in64 (a+1))<|
  sj N m w_ f e.1 (a+1) (up c a e.2)) else(
  some (b,c))
def z1o(N:Nat)(m:Mach)(s:Int)(w_:(List Int)):Option ((List Int)×Int):=
 gd (okM 8 (↑w_.length:Int))<|
 bd (
 sj N m w_ N s 0 (mk (↑w_.length:Int) (0:Int))) fun a=>
 some (a.2,a.1)
def il(N:Nat)(m:Mach)(s:Int)(w_:(List Int)):Option ((List Int)×Int):=
 bd (iq N m s) fun c=>
 bif decide (c≠0) then(
 some (([]:(List Int)),c)) else(
 bd (z2q N w_ m.inputs) fun a=>
 bif decide (a≠0) then(
 some (([]:(List Int)),a)) else(
 bd (z1o N m s w_) fun b=>
 some (b.1,0)))
def bf(N:Nat)(m:Mach)(s:Int)(w_:(List Int)):Option (Int×Int):=
 bd (iq N m s) fun c=>
 bif decide (c≠0) then(
 some (0,c)) else(
 bd (z2q N w_ m.inputs) fun a=>
 bif decide (a≠0) then(
 some (0,a)) else(
 bd (z1o N m s w_) fun b=>
 some (b.2,0)))
def ig(N:Nat)(m:Mach)(s:Int)(i:Int):Option (Edge×Int):=
 bd (iq N m s) fun a=>
 bif decide (a≠0) then(
 some ((⟨0,0⟩:Edge),a)) else(
 bif (decide (i<0))||(decide (m.inputs≤i)) then(
 some ((⟨0,0⟩:Edge),1)) else(
 gd (okI m.rows s)<|
 gd (okI (ix m.rows s) i)<|
 some ((⟨(ix (ix m.rows s) i).to,(ix (ix m.rows s) i).out⟩:Edge),0)))
def tq(N:Nat)(s:List Edge):Option (List Edge):=
 gd (okS s 0 (↑s.length:Int))<|
 some (cut s 0 (↑s.length:Int))
def nu(N:Nat)(s:(List Edge)):Option (List Edge):=
 gd (fits 16 ([]:List Edge) s)<|
 some (([]:List Edge)++s)
def mq(N:Nat)(m:Mach):Nat→Int→(List (List Edge))→Option (List (List Edge))
 |0,_,_=>none
 |e+1,a,b=>
  bif decide (a<(↑m.rows.length:Int)) then(
  gd (okI m.rows a)<|
  bd (nu N (ix m.rows a)) fun c=>
  bd (tq N c) fun d=>
  gd (okI b a)<|
  gd (in64 (a+1))<|
  mq N m e (a+1) (up b a d)) else(
  some b)
def ll(N:Nat)(m:Mach)(s:Int)(i:Int)(x:Edge):Option (Mach×Int):=
 bd (iq N m s) fun b=>
 bif decide (b≠0) then(
 some ((⟨0,0,[]⟩:Mach),b)) else(
 bd (gop (true&&(((decide (i<0))||(decide (m.inputs≤i)))==false)) (z0z N m x)) fun c=>
 bif ((decide (i<0))||(decide (m.inputs≤i)))||(!(c.getD default)) then(
 some ((⟨0,0,[]⟩:Mach),1)) else(
 gd (okM 24 (↑m.rows.length:Int))<|
 bd (
 mq N m N 0 (mk (↑m.rows.length:Int) ([]:List Edge))) fun a=>
 gd (okI a s)<|
 gd (okI (ix a s) i)<|
 some ((⟨m.inputs,m.outputs,(up a s (up (ix a s) i x))⟩:Mach),0)))
def y5(N:Nat)(a:(List Int))(b:(List Int)):Nat→Int→Option (Ex (Unit) (Int))
 |0,_=>none
 |d+1,c=>
  bif decide (c<(↑a.length:Int)) then(
  gd (okI a c)<|
  gd (okI b c)<|
  bif decide ((ix a c)<(ix b c)) then(
  some (Ex.rt (-1))) else(
  gd (okI a c)<|
  gd (okI b c)<|
  bif decide ((ix b c)<(ix a c)) then(
  some (Ex.rt 1)) else(
  gd (in64 (c+1))<|
  y5 N a b d (c+1)))) else(
  some (Ex.go ()))
def sw(N:Nat)(a:(List Int))(b:(List Int)):Option Int:=
 bif decide ((↑a.length:Int)<(↑b.length:Int)) then(
 some (-1)) else(
 bif decide ((↑b.length:Int)<(↑a.length:Int)) then(
 some 1) else(
 bd (
 y5 N a b N 0) fun c=>
 Ex.on c (fun d=>
 some 0) some))
def eu(N:Nat)(a:(List Int))(b:(List Int)):Option Bool:=
 bd (sw N a b) fun c=>
 some (decide (c=0))
def pg(N:Nat)(l_:(List Int))(e:Int)(want:(List Int))(f:Int):Option Bool:=
 bd (gop (true&&((decide (e=f))==true)) (eu N l_ want)) fun a=>
 some (((decide (e=f))&&(a.getD default))&&(decide ((↑l_.length:Int)=(↑l_.length:Int))))
def vk(N:Nat):Option Bool:=
 bd (ji N 1 0) fun c=>
 bd (ji N 0 1) fun d=>
 bd (ji N (-1) (-1)) fun a=>
 bd (ji N 0 0) fun b=>
 bd (ol N (⟨2,2,([([(⟨c.to,c.out⟩:Edge),(⟨d.to,d.out⟩:Edge)]:List Edge),([(⟨a.to,a.out⟩:Edge),(⟨b.to,b.out⟩:Edge)]:List Edge)]:List (List Edge))⟩:Mach)) fun k=>
 bd (ah N (⟨2,2,([([(⟨c.to,c.out⟩:Edge),(⟨d.to,d.out⟩:Edge)]:List Edge),([(⟨a.to,a.out⟩:Edge),(⟨b.to,b.out⟩:Edge)]:List Edge)]:List (List Edge))⟩:Mach)) fun l=>
 bd (mo N (⟨2,2,([([(⟨c.to,c.out⟩:Edge),(⟨d.to,d.out⟩:Edge)]:List Edge),([(⟨a.to,a.out⟩:Edge),(⟨b.to,b.out⟩:Edge)]:List Edge)]:List (List Edge))⟩:Mach)) fun m=>
 bd (aj N (⟨2,2,([([(⟨c.to,c.out⟩:Edge),(⟨d.to,d.out⟩:Edge)]:List Edge),([(⟨a.to,a.out⟩:Edge),(⟨b.to,b.out⟩:Edge)]:List Edge)]:List (List Edge))⟩:Mach)) fun f=>
 bd (uj N (⟨2,2,([([(⟨c.to,c.out⟩:Edge),(⟨d.to,d.out⟩:Edge)]:List Edge),([(⟨a.to,a.out⟩:Edge),(⟨b.to,b.out⟩:Edge)]:List Edge)]:List (List Edge))⟩:Mach)) fun s=>
 gd ((true&&((((((((((decide (s≠0))||k.1)||(decide (k.2≠0)))||(!l.1))||(decide (l.2≠0)))||(decide (m.1≠3)))||(decide (m.2≠0)))||(decide (f.2≠0)))||(decide ((↑f.1.length:Int)≠1)))==false))=true→okI f.1 0)<|
 bif (((((((((decide (s≠0))||k.1)||(decide (k.2≠0)))||(!l.1))||(decide (l.2≠0)))||(decide (m.1≠3)))||(decide (m.2≠0)))||(decide (f.2≠0)))||(decide ((↑f.1.length:Int)≠1)))||(decide (¬(((ix f.1 0).1)=(1:Int)∧((ix f.1 0).2)=(0:Int)))) then(
 some false) else(
 bd (il N (⟨2,2,([([(⟨c.to,c.out⟩:Edge),(⟨d.to,d.out⟩:Edge)]:List Edge),([(⟨a.to,a.out⟩:Edge),(⟨b.to,b.out⟩:Edge)]:List Edge)]:List (List Edge))⟩:Mach) 0 ([1,0,1,1]:List Int)) fun n=>
 bd (bf N (⟨2,2,([([(⟨c.to,c.out⟩:Edge),(⟨d.to,d.out⟩:Edge)]:List Edge),([(⟨a.to,a.out⟩:Edge),(⟨b.to,b.out⟩:Edge)]:List Edge)]:List (List Edge))⟩:Mach) 0 ([1,0,1,1]:List Int)) fun e=>
 bd (il N (⟨2,2,([([(⟨c.to,c.out⟩:Edge),(⟨d.to,d.out⟩:Edge)]:List Edge),([(⟨a.to,a.out⟩:Edge),(⟨b.to,b.out⟩:Edge)]:List Edge)]:List (List Edge))⟩:Mach) 0 ([0,0,1]:List Int)) fun o=>
 bd (bf N (⟨2,2,([([(⟨c.to,c.out⟩:Edge),(⟨d.to,d.out⟩:Edge)]:List Edge),([(⟨a.to,a.out⟩:Edge),(⟨b.to,b.out⟩:Edge)]:List Edge)]:List (List Edge))⟩:Mach) 0 ([0,0,1]:List Int)) fun g=>
 bd (ig N (⟨2,2,([([(⟨c.to,c.out⟩:Edge),(⟨d.to,d.out⟩:Edge)]:List Edge),([(⟨a.to,a.out⟩:Edge),(⟨b.to,b.out⟩:Edge)]:List Edge)]:List (List Edge))⟩:Mach) 1 0) fun i=>
 bd (ig N (⟨2,2,([([(⟨c.to,c.out⟩:Edge),(⟨d.to,d.out⟩:Edge)]:List Edge),([(⟨a.to,a.out⟩:Edge),(⟨b.to,b.out⟩:Edge)]:List Edge)]:List (List Edge))⟩:Mach) 2 0) fun t=>
 bd (ig N (⟨2,2,([([(⟨c.to,c.out⟩:Edge),(⟨d.to,d.out⟩:Edge)]:List Edge),([(⟨a.to,a.out⟩:Edge),(⟨b.to,b.out⟩:Edge)]:List Edge)]:List (List Edge))⟩:Mach) 0 2) fun u=>
 bd (ji N 1 1) fun v=>
 bd (ll N (⟨2,2,([([(⟨c.to,c.out⟩:Edge),(⟨d.to,d.out⟩:Edge)]:List Edge),([(⟨a.to,a.out⟩:Edge),(⟨b.to,b.out⟩:Edge)]:List Edge)]:List (List Edge))⟩:Mach) 1 0 v) fun h=>
 bd (ol N (⟨h.1.inputs,h.1.outputs,h.1.rows⟩:Mach)) fun p=>
 bd (ji N 2 0) fun w=>
 bd (ll N (⟨2,2,([([(⟨c.to,c.out⟩:Edge),(⟨d.to,d.out⟩:Edge)]:List Edge),([(⟨a.to,a.out⟩:Edge),(⟨b.to,b.out⟩:Edge)]:List Edge)]:List (List Edge))⟩:Mach) 1 0 w) fun x=>
 bd (ji N (-1) 0) fun y=>
 bd (ll N (⟨2,2,([([(⟨c.to,c.out⟩:Edge),(⟨d.to,d.out⟩:Edge)]:List Edge),([(⟨a.to,a.out⟩:Edge),(⟨b.to,b.out⟩:Edge)]:List Edge)]:List (List Edge))⟩:Mach) 1 0 y) fun z=>
 bd (pg N n.1 n.2 ([1,0,0,1]:List Int) 0) fun j=>
 bd (gop (true&&(((j&&(decide (e.1=0)))&&(decide (e.2=0)))==true)) (pg N o.1 o.2 ([0,(-1),(-1)]:List Int) 0)) fun q=>
 bd (gop (true&&((((((j&&(decide (e.1=0)))&&(decide (e.2=0)))&&(q.getD default))&&(decide (g.1=(-1))))&&(decide (g.2=0)))==true)) (ji N (-1) (-1))) fun r=>
 some ((((((((((((((j&&(decide (e.1=0)))&&(decide (e.2=0)))&&(q.getD default))&&(decide (g.1=(-1))))&&(decide (g.2=0)))&&(decide (i.1.to=((r.getD default).to)∧i.1.out=((r.getD default).out))))&&(decide (i.2=0)))&&(decide (t.2=1)))&&(decide (u.2=1)))&&(decide (h.2=0)))&&p.1)&&(decide (p.2=0)))&&(decide (x.2=1)))&&(decide (z.2=1))))
def uf(N:Nat)(d:Mach)(b:(List (Int×Int))×Int):Nat→Int→Option (Ex (Unit) (Bool))
 |0,_=>none
 |e+1,a=>
  bif decide (a<(↑b.1.length:Int)) then(
  gd (okI b.1 a)<|
  gd (okI d.rows ((ix b.1 a).1))<|
  gd (okI b.1 a)<|
  gd (okI (ix d.rows ((ix b.1 a).1)) ((ix b.1 a).2))<|
  bd (ji N (-1) (-1)) fun c=>
  gd (((true&&((decide (¬(((ix (ix d.rows ((ix b.1 a).1)) ((ix b.1 a).2)).to)=c.to∧((ix (ix d.rows ((ix b.1 a).1)) ((ix b.1 a).2)).out)=c.out)))==false))&&((decide (0<a))==true))=true→okI b.1 a)<|
  gd (((true&&((decide (¬(((ix (ix d.rows ((ix b.1 a).1)) ((ix b.1 a).2)).to)=c.to∧((ix (ix d.rows ((ix b.1 a).1)) ((ix b.1 a).2)).out)=c.out)))==false))&&((decide (0<a))==true))=true→in64 (((ix b.1 a).1)*100))<|
  gd (((true&&((decide (¬(((ix (ix d.rows ((ix b.1 a).1)) ((ix b.1 a).2)).to)=c.to∧((ix (ix d.rows ((ix b.1 a).1)) ((ix b.1 a).2)).out)=c.out)))==false))&&((decide (0<a))==true))=true→okI b.1 a)<|
  gd (((true&&((decide (¬(((ix (ix d.rows ((ix b.1 a).1)) ((ix b.1 a).2)).to)=c.to∧((ix (ix d.rows ((ix b.1 a).1)) ((ix b.1 a).2)).out)=c.out)))==false))&&((decide (0<a))==true))=true→in64 ((((ix b.1 a).1)*100)+((ix b.1 a).2)))<|
  gd (((true&&((decide (¬(((ix (ix d.rows ((ix b.1 a).1)) ((ix b.1 a).2)).to)=c.to∧((ix (ix d.rows ((ix b.1 a).1)) ((ix b.1 a).2)).out)=c.out)))==false))&&((decide (0<a))==true))=true→in64 (a-1))<|
  gd (((true&&((decide (¬(((ix (ix d.rows ((ix b.1 a).1)) ((ix b.1 a).2)).to)=c.to∧((ix (ix d.rows ((ix b.1 a).1)) ((ix b.1 a).2)).out)=c.out)))==false))&&((decide (0<a))==true))=true→okI b.1 (a-1))<|
  gd (((true&&((decide (¬(((ix (ix d.rows ((ix b.1 a).1)) ((ix b.1 a).2)).to)=c.to∧((ix (ix d.rows ((ix b.1 a).1)) ((ix b.1 a).2)).out)=c.out)))==false))&&((decide (0<a))==true))=true→in64 (((ix b.1 (a-1)).1)*100))<|
  gd (((true&&((decide (¬(((ix (ix d.rows ((ix b.1 a).1)) ((ix b.1 a).2)).to)=c.to∧((ix (ix d.rows ((ix b.1 a).1)) ((ix b.1 a).2)).out)=c.out)))==false))&&((decide (0<a))==true))=true→in64 (a-1))<|
  gd (((true&&((decide (¬(((ix (ix d.rows ((ix b.1 a).1)) ((ix b.1 a).2)).to)=c.to∧((ix (ix d.rows ((ix b.1 a).1)) ((ix b.1 a).2)).out)=c.out)))==false))&&((decide (0<a))==true))=true→okI b.1 (a-1))<|
  gd (((true&&((decide (¬(((ix (ix d.rows ((ix b.1 a).1)) ((ix b.1 a).2)).to)=c.to∧((ix (ix d.rows ((ix b.1 a).1)) ((ix b.1 a).2)).out)=c.out)))==false))&&((decide (0<a))==true))=true→in64 ((((ix b.1 (a-1)).1)*100)+((ix b.1 (a-1)).2)))<|
  bif (decide (¬(((ix (ix d.rows ((ix b.1 a).1)) ((ix b.1 a).2)).to)=c.to∧((ix (ix d.rows ((ix b.1 a).1)) ((ix b.1 a).2)).out)=c.out)))||((decide (0<a))&&(decide (((((ix b.1 a).1)*100)+((ix b.1 a).2))≤((((ix b.1 (a-1)).1)*100)+((ix b.1 (a-1)).2))))) then(
  some (Ex.rt false)) else(
  gd (in64 (a+1))<|
  uf N d b e (a+1))) else(
  some (Ex.go ()))
def ng(N:Nat)(x:MDat):Option Bool:=
 bd (xh N x) fun a=>
 bd (ol N (⟨a.inputs,a.outputs,a.rows⟩:Mach)) fun b=>
 bd (ah N (⟨a.inputs,a.outputs,a.rows⟩:Mach)) fun e=>
 bd (mo N (⟨a.inputs,a.outputs,a.rows⟩:Mach)) fun c=>
 bd (aj N (⟨a.inputs,a.outputs,a.rows⟩:Mach)) fun d=>
 bd (gop (true&&(((((decide (b.2≠0))||(decide (e.2≠0)))||(decide (c.2≠0)))||(decide (d.2≠0)))==false)) (tu N (⟨a.inputs,a.outputs,a.rows⟩:Mach))) fun f=>
 bd (gop (true&&((((((decide (b.2≠0))||(decide (e.2≠0)))||(decide (c.2≠0)))||(decide (d.2≠0)))||(decide (b.1≠(f.getD default))))==false)) (ak N (⟨a.inputs,a.outputs,a.rows⟩:Mach))) fun h=>
 bd (gop (true&&(((((((decide (b.2≠0))||(decide (e.2≠0)))||(decide (c.2≠0)))||(decide (d.2≠0)))||(decide (b.1≠(f.getD default))))||(decide (e.1≠(h.getD default))))==false)) (om N (⟨a.inputs,a.outputs,a.rows⟩:Mach))) fun g=>
 gd ((true&&((((((((decide (b.2≠0))||(decide (e.2≠0)))||(decide (c.2≠0)))||(decide (d.2≠0)))||(decide (b.1≠(f.getD default))))||(decide (e.1≠(h.getD default))))||(decide (c.1≠(g.getD default))))==false))=true→in64 (c.1+(↑d.1.length:Int)))<|
 gd ((true&&((((((((decide (b.2≠0))||(decide (e.2≠0)))||(decide (c.2≠0)))||(decide (d.2≠0)))||(decide (b.1≠(f.getD default))))||(decide (e.1≠(h.getD default))))||(decide (c.1≠(g.getD default))))==false))=true→in64 ((↑a.rows.length:Int)*a.inputs))<|
 bif ((((((((decide (b.2≠0))||(decide (e.2≠0)))||(decide (c.2≠0)))||(decide (d.2≠0)))||(decide (b.1≠(f.getD default))))||(decide (e.1≠(h.getD default))))||(decide (c.1≠(g.getD default))))||(decide ((c.1+(↑d.1.length:Int))≠((↑a.rows.length:Int)*a.inputs))))||(decide ((↑d.1.length:Int)≠(↑d.1.length:Int))) then(
 some false) else(
 bd (
 uf N a d N 0) fun i=>
 Ex.on i (fun k=>
 bd (vk N) fun j=>
 some j) some)
def bq(N:Nat)(x:WDat)(inputs:Int):Nat→(List Int)→Int→Option (List Int)
 |0,_,_=>none
 |c+1,b,a=>
  bif (decide (a<(↑x.syms.length:Int)))&&(decide (a<12)) then(
  gd (okI x.syms a)<|
  gd (in64 (ix x.syms a))<|
  gd (okR (ix x.syms a) inputs)<|
  gd (fits 8 b ([(ix x.syms a)%inputs]:List Int))<|
  gd (in64 (a+1))<|
  bq N x inputs c (b++([(ix x.syms a)%inputs]:List Int)) (a+1)) else(
  some b)
def ai(N:Nat)(x:WDat)(inputs:Int):Option (List Int):=
 bd (
 bq N x inputs N ([]:List Int) 0) fun a=>
 some a
def rz(N:Nat)(m:Mach)(s:Int)(i:Int):Option Edge:=
 bif decide (s<0) then(
 some (⟨(-1),(-1)⟩:Edge)) else(
 gd (okI m.rows s)<|
 gd (okI (ix m.rows s) i)<|
 some (⟨(ix (ix m.rows s) i).to,(ix (ix m.rows s) i).out⟩:Edge))
def p8(N:Nat)(m:Mach)(w_:(List Int)):Nat→Int→(List Int)→Int→Option (List Int)
 |0,_,_,_=>none
 |d+1,e,b,a=>
  bif decide (a<(↑w_.length:Int)) then(
  gd (okI w_ a)<|
  bd (rz N m e (ix w_ a)) fun c=>
  gd (fits 8 b ([c.out]:List Int))<|
  gd (in64 (a+1))<|
  p8 N m w_ d c.to (b++([c.out]:List Int)) (a+1)) else(
  some b)
def lc(N:Nat)(m:Mach)(s:Int)(w_:(List Int)):Option (List Int):=
 bd (
 p8 N m w_ N s ([]:List Int) 0) fun a=>
 some a
def dm(N:Nat):Nat→Mach→Int→(List Int)→Option Int
 |0,_,_,_=>none
 |F+1,m,s,w_=>
  bif decide ((↑w_.length:Int)=0) then(
  some s) else(
  gd (okI w_ 0)<|
  bd (rz N m s (ix w_ 0)) fun b=>
  gd (okS w_ 1 (↑w_.length:Int))<|
  bd ((dm N F) m b.to (cut w_ 1 (↑w_.length:Int))) fun a=>
  some a)
def uu(N:Nat)(c:Mach)(g:(List Int))(b:(List Int)×Int):Nat→Int→Int→Option (Ex (Int) (Bool))
 |0,_,_=>none
 |i+1,e,a=>
  bif decide (a<(↑g.length:Int)) then(
  bd (ji N (-1) (-1)) fun h=>
  bd (
  bif decide (0≤e) then(
  gd (okI g a)<|
  bd (ig N (⟨c.inputs,c.outputs,c.rows⟩:Mach) e (ix g a)) fun f=>
  bif decide (f.2≠0) then(
  some (Ex.rt (Ex.rt false))) else(
  some (Ex.go (f.1.to,f.1.out)))) else(
  some (Ex.go (h.to,h.out)))) fun j=>
  Ex.on j (fun d=>
  gd (okI b.1 a)<|
  gd ((true&&((decide ((ix b.1 a)≠d.2))==false))=true→okI b.1 a)<|
  bd (gop ((true&&((decide ((ix b.1 a)≠d.2))==false))&&((decide ((ix b.1 a)<0))==true)) (tu N (⟨c.inputs,c.outputs,c.rows⟩:Mach))) fun k=>
  bif (decide ((ix b.1 a)≠d.2))||((decide ((ix b.1 a)<0))&&(k.getD default)) then(
  some (Ex.rt false)) else(
  gd (in64 (a+1))<|
  uu N c g b i d.1 (a+1))) some) else(
  some (Ex.go e))
def o9(N:Nat)(x:MDat)(y:WDat)(from_:Int):Option Bool:=
 bd (xh N x) fun a=>
 bd (ai N y a.inputs) fun c=>
 gd (in64 from_)<|
 gd (okR from_ (↑a.rows.length:Int))<|
 bd (il N (⟨a.inputs,a.outputs,a.rows⟩:Mach) (from_%(↑a.rows.length:Int)) c) fun d=>
 bd (bf N (⟨a.inputs,a.outputs,a.rows⟩:Mach) (from_%(↑a.rows.length:Int)) c) fun b=>
 bd (gop (true&&((decide (b.2≠0))==false)) (lc N (⟨a.inputs,a.outputs,a.rows⟩:Mach) (from_%(↑a.rows.length:Int)) c)) fun h=>
 bd (gop (true&&((decide (b.2≠0))==false)) (pg N d.1 d.2 (h.getD default) 0)) fun e=>
 bd (gop (true&&(((decide (b.2≠0))||(!(e.getD default)))==false)) (dm N N (⟨a.inputs,a.outputs,a.rows⟩:Mach) (from_%(↑a.rows.length:Int)) c)) fun i=>
 bif ((decide (b.2≠0))||(!(e.getD default)))||(decide (b.1≠(i.getD default))) then(
 some false) else(
 bd (
 uu N a c d N (from_%(↑a.rows.length:Int)) 0) fun j=>
 Ex.on j (fun f=>
 bd (gop (true&&((decide (f=b.1))==true)) (vk N)) fun g=>
 some ((decide (f=b.1))&&(g.getD default))) some)
def xn(N:Nat)(a:(List Int)):Nat→(List Int)→Int→Option (List Int)
 |0,_,_=>none
 |d+1,c,b=>
  bif decide (b<(↑a.length:Int)) then(
  gd (okI a b)<|
  gd (fits 8 c ([(ix a b)]:List Int))<|
  gd (in64 (b+1))<|
  xn N a d (c++([(ix a b)]:List Int)) (b+1)) else(
  some c)
def xw(N:Nat)(b:(List Int)):Nat→Int→(List Int)→Option (List Int)
 |0,_,_=>none
 |d+1,a,c=>
  bif decide (a<(↑b.length:Int)) then(
  gd (okI b a)<|
  gd (fits 8 c ([(ix b a)]:List Int))<|
  gd (in64 (a+1))<|
  xw N b d (a+1) (c++([(ix b a)]:List Int))) else(
  some c)
def ry(N:Nat)(a:(List Int))(b:(List Int)):Option (List Int):=
 bd (
 xn N a N ([]:List Int) 0) fun d=>
 bd (
 xw N b N 0 d) fun c=>
 some c
def ug(N:Nat)(b:(List Int)×Int):Nat→Int→Option (Ex (Unit) (Bool))
 |0,_=>none
 |c+1,a=>
  bif decide (a<(↑b.1.length:Int)) then(
  gd (okI b.1 a)<|
  bif decide ((ix b.1 a)≠(-1)) then(
  some (Ex.rt false)) else(
  gd (in64 (a+1))<|
  ug N b c (a+1))) else(
  some (Ex.go ()))
def cu(N:Nat)(x:MDat)(y:(WDat×WDat))(from_:Int):Option Bool:=
 bd (xh N x) fun a=>
 bd (ai N y.1 a.inputs) fun c=>
 bd (ai N y.2 a.inputs) fun f=>
 gd (in64 from_)<|
 gd (okR from_ (↑a.rows.length:Int))<|
 bd (ry N c f) fun o=>
 bd (il N (⟨a.inputs,a.outputs,a.rows⟩:Mach) (from_%(↑a.rows.length:Int)) o) fun b=>
 bd (il N (⟨a.inputs,a.outputs,a.rows⟩:Mach) (from_%(↑a.rows.length:Int)) c) fun i=>
 bd (bf N (⟨a.inputs,a.outputs,a.rows⟩:Mach) (from_%(↑a.rows.length:Int)) c) fun h=>
 bd (ry N c f) fun p=>
 bd (bf N (⟨a.inputs,a.outputs,a.rows⟩:Mach) (from_%(↑a.rows.length:Int)) p) fun d=>
 gd ((true&&(((((decide (b.2≠0))||(decide (i.2≠0)))||(decide (h.2≠0)))||(decide (d.2≠0)))==false))=true→in64 ((↑c.length:Int)+(↑f.length:Int)))<|
 gd ((true&&((((((decide (b.2≠0))||(decide (i.2≠0)))||(decide (h.2≠0)))||(decide (d.2≠0)))||(decide ((↑b.1.length:Int)≠((↑c.length:Int)+(↑f.length:Int)))))==false))=true→okS b.1 0 (↑c.length:Int))<|
 bd (gop (true&&((((((decide (b.2≠0))||(decide (i.2≠0)))||(decide (h.2≠0)))||(decide (d.2≠0)))||(decide ((↑b.1.length:Int)≠((↑c.length:Int)+(↑f.length:Int)))))==false)) (eu N (cut b.1 0 (↑c.length:Int)) i.1)) fun k=>
 bif (((((decide (b.2≠0))||(decide (i.2≠0)))||(decide (h.2≠0)))||(decide (d.2≠0)))||(decide ((↑b.1.length:Int)≠((↑c.length:Int)+(↑f.length:Int)))))||(!(k.getD default)) then(
 some false) else(
 bif decide (h.1=(-1)) then(
 bd (
 ug N b N (↑c.length:Int)) fun l=>
 Ex.on l (fun q=>
 bd (gop (true&&((decide (d.1=(-1)))==true)) (vk N)) fun m=>
 some ((decide (d.1=(-1)))&&(m.getD default))) some) else(
 bd (il N (⟨a.inputs,a.outputs,a.rows⟩:Mach) h.1 f) fun g=>
 bd (bf N (⟨a.inputs,a.outputs,a.rows⟩:Mach) h.1 f) fun e=>
 gd ((true&&(((decide (g.2=0))&&(decide (e.2=0)))==true))=true→okS b.1 (↑c.length:Int) (↑b.1.length:Int))<|
 bd (gop (true&&(((decide (g.2=0))&&(decide (e.2=0)))==true)) (eu N (cut b.1 (↑c.length:Int) (↑b.1.length:Int)) g.1)) fun j=>
 bd (gop (true&&(((((decide (g.2=0))&&(decide (e.2=0)))&&(j.getD default))&&(decide (d.1=e.1)))==true)) (vk N)) fun n=>
 some (((((decide (g.2=0))&&(decide (e.2=0)))&&(j.getD default))&&(decide (d.1=e.1)))&&(n.getD default))))
def yx(N:Nat)(m:Mach):Nat→Int→Option (Ex (Unit) (Int))
 |0,_=>none
 |b+1,a=>
  bif decide (a<(↑m.rows.length:Int)) then(
  gd (okI m.rows a)<|
  bif decide (20<(↑(ix m.rows a).length:Int)) then(
  some (Ex.rt 1)) else(
  gd (in64 (a+1))<|
  yx N m b (a+1))) else(
  some (Ex.go ()))
def iw(N:Nat)(m:Mach):Option Int:=
 bif decide (70<(↑m.rows.length:Int)) then(
 some 1) else(
 bd (
 yx N m N 0) fun a=>
 Ex.on a (fun b=>
 some 0) some)
def yh(N:Nat)(m:Mach)(b:Int):Nat→Int→Option (Ex (Unit) (Ex (Unit) (Int)))
 |0,_=>none
 |c+1,a=>
  bif decide (a<m.inputs) then(
  bd (
  gd (okI m.rows b)<|
  gd (okI (ix m.rows b) a)<|
  bif (decide (((ix (ix m.rows b) a).to)=(-1)))&&(decide (((ix (ix m.rows b) a).out)=(-1))) then(
  some (Ex.go ())) else(
  bif (((decide (((ix (ix m.rows b) a).to)<0))||(decide ((↑m.rows.length:Int)≤((ix (ix m.rows b) a).to))))||(decide (((ix (ix m.rows b) a).out)<0)))||(decide (m.outputs≤((ix (ix m.rows b) a).out))) then(
  some (Ex.rt (Ex.rt (Ex.rt 1)))) else(
  some (Ex.go ())))) fun d=>
  Ex.on d (fun e=>
  gd (in64 (a+1))<|
  yh N m b c (a+1)) some) else(
  some (Ex.go ()))
def vg(N:Nat)(m:Mach):Nat→Int→Option (Ex (Unit) (Int))
 |0,_=>none
 |b+1,a=>
  bif decide (a<(↑m.rows.length:Int)) then(
  bd (
  gd (okI m.rows a)<|
  bif decide ((↑(ix m.rows a).length:Int)≠m.inputs) then(
  some (Ex.rt (Ex.rt 1))) else(
  yh N m a N 0)) fun c=>
  Ex.on c (fun d=>
  gd (in64 (a+1))<|
  vg N m b (a+1)) some) else(
  some (Ex.go ()))
def og(N:Nat)(m:Mach):Option Int:=
 bif ((decide (16<m.inputs))||(decide (16<m.outputs)))||(decide (64<(↑m.rows.length:Int))) then(
 some 3) else(
 bif ((decide (m.inputs<1))||(decide (m.outputs<1)))||(decide ((↑m.rows.length:Int)=0)) then(
 some 1) else(
 bd (
 vg N m N 0) fun a=>
 Ex.on a (fun b=>
 some 0) some))
def uo(N:Nat)(s1_:(List (List Edge)))(s2_:(List (List Edge)))(eq:(List Edge)→(List Edge)→Option Bool):Nat→Int→Option (Ex (Unit) (Bool))
 |0,_=>none
 |c+1,a=>
  bif decide (a<(↑s1_.length:Int)) then(
  gd (okI s1_ a)<|
  gd (okI s2_ a)<|
  bd (eq (ix s1_ a) (ix s2_ a)) fun b=>
  bif !b then(
  some (Ex.rt false)) else(
  gd (in64 (a+1))<|
  uo N s1_ s2_ eq c (a+1))) else(
  some (Ex.go ()))
def mg(N:Nat)(s1_:(List (List Edge)))(s2_:(List (List Edge)))(eq:(List Edge)→(List Edge)→Option Bool):Option Bool:=
 bif decide ((↑s1_.length:Int)≠(↑s2_.length:Int)) then(
 some false) else(
 bd (
 uo N s1_ s2_ eq N 0) fun a=>
 Ex.on a (fun b=>
 some true) some)
def yg(N:Nat)(s1_:(List Edge))(s2_:(List Edge)):Nat→Int→Option (Ex (Unit) (Bool))
 |0,_=>none
 |b+1,a=>
  bif decide (a<(↑s1_.length:Int)) then(
  gd (okI s1_ a)<|
  gd (okI s2_ a)<|
  bif decide (¬(((ix s1_ a).to)=((ix s2_ a).to)∧((ix s1_ a).out)=((ix s2_ a).out))) then(
  some (Ex.rt false)) else(
  gd (in64 (a+1))<|
  yg N s1_ s2_ b (a+1))) else(
  some (Ex.go ()))
def r9(N:Nat)(s1_:(List Edge))(s2_:(List Edge)):Option Bool:=
 bif decide ((↑s1_.length:Int)≠(↑s2_.length:Int)) then(
 some false) else(
 bd (
 yg N s1_ s2_ N 0) fun a=>
 Ex.on a (fun b=>
 some true) some)
def dh(N:Nat)(a:Mach)(b:Mach):Option Bool:=
 bd (uj N a) fun c=>
 bd (gop (true&&((decide (c=0))==true)) (uj N b)) fun d=>
 bd (gop (true&&(((((decide (c=0))&&(decide ((d.getD default)=0)))&&(decide (a.inputs=b.inputs)))&&(decide (a.outputs=b.outputs)))==true)) (mg N a.rows b.rows (fun f g=>r9 N f g))) fun e=>
 some (((((decide (c=0))&&(decide ((d.getD default)=0)))&&(decide (a.inputs=b.inputs)))&&(decide (a.outputs=b.outputs)))&&(e.getD default))
def yw(N:Nat)(w_:(List Int))(inputs:Int):Nat→Int→Option (Ex (Unit) (Int))
 |0,_=>none
 |b+1,a=>
  bif decide (a<(↑w_.length:Int)) then(
  gd (okI w_ a)<|
  gd ((true&&((decide ((ix w_ a)<0))==false))=true→okI w_ a)<|
  bif (decide ((ix w_ a)<0))||(decide (inputs≤(ix w_ a))) then(
  some (Ex.rt 1)) else(
  gd (in64 (a+1))<|
  yw N w_ inputs b (a+1))) else(
  some (Ex.go ()))
def iy(N:Nat)(w_:(List Int))(inputs:Int):Option Int:=
 bif (decide (16<inputs))||(decide (256<(↑w_.length:Int))) then(
 some 3) else(
 bif decide (inputs<1) then(
 some 1) else(
 bd (
 yw N w_ inputs N 0) fun a=>
 Ex.on a (fun b=>
 some 0) some))
def yu(N:Nat)(m:Mach)(place:(Int×Int))(w_:(List Int)):Option Bool:=
 bd (iw N m) fun y=>
 bif (decide (y=1))||(decide (300<(↑w_.length:Int))) then(
 some true) else(
 bd (og N m) fun d=>
 bd (ol N m) fun k=>
 bd (ah N m) fun l=>
 bd (mo N m) fun n=>
 bd (aj N m) fun o=>
 bd (uj N m) fun r=>
 bd (gop (true&&(((((((decide (r≠d))||(decide (k.2≠d)))||(decide (l.2≠d)))||(decide (n.2≠d)))||(decide (o.2≠d)))||((decide (d≠0))&&(((k.1||l.1)||(decide (n.1≠0)))||(decide ((↑o.1.length:Int)≠0)))))==false)) (dh N m m)) fun s=>
 bif ((((((decide (r≠d))||(decide (k.2≠d)))||(decide (l.2≠d)))||(decide (n.2≠d)))||(decide (o.2≠d)))||((decide (d≠0))&&(((k.1||l.1)||(decide (n.1≠0)))||(decide ((↑o.1.length:Int)≠0)))))||(decide ((s.getD default)≠(decide (d=0)))) then(
 some false) else(
 bd (
 bif (decide (d=0))&&((decide (place.1<0))||(decide ((↑m.rows.length:Int)≤place.1))) then(
 some 1) else(
 some d)) fun g=>
 bd (ig N m place.1 place.2) fun b=>
 bd (ji N 0 0) fun t=>
 bd (ll N m place.1 place.2 t) fun c=>
 bd (
 bif (decide (g=0))&&((decide (place.2<0))||(decide (m.inputs≤place.2))) then(
 some 1) else(
 some g)) fun a=>
 bd (gop ((true&&(((decide (b.2≠a))||(decide (c.2≠a)))==false))&&((decide (a≠0))==true)) (ji N 0 0)) fun f=>
 gd (((true&&((((decide (b.2≠a))||(decide (c.2≠a)))||((decide (a≠0))&&(((decide (¬(b.1.to=((f.getD default).to)∧b.1.out=((f.getD default).out))))||(decide (c.1.inputs≠0)))||(decide ((↑c.1.rows.length:Int)≠0)))))==false))&&((decide (a=0))==true))=true→okI m.rows place.1)<|
 gd (((true&&((((decide (b.2≠a))||(decide (c.2≠a)))||((decide (a≠0))&&(((decide (¬(b.1.to=((f.getD default).to)∧b.1.out=((f.getD default).out))))||(decide (c.1.inputs≠0)))||(decide ((↑c.1.rows.length:Int)≠0)))))==false))&&((decide (a=0))==true))=true→okI (ix m.rows place.1) place.2)<|
 bif (((decide (b.2≠a))||(decide (c.2≠a)))||((decide (a≠0))&&(((decide (¬(b.1.to=((f.getD default).to)∧b.1.out=((f.getD default).out))))||(decide (c.1.inputs≠0)))||(decide ((↑c.1.rows.length:Int)≠0)))))||((decide (a=0))&&(decide (¬(b.1.to=((ix (ix m.rows place.1) place.2).to)∧b.1.out=((ix (ix m.rows place.1) place.2).out))))) then(
 some false) else(
 bd (
 bif decide (g=0) then(
 bd (iy N w_ m.inputs) fun u=>
 some u) else(
 some g)) fun h=>
 bd (il N m place.1 w_) fun i=>
 bd (bf N m place.1 w_) fun e=>
 bif decide (h≠0) then(
 bd (pg N i.1 i.2 ([]:(List Int)) h) fun p=>
 bd (gop (true&&(((p&&(decide (e.1=0)))&&(decide (e.2=h)))==true)) (vk N)) fun v=>
 some (((p&&(decide (e.1=0)))&&(decide (e.2=h)))&&(v.getD default))) else(
 bd (lc N m place.1 w_) fun w=>
 bd (pg N i.1 i.2 w 0) fun j=>
 bd (gop (true&&((j&&(decide (e.2=0)))==true)) (dm N N m place.1 w_)) fun q=>
 bd (gop (true&&(((j&&(decide (e.2=0)))&&(decide (e.1=(q.getD default))))==true)) (vk N)) fun x=>
 some (((j&&(decide (e.2=0)))&&(decide (e.1=(q.getD default))))&&(x.getD default))))))
def bv(N:Nat)(m:Mach):Nat→Int→(List (List Edge))→Option (List (List Edge))
 |0,_,_=>none
 |c+1,a,b=>
  bif decide (a<(↑m.rows.length:Int)) then(
  gd (okI m.rows a)<|
  gd (fits 16 ([]:List Edge) (ix m.rows a))<|
  gd (fits 24 b ([(([]:List Edge)++(ix m.rows a))]:List (List Edge)))<|
  gd (in64 (a+1))<|
  bv N m c (a+1) (b++([(([]:List Edge)++(ix m.rows a))]:List (List Edge)))) else(
  some b)
def lu(N:Nat)(m:Mach):Option Mach:=
 bd (
 bv N m N 0 ([]:List (List Edge))) fun a=>
 some (⟨m.inputs,m.outputs,a⟩:Mach)
def xy(N:Nat)(m:Mach):Nat→Int→(List (List Edge))→Option (List (List Edge))
 |0,_,_=>none
 |c+1,a,b=>
  bif decide (a<(↑m.rows.length:Int)) then(
  gd (okI m.rows a)<|
  gd (fits 16 ([]:List Edge) (ix m.rows a))<|
  gd (fits 24 b [(([]:List Edge)++(ix m.rows a))])<|
  gd (in64 (a+1))<|
  xy N m c (a+1) (b++[(([]:List Edge)++(ix m.rows a))])) else(
  some b)
def fu(N:Nat)(m:Mach):Option Mach:=
 bd (
 xy N m N 0 ([]:List (List Edge))) fun a=>
 some (⟨m.inputs,m.outputs,a⟩:Mach)
def yn(N:Nat)(a:Mach)(b:Mach)(d:Int):Nat→Int→Option (Ex (Unit) (Ex (Unit) (Bool)))
 |0,_=>none
 |e+1,c=>
  gd (okI a.rows d)<|
  bif decide (c<(↑(ix a.rows d).length:Int)) then(
  gd (okI a.rows d)<|
  gd (okI (ix a.rows d) c)<|
  gd (okI b.rows d)<|
  gd (okI (ix b.rows d) c)<|
  bif decide (¬(((ix (ix a.rows d) c).to)=((ix (ix b.rows d) c).to)∧((ix (ix a.rows d) c).out)=((ix (ix b.rows d) c).out))) then(
  some (Ex.rt (Ex.rt false))) else(
  gd (in64 (c+1))<|
  yn N a b d e (c+1))) else(
  some (Ex.go ()))
def vv(N:Nat)(a:Mach)(b:Mach):Nat→Int→Option (Ex (Unit) (Bool))
 |0,_=>none
 |d+1,c=>
  bif decide (c<(↑a.rows.length:Int)) then(
  bd (
  gd (okI a.rows c)<|
  gd (okI b.rows c)<|
  bif decide ((↑(ix a.rows c).length:Int)≠(↑(ix b.rows c).length:Int)) then(
  some (Ex.rt (Ex.rt false))) else(
  yn N a b c N 0)) fun e=>
  Ex.on e (fun f=>
  gd (in64 (c+1))<|
  vv N a b d (c+1)) some) else(
  some (Ex.go ()))
def bg(N:Nat)(a:Mach)(b:Mach):Option Bool:=
 bif ((decide (a.inputs≠b.inputs))||(decide (a.outputs≠b.outputs)))||(decide ((↑a.rows.length:Int)≠(↑b.rows.length:Int))) then(
 some false) else(
 bd (
 vv N a b N 0) fun c=>
 Ex.on c (fun d=>
 some true) some)
def pq(N:Nat)(m:Mach):Nat→Int→(List (List Edge))→Option (List (List Edge))
 |0,_,_=>none
 |e+1,a,b=>
  bif decide (a<(↑m.rows.length:Int)) then(
  gd (okI m.rows a)<|
  bd (nu N (ix m.rows a)) fun c=>
  bd (tq N c) fun d=>
  gd (okI b a)<|
  gd (in64 (a+1))<|
  pq N m e (a+1) (up b a d)) else(
  some b)
def z0w(N:Nat)(m:Mach)(s:Int)(i:Int)(x:Edge):Option (Mach×Int):=
 bd (iq N m s) fun b=>
 bif decide (b≠0) then(
 some ((⟨0,0,([]:List (List Edge))⟩:Mach),b)) else(
 bd (gop (true&&(((decide (i<0))||(decide (m.inputs≤i)))==false)) (z0z N m x)) fun c=>
 bif ((decide (i<0))||(decide (m.inputs≤i)))||(!(c.getD default)) then(
 some ((⟨0,0,([]:List (List Edge))⟩:Mach),1)) else(
 gd (okM 24 (↑m.rows.length:Int))<|
 bd (
 pq N m N 0 (mk (↑m.rows.length:Int) ([]:List Edge))) fun a=>
 gd (okI a s)<|
 gd (okI (ix a s) i)<|
 some ((⟨m.inputs,m.outputs,(up a s (up (ix a s) i x))⟩:Mach),0)))
def um(N:Nat):Nat→Int→(List (List Edge))→Option Unit
 |0,_,_=>none
 |c+1,a,b=>
  bif decide (a<(↑b.length:Int)) then(
  gd (okI b a)<|
  bd (ji N 0 0) fun d=>
  gd (okI (ix b a) 0)<|
  gd (in64 (a+1))<|
  um N c (a+1) (up b a (up (ix b a) 0 d))) else(
  some ())
def nz(N:Nat)(x:MDat)(place:(Int×Int))(to_:Edge):Option Bool:=
 bd (xh N x) fun a=>
 bd (lu N (⟨a.inputs,a.outputs,a.rows⟩:Mach)) fun f=>
 gd (in64 place.1)<|
 gd (okR place.1 (↑a.rows.length:Int))<|
 gd (in64 place.2)<|
 gd (okR place.2 a.inputs)<|
 bd (z0w N (⟨a.inputs,a.outputs,a.rows⟩:Mach) (place.1%(↑a.rows.length:Int)) (place.2%a.inputs) to_) fun b=>
 bd (fu N (⟨a.inputs,a.outputs,a.rows⟩:Mach)) fun d=>
 gd (okI d.rows (place.1%(↑a.rows.length:Int)))<|
 gd (okI (ix d.rows (place.1%(↑a.rows.length:Int))) (place.2%a.inputs))<|
 bd (bg N (⟨a.inputs,a.outputs,a.rows⟩:Mach) (⟨f.inputs,f.outputs,f.rows⟩:Mach)) fun g=>
 bd (gop (true&&((!g)==false)) (og N (⟨d.inputs,d.outputs,(up d.rows (place.1%(↑a.rows.length:Int)) (up (ix d.rows (place.1%(↑a.rows.length:Int))) (place.2%a.inputs) to_))⟩:Mach))) fun i=>
 bif (!g)||(decide (b.2≠(i.getD default))) then(
 some false) else(
 bif decide (b.2≠0) then(
 bd (gop (true&&((((decide ((↑b.1.rows.length:Int)=0))&&(decide (b.1.inputs=0)))&&(decide (b.1.outputs=0)))==true)) (vk N)) fun j=>
 some ((((decide ((↑b.1.rows.length:Int)=0))&&(decide (b.1.inputs=0)))&&(decide (b.1.outputs=0)))&&(j.getD default))) else(
 bd (bg N (⟨b.1.inputs,b.1.outputs,b.1.rows⟩:Mach) (⟨d.inputs,d.outputs,(up d.rows (place.1%(↑a.rows.length:Int)) (up (ix d.rows (place.1%(↑a.rows.length:Int))) (place.2%a.inputs) to_))⟩:Mach)) fun c=>
 bd (gop (true&&(((!c)||(decide ((↑b.1.rows.length:Int)≠(↑b.1.rows.length:Int))))==false)) (dh N (⟨b.1.inputs,b.1.outputs,b.1.rows⟩:Mach) (⟨a.inputs,a.outputs,a.rows⟩:Mach))) fun e=>
 gd ((true&&(((!c)||(decide ((↑b.1.rows.length:Int)≠(↑b.1.rows.length:Int))))==false))=true→okI a.rows (place.1%(↑a.rows.length:Int)))<|
 gd ((true&&(((!c)||(decide ((↑b.1.rows.length:Int)≠(↑b.1.rows.length:Int))))==false))=true→okI (ix a.rows (place.1%(↑a.rows.length:Int))) (place.2%a.inputs))<|
 bd (gop (true&&((((!c)||(decide ((↑b.1.rows.length:Int)≠(↑b.1.rows.length:Int))))||(decide ((e.getD default)≠(decide (((ix (ix a.rows (place.1%(↑a.rows.length:Int))) (place.2%a.inputs)).to)=to_.to∧((ix (ix a.rows (place.1%(↑a.rows.length:Int))) (place.2%a.inputs)).out)=to_.out)))))==false)) (dh N (⟨a.inputs,a.outputs,a.rows⟩:Mach) (⟨b.1.inputs,b.1.outputs,b.1.rows⟩:Mach))) fun k=>
 gd ((true&&((((!c)||(decide ((↑b.1.rows.length:Int)≠(↑b.1.rows.length:Int))))||(decide ((e.getD default)≠(decide (((ix (ix a.rows (place.1%(↑a.rows.length:Int))) (place.2%a.inputs)).to)=to_.to∧((ix (ix a.rows (place.1%(↑a.rows.length:Int))) (place.2%a.inputs)).out)=to_.out)))))==false))=true→okI a.rows (place.1%(↑a.rows.length:Int)))<|
 gd ((true&&((((!c)||(decide ((↑b.1.rows.length:Int)≠(↑b.1.rows.length:Int))))||(decide ((e.getD default)≠(decide (((ix (ix a.rows (place.1%(↑a.rows.length:Int))) (place.2%a.inputs)).to)=to_.to∧((ix (ix a.rows (place.1%(↑a.rows.length:Int))) (place.2%a.inputs)).out)=to_.out)))))==false))=true→okI (ix a.rows (place.1%(↑a.rows.length:Int))) (place.2%a.inputs))<|
 bif (((!c)||(decide ((↑b.1.rows.length:Int)≠(↑b.1.rows.length:Int))))||(decide ((e.getD default)≠(decide (((ix (ix a.rows (place.1%(↑a.rows.length:Int))) (place.2%a.inputs)).to)=to_.to∧((ix (ix a.rows (place.1%(↑a.rows.length:Int))) (place.2%a.inputs)).out)=to_.out)))))||(decide ((k.getD default)≠(decide (((ix (ix a.rows (place.1%(↑a.rows.length:Int))) (place.2%a.inputs)).to)=to_.to∧((ix (ix a.rows (place.1%(↑a.rows.length:Int))) (place.2%a.inputs)).out)=to_.out)))) then(
 some false) else(
 bd (
 um N N 0 b.1.rows) fun m=>
 bd (bg N (⟨a.inputs,a.outputs,a.rows⟩:Mach) (⟨f.inputs,f.outputs,f.rows⟩:Mach)) fun h=>
 bd (gop (true&&(h==true)) (vk N)) fun l=>
 some (h&&(l.getD default)))))
def mi(N:Nat)(x:MDat)(y:MDat)(raw:Mach):Option Bool:=
 bd (iw N raw) fun m=>
 bif decide (m=1) then(
 some true) else(
 bd (xh N x) fun a=>
 bd (xh N y) fun b=>
 bd (dh N (⟨a.inputs,a.outputs,a.rows⟩:Mach) (⟨b.inputs,b.outputs,b.rows⟩:Mach)) fun g=>
 bd (bg N (⟨a.inputs,a.outputs,a.rows⟩:Mach) (⟨b.inputs,b.outputs,b.rows⟩:Mach)) fun h=>
 bd (gop (true&&((decide (g≠h))==false)) (dh N (⟨b.inputs,b.outputs,b.rows⟩:Mach) (⟨a.inputs,a.outputs,a.rows⟩:Mach))) fun j=>
 bd (gop (true&&((decide (g≠h))==false)) (bg N (⟨a.inputs,a.outputs,a.rows⟩:Mach) (⟨b.inputs,b.outputs,b.rows⟩:Mach))) fun k=>
 bd (gop (true&&(((decide (g≠h))||(decide ((j.getD default)≠(k.getD default))))==false)) (dh N (⟨a.inputs,a.outputs,a.rows⟩:Mach) (⟨a.inputs,a.outputs,a.rows⟩:Mach))) fun n=>
 bif ((decide (g≠h))||(decide ((j.getD default)≠(k.getD default))))||(!(n.getD default)) then(
 some false) else(
 gd (in64 (a.outputs+1))<|
 bd (dh N (⟨a.inputs,a.outputs,a.rows⟩:Mach) (⟨a.inputs,a.outputs+1,a.rows⟩:Mach)) fun c=>
 bd (gop (true&&((!c)==true)) (dh N (⟨a.inputs,a.outputs,a.rows⟩:Mach) raw)) fun d=>
 bd (gop (true&&((!c)==true)) (bg N (⟨a.inputs,a.outputs,a.rows⟩:Mach) raw)) fun e=>
 bd (gop (true&&(((!c)&&(decide ((d.getD default)=(e.getD default))))==true)) (og N raw)) fun f=>
 bd (gop ((true&&(((!c)&&(decide ((d.getD default)=(e.getD default))))==true))&&((decide ((f.getD default)=0))==false)) (dh N raw raw)) fun i=>
 bd (gop (true&&((((!c)&&(decide ((d.getD default)=(e.getD default))))&&((decide ((f.getD default)=0))||(!(i.getD default))))==true)) (vk N)) fun l=>
 some ((((!c)&&(decide ((d.getD default)=(e.getD default))))&&((decide ((f.getD default)=0))||(!(i.getD default))))&&(l.getD default))))
def su(N:Nat)(n:Int)(inputs:Int)(a:Int):Nat→(List Edge)→Int→Option (List Edge)
 |0,_,_=>none
 |e+1,d,b=>
  bif decide (b<inputs) then(
  gd (in64 (a+1))<|
  gd (okR (a+1) n)<|
  gd (in64 (a+b))<|
  gd (okR (a+b) 16)<|
  bd (ji N ((a+1)%n) ((a+b)%16)) fun c=>
  gd (fits 16 d ([(⟨c.to,c.out⟩:Edge)]:List Edge))<|
  gd (in64 (b+1))<|
  su N n inputs a e (d++([(⟨c.to,c.out⟩:Edge)]:List Edge)) (b+1)) else(
  some d)
def rq(N:Nat)(n:Int)(inputs:Int):Nat→Int→(List (List Edge))→Option (List (List Edge))
 |0,_,_=>none
 |d+1,a,b=>
  bif decide (a<n) then(
  bd (
  su N n inputs a N ([]:List Edge) 0) fun c=>
  gd (fits 24 b ([c]:List (List Edge)))<|
  gd (in64 (a+1))<|
  rq N n inputs d (a+1) (b++([c]:List (List Edge)))) else(
  some b)
def xk(N:Nat)(n:Int)(inputs:Int):Option Mach:=
 bd (
 rq N n inputs N 0 ([]:List (List Edge))) fun a=>
 some (⟨inputs,16,a⟩:Mach)
def vw(N:Nat):Nat→(List Int)→Int→Option (List Int)
 |0,_,_=>none
 |c+1,b,a=>
  bif decide (a<256) then(
  gd (okR a 16)<|
  gd (fits 8 b ([a%16]:List Int))<|
  gd (in64 (a+1))<|
  vw N c (b++([a%16]:List Int)) (a+1)) else(
  some b)
def uh(N:Nat):Nat→Int→(List Int)→Int→Option (Int×List Int)
 |0,_,_,_=>none
 |d+1,b,c,a=>
  bif decide (a<18) then(
  gd (in64 (b*31))<|
  gd (in64 ((7:Int)*a))<|
  gd (in64 ((b*31)+((7:Int)*a)))<|
  gd (in64 (((b*31)+((7:Int)*a))+11))<|
  gd (okR (((b*31)+((7:Int)*a))+11) 100003)<|
  gd (fits 2 c ([IntKind.u16.wrap ((((b*31)+((7:Int)*a))+11)%100003)]:List Int))<|
  gd (in64 (a+1))<|
  uh N d ((((b*31)+((7:Int)*a))+11)%100003) (c++([IntKind.u16.wrap ((((b*31)+((7:Int)*a))+11)%100003)]:List Int)) (a+1)) else(
  some (b,c))
def u6(N:Nat):Nat→Int→Int→Option (Ex (Unit) (Bool))
 |0,_,_=>none
 |g+1,h,a=>
  bif decide (a<60) then(
  bd (
  uh N N h ([]:List Int) 0) fun b=>
  gd (okQ a 3)<|
  gd (okQ a 2)<|
  gd (okR a 2)<|
  gd (okQ b.1 7)<|
  bd (ng N (⟨IntKind.u8.wrap a,IntKind.u8.wrap (a/3),IntKind.u8.wrap (a/2),decide ((a%2)=0),b.2⟩:MDat)) fun c=>
  bd (gop (true&&((!c)==false)) (o9 N (⟨IntKind.u8.wrap a,IntKind.u8.wrap (a/3),IntKind.u8.wrap (a/2),decide ((a%2)=0),b.2⟩:MDat) (⟨([IntKind.u8.wrap b.1,IntKind.u8.wrap a,1,2,IntKind.u8.wrap (b.1/7)]:List Int)⟩:WDat) (IntKind.u8.wrap a))) fun d=>
  bd (gop (true&&(((!c)||(!(d.getD default)))==false)) (cu N (⟨IntKind.u8.wrap a,IntKind.u8.wrap (a/3),IntKind.u8.wrap (a/2),decide ((a%2)=0),b.2⟩:MDat) (((⟨([IntKind.u8.wrap b.1,IntKind.u8.wrap a,1,2,IntKind.u8.wrap (b.1/7)]:List Int)⟩:WDat),(⟨([0,1,IntKind.u8.wrap b.1]:List Int)⟩:WDat)):(WDat×WDat)) (IntKind.u8.wrap b.1))) fun e=>
  gd ((true&&((((!c)||(!(d.getD default)))||(!(e.getD default)))==false))=true→okR a 7)<|
  gd ((true&&((((!c)||(!(d.getD default)))||(!(e.getD default)))==false))=true→in64 ((a%7)-1))<|
  gd ((true&&((((!c)||(!(d.getD default)))||(!(e.getD default)))==false))=true→okR a 4)<|
  gd ((true&&((((!c)||(!(d.getD default)))||(!(e.getD default)))==false))=true→in64 ((a%4)-1))<|
  bd (gop (true&&((((!c)||(!(d.getD default)))||(!(e.getD default)))==false)) (ji N ((a%7)-1) ((a%4)-1))) fun i=>
  bd (gop (true&&((((!c)||(!(d.getD default)))||(!(e.getD default)))==false)) (nz N (⟨IntKind.u8.wrap a,IntKind.u8.wrap (a/3),IntKind.u8.wrap (a/2),decide ((a%2)=0),b.2⟩:MDat) ((IntKind.u8.wrap b.1,IntKind.u8.wrap a):(Int×Int)) (i.getD default))) fun f=>
  gd ((true&&(((((!c)||(!(d.getD default)))||(!(e.getD default)))||(!(f.getD default)))==false))=true→okQ a 3)<|
  gd ((true&&(((((!c)||(!(d.getD default)))||(!(e.getD default)))||(!(f.getD default)))==false))=true→okQ a 2)<|
  bd (gop (true&&(((((!c)||(!(d.getD default)))||(!(e.getD default)))||(!(f.getD default)))==false)) (xh N (⟨IntKind.u8.wrap a,IntKind.u8.wrap (a/3),IntKind.u8.wrap (a/2),decide ((a%2)=0),b.2⟩:MDat))) fun j=>
  bd (gop (true&&(((((!c)||(!(d.getD default)))||(!(e.getD default)))||(!(f.getD default)))==false)) (mi N (⟨IntKind.u8.wrap a,IntKind.u8.wrap (a/3),IntKind.u8.wrap (a/2),decide ((a%2)=0),b.2⟩:MDat) (⟨IntKind.u8.wrap a,IntKind.u8.wrap (a/3),IntKind.u8.wrap (a/2),false,b.2⟩:MDat) (j.getD default))) fun k=>
  bif ((((!c)||(!(d.getD default)))||(!(e.getD default)))||(!(f.getD default)))||(!(k.getD default)) then(
  some (Ex.rt false)) else(
  gd (in64 (a+1))<|
  u6 N g b.1 (a+1))) else(
  some (Ex.go ()))
def ic(N:Nat):Option Bool:=
 bd (xk N 64 16) fun d=>
 bd (
 vw N N ([]:List Int) 0) fun f=>
 bd (bf N (⟨d.inputs,d.outputs,d.rows⟩:Mach) 60 f) fun a=>
 bd (uj N (⟨d.inputs,d.outputs,d.rows⟩:Mach)) fun b=>
 bd (gop (true&&((decide (b≠0))==false)) (xk N 65 1)) fun k=>
 bd (gop (true&&((decide (b≠0))==false)) (uj N (k.getD default))) fun c=>
 bd (gop (true&&(((decide (b≠0))||(decide ((c.getD default)≠3)))==false)) (xk N 1 17)) fun l=>
 bd (gop (true&&(((decide (b≠0))||(decide ((c.getD default)≠3)))==false)) (uj N (l.getD default))) fun e=>
 bd (gop (true&&((((((decide (b≠0))||(decide ((c.getD default)≠3)))||(decide ((e.getD default)≠3)))||(decide (a.2≠0)))||(decide (a.1≠60)))==false)) (yu N (⟨d.inputs,d.outputs,d.rows⟩:Mach) ((63,15):(Int×Int)) f)) fun g=>
 gd ((true&&(((((((decide (b≠0))||(decide ((c.getD default)≠3)))||(decide ((e.getD default)≠3)))||(decide (a.2≠0)))||(decide (a.1≠60)))||(!(g.getD default)))==false))=true→fits 8 f ([0]:List Int))<|
 bd (gop (true&&(((((((decide (b≠0))||(decide ((c.getD default)≠3)))||(decide ((e.getD default)≠3)))||(decide (a.2≠0)))||(decide (a.1≠60)))||(!(g.getD default)))==false)) (yu N (⟨d.inputs,d.outputs,d.rows⟩:Mach) ((64,0):(Int×Int)) (f++([0]:List Int)))) fun h=>
 bd (gop (true&&((((((((decide (b≠0))||(decide ((c.getD default)≠3)))||(decide ((e.getD default)≠3)))||(decide (a.2≠0)))||(decide (a.1≠60)))||(!(g.getD default)))||(!(h.getD default)))==false)) (yu N (⟨0,0,([]:(List (List Edge)))⟩:Mach) ((0,0):(Int×Int)) ([]:(List Int)))) fun m=>
 bif (((((((decide (b≠0))||(decide ((c.getD default)≠3)))||(decide ((e.getD default)≠3)))||(decide (a.2≠0)))||(decide (a.1≠60)))||(!(g.getD default)))||(!(h.getD default)))||(!(m.getD default)) then(
 some false) else(
 bd (
 u6 N N 1 0) fun i=>
 Ex.on i (fun n=>
 bd (vk N) fun j=>
 some j) some)
end GV
end Go.Proofs.Ytohjnbajgbdhhaa
