import Derived.Test.YtkkcidhcfkmbjaaGreatDoorShTypes
set_option linter.unusedVariables false
set_option linter.unusedSimpArgs false
set_option linter.unusedSectionVars false
namespace Go.Proofs.YtkkcidhcfkmbjaaGreatDoor
namespace GV
set_option maxRecDepth 100000
def uh(N:Nat)(x:MDat)(c:Int):Nat→(List Edge)→Int→Option (List Edge)
 |0,_,_=>none
 |e+1,d,b=>
  bif decide (b<((1:Int)+(x.ins%3))) then(
  bd (
  bd (
  gd (in64 (c*((1:Int)+(x.ins%3))))<|
  gd (in64 ((c*((1:Int)+(x.ins%3)))+b))<|
  bif decide (((c*((1:Int)+(x.ins%3)))+b)<(↑x.edges.length:Int)) then(
  gd (okI x.edges ((c*((1:Int)+(x.ins%3)))+b))<|
  gd (in64 (ix x.edges ((c*((1:Int)+(x.ins%3)))+b)))<|
  some (ix x.edges ((c*((1:Int)+(x.ins%3)))+b))) else(
  some 0)) fun a=>
  gd ((true&&(x.part==true))=true→okR a 4)<|
  bif x.part&&(decide ((a%4)=3)) then(
  gd (fits 16 d ([(⟨(-1),(-1)⟩:Edge)]:List Edge))<|
  some (d++([(⟨(-1),(-1)⟩:Edge)]:List Edge))) else(
  gd (okQ a 4)<|
  gd (okR (a/4) ((1:Int)+(x.states%6)))<|
  gd (okQ a 4)<|
  gd (okQ (a/4) ((1:Int)+(x.states%6)))<|
  gd (okR ((a/4)/((1:Int)+(x.states%6))) ((1:Int)+(x.outs%3)))<|
  gd (fits 16 d ([(⟨(a/4)%((1:Int)+(x.states%6)),((a/4)/((1:Int)+(x.states%6)))%((1:Int)+(x.outs%3))⟩:Edge)]:List Edge))<|
  some (d++([(⟨(a/4)%((1:Int)+(x.states%6)),((a/4)/((1:Int)+(x.states%6)))%((1:Int)+(x.outs%3))⟩:Edge)]:List Edge)))) fun f=>
  gd (in64 (b+1))<|
  uh N x c e f (b+1)) else(
  some d)
def uw(N:Nat)(x:MDat):Nat→Int→(List (List Edge))→Option (List (List Edge))
 |0,_,_=>none
 |d+1,a,b=>
  bif decide (a<((1:Int)+(x.states%6))) then(
  bd (
  uh N x a N ([]:List Edge) 0) fun c=>
  gd (fits 24 b ([c]:List (List Edge)))<|
  gd (in64 (a+1))<|
  uw N x d (a+1) (b++([c]:List (List Edge)))) else(
  some b)
def mq(N:Nat)(x:MDat):Option Mach:=
 gd (okR x.states 6)<|
 gd (in64 (x.states%6))<|
 gd (in64 ((1:Int)+(x.states%6)))<|
 gd (okR x.ins 3)<|
 gd (in64 (x.ins%3))<|
 gd (in64 ((1:Int)+(x.ins%3)))<|
 gd (okR x.outs 3)<|
 gd (in64 (x.outs%3))<|
 gd (in64 ((1:Int)+(x.outs%3)))<|
 bd (
 uw N x N 0 ([]:List (List Edge))) fun a=>
 some (⟨(1:Int)+(x.ins%3),(1:Int)+(x.outs%3),a⟩:Mach)
def jb(N:Nat)(s:(List Edge))(f:Edge→Option Bool):Nat→Int→Option (Ex (Unit) (Int))
 |0,_=>none
 |c+1,a=>
  bif decide (a<(↑s.length:Int)) then(
  gd (okI s a)<|
  bd (f (ix s a)) fun b=>
  bif b then(
  some (Ex.rt a)) else(
  gd (in64 (a+1))<|
  jb N s f c (a+1))) else(
  some (Ex.go ()))
def yx(N:Nat)(s:(List Edge))(f:Edge→Option Bool):Option Int:=
 bd (
 jb N s f N 0) fun a=>
 Ex.on a (fun b=>
 some (-1)) some
def vo(N:Nat)(s:(List Edge))(f:Edge→Option Bool):Option Bool:=
 bd (yx N s f) fun a=>
 some (decide (0≤a))
def ma(N:Nat):Option Edge:=
 some (⟨(-1),(-1)⟩:Edge)
def z3r(N:Nat)(m:Mach)(x:Edge):Option Bool:=
 bd (ma N) fun a=>
 some ((decide (x.to=a.to∧x.out=a.out))||((((decide (0≤x.to))&&(decide (x.to<(↑m.rows.length:Int))))&&(decide (0≤x.out)))&&(decide (x.out<m.outputs))))
def z18(N:Nat)(x:Edge)(p0_:Mach):Option Bool:=
 bd (z3r N p0_ x) fun a=>
 some (!a)
def ym(N:Nat)(m:Mach):Nat→Int→Option (Ex (Unit) (Int))
 |0,_=>none
 |b+1,a=>
  bif decide (a<(↑m.rows.length:Int)) then(
  gd (okI m.rows a)<|
  bd (gop (true&&((decide ((↑(ix m.rows a).length:Int)≠m.inputs))==false)) (vo N (ix m.rows a) (fun d=>z18 N d m))) fun c=>
  bif (decide ((↑(ix m.rows a).length:Int)≠m.inputs))||(c.getD default) then(
  some (Ex.rt 1)) else(
  gd (in64 (a+1))<|
  ym N m b (a+1))) else(
  some (Ex.go ()))
def wh(N:Nat)(m:Mach):Option Int:=
 bif ((decide (16<m.inputs))||(decide (16<m.outputs)))||(decide (64<(↑m.rows.length:Int))) then(
 some 3) else(
 bif ((decide (m.inputs<1))||(decide (m.outputs<1)))||(decide ((↑m.rows.length:Int)<1)) then(
 some 1) else(
 bd (
 ym N m N 0) fun a=>
 Ex.on a (fun b=>
 some 0) some))
def ig(N:Nat)(m:Mach)(from_:Int):Option (Mach×Int):=
 some (m,from_)
def uy(N:Nat)(σ:Type)(p0_:Mach)(b:List Sb):Nat→σ→Int→(List Bool)→(List Sb)→Option (Ex (σ×List Bool×List Sb) (σ))
 |0,_,_,_,_=>none
 |g+1,e,a,c,d=>
  bif decide (a<(↑(ix p0_.rows ((ix b 0).fC)).length:Int)) then(
  bd (
  gd (okI (ix p0_.rows ((ix b 0).fC)) a)<|
  gd ((true&&((decide (((ix (ix p0_.rows ((ix b 0).fC)) a).to)≠(-1)))==true))=true→okI c ((ix (ix p0_.rows ((ix b 0).fC)) a).to))<|
  bif (decide (((ix (ix p0_.rows ((ix b 0).fC)) a).to)≠(-1)))&&(!(ix c ((ix (ix p0_.rows ((ix b 0).fC)) a).to))) then(
  gd (okI c ((ix (ix p0_.rows ((ix b 0).fC)) a).to))<|
  gd (fits 24 d ([(⟨(ix (ix p0_.rows ((ix b 0).fC)) a).to,(ix b 0).fC,a⟩:Sb)]:List Sb))<|
  some (e,(up c ((ix (ix p0_.rows ((ix b 0).fC)) a).to) true),(d++([(⟨(ix (ix p0_.rows ((ix b 0).fC)) a).to,(ix b 0).fC,a⟩:Sb)]:List Sb)))) else(
  some (e,c,d))) fun f=>
  gd (in64 (a+1))<|
  uy N σ p0_ b g f.1 (a+1) f.2.1 f.2.2) else(
  some (Ex.go (e,c,d)))
def xc(N:Nat)(σ:Type)(B:Sb→σ→Option (Bool×σ))(p0_:Mach):Nat→σ→(List Bool)→(List Sb)→Option σ
 |0,_,_,_=>none
 |e+1,d,f,a=>
  bd (
  bif decide (0<(↑a.length:Int)) then(
  gd (okI a 0)<|
  gd (okS a 1 (↑a.length:Int))<|
  bd (B (⟨(ix a 0).fC,(ix a 0).fH,(ix a 0).fG⟩:Sb) d) fun b=>
  bif !b.1 then(
  some (Ex.rt b.2)) else(
  gd (okI p0_.rows ((ix a 0).fC))<|
  uy N σ p0_ a N b.2 0 f (cut a 1 (↑a.length:Int)))) else(
  some (Ex.rt d))) fun g=>
  Ex.on g (fun c=>
  xc N σ B p0_ e c.1 c.2.1 c.2.2) some
def bz(N:Nat)(p0_:Mach)(p1_:Int)(σ:Type)(B:Sb→σ→Option (Bool×σ))(s0:σ):Option σ:=
 gd (okM 1 (↑p0_.rows.length:Int))<|
 gd (okI (mk (↑p0_.rows.length:Int) false) p1_)<|
 xc N σ B p0_ N s0 (up (mk (↑p0_.rows.length:Int) false) p1_ true) ([(⟨p1_,(-1),(-1)⟩:Sb)]:List Sb)
def z0h(N:Nat)(m:Mach):Option (List Int):=
 bd (ig N m 0) fun d=>
 bd (bz N d.1 d.2 (List Int) (fun a b=>
 gd (fits 8 b ([a.fC]:List Int))<|
 some (true,(b++([a.fC]:List Int)))) ([]:List Int)) fun c=>
 some c
def l5(N:Nat)(s:(List Int)):Option (List Int):=
 some s
def uu(N:Nat)(σ:Type)(B:Int→σ→Option (Bool×σ))(p0_:(List Int)):Nat→σ→Int→Option σ
 |0,_,_=>none
 |d+1,c,b=>
  bif decide (b<(↑p0_.length:Int)) then(
  gd (okI p0_ b)<|
  bd (B (ix p0_ b) c) fun a=>
  bif !a.1 then(
  some a.2) else(
  gd (in64 (b+1))<|
  uu N σ B p0_ d a.2 (b+1))) else(
  some c)
def cu(N:Nat)(p0_:(List Int))(σ:Type)(B:Int→σ→Option (Bool×σ))(s0:σ):Option σ:=
 uu N σ B p0_ N s0 0
def slices_Sort_int(N:Nat)(x:List Int):Option (List Int):=
 gd (0<x.length∧x.length<4611686018427387904) (some (z06 x))
def yw(N:Nat)(s:List Int)(seq_0_:(List Int)):Option (List Int):=
 bd (cu N seq_0_ (List Int) (fun a b=>
 gd (fits 8 b ([a]:List Int))<|
 some (true,(b++([a]:List Int)))) s) fun c=>
 some c
def ah(N:Nat)(seq_0_:(List Int)):Option (List Int):=
 bd (yw N ([]:List Int) seq_0_) fun a=>
 some a
def oq(N:Nat)(seq_0_:(List Int)):Option (List Int):=
 bd (ah N seq_0_) fun b=>
 bd (slices_Sort_int N b) fun a=>
 some a
def gy(N:Nat)(s:(List Int)):Option (List Int):=
 gd (okS s 0 (↑s.length:Int))<|
 some (cut s 0 (↑s.length:Int))
def z1l(N:Nat)(m:Mach):Option ((List Int)×Int):=
 bd (wh N m) fun e=>
 bif decide (e≠0) then(
 some (([]:(List Int)),e)) else(
 bd (z0h N m) fun a=>
 bd (l5 N a) fun b=>
 bd (oq N b) fun c=>
 bd (gy N c) fun d=>
 some (d,0))
def z2j(N:Nat)(x:Edge)(p0_:(List (Int×Int))):Option Edge:=
 some (⟨(z08 (0:Int) p0_ x.to),x.out⟩:Edge)
def pg(N:Nat)(l_:(List Int)):Nat→Int→(List (Int×Int))→Option (List (Int×Int))
 |0,_,_=>none
 |c+1,a,b=>
  bif decide (a<(↑l_.length:Int)) then(
  gd (okI l_ a)<|
  gd (in64 (a+1))<|
  pg N l_ c (a+1) (z11 b (ix l_ a) a)) else(
  some b)
def pz(N:Nat)(m:Mach)(l_:(List Int))(d:List (Int×Int))(b:Int):Nat→Int→(List (List Edge))→Option (List (List Edge))
 |0,_,_=>none
 |e+1,a,c=>
  bif decide (a<(↑(ix m.rows (ix l_ b)).length:Int)) then(
  gd (okI (ix m.rows (ix l_ b)) a)<|
  gd (okI c b)<|
  bd (z2j N (⟨(ix (ix m.rows (ix l_ b)) a).to,(ix (ix m.rows (ix l_ b)) a).out⟩:Edge) d) fun f=>
  gd (okI (ix c b) a)<|
  gd (in64 (a+1))<|
  pz N m l_ d b e (a+1) (up c b (up (ix c b) a f))) else(
  some c)
def dh(N:Nat)(m:Mach)(l_:(List Int))(c:List (Int×Int)):Nat→Int→(List (List Edge))→Option (List (List Edge))
 |0,_,_=>none
 |d+1,a,b=>
  bif decide (a<(↑l_.length:Int)) then(
  bd (
  gd (okI l_ a)<|
  gd (okM 16 m.inputs)<|
  gd (okI b a)<|
  gd (okI m.rows (ix l_ a))<|
  pz N m l_ c a N 0 (up b a (mk m.inputs (⟨(0:Int),(0:Int)⟩:Edge)))) fun e=>
  gd (in64 (a+1))<|
  dh N m l_ c d (a+1) e) else(
  some b)
def z19(N:Nat)(m:Mach)(l_:(List Int)):Option Mach:=
 bd (
 pg N l_ N 0 (z11 ([]:List (Int×Int)) (-1) (-1))) fun a=>
 gd (okM 24 (↑l_.length:Int))<|
 bd (
 dh N m l_ a N 0 (mk (↑l_.length:Int) ([]:List Edge))) fun b=>
 some (⟨m.inputs,m.outputs,b⟩:Mach)
def z16(N:Nat)(m:Mach):Option (Mach×(List Int)×Int):=
 bd (z1l N m) fun b=>
 bif decide (b.2≠0) then(
 some ((⟨0,0,[]⟩:Mach),([]:(List Int)),b.2)) else(
 bd (z19 N m b.1) fun a=>
 some ((⟨a.inputs,a.outputs,a.rows⟩:Mach),b.1,0))
def z5f(N:Nat):Option Edge:=
 some (⟨(-1),(-1)⟩:Edge)
def ll(N:Nat)(s:Int)(i:Int)(x:Edge)(p0_:(Int→Option Int))(p1_:Int):Option (Int×Int×Edge):=
 bd (
 bd (z5f N) fun b=>
 bif decide (x.to=b.to∧x.out=b.out) then(
 bd (p0_ s) fun a=>
 some (a,p1_)) else(
 some (x.to,x.out))) fun c=>
 some (s,i,(⟨c.1,c.2⟩:Edge))
def dx(N:Nat)(m:Mach):Nat→Int→(List (List Edge))→Option (List (List Edge))
 |0,_,_=>none
 |c+1,a,b=>
  bif decide (a<(↑(mk (↑m.rows.length:Int) ([]:List Edge)).length:Int)) then(
  gd (okM 16 m.inputs)<|
  gd (okI b a)<|
  gd (in64 (a+1))<|
  dx N m c (a+1) (up b a (mk m.inputs (⟨(0:Int),(0:Int)⟩:Edge)))) else(
  some b)
def dz(N:Nat)(m:Mach)(fP:(Int→Option Int))(fQ:Int)(c:Int):Nat→Int→(List (List Edge))→Option (List (List Edge))
 |0,_,_=>none
 |e+1,b,d=>
  bif decide (b<(↑(ix m.rows c).length:Int)) then(
  gd (okI (ix m.rows c) b)<|
  bd (ll N c b (⟨(ix (ix m.rows c) b).to,(ix (ix m.rows c) b).out⟩:Edge) fP fQ) fun a=>
  gd (okI d a.1)<|
  gd (okI (ix d a.1) a.2.1)<|
  gd (in64 (b+1))<|
  dz N m fP fQ c e (b+1) (up d a.1 (up (ix d a.1) a.2.1 (⟨a.2.2.to,a.2.2.out⟩:Edge)))) else(
  some d)
def dw(N:Nat)(m:Mach)(fP:(Int→Option Int))(fQ:Int):Nat→Int→(List (List Edge))→Option (List (List Edge))
 |0,_,_=>none
 |c+1,a,b=>
  bif decide (a<(↑m.rows.length:Int)) then(
  bd (
  gd (okI m.rows a)<|
  dz N m fP fQ a N 0 b) fun d=>
  gd (in64 (a+1))<|
  dw N m fP fQ c (a+1) d) else(
  some b)
def z0w(N:Nat)(m:Mach)(fP:(Int→Option Int))(fQ:Int):Option Mach:=
 gd (okM 24 (↑m.rows.length:Int))<|
 bd (
 dx N m N 0 (mk (↑m.rows.length:Int) ([]:List Edge))) fun a=>
 bd (
 dw N m fP fQ N 0 a) fun b=>
 some (⟨m.inputs,m.outputs,b⟩:Mach)
def z03(N:Nat)(m:Mach)(out:Int)(to_:Int→Option Int):Option Mach:=
 bd (z0w N m to_ out) fun a=>
 some (⟨a.inputs,a.outputs,a.rows⟩:Mach)
def z1h(N:Nat)(s:Int):Option Int:=
 some s
def z3i(N:Nat)(m:Mach)(out:Int):Option (Mach×Int):=
 bd (z03 N m out (fun b=>z1h N b)) fun a=>
 some ((⟨a.inputs,a.outputs,a.rows⟩:Mach),0)
def z0y(N:Nat)(m:Mach):Option Mach:=
 some m
def uz(N:Nat)(σ:Type)(B:((Int×Int)×Edge)→σ→Option (Bool×σ))(p0_:Mach)(c:Int):Nat→σ→Int→Option (Ex (σ) (σ))
 |0,_,_=>none
 |e+1,d,a=>
  bif decide (a<(↑(ix p0_.rows c).length:Int)) then(
  gd (okI (ix p0_.rows c) a)<|
  bd (B (((c,a):(Int×Int)),(⟨(ix (ix p0_.rows c) a).to,(ix (ix p0_.rows c) a).out⟩:Edge)) d) fun b=>
  bif !b.1 then(
  some (Ex.rt b.2)) else(
  gd (in64 (a+1))<|
  uz N σ B p0_ c e b.2 (a+1))) else(
  some (Ex.go d))
def yc(N:Nat)(σ:Type)(B:((Int×Int)×Edge)→σ→Option (Bool×σ))(p0_:Mach):Nat→σ→Int→Option σ
 |0,_,_=>none
 |e+1,d,a=>
  bif decide (a<(↑p0_.rows.length:Int)) then(
  bd (
  gd (okI p0_.rows a)<|
  uz N σ B p0_ a N d 0) fun b=>
  Ex.on b (fun c=>
  gd (in64 (a+1))<|
  yc N σ B p0_ e c (a+1)) some) else(
  some d)
def il(N:Nat)(p0_:Mach)(σ:Type)(B:((Int×Int)×Edge)→σ→Option (Bool×σ))(s0:σ):Option σ:=
 yc N σ B p0_ N s0 0
def su(N:Nat)(s:(List (Int×Int))):Option (List (Int×Int)):=
 gd (okS s 0 (↑s.length:Int))<|
 some (cut s 0 (↑s.length:Int))
def tq(N:Nat)(m:Mach):Option (List (Int×Int)):=
 bd (z0y N m) fun f=>
 bd (il N f (List (Int×Int)) (fun a b=>
 bd (ma N) fun c=>
 bif decide (a.2.to=c.to∧a.2.out=c.out) then(
 gd (fits 16 b ([((a.1.1,a.1.2):(Int×Int))]:List (Int×Int)))<|
 some (true,(b++([((a.1.1,a.1.2):(Int×Int))]:List (Int×Int))))) else(
 some (true,b))) ([]:List (Int×Int))) fun d=>
 bd (su N d) fun e=>
 some e
def yl(N:Nat)(m:Mach):Option (Bool×Int):=
 bd (wh N m) fun b=>
 bif decide (b≠0) then(
 some (false,b)) else(
 bd (tq N m) fun a=>
 some ((decide ((↑a.length:Int)=0)),0))
def z0f(N:Nat)(p0_:Int)(p0__:Int):Option Int:=
 some p0__
def z3v(N:Nat)(x y:Int):Option (Int×Int):=
 gd ((0≤x∧x<18446744073709551616)∧0≤y∧y<18446744073709551616) (some (x*y/18446744073709551616,x*y%18446744073709551616))
def yz(N:Nat):Nat→Int→(List Edge)→Option (List Edge)
 |0,_,_=>none
 |c+1,a,b=>
  bif decide (a<(↑b.length:Int)) then(
  gd (okS b a (↑b.length:Int))<|
  gd (okS b 0 a)<|
  gd (in64 (a+(↑(min (a.toNat-0) (b.length-a.toNat)):Int)))<|
  yz N c (a+(↑(min (a.toNat-0) (b.length-a.toNat)):Int)) (z3q b a.toNat ((b.drop 0).take (min (a.toNat-0) (b.length-a.toNat))))) else(
  some b)
def vg(N:Nat)(x:(List Edge))(count:Int):Option (List Edge):=
 bif decide (count<0) then(
 none) else(
 bd (z3v N (IntKind.u64.wrap (↑x.length:Int)) (IntKind.u64.wrap count)) fun a=>
 bif (decide (0<a.1))||(decide (9223372036854775807<a.2)) then(
 none) else(
 gd (in64 a.2)<|
 gd (okM 16 a.2)<|
 bd (
 yz N N (↑(min x.length (mk a.2 (⟨(0:Int),(0:Int)⟩:Edge)).length):Int) (z3q (mk a.2 (⟨(0:Int),(0:Int)⟩:Edge)) 0 (x.take (min x.length (mk a.2 (⟨(0:Int),(0:Int)⟩:Edge)).length)))) fun b=>
 some b))
def yf(N:Nat)(s:(List (List Edge))):Option (List (List Edge)):=
 gd (okS s 0 (↑s.length:Int))<|
 some (cut s 0 (↑s.length:Int))
def z1u(N:Nat)(m:Mach)(out:Int):Option (Mach×Int):=
 bd (
 bd (yl N m) fun d=>
 bif d.1 then(
 gd (in64 ((↑m.rows.length:Int)-1))<|
 some (Ex.go ((↑m.rows.length:Int)-1))) else(
 bif decide ((↑m.rows.length:Int)=64) then(
 some (Ex.rt ((⟨0,0,[]⟩:Mach),3))) else(
 some (Ex.go (↑m.rows.length:Int))))) fun e=>
 Ex.on e (fun b=>
 bd (z03 N m out (fun h=>z0f N h b)) fun a=>
 bd (
 bif decide (b=(↑m.rows.length:Int)) then(
 bd (vg N ([(⟨b,out⟩:Edge)]:List Edge) m.inputs) fun c=>
 gd (fits 24 a.rows ([c]:List (List Edge))∧0<([c]:List (List Edge)).length)<|
 some (a.rows++([c]:List (List Edge)))) else(
 some a.rows)) fun f=>
 bd (yf N f) fun g=>
 some ((⟨a.inputs,a.outputs,g⟩:Mach),0)) some
def z1c(N:Nat)(m:Mach)(way:Int)(out:Int):Option (Mach×Int):=
 bd (wh N m) fun c=>
 bif decide (c≠0) then(
 some ((⟨0,0,[]⟩:Mach),c)) else(
 bif ((decide (1<way))||(decide (out<0)))||(decide (m.outputs≤out)) then(
 some ((⟨0,0,[]⟩:Mach),1)) else(
 bif decide (way=0) then(
 bd (z3i N m out) fun a=>
 some ((⟨a.1.inputs,a.1.outputs,a.1.rows⟩:Mach),a.2)) else(
 bif decide (way=1) then(
 bd (z1u N m out) fun b=>
 some ((⟨b.1.inputs,b.1.outputs,b.1.rows⟩:Mach),b.2)) else(
 none))))
def x8(N:Nat)(vals:(List Int)):Nat→Int→Option (Ex (Unit) (Int))
 |0,_=>none
 |b+1,a=>
  bif decide (a<(↑vals.length:Int)) then(
  gd (okI vals a)<|
  bif decide ((ix vals a)≠0) then(
  some (Ex.rt (ix vals a))) else(
  gd (in64 (a+1))<|
  x8 N vals b (a+1))) else(
  some (Ex.go ()))
def ax(N:Nat)(vals:(List Int)):Option Int:=
 bd (
 x8 N vals N 0) fun a=>
 Ex.on a (fun b=>
 some 0) some
def z1j(N:Nat)(a:Mach)(b:Mach):Option Int:=
 bd (wh N a) fun d=>
 bd (wh N b) fun e=>
 bd (ax N ([d,e]:List Int)) fun c=>
 bd (
 bif (decide (c=0))&&(decide (a.inputs≠b.inputs)) then(
 some 5) else(
 some c)) fun f=>
 some f
def z2h(N:Nat)(a:Mach)(b:Mach):Option (Mach×Mach):=
 some (a,b)
def gm(N:Nat)(σ:Type)(B:(Sc×(List Sa))→σ→Option (Bool×σ))(p0_:Mach)(p1_:Mach)(a:Int)(c:List Sa):Nat→σ→Int→(List ((Int×Int)×Bool))→(List Sa)→Option (Ex (σ×List ((Int×Int)×Bool)×List Sa) (σ))
 |0,_,_,_,_=>none
 |i+1,h,b,f,e=>
  bif decide (b<p0_.inputs) then(
  bd (
  gd (okI p0_.rows (((ix c a).fA).1))<|
  gd (okI (ix p0_.rows (((ix c a).fA).1)) b)<|
  gd (okI p1_.rows (((ix c a).fA).2))<|
  gd (okI (ix p1_.rows (((ix c a).fA).2)) b)<|
  bd (B ((⟨a,b,(⟨(ix (ix p0_.rows (((ix c a).fA).1)) b).to,(ix (ix p0_.rows (((ix c a).fA).1)) b).out⟩:Edge),(⟨(ix (ix p1_.rows (((ix c a).fA).2)) b).to,(ix (ix p1_.rows (((ix c a).fA).2)) b).out⟩:Edge)⟩:Sc),e) h) fun d=>
  bif !d.1 then(
  some (Ex.rt (Ex.rt d.2))) else(
  bif ((decide (((ix (ix p0_.rows (((ix c a).fA).1)) b).to)≠(-1)))&&(decide (((ix (ix p1_.rows (((ix c a).fA).2)) b).to)≠(-1))))&&(!(z08 false f (((ix (ix p0_.rows (((ix c a).fA).1)) b).to,(ix (ix p1_.rows (((ix c a).fA).2)) b).to):(Int×Int)))) then(
  gd (fits 32 e ([(⟨(((ix (ix p0_.rows (((ix c a).fA).1)) b).to,(ix (ix p1_.rows (((ix c a).fA).2)) b).to):(Int×Int)),a,b⟩:Sa)]:List Sa))<|
  some (Ex.go (d.2,(z11 f (((ix (ix p0_.rows (((ix c a).fA).1)) b).to,(ix (ix p1_.rows (((ix c a).fA).2)) b).to):(Int×Int)) true),(e++([(⟨(((ix (ix p0_.rows (((ix c a).fA).1)) b).to,(ix (ix p1_.rows (((ix c a).fA).2)) b).to):(Int×Int)),a,b⟩:Sa)]:List Sa))))) else(
  some (Ex.go (d.2,f,e))))) fun j=>
  Ex.on j (fun g=>
  gd (in64 (b+1))<|
  gm N σ B p0_ p1_ a c i g.1 (b+1) g.2.1 g.2.2) some) else(
  some (Ex.go (h,f,e)))
def xe(N:Nat)(σ:Type)(B:(Sc×(List Sa))→σ→Option (Bool×σ))(p0_:Mach)(p1_:Mach):Nat→σ→Int→(List ((Int×Int)×Bool))→(List Sa)→Option σ
 |0,_,_,_,_=>none
 |e+1,d,a,f,b=>
  bif decide (a<(↑b.length:Int)) then(
  bd (
  gd (okI b a)<|
  gd (okI b a)<|
  gm N σ B p0_ p1_ a b N d 0 f b) fun g=>
  Ex.on g (fun c=>
  gd (in64 (a+1))<|
  xe N σ B p0_ p1_ e c.1 (a+1) c.2.1 c.2.2) some) else(
  some d)
def z0s(N:Nat)(p0_:Mach)(p1_:Mach)(σ:Type)(B:(Sc×(List Sa))→σ→Option (Bool×σ))(s0:σ):Option σ:=
 xe N σ B p0_ p1_ N s0 0 (z11 ([]:List ((Int×Int)×Bool)) ((0,0):(Int×Int)) true) ([(⟨((0,0):(Int×Int)),(-1),0⟩:Sa)]:List Sa)
def ae(N:Nat)(s:List Int):Option (List Int):=
 gd (okS s 0 (↑s.length:Int))<|
 some (cut s 0 (↑s.length:Int))
def bv(N:Nat)(l_:(List Sa)):Nat→Int→(List Int)→Option (List Int)
 |0,_,_=>none
 |c+1,a,b=>
  gd (okI l_ a)<|
  bif decide (((ix l_ a).fH)≠(-1)) then(
  gd (okI l_ a)<|
  gd (fits 8 ([(ix l_ a).fG]:List Int) b)<|
  gd (okI l_ a)<|
  bv N l_ c ((ix l_ a).fH) (([(ix l_ a).fG]:List Int)++b)) else(
  some b)
def ry(N:Nat)(l_:(List Sa))(at_:Int)(more:List Int):Option (List Int):=
 bd (
 bv N l_ N at_ more) fun b=>
 bd (ae N b) fun a=>
 some a
def jf(N:Nat)(s:(List (Int×Int)))(v_:(Int×Int)):Nat→Int→Option (Ex (Unit) (Int))
 |0,_=>none
 |b+1,a=>
  bif decide (a<(↑s.length:Int)) then(
  gd (okI s a)<|
  bif decide (v_.1=((ix s a).1)∧v_.2=((ix s a).2)) then(
  some (Ex.rt a)) else(
  gd (in64 (a+1))<|
  jf N s v_ b (a+1))) else(
  some (Ex.go ()))
def ak(N:Nat)(s:(List (Int×Int)))(v_:(Int×Int)):Option Int:=
 bd (
 jf N s v_ N 0) fun a=>
 Ex.on a (fun b=>
 some (-1)) some
def yu(N:Nat)(s:(List (Int×Int)))(v_:(Int×Int)):Option Bool:=
 bd (ak N s v_) fun a=>
 some (decide (0≤a))
def aj(N:Nat)(a:Mach)(b:Mach):Option ((List Int)×(List (Int×Int))):=
 bd (z2h N a b) fun e=>
 bd (z0s N e.1 e.2 (Ex (List (Int×Int)) ((List Int)×(List (Int×Int)))) (fun c s=>Ex.on s (fun d=>
 bif decide (c.1.fI.out≠c.1.fK.out) then(
 bd (ry N c.2 c.1.fO ([c.1.fG]:List Int)) fun g=>
 some (false,Ex.rt (g,([]:(List (Int×Int)))))) else(
 bd (gop (true&&((decide (c.1.fI.to≠(-1)))==true)) (yu N d ((c.1.fI.to,c.1.fK.to):(Int×Int)))) fun f=>
 bif (decide (c.1.fI.to≠(-1)))&&(!(f.getD default)) then(
 gd (fits 16 d ([((c.1.fI.to,c.1.fK.to):(Int×Int))]:List (Int×Int)))<|
 some (true,Ex.go (d++([((c.1.fI.to,c.1.fK.to):(Int×Int))]:List (Int×Int))))) else(
 some (true,Ex.go d)))) fun _=>none) (Ex.go ([((0,0):(Int×Int))]:List (Int×Int)))) fun h=>
 Ex.on h (fun i=>
 some (([]:(List Int)),i)) some
def pq(N:Nat)(a:Mach)(b:Mach):Option ((List Int)×Bool×Int):=
 bd (z1j N a b) fun c=>
 bif decide (c≠0) then(
 some (([]:(List Int)),false,c)) else(
 bd (aj N a b) fun d=>
 some (d.1,(decide (0<(↑d.1.length:Int))),0))
def mo(N:Nat):Option Bool:=some true
def lq(N:Nat)(m:Mach)(s:Int):Option Int:=
 bd (wh N m) fun a=>
 bif decide (a≠0) then(
 some a) else(
 bif (decide (s<0))||(decide ((↑m.rows.length:Int)≤s)) then(
 some 1) else(
 some 0))
def ko(N:Nat)(s:(List Int))(f:Int→Option Bool):Nat→Int→Option (Ex (Unit) (Int))
 |0,_=>none
 |c+1,a=>
  bif decide (a<(↑s.length:Int)) then(
  gd (okI s a)<|
  bd (f (ix s a)) fun b=>
  bif b then(
  some (Ex.rt a)) else(
  gd (in64 (a+1))<|
  ko N s f c (a+1))) else(
  some (Ex.go ()))
def di(N:Nat)(s:(List Int))(f:Int→Option Bool):Option Int:=
 bd (
 ko N s f N 0) fun a=>
 Ex.on a (fun b=>
 some (-1)) some
def xw(N:Nat)(s:(List Int))(f:Int→Option Bool):Option Bool:=
 bd (di N s f) fun a=>
 some (decide (0≤a))
def z3s(N:Nat)(c:Int)(p0_:Int):Option Bool:=
 some ((decide (c<0))||(decide (p0_≤c)))
def z1s(N:Nat)(w_:(List Int))(inputs:Int):Option Int:=
 bif (decide (16<inputs))||(decide (256<(↑w_.length:Int))) then(
 some 3) else(
 bd (gop (true&&((decide (inputs<1))==false)) (xw N w_ (fun b=>z3s N b inputs))) fun a=>
 bif (decide (inputs<1))||(a.getD default) then(
 some 1) else(
 some 0))
def gu(N:Nat)(m:Mach)(w_:(List Int)):Nat→Int→Int→(List Int)→Option (Int×List Int)
 |0,_,_,_=>none
 |f+1,b,a,c=>
  bif decide (a<(↑w_.length:Int)) then(
  gd (okI w_ a)<|
  bd (ma N) fun d=>
  bd (
  bif decide (b≠(-1)) then(
  gd (okI m.rows b)<|
  gd (okI (ix m.rows b) (ix w_ a))<|
  some ((ix (ix m.rows b) (ix w_ a)).to,(ix (ix m.rows b) (ix w_ a)).out)) else(
  some (d.to,d.out))) fun e=>
  gd (okI c a)<|
  gd (in64 (a+1))<|
  gu N m w_ f e.1 (a+1) (up c a e.2)) else(
  some (b,c))
def z0t(N:Nat)(m:Mach)(s:Int)(w_:(List Int)):Option ((List Int)×Int):=
 gd (okM 8 (↑w_.length:Int))<|
 bd (
 gu N m w_ N s 0 (mk (↑w_.length:Int) (0:Int))) fun a=>
 some (a.2,a.1)
def r9(N:Nat)(m:Mach)(s:Int)(w_:(List Int)):Option ((List Int)×Int):=
 bd (lq N m s) fun c=>
 bif decide (c≠0) then(
 some (([]:(List Int)),c)) else(
 bd (z1s N w_ m.inputs) fun a=>
 bif decide (a≠0) then(
 some (([]:(List Int)),a)) else(
 bd (z0t N m s w_) fun b=>
 some (b.1,0)))
def xn(N:Nat)(s:(List Int)):Option (List Int):=
 gd (fits 8 ([]:List Int) s)<|
 some (([]:List Int)++s)
def z0p(N:Nat)(m:Mach)(from_:Int):Option ((List (List Int))×(List Bool)):=
 gd (okM 24 (↑m.rows.length:Int))<|
 gd (okM 1 (↑m.rows.length:Int))<|
 bd (ig N m from_) fun c=>
 bd (bz N c.1 c.2 (List (List Int)×List Bool) (fun a b=>
 gd (okI b.2 a.fC)<|
 bif decide (a.fH≠(-1)) then(
 gd (okI b.1 a.fH)<|
 bd (xn N (ix b.1 a.fH)) fun d=>
 gd (fits 8 d ([a.fG]:List Int))<|
 bd (gy N (d++([a.fG]:List Int))) fun f=>
 gd (okI b.1 a.fC)<|
 some (true,((up b.1 a.fC f),(up b.2 a.fC true)))) else(
 some (true,(b.1,(up b.2 a.fC true))))) ((mk (↑m.rows.length:Int) ([]:List Int)),(mk (↑m.rows.length:Int) false))) fun e=>
 some (e.1,e.2)
def z04(N:Nat)(m:Mach):Option ((List (List Int))×(List Bool)×Int):=
 bd (wh N m) fun b=>
 bif decide (b≠0) then(
 some (([]:(List (List Int))),([]:(List Bool)),b)) else(
 bd (z0p N m 0) fun a=>
 some (a.1,a.2,0))
def uk(N:Nat)(a:(List Int)):Nat→(List Int)→Int→Option (List Int)
 |0,_,_=>none
 |d+1,c,b=>
  bif decide (b<(↑a.length:Int)) then(
  gd (okI a b)<|
  gd (fits 8 c ([(ix a b)]:List Int))<|
  gd (in64 (b+1))<|
  uk N a d (c++([(ix a b)]:List Int)) (b+1)) else(
  some c)
def ui(N:Nat)(b:(List Int)):Nat→Int→(List Int)→Option (List Int)
 |0,_,_=>none
 |d+1,a,c=>
  bif decide (a<(↑b.length:Int)) then(
  gd (okI b a)<|
  gd (fits 8 c ([(ix b a)]:List Int))<|
  gd (in64 (a+1))<|
  ui N b d (a+1) (c++([(ix b a)]:List Int))) else(
  some c)
def o6(N:Nat)(a:(List Int))(b:(List Int)):Option (List Int):=
 bd (
 uk N a N ([]:List Int) 0) fun d=>
 bd (
 ui N b N 0 d) fun c=>
 some c
def cmp_isNaN_int(N:Nat)(x:Int):Option Bool:=
 some (decide (x≠x))
def cmp_Compare_int(N:Nat)(x:Int)(y:Int):Option Int:=
 bd (cmp_isNaN_int N x) fun b=>
 bd (cmp_isNaN_int N y) fun a=>
 bif b then(
 bif a then(
 some 0) else(
 some (-1))) else(
 bif a then(
 some 1) else(
 bif decide (x<y) then(
 some (-1)) else(
 bif decide (y<x) then(
 some 1) else(
 some 0))))
def uj(N:Nat)(s1_:(List Int))(s2_:(List Int)):Nat→Int→Option (Ex (Unit) (Int))
 |0,_=>none
 |c+1,a=>
  bif decide (a<(↑s1_.length:Int)) then(
  gd (okI s1_ a)<|
  bif decide ((↑s2_.length:Int)≤a) then(
  some (Ex.rt 1)) else(
  gd (okI s2_ a)<|
  bd (cmp_Compare_int N (ix s1_ a) (ix s2_ a)) fun b=>
  bif decide (b≠0) then(
  some (Ex.rt b)) else(
  gd (in64 (a+1))<|
  uj N s1_ s2_ c (a+1)))) else(
  some (Ex.go ()))
def mh(N:Nat)(s1_:(List Int))(s2_:(List Int)):Option Int:=
 bd (
 uj N s1_ s2_ N 0) fun a=>
 Ex.on a (fun b=>
 bif decide ((↑s1_.length:Int)<(↑s2_.length:Int)) then(
 some (-1)) else(
 some 0)) some
def nk(N:Nat)(vals:(List Int)):Nat→Int→Option (Ex (Unit) (Int))
 |0,_=>none
 |b+1,a=>
  bif decide (a<(↑vals.length:Int)) then(
  gd (okI vals a)<|
  bif decide ((ix vals a)≠0) then(
  some (Ex.rt (ix vals a))) else(
  gd (in64 (a+1))<|
  nk N vals b (a+1))) else(
  some (Ex.go ()))
def z2r(N:Nat)(vals:(List Int)):Option Int:=
 bd (
 nk N vals N 0) fun a=>
 Ex.on a (fun b=>
 some 0) some
def z0e(N:Nat)(a:(List Int))(b:(List Int)):Option Int:=
 bd (cmp_Compare_int N (↑a.length:Int) (↑b.length:Int)) fun d=>
 bd (mh N a b) fun e=>
 bd (z2r N ([d,e]:List Int)) fun c=>
 some c
def kz(N:Nat)(a:(List Int)×Int):Nat→Int→Option (Ex (Unit) (Bool))
 |0,_=>none
 |c+1,b=>
  gd (in64 ((↑a.1.length:Int)-1))<|
  bif decide (b<((↑a.1.length:Int)-1)) then(
  gd (okI a.1 b)<|
  bif decide ((ix a.1 b)=(-1)) then(
  some (Ex.rt false)) else(
  gd (in64 (b+1))<|
  kz N a c (b+1))) else(
  some (Ex.go ()))
def u6(N:Nat)(d:Mach×(List Int)×Int)(e:(List Int)×Bool×Int)(c:(List (List Int))×(List Bool)×Int)(a:Int):Nat→Int→Option (Ex (Unit) (Ex (Unit) (Bool)))
 |0,_=>none
 |f+1,b=>
  gd ((true&&((decide (b<d.1.inputs))==true))=true→okI c.2.1 a)<|
  bif (decide (b<d.1.inputs))&&(ix c.2.1 a) then(
  gd (okI c.1 a)<|
  bd (o6 N (ix c.1 a) ([b]:List Int)) fun g=>
  gd (okI d.1.rows a)<|
  gd (okI (ix d.1.rows a) b)<|
  bd (gop (true&&((decide (((ix (ix d.1.rows a) b).to)=(-1)))==true)) (z0e N g e.1)) fun h=>
  bif (decide (((ix (ix d.1.rows a) b).to)=(-1)))&&(decide ((h.getD default)<0)) then(
  some (Ex.rt (Ex.rt false))) else(
  gd (in64 (b+1))<|
  u6 N d e c a f (b+1))) else(
  some (Ex.go ()))
def ky(N:Nat)(c:Mach×(List Int)×Int)(d:(List Int)×Bool×Int)(b:(List (List Int))×(List Bool)×Int):Nat→Int→Option (Ex (Unit) (Bool))
 |0,_=>none
 |e+1,a=>
  bif decide (a<(↑b.1.length:Int)) then(
  bd (
  u6 N c d b a N 0) fun f=>
  Ex.on f (fun g=>
  gd (in64 (a+1))<|
  ky N c d b e (a+1)) some) else(
  some (Ex.go ()))
def cz(N:Nat)(x:MDat)(way:Int)(out:Int):Option Bool:=
 bd (mq N x) fun f=>
 bd (z16 N (⟨f.inputs,f.outputs,f.rows⟩:Mach)) fun b=>
 gd (okR way 2)<|
 gd (in64 out)<|
 gd (okR out f.outputs)<|
 bd (z1c N (⟨b.1.inputs,b.1.outputs,b.1.rows⟩:Mach) (way%2) (out%f.outputs)) fun e=>
 bd (yl N (⟨b.1.inputs,b.1.outputs,b.1.rows⟩:Mach)) fun g=>
 bd (pq N (⟨b.1.inputs,b.1.outputs,b.1.rows⟩:Mach) (⟨e.1.inputs,e.1.outputs,e.1.rows⟩:Mach)) fun c=>
 bif ((((decide (b.2.2≠0))||(decide (e.2≠0)))||(decide (g.2≠0)))||(decide (c.2.2≠0)))||(decide (g.1=c.2.1)) then(
 some false) else(
 bif !c.2.1 then(
 bd (mo N) fun h=>
 some h) else(
 bd (r9 N (⟨b.1.inputs,b.1.outputs,b.1.rows⟩:Mach) 0 c.1) fun a=>
 gd ((true&&(((decide (a.2≠0))||(decide ((↑a.1.length:Int)=0)))==false))=true→in64 ((↑a.1.length:Int)-1))<|
 gd ((true&&(((decide (a.2≠0))||(decide ((↑a.1.length:Int)=0)))==false))=true→okI a.1 ((↑a.1.length:Int)-1))<|
 bif ((decide (a.2≠0))||(decide ((↑a.1.length:Int)=0)))||(decide ((ix a.1 ((↑a.1.length:Int)-1))≠(-1))) then(
 some false) else(
 bd (
 kz N a N 0) fun i=>
 Ex.on i (fun l=>
 bd (z04 N (⟨b.1.inputs,b.1.outputs,b.1.rows⟩:Mach)) fun d=>
 bd (
 ky N b c d N 0) fun j=>
 Ex.on j (fun m=>
 bd (gop (true&&((decide (d.2.2=0))==true)) (mo N)) fun k=>
 some ((decide (d.2.2=0))&&(k.getD default))) some) some)))
end GV
end Go.Proofs.YtkkcidhcfkmbjaaGreatDoor
