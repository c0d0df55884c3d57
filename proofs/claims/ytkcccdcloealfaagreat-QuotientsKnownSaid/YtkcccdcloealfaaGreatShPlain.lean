import Derived.Test.YtkcccdcloealfaaGreatShTypes
set_option linter.unusedVariables false
set_option linter.unusedSimpArgs false
namespace Go.Proofs.YtkcccdcloealfaaGreat
namespace GV
set_option maxRecDepth 100000
def tq(N:Nat)(x:MDat)(c:Int):Nat→(List Edge)→Int→Option (List Edge)
 |0,_,_=>none
 |e+1,d,b=>
  bif decide (b<((1:Int)+(x.ins%3))) then(
  bd (
  bd (
  gd (in64 (c*((1:Int)+(x.ins%3))))<|
  gd (in64 ((c*((1:Int)+(x.ins%3)))+b))<|
  bif decide (((c*((1:Int)+(x.ins%3)))+b)<(↑x.edges.length:Int)) then(
  gd (okI x.edges ((c*((1:Int)+(x.ins%3)))+b))<|
  gd (in64 (ix x.edges ((c*((1:Int)+(x.ins%3)))+b)))<|
  some (ix x.edges ((c*((1:Int)+(x.ins%3)))+b))) else(
  some 0)) fun a=>
  gd ((true&&(x.part==true))=true→okR a 4)<|
  bif x.part&&(decide ((a%4)=3)) then(
  gd (fits 16 d ([(⟨(-1),(-1)⟩:Edge)]:List Edge))<|
  some (d++([(⟨(-1),(-1)⟩:Edge)]:List Edge))) else(
  gd (okQ a 4)<|
  gd (okR (a/4) ((1:Int)+(x.states%6)))<|
  gd (okQ a 4)<|
  gd (okQ (a/4) ((1:Int)+(x.states%6)))<|
  gd (okR ((a/4)/((1:Int)+(x.states%6))) ((1:Int)+(x.outs%3)))<|
  gd (fits 16 d ([(⟨(a/4)%((1:Int)+(x.states%6)),((a/4)/((1:Int)+(x.states%6)))%((1:Int)+(x.outs%3))⟩:Edge)]:List Edge))<|
  some (d++([(⟨(a/4)%((1:Int)+(x.states%6)),((a/4)/((1:Int)+(x.states%6)))%((1:Int)+(x.outs%3))⟩:Edge)]:List Edge)))) fun f=>
  gd (in64 (b+1))<|
  tq N x c e f (b+1)) else(
  some d)
def ic(N:Nat)(x:MDat):Nat→Int→(List (List Edge))→Option (List (List Edge))
 |0,_,_=>none
 |d+1,a,b=>
  bif decide (a<((1:Int)+(x.states%6))) then(
  bd (
  tq N x a N ([]:List Edge) 0) fun c=>
  gd (fits 24 b ([c]:List (List Edge)))<|
  gd (in64 (a+1))<|
  ic N x d (a+1) (b++([c]:List (List Edge)))) else(
  some b)
def ax(N:Nat)(x:MDat):Option Mach:=
 gd (okR x.states 6)<|
 gd (in64 (x.states%6))<|
 gd (in64 ((1:Int)+(x.states%6)))<|
 gd (okR x.ins 3)<|
 gd (in64 (x.ins%3))<|
 gd (in64 ((1:Int)+(x.ins%3)))<|
 gd (okR x.outs 3)<|
 gd (in64 (x.outs%3))<|
 gd (in64 ((1:Int)+(x.outs%3)))<|
 bd (
 ic N x N 0 ([]:List (List Edge))) fun a=>
 some (⟨(1:Int)+(x.ins%3),(1:Int)+(x.outs%3),a⟩:Mach)
def ib(N:Nat)(x:WDat)(inputs:Int):Nat→(List Int)→Int→Option (List Int)
 |0,_,_=>none
 |c+1,b,a=>
  bif (decide (a<(↑x.syms.length:Int)))&&(decide (a<12)) then(
  gd (okI x.syms a)<|
  gd (in64 (ix x.syms a))<|
  gd (okR (ix x.syms a) inputs)<|
  gd (fits 8 b ([(ix x.syms a)%inputs]:List Int))<|
  gd (in64 (a+1))<|
  ib N x inputs c (b++([(ix x.syms a)%inputs]:List Int)) (a+1)) else(
  some b)
def z0y(N:Nat)(x:WDat)(inputs:Int):Option (List Int):=
 bd (
 ib N x inputs N ([]:List Int) 0) fun a=>
 some a
def vz(N:Nat)(s:(List Edge))(f:Edge→Option Bool):Nat→Int→Option (Ex (Unit) (Int))
 |0,_=>none
 |c+1,a=>
  bif decide (a<(↑s.length:Int)) then(
  gd (okI s a)<|
  bd (f (ix s a)) fun b=>
  bif b then(
  some (Ex.rt a)) else(
  gd (in64 (a+1))<|
  vz N s f c (a+1))) else(
  some (Ex.go ()))
def z0f(N:Nat)(s:(List Edge))(f:Edge→Option Bool):Option Int:=
 bd (
 vz N s f N 0) fun a=>
 Ex.on a (fun b=>
 some (-1)) some
def l8(N:Nat)(s:(List Edge))(f:Edge→Option Bool):Option Bool:=
 bd (z0f N s f) fun a=>
 some (decide (0≤a))
def z5o(N:Nat):Option Edge:=
 some (⟨(-1),(-1)⟩:Edge)
def zc3(N:Nat)(m:Mach)(x:Edge):Option Bool:=
 bd (z5o N) fun a=>
 some ((decide (x.to=a.to∧x.out=a.out))||((((decide (0≤x.to))&&(decide (x.to<(↑m.rows.length:Int))))&&(decide (0≤x.out)))&&(decide (x.out<m.outputs))))
def z97(N:Nat)(x:Edge)(p0_:Mach):Option Bool:=
 bd (zc3 N p0_ x) fun a=>
 some (!a)
def z00(N:Nat)(m:Mach):Nat→Int→Option (Ex (Unit) (Int))
 |0,_=>none
 |b+1,a=>
  bif decide (a<(↑m.rows.length:Int)) then(
  gd (okI m.rows a)<|
  bd (gop (true&&((decide ((↑(ix m.rows a).length:Int)≠m.inputs))==false)) (l8 N (ix m.rows a) (fun d=>z97 N d m))) fun c=>
  bif (decide ((↑(ix m.rows a).length:Int)≠m.inputs))||(c.getD default) then(
  some (Ex.rt 1)) else(
  gd (in64 (a+1))<|
  z00 N m b (a+1))) else(
  some (Ex.go ()))
def xk(N:Nat)(m:Mach):Option Int:=
 bif ((decide (16<m.inputs))||(decide (16<m.outputs)))||(decide (64<(↑m.rows.length:Int))) then(
 some 3) else(
 bif ((decide (m.inputs<1))||(decide (m.outputs<1)))||(decide ((↑m.rows.length:Int)<1)) then(
 some 1) else(
 bd (
 z00 N m N 0) fun a=>
 Ex.on a (fun b=>
 some 0) some))
def z8f(N:Nat)(m:Mach):Option Mach:=
 some m
def lg(N:Nat)(m:Mach)(p:(List Int))(s:Int):Nat→Int→(Arr 16 (Int×Int))→Option (Arr 16 (Int×Int))
 |0,_,_=>none
 |c+1,a,b=>
  bif decide (a<(↑(ix m.rows s).length:Int)) then(
  bd (
  gd (okI (ix m.rows s) a)<|
  gd (okI b.1 a)<|
  bif decide (((ix (ix m.rows s) a).to)≠(-1)) then(
  gd (okI p ((ix (ix m.rows s) a).to))<|
  gd (okI (z5h b a (((ix (ix m.rows s) a).out,(-1)):(Int×Int))).1 a)<|
  some (z5h (z5h b a (((ix (ix m.rows s) a).out,(-1)):(Int×Int))) a (((ix (z5h b a (((ix (ix m.rows s) a).out,(-1)):(Int×Int))).1 a).1,(ix p ((ix (ix m.rows s) a).to))):(Int×Int)))) else(
  some (z5h b a (((ix (ix m.rows s) a).out,(-1)):(Int×Int))))) fun d=>
  gd (in64 (a+1))<|
  lg N m p s c (a+1) d) else(
  some b)
def z7y(N:Nat)(m:Mach)(p:(List Int))(s:Int):Option (Arr 16 (Int×Int)):=
 bd (
 gd (okI m.rows s)<|
 lg N m p s N 0 (zbs 16 (List.replicate 16 (((0:Int),(0:Int)):(Int×Int))))) fun a=>
 some a
def l6(N:Nat)(m:Mach)(p:(List Int)):Nat→Int→(List (Sb×Int))→(List Int)→Option (List Int)
 |0,_,_,_=>none
 |f+1,a,b,c=>
  bif decide (a<(↑p.length:Int)) then(
  gd (okI p a)<|
  bd (z7y N m p a) fun d=>
  bd (
  bif !(z6e b (⟨(ix p a),d⟩:Sb)) then(
  some (z98 b (⟨(ix p a),d⟩:Sb) (↑b.length:Int))) else(
  some b)) fun e=>
  gd (okI c a)<|
  gd (in64 (a+1))<|
  l6 N m p f (a+1) e (up c a (z4x (0:Int) e (⟨(ix p a),d⟩:Sb)))) else(
  some c)
def z5n(N:Nat)(m:Mach)(p:(List Int)):Option (List Int):=
 gd (okM 8 (↑p.length:Int))<|
 bd (
 l6 N m p N 0 ([]:List (Sb×Int)) (mk (↑p.length:Int) (0:Int))) fun a=>
 some a
def sj(N:Nat)(s1_:(List Int))(s2_:(List Int)):Nat→Int→Option (Ex (Unit) (Bool))
 |0,_=>none
 |b+1,a=>
  bif decide (a<(↑s1_.length:Int)) then(
  gd (okI s1_ a)<|
  gd (okI s2_ a)<|
  bif decide ((ix s1_ a)≠(ix s2_ a)) then(
  some (Ex.rt false)) else(
  gd (in64 (a+1))<|
  sj N s1_ s2_ b (a+1))) else(
  some (Ex.go ()))
def slices_Equal_int(N:Nat)(s1_:(List Int))(s2_:(List Int)):Option Bool:=
 bif decide ((↑s1_.length:Int)≠(↑s2_.length:Int)) then(
 some false) else(
 bd (
 sj N s1_ s2_ N 0) fun a=>
 Ex.on a (fun b=>
 some true) some)
def z0i(N:Nat)(σ:Type)(B:(List Int)→σ→Option (Bool×σ))(p0_:Mach):Nat→σ→(List Int)→Option σ
 |0,_,_=>none
 |d+1,e,b=>
  bd (B b e) fun a=>
  bif a.1 then(
  bd (z5n N p0_ b) fun c=>
  bd (slices_Equal_int N b c) fun f=>
  bif f then(
  some a.2) else(
  z0i N σ B p0_ d a.2 c)) else(
  some a.2)
def z6j(N:Nat)(p0_:Mach)(σ:Type)(B:(List Int)→σ→Option (Bool×σ))(s0:σ):Option σ:=
 gd (okM 8 (↑p0_.rows.length:Int))<|
 z0i N σ B p0_ N s0 (mk (↑p0_.rows.length:Int) (0:Int))
def z4e(N:Nat)(m:Mach):Option ((List Int)×Int×Int):=
 bd (xk N m) fun a=>
 bif decide (a≠0) then(
 some (([]:(List Int)),0,a)) else(
 bd (z8f N m) fun d=>
 bd (z6j N d ((List Int)×Int) (fun e b=>
 gd (in64 (b.2+1))<|
 some (true,(e,b.2+1))) (([]:(List Int)),(-1))) fun c=>
 some (c.1,c.2,0))
def nz(N:Nat)(l_:(List Int)):Nat→(List Int)→Int→(List (Int×Int))→(List Int)→Option (List Int×List Int)
 |0,_,_,_,_=>none
 |f+1,b,a,c,d=>
  bif decide (a<(↑l_.length:Int)) then(
  gd (okI l_ a)<|
  bd (
  bif !(z6e c (ix l_ a)) then(
  gd (fits 8 b ([a]:List Int))<|
  some ((b++([a]:List Int)),(z98 c (ix l_ a) (↑b.length:Int)))) else(
  some (b,c))) fun e=>
  gd (okI d a)<|
  gd (in64 (a+1))<|
  nz N l_ f e.1 (a+1) e.2 (up d a (z4x (0:Int) e.2 (ix l_ a)))) else(
  some (b,d))
def z3f(N:Nat)(l_:(List Int)):Option ((List Int)×(List Int)):=
 gd (okM 8 (↑l_.length:Int))<|
 bd (
 nz N l_ N ([]:List Int) 0 ([]:List (Int×Int)) (mk (↑l_.length:Int) (0:Int))) fun a=>
 some (a.1,a.2)
def z2r(N:Nat)(s:(List Edge)):Option (List Edge):=
 gd (fits 16 ([]:List Edge) s)<|
 some (([]:List Edge)++s)
def z4h(N:Nat)(s:(List Edge)):Option (List Edge):=
 gd (okS s 0 (↑s.length:Int))<|
 some (cut s 0 (↑s.length:Int))
def iw(N:Nat)(d:(List Int)×(List Int))(c:(List Edge)):Nat→Int→(List Edge)→Option (List Edge)
 |0,_,_=>none
 |e+1,a,b=>
  bif decide (a<(↑c.length:Int)) then(
  bd (
  gd (okI b a)<|
  bif decide (((ix b a).to)≠(-1)) then(
  gd (okI d.2 ((ix b a).to))<|
  gd (okI b a)<|
  some (up b a (⟨(ix d.2 ((ix b a).to)),(ix b a).out⟩:Edge))) else(
  some b)) fun f=>
  gd (in64 (a+1))<|
  iw N d c e (a+1) f) else(
  some b)
def il(N:Nat)(m:Mach)(d:(List Int)×(List Int)):Nat→Int→(List (List Edge))→Option (List (List Edge))
 |0,_,_=>none
 |f+1,a,c=>
  bif decide (a<(↑d.1.length:Int)) then(
  gd (okI d.1 a)<|
  gd (okI m.rows (ix d.1 a))<|
  bd (z2r N (ix m.rows (ix d.1 a))) fun e=>
  bd (
  iw N d e N 0 e) fun g=>
  bd (z4h N g) fun b=>
  gd (fits 24 c ([b]:List (List Edge)))<|
  gd (in64 (a+1))<|
  il N m d f (a+1) (c++([b]:List (List Edge)))) else(
  some c)
def z5c(N:Nat)(m:Mach)(p:(List Int)):Option (Mach×(List Int)):=
 bd (z3f N p) fun b=>
 bd (
 il N m b N 0 ([]:List (List Edge))) fun a=>
 some ((⟨m.inputs,m.outputs,a⟩:Mach),b.2)
def z7w(N:Nat)(m:Mach)(from_:Int):Option (Mach×Int):=
 some (m,from_)
def iy(N:Nat)(σ:Type)(p0_:Mach)(b:List Sa):Nat→σ→Int→(List Bool)→(List Sa)→Option (Ex (σ×List Bool×List Sa) (σ))
 |0,_,_,_,_=>none
 |g+1,e,a,c,d=>
  bif decide (a<(↑(ix p0_.rows ((ix b 0).fC)).length:Int)) then(
  bd (
  gd (okI (ix p0_.rows ((ix b 0).fC)) a)<|
  gd ((true&&((decide (((ix (ix p0_.rows ((ix b 0).fC)) a).to)≠(-1)))==true))=true→okI c ((ix (ix p0_.rows ((ix b 0).fC)) a).to))<|
  bif (decide (((ix (ix p0_.rows ((ix b 0).fC)) a).to)≠(-1)))&&(!(ix c ((ix (ix p0_.rows ((ix b 0).fC)) a).to))) then(
  gd (okI c ((ix (ix p0_.rows ((ix b 0).fC)) a).to))<|
  gd (fits 24 d ([(⟨(ix (ix p0_.rows ((ix b 0).fC)) a).to,(ix b 0).fC,a⟩:Sa)]:List Sa))<|
  some (e,(up c ((ix (ix p0_.rows ((ix b 0).fC)) a).to) true),(d++([(⟨(ix (ix p0_.rows ((ix b 0).fC)) a).to,(ix b 0).fC,a⟩:Sa)]:List Sa)))) else(
  some (e,c,d))) fun f=>
  gd (in64 (a+1))<|
  iy N σ p0_ b g f.1 (a+1) f.2.1 f.2.2) else(
  some (Ex.go (e,c,d)))
def z0k(N:Nat)(σ:Type)(B:Sa→σ→Option (Bool×σ))(p0_:Mach):Nat→σ→(List Bool)→(List Sa)→Option σ
 |0,_,_,_=>none
 |e+1,d,f,a=>
  bd (
  bif decide (0<(↑a.length:Int)) then(
  gd (okI a 0)<|
  gd (okS a 1 (↑a.length:Int))<|
  bd (B (⟨(ix a 0).fC,(ix a 0).fI,(ix a 0).fH⟩:Sa) d) fun b=>
  bif !b.1 then(
  some (Ex.rt b.2)) else(
  gd (okI p0_.rows ((ix a 0).fC))<|
  iy N σ p0_ a N b.2 0 f (cut a 1 (↑a.length:Int)))) else(
  some (Ex.rt d))) fun g=>
  Ex.on g (fun c=>
  z0k N σ B p0_ e c.1 c.2.1 c.2.2) some
def z3q(N:Nat)(p0_:Mach)(p1_:Int)(σ:Type)(B:Sa→σ→Option (Bool×σ))(s0:σ):Option σ:=
 gd (okM 1 (↑p0_.rows.length:Int))<|
 gd (okI (mk (↑p0_.rows.length:Int) false) p1_)<|
 z0k N σ B p0_ N s0 (up (mk (↑p0_.rows.length:Int) false) p1_ true) ([(⟨p1_,(-1),(-1)⟩:Sa)]:List Sa)
def z3j(N:Nat)(m:Mach):Option (List Int):=
 bd (z7w N m 0) fun d=>
 bd (z3q N d.1 d.2 (List Int) (fun a b=>
 gd (fits 8 b ([a.fC]:List Int))<|
 some (true,(b++([a.fC]:List Int)))) ([]:List Int)) fun c=>
 some c
def zaa(N:Nat)(x:Edge)(p0_:(List (Int×Int))):Option Edge:=
 some (⟨(z4x (0:Int) p0_ x.to),x.out⟩:Edge)
def z2d(N:Nat)(l_:(List Int)):Nat→Int→(List (Int×Int))→Option (List (Int×Int))
 |0,_,_=>none
 |c+1,a,b=>
  bif decide (a<(↑l_.length:Int)) then(
  gd (okI l_ a)<|
  gd (in64 (a+1))<|
  z2d N l_ c (a+1) (z98 b (ix l_ a) a)) else(
  some b)
def z2a(N:Nat)(m:Mach)(l_:(List Int))(d:List (Int×Int))(b:Int):Nat→Int→(List (List Edge))→Option (List (List Edge))
 |0,_,_=>none
 |e+1,a,c=>
  bif decide (a<(↑(ix m.rows (ix l_ b)).length:Int)) then(
  gd (okI (ix m.rows (ix l_ b)) a)<|
  gd (okI c b)<|
  bd (zaa N (⟨(ix (ix m.rows (ix l_ b)) a).to,(ix (ix m.rows (ix l_ b)) a).out⟩:Edge) d) fun f=>
  gd (okI (ix c b) a)<|
  gd (in64 (a+1))<|
  z2a N m l_ d b e (a+1) (up c b (up (ix c b) a f))) else(
  some c)
def z2e(N:Nat)(m:Mach)(l_:(List Int))(c:List (Int×Int)):Nat→Int→(List (List Edge))→Option (List (List Edge))
 |0,_,_=>none
 |d+1,a,b=>
  bif decide (a<(↑l_.length:Int)) then(
  bd (
  gd (okI l_ a)<|
  gd (okM 16 m.inputs)<|
  gd (okI b a)<|
  gd (okI m.rows (ix l_ a))<|
  z2a N m l_ c a N 0 (up b a (mk m.inputs (⟨(0:Int),(0:Int)⟩:Edge)))) fun e=>
  gd (in64 (a+1))<|
  z2e N m l_ c d (a+1) e) else(
  some b)
def z4w(N:Nat)(m:Mach)(l_:(List Int)):Option Mach:=
 bd (
 z2d N l_ N 0 (z98 ([]:List (Int×Int)) (-1) (-1))) fun a=>
 gd (okM 24 (↑l_.length:Int))<|
 bd (
 z2e N m l_ a N 0 (mk (↑l_.length:Int) ([]:List Edge))) fun b=>
 some (⟨m.inputs,m.outputs,b⟩:Mach)
def z4g(N:Nat)(m:Mach):Option (Mach×Int):=
 bd (xk N m) fun c=>
 bif decide (c≠0) then(
 some ((⟨0,0,[]⟩:Mach),c)) else(
 bd (z3j N m) fun b=>
 bd (z4w N m b) fun a=>
 some ((⟨a.inputs,a.outputs,a.rows⟩:Mach),0))
def iq(N:Nat)(vals:(List Int)):Nat→Int→Option (Ex (Unit) (Int))
 |0,_=>none
 |b+1,a=>
  bif decide (a<(↑vals.length:Int)) then(
  gd (okI vals a)<|
  bif decide ((ix vals a)≠0) then(
  some (Ex.rt (ix vals a))) else(
  gd (in64 (a+1))<|
  iq N vals b (a+1))) else(
  some (Ex.go ()))
def z3p(N:Nat)(vals:(List Int)):Option Int:=
 bd (
 iq N vals N 0) fun a=>
 Ex.on a (fun b=>
 some 0) some
def vv(N:Nat)(s1_:(List (List Edge)))(s2_:(List (List Edge)))(eq:(List Edge)→(List Edge)→Option Bool):Nat→Int→Option (Ex (Unit) (Bool))
 |0,_=>none
 |c+1,a=>
  bif decide (a<(↑s1_.length:Int)) then(
  gd (okI s1_ a)<|
  gd (okI s2_ a)<|
  bd (eq (ix s1_ a) (ix s2_ a)) fun b=>
  bif !b then(
  some (Ex.rt false)) else(
  gd (in64 (a+1))<|
  vv N s1_ s2_ eq c (a+1))) else(
  some (Ex.go ()))
def z0b(N:Nat)(s1_:(List (List Edge)))(s2_:(List (List Edge)))(eq:(List Edge)→(List Edge)→Option Bool):Option Bool:=
 bif decide ((↑s1_.length:Int)≠(↑s2_.length:Int)) then(
 some false) else(
 bd (
 vv N s1_ s2_ eq N 0) fun a=>
 Ex.on a (fun b=>
 some true) some)
def bq(N:Nat)(s1_:(List Edge))(s2_:(List Edge)):Nat→Int→Option (Ex (Unit) (Bool))
 |0,_=>none
 |b+1,a=>
  bif decide (a<(↑s1_.length:Int)) then(
  gd (okI s1_ a)<|
  gd (okI s2_ a)<|
  bif decide (¬(((ix s1_ a).to)=((ix s2_ a).to)∧((ix s1_ a).out)=((ix s2_ a).out))) then(
  some (Ex.rt false)) else(
  gd (in64 (a+1))<|
  bq N s1_ s2_ b (a+1))) else(
  some (Ex.go ()))
def z1p(N:Nat)(s1_:(List Edge))(s2_:(List Edge)):Option Bool:=
 bif decide ((↑s1_.length:Int)≠(↑s2_.length:Int)) then(
 some false) else(
 bd (
 bq N s1_ s2_ N 0) fun a=>
 Ex.on a (fun b=>
 some true) some)
def z6q(N:Nat)(a:Mach)(b:Mach):Option Bool:=
 bd (xk N a) fun c=>
 bd (gop (true&&((decide (c=0))==true)) (xk N b)) fun d=>
 bd (gop (true&&(((((decide (c=0))&&(decide ((d.getD default)=0)))&&(decide (a.inputs=b.inputs)))&&(decide (a.outputs=b.outputs)))==true)) (z0b N a.rows b.rows (fun f g=>z1p N f g))) fun e=>
 some (((((decide (c=0))&&(decide ((d.getD default)=0)))&&(decide (a.inputs=b.inputs)))&&(decide (a.outputs=b.outputs)))&&(e.getD default))
def z6w(N:Nat)(x y:Int):Option (Int×Int):=
 gd ((0≤x∧x<18446744073709551616)∧0≤y∧y<18446744073709551616) (some (x*y/18446744073709551616,x*y%18446744073709551616))
def aj(N:Nat):Nat→Int→(List Int)→Option (List Int)
 |0,_,_=>none
 |c+1,a,b=>
  bif decide (a<(↑b.length:Int)) then(
  gd (okS b a (↑b.length:Int))<|
  gd (okS b 0 a)<|
  gd (in64 (a+(↑(min (a.toNat-0) (b.length-a.toNat)):Int)))<|
  aj N c (a+(↑(min (a.toNat-0) (b.length-a.toNat)):Int)) (z8o b a.toNat ((b.drop 0).take (min (a.toNat-0) (b.length-a.toNat))))) else(
  some b)
def z1j(N:Nat)(x:(List Int))(count:Int):Option (List Int):=
 bif decide (count<0) then(
 none) else(
 bd (z6w N (IntKind.u64.wrap (↑x.length:Int)) (IntKind.u64.wrap count)) fun a=>
 bif (decide (0<a.1))||(decide (9223372036854775807<a.2)) then(
 none) else(
 gd (in64 a.2)<|
 gd (okM 8 a.2)<|
 bd (
 aj N N (↑(min x.length (mk a.2 (0:Int)).length):Int) (z8o (mk a.2 (0:Int)) 0 (x.take (min x.length (mk a.2 (0:Int)).length)))) fun b=>
 some b))
def z2u(N:Nat)(s:(List Int)):Option (List Int):=
 gd (okS s 0 (↑s.length:Int))<|
 some (cut s 0 (↑s.length:Int))
def si(N:Nat)(b:(List Int))(d:(List Int)):Nat→Int→(List Int)→Option (List Int)
 |0,_,_=>none
 |e+1,a,c=>
  bif decide (a<(↑b.length:Int)) then(
  gd (okI b a)<|
  gd (okI d a)<|
  gd (okI c (ix b a))<|
  gd (in64 (a+1))<|
  si N b d e (a+1) (up c (ix b a) (ix d a))) else(
  some c)
def z3m(N:Nat)(a:Mach)(b:Mach):Option ((List Int)×Bool×Int):=
 bd (xk N a) fun h=>
 bd (xk N b) fun i=>
 bd (z3p N ([h,i]:List Int)) fun c=>
 bif decide (c≠0) then(
 some (([]:(List Int)),false,c)) else(
 bd (z3j N a) fun d=>
 bd (z3j N b) fun e=>
 bd (z4w N a d) fun j=>
 bd (z4w N b e) fun k=>
 bd (z6q N j k) fun l=>
 bif !l then(
 some (([]:(List Int)),false,0)) else(
 bd (z1j N ([(-1)]:List Int) (↑a.rows.length:Int)) fun m=>
 bd (
 si N d e N 0 m) fun f=>
 bd (z2u N f) fun g=>
 some (g,true,0)))
def z5q(N:Nat)(s:(List Int)):Option (List Int):=
 some s
def ai(N:Nat)(σ:Type)(B:Int→σ→Option (Bool×σ))(p0_:(List Int)):Nat→σ→Int→Option σ
 |0,_,_=>none
 |d+1,c,b=>
  bif decide (b<(↑p0_.length:Int)) then(
  gd (okI p0_ b)<|
  bd (B (ix p0_ b) c) fun a=>
  bif !a.1 then(
  some a.2) else(
  gd (in64 (b+1))<|
  ai N σ B p0_ d a.2 (b+1))) else(
  some c)
def z3b(N:Nat)(p0_:(List Int))(σ:Type)(B:Int→σ→Option (Bool×σ))(s0:σ):Option σ:=
 ai N σ B p0_ N s0 0
def slices_Sort_int(N:Nat)(x:List Int):Option (List Int):=
 gd (0<x.length∧x.length<4611686018427387904) (some (z6n x))
def z0c(N:Nat)(s:List Int)(seq_0_:(List Int)):Option (List Int):=
 bd (z3b N seq_0_ (List Int) (fun a b=>
 gd (fits 8 b ([a]:List Int))<|
 some (true,(b++([a]:List Int)))) s) fun c=>
 some c
def z4n(N:Nat)(seq_0_:(List Int)):Option (List Int):=
 bd (z0c N ([]:List Int) seq_0_) fun a=>
 some a
def z4t(N:Nat)(seq_0_:(List Int)):Option (List Int):=
 bd (z4n N seq_0_) fun b=>
 bd (slices_Sort_int N b) fun a=>
 some a
def z7p(N:Nat)(m:Mach):Option ((List Int)×Int):=
 bd (xk N m) fun e=>
 bif decide (e≠0) then(
 some (([]:(List Int)),e)) else(
 bd (z3j N m) fun a=>
 bd (z5q N a) fun b=>
 bd (z4t N b) fun c=>
 bd (z2u N c) fun d=>
 some (d,0))
def z03(N:Nat)(c:Mach×(List Int))(d:(List Int)×Bool×Int)(b:(List Int)×Int):Nat→Int→(List Int)→Option (List Int)
 |0,_,_=>none
 |f+1,a,e=>
  bif decide (a<(↑b.1.length:Int)) then(
  gd (okI b.1 a)<|
  gd (okI c.2 (ix b.1 a))<|
  gd (okI d.1 (ix c.2 (ix b.1 a)))<|
  gd (okI e (ix b.1 a))<|
  gd (in64 (a+1))<|
  z03 N c d b f (a+1) (up e (ix b.1 a) (ix d.1 (ix c.2 (ix b.1 a))))) else(
  some e)
def z3u(N:Nat)(m:Mach):Option (Mach×(List Int)×Int):=
 bd (z4e N m) fun f=>
 bif decide (f.2.2≠0) then(
 some ((⟨0,0,[]⟩:Mach),([]:(List Int)),f.2.2)) else(
 bd (z5c N m f.1) fun b=>
 bd (z4g N (⟨b.1.inputs,b.1.outputs,b.1.rows⟩:Mach)) fun a=>
 bif decide (a.2≠0) then(
 some ((⟨0,0,[]⟩:Mach),([]:(List Int)),a.2)) else(
 bd (z3m N (⟨b.1.inputs,b.1.outputs,b.1.rows⟩:Mach) (⟨a.1.inputs,a.1.outputs,a.1.rows⟩:Mach)) fun c=>
 bif decide (c.2.2≠0) then(
 some ((⟨0,0,[]⟩:Mach),([]:(List Int)),c.2.2)) else(
 bd (z1j N ([(-1)]:List Int) (↑m.rows.length:Int)) fun g=>
 bd (z7p N m) fun d=>
 bd (
 z03 N b c d N 0 g) fun h=>
 bd (z2u N h) fun e=>
 some ((⟨a.1.inputs,a.1.outputs,a.1.rows⟩:Mach),e,d.2))))
def wz(N:Nat)(m:Mach):Option (Mach×Int):=
 bd (z3u N m) fun a=>
 some ((⟨a.1.inputs,a.1.outputs,a.1.rows⟩:Mach),a.2.2)
def ym(N:Nat)(m:Mach)(marked:(List (List Bool)))(s:Int)(t:Int):Nat→Int→Option (Ex (Unit) (Int))
 |0,_=>none
 |b+1,a=>
  bif decide (a<m.inputs) then(
  gd (okI m.rows s)<|
  gd (okI (ix m.rows s) a)<|
  gd (okI m.rows t)<|
  gd (okI (ix m.rows t) a)<|
  gd (((true&&((decide (((ix (ix m.rows s) a).out)≠((ix (ix m.rows t) a).out)))==false))&&(((decide (0≤((ix (ix m.rows s) a).to)))&&(decide (0≤((ix (ix m.rows t) a).to))))==true))=true→okI marked ((ix (ix m.rows s) a).to))<|
  gd (((true&&((decide (((ix (ix m.rows s) a).out)≠((ix (ix m.rows t) a).out)))==false))&&(((decide (0≤((ix (ix m.rows s) a).to)))&&(decide (0≤((ix (ix m.rows t) a).to))))==true))=true→okI (ix marked ((ix (ix m.rows s) a).to)) ((ix (ix m.rows t) a).to))<|
  bif (decide (((ix (ix m.rows s) a).out)≠((ix (ix m.rows t) a).out)))||(((decide (0≤((ix (ix m.rows s) a).to)))&&(decide (0≤((ix (ix m.rows t) a).to))))&&(ix (ix marked ((ix (ix m.rows s) a).to)) ((ix (ix m.rows t) a).to))) then(
  some (Ex.rt 1)) else(
  gd (in64 (a+1))<|
  ym N m marked s t b (a+1))) else(
  some (Ex.go ()))
def z3d(N:Nat)(m:Mach)(marked:(List (List Bool)))(s:Int)(t:Int):Option Int:=
 bd (
 ym N m marked s t N 0) fun a=>
 Ex.on a (fun b=>
 some 0) some
def dw(N:Nat)(m:Mach):Nat→(List (List Bool))→Int→Option (List (List Bool))
 |0,_,_=>none
 |c+1,a,b=>
  bif decide (b<(↑m.rows.length:Int)) then(
  gd (okM 1 (↑m.rows.length:Int))<|
  gd (fits 24 a [(mk (↑m.rows.length:Int) false)])<|
  gd (in64 (b+1))<|
  dw N m c (a++[(mk (↑m.rows.length:Int) false)]) (b+1)) else(
  some a)
def pz(N:Nat)(m:Mach)(d:List (List Bool))(b:Int):Nat→Int→(List (List Bool))→Option (List (List Bool))
 |0,_,_=>none
 |e+1,a,c=>
  bif decide (a<(↑m.rows.length:Int)) then(
  gd (okI c b)<|
  gd (okI d b)<|
  gd (okI (ix d b) a)<|
  bd (gop (true&&((ix (ix d b) a)==false)) (z3d N m d b a)) fun f=>
  gd (okI (ix c b) a)<|
  gd (in64 (a+1))<|
  pz N m d b e (a+1) (up c b (up (ix c b) a ((ix (ix d b) a)||(decide ((f.getD default)=1)))))) else(
  some c)
def pu(N:Nat)(m:Mach)(c:List (List Bool)):Nat→(List (List Bool))→Int→Option (List (List Bool))
 |0,_,_=>none
 |d+1,b,a=>
  bif decide (a<(↑m.rows.length:Int)) then(
  bd (
  gd (okM 1 (↑m.rows.length:Int))<|
  gd (fits 24 b [(mk (↑m.rows.length:Int) false)])<|
  pz N m c a N 0 (b++[(mk (↑m.rows.length:Int) false)])) fun e=>
  gd (in64 (a+1))<|
  pu N m c d e (a+1)) else(
  some b)
def dz(N:Nat)(m:Mach)(k:Int):Nat→(List (List Bool))→Int→Option (List (List Bool))
 |0,_,_=>none
 |c+1,b,a=>
  bif decide (a<k) then(
  bd (
  pu N m b N ([]:List (List Bool)) 0) fun d=>
  gd (in64 (a+1))<|
  dz N m k c d (a+1)) else(
  some b)
def z16(N:Nat)(m:Mach)(k:Int):Option (List (List Bool)):=
 bd (
 dw N m N ([]:List (List Bool)) 0) fun a=>
 bd (
 dz N m k N a 0) fun b=>
 some b
def wh(N:Nat)(marked:(List (List Bool)))(c:List Int)(b:Int):Nat→Int→Int→Option Int
 |0,_,_=>none
 |e+1,d,a=>
  bif decide (a<b) then(
  bd (
  gd (okI marked b)<|
  gd (okI (ix marked b) a)<|
  bif !(ix (ix marked b) a) then(
  gd (okI c a)<|
  some (ix c a)) else(
  some d)) fun f=>
  gd (in64 (a+1))<|
  wh N marked c b e f (a+1)) else(
  some d)
def yu(N:Nat)(marked:(List (List Bool))):Nat→(List Int)→Int→Int→Option (List Int)
 |0,_,_,_=>none
 |f+1,a,b,c=>
  bif decide (c<(↑marked.length:Int)) then(
  bd (
  wh N marked a c N (-1) 0) fun e=>
  bd (
  bif decide (e<0) then(
  gd (in64 (b+1))<|
  some (b+1,b)) else(
  some (b,e))) fun d=>
  gd (fits 8 a ([d.2]:List Int))<|
  gd (in64 (c+1))<|
  yu N marked f (a++([d.2]:List Int)) d.1 (c+1)) else(
  some a)
def z06(N:Nat)(marked:(List (List Bool))):Option (List Int):=
 bd (
 yu N marked N ([]:List Int) 0 0) fun a=>
 some a
def z4j(N:Nat)(m:Mach)(k:Int):Option (List Int):=
 bd (z16 N m k) fun b=>
 bd (z06 N b) fun a=>
 some a
def o8(N:Nat)(m:Mach):Option (List Int):=
 bd (z4j N m (↑m.rows.length:Int)) fun a=>
 some a
def z1w(N:Nat)(m:Mach)(s:Int)(i:Int):Option Edge:=
 bif decide (s<0) then(
 some (⟨(-1),(-1)⟩:Edge)) else(
 gd (okI m.rows s)<|
 gd (okI (ix m.rows s) i)<|
 some (⟨(ix (ix m.rows s) i).to,(ix (ix m.rows s) i).out⟩:Edge))
def lu(N:Nat):Nat→Mach→Int→(List Int)→Option Int
 |0,_,_,_=>none
 |F+1,m,s,w_=>
  bif decide ((↑w_.length:Int)=0) then(
  some s) else(
  gd (okI w_ 0)<|
  bd (z1w N m s (ix w_ 0)) fun b=>
  gd (okS w_ 1 (↑w_.length:Int))<|
  bd ((lu N F) m b.to (cut w_ 1 (↑w_.length:Int))) fun a=>
  some a)
def cz(N:Nat)(inputs:Int):Nat→Int→(List Int)→Option (Ex (List Int) ((List Int)))
 |0,_,_=>none
 |c+1,a,b=>
  bif decide (0≤a) then(
  gd (okI b a)<|
  gd (in64 ((ix b a)+1))<|
  bif decide (((ix b a)+1)<inputs) then(
  gd (okI b a)<|
  gd (in64 ((ix b a)+1))<|
  gd (okI b a)<|
  some (Ex.rt (up b a ((ix b a)+1)))) else(
  gd (okI b a)<|
  gd (in64 (a-1))<|
  cz N inputs c (a-1) (up b a 0))) else(
  some (Ex.go b))
def z1x(N:Nat)(w_:(List Int))(inputs:Int):Option (List Int):=
 gd (fits 8 ([]:List Int) w_)<|
 bd (
 gd (in64 ((↑(([]:List Int)++w_).length:Int)-1))<|
 cz N inputs N ((↑(([]:List Int)++w_).length:Int)-1) (([]:List Int)++w_)) fun b=>
 Ex.on b (fun a=>
 gd (fits 8 a ([0]:List Int))<|
 some (a++([0]:List Int))) some
def yn(N:Nat)(m:Mach)(from_:Int):Nat→(List Int)→(List (List Int))→(List Bool)→Option (List (List Int)×List Bool)
 |0,_,_,_=>none
 |g+1,c,d,b=>
  bif decide ((↑c.length:Int)<(↑m.rows.length:Int)) then(
  bd (
  bd (lu N N m from_ c) fun a=>
  gd ((true&&((decide (0≤a))==true))=true→okI b a)<|
  bif (decide (0≤a))&&(!(ix b a)) then(
  gd (okI b a)<|
  gd (okI d a)<|
  some ((up d a c),(up b a true))) else(
  some (d,b))) fun e=>
  bd (z1x N c m.inputs) fun f=>
  yn N m from_ g f e.1 e.2) else(
  some (d,b))
def z1h(N:Nat)(m:Mach)(from_:Int):Option ((List (List Int))×(List Bool)):=
 gd (okM 24 (↑m.rows.length:Int))<|
 gd (okM 1 (↑m.rows.length:Int))<|
 bd (
 yn N m from_ N ([]:List Int) (mk (↑m.rows.length:Int) ([]:List Int)) (mk (↑m.rows.length:Int) false)) fun a=>
 some (a.1,a.2)
def z2i(N:Nat)(m:Mach):Option ((List (List Int))×(List Bool)):=
 bd (z1h N m 0) fun a=>
 some (a.1,a.2)
def og(N:Nat)(a:(List Int))(b:(List Int)):Nat→Int→Option (Ex (Unit) (Int))
 |0,_=>none
 |d+1,c=>
  bif decide (c<(↑a.length:Int)) then(
  gd (okI a c)<|
  gd (okI b c)<|
  bif decide ((ix a c)≠(ix b c)) then(
  gd (okI a c)<|
  gd (okI b c)<|
  bif decide ((ix a c)<(ix b c)) then(
  some (Ex.rt 1)) else(
  some (Ex.rt 0))) else(
  gd (in64 (c+1))<|
  og N a b d (c+1))) else(
  some (Ex.go ()))
def z0v(N:Nat)(a:(List Int))(b:(List Int)):Option Int:=
 bif decide ((↑a.length:Int)≠(↑b.length:Int)) then(
 bif decide ((↑a.length:Int)<(↑b.length:Int)) then(
 some 1) else(
 some 0)) else(
 bd (
 og N a b N 0) fun c=>
 Ex.on c (fun d=>
 some 0) some)
def nu(N:Nat)(d:(List (List Int))×(List Bool))(b:List Int)(c:Int):Nat→Int→Option Int
 |0,_=>none
 |e+1,a=>
  gd ((true&&((decide (a<(↑b.length:Int)))==true))=true→okI b a)<|
  gd ((true&&((decide (a<(↑b.length:Int)))==true))=true→okI d.1 (ix b a))<|
  gd ((true&&((decide (a<(↑b.length:Int)))==true))=true→okI d.1 c)<|
  bd (gop (true&&((decide (a<(↑b.length:Int)))==true)) (z0v N (ix d.1 (ix b a)) (ix d.1 c))) fun f=>
  bif (decide (a<(↑b.length:Int)))&&(decide ((f.getD default)=1)) then(
  gd (in64 (a+1))<|
  nu N d b c e (a+1)) else(
  some a)
def ny(N:Nat)(d:(List (List Int))×(List Bool)):Nat→(List Int)→Int→Option (List Int)
 |0,_,_=>none
 |e+1,a,b=>
  bif decide (b<(↑d.1.length:Int)) then(
  bd (
  gd (okI d.2 b)<|
  bif !(ix d.2 b) then(
  some a) else(
  bd (
  nu N d a b N 0) fun c=>
  gd (okS a 0 c)<|
  gd (fits 8 ([]:List Int) (cut a 0 c))<|
  gd (fits 8 (([]:List Int)++(cut a 0 c)) ([b]:List Int))<|
  gd (okS a c (↑a.length:Int))<|
  gd (fits 8 ((([]:List Int)++(cut a 0 c))++([b]:List Int)) (cut a c (↑a.length:Int)))<|
  some (((([]:List Int)++(cut a 0 c))++([b]:List Int))++(cut a c (↑a.length:Int))))) fun f=>
  gd (in64 (b+1))<|
  ny N d e f (b+1)) else(
  some a)
def z3e(N:Nat)(m:Mach):Option (List Int):=
 bd (z2i N m) fun b=>
 bd (
 ny N b N ([]:List Int) 0) fun a=>
 some a
def di(N:Nat)(d:(List Int))(a:(List Int))(c:Int):Nat→Int→Int→Option Int
 |0,_,_=>none
 |f+1,e,b=>
  bif decide (b<c) then(
  bd (
  gd (okI a b)<|
  gd (okI d (ix a b))<|
  gd (okI a c)<|
  gd (okI d (ix a c))<|
  bif decide ((ix d (ix a b))=(ix d (ix a c))) then(
  some 1) else(
  some e)) fun g=>
  gd (in64 (b+1))<|
  di N d a c f g (b+1)) else(
  some e)
def pg(N:Nat)(g:(List Int))(b:(List Int)):Nat→(List Int)→Int→Option (List Int)
 |0,_,_=>none
 |d+1,c,a=>
  bif decide (a<(↑b.length:Int)) then(
  bd (
  bd (
  di N g b a N 0 0) fun e=>
  bif decide (e=0) then(
  gd (okI b a)<|
  gd (fits 8 c ([(ix b a)]:List Int))<|
  some (c++([(ix b a)]:List Int))) else(
  some c)) fun f=>
  gd (in64 (a+1))<|
  pg N g b d f (a+1)) else(
  some c)
def z10(N:Nat)(m:Mach):Option (List Int):=
 bd (o8 N m) fun c=>
 bd (z3e N m) fun a=>
 bd (
 pg N c a N ([]:List Int) 0) fun b=>
 some b
def gp(N:Nat)(m:Mach)(a:Int):Nat→Int→(List Bool)→Option (List Bool)
 |0,_,_=>none
 |d+1,b,c=>
  bif decide (b<m.inputs) then(
  bd (
  gd (okI m.rows a)<|
  gd (okI (ix m.rows a) b)<|
  gd (okI c a)<|
  bif (ix c a)&&(decide (0≤((ix (ix m.rows a) b).to))) then(
  gd (okI c ((ix (ix m.rows a) b).to))<|
  some (up c ((ix (ix m.rows a) b).to) true)) else(
  some c)) fun e=>
  gd (in64 (b+1))<|
  gp N m a d (b+1) e) else(
  some c)
def gu(N:Nat)(m:Mach):Nat→Int→(List Bool)→Option (List Bool)
 |0,_,_=>none
 |c+1,a,b=>
  bif decide (a<(↑m.rows.length:Int)) then(
  bd (
  gp N m a N 0 b) fun d=>
  gd (in64 (a+1))<|
  gu N m c (a+1) d) else(
  some b)
def mf(N:Nat)(m:Mach):Nat→Int→(List Bool)→Option (List Bool)
 |0,_,_=>none
 |c+1,a,b=>
  bif decide (a<(↑m.rows.length:Int)) then(
  bd (
  gu N m N 0 b) fun d=>
  gd (in64 (a+1))<|
  mf N m c (a+1) d) else(
  some b)
def ig(N:Nat)(m:Mach)(from_:Int):Option (List Bool):=
 gd (okM 1 (↑m.rows.length:Int))<|
 gd (okI (mk (↑m.rows.length:Int) false) from_)<|
 bd (
 mf N m N 0 (up (mk (↑m.rows.length:Int) false) from_ true)) fun a=>
 some a
def ak(N:Nat)(e:(List Int))(d:(List Int))(c:(List Bool))(a:Int):Nat→Int→Int→Option Int
 |0,_,_=>none
 |g+1,f,b=>
  bif decide (b<(↑d.length:Int)) then(
  bd (
  gd (okI c a)<|
  gd ((true&&((ix c a)==true))=true→okI d b)<|
  gd ((true&&((ix c a)==true))=true→okI e (ix d b))<|
  gd ((true&&((ix c a)==true))=true→okI e a)<|
  bif (ix c a)&&(decide ((ix e (ix d b))=(ix e a))) then(
  some b) else(
  some f)) fun h=>
  gd (in64 (b+1))<|
  ak N e d c a g h (b+1)) else(
  some f)
def ah(N:Nat)(f:(List Int))(c:(List Int))(d:(List Bool)):Nat→(List Int)→Int→Option (List Int)
 |0,_,_=>none
 |g+1,b,a=>
  bif decide (a<(↑f.length:Int)) then(
  bd (
  ak N f c d a N (-1) 0) fun e=>
  gd (fits 8 b ([e]:List Int))<|
  gd (in64 (a+1))<|
  ah N f c d g (b++([e]:List Int)) (a+1)) else(
  some b)
def z1d(N:Nat)(m:Mach):Option (List Int):=
 bd (o8 N m) fun d=>
 bd (z10 N m) fun a=>
 bd (ig N m 0) fun b=>
 bd (
 ah N d a b N ([]:List Int) 0) fun c=>
 some c
def gq(N:Nat)(m:Mach)(c:(List Int))(e:(List Int))(a:Int):Nat→(List Edge)→Int→Option (List Edge)
 |0,_,_=>none
 |g+1,f,b=>
  bif decide (b<m.inputs) then(
  gd (okI c a)<|
  gd (okI m.rows (ix c a))<|
  gd (okI (ix m.rows (ix c a)) b)<|
  bd (
  bif decide (0≤((ix (ix m.rows (ix c a)) b).to)) then(
  gd (okI e ((ix (ix m.rows (ix c a)) b).to))<|
  some (ix e ((ix (ix m.rows (ix c a)) b).to))) else(
  some ((ix (ix m.rows (ix c a)) b).to))) fun d=>
  gd (fits 16 f ([(⟨d,(ix (ix m.rows (ix c a)) b).out⟩:Edge)]:List Edge))<|
  gd (in64 (b+1))<|
  gq N m c e a g (f++([(⟨d,(ix (ix m.rows (ix c a)) b).out⟩:Edge)]:List Edge)) (b+1)) else(
  some f)
def bf(N:Nat)(m:Mach)(e:(List Int))(c:(List Int)):Nat→Int→(List (List Edge))→Option (List (List Edge))
 |0,_,_=>none
 |f+1,a,b=>
  bif decide (a<(↑e.length:Int)) then(
  bd (
  gq N m e c a N ([]:List Edge) 0) fun d=>
  gd (fits 24 b ([d]:List (List Edge)))<|
  gd (in64 (a+1))<|
  bf N m e c f (a+1) (b++([d]:List (List Edge)))) else(
  some b)
def o9(N:Nat)(m:Mach):Option Mach:=
 bd (z10 N m) fun c=>
 bd (z1d N m) fun a=>
 bd (
 bf N m c a N 0 ([]:List (List Edge))) fun b=>
 some (⟨m.inputs,m.outputs,b⟩:Mach)
def ng(N:Nat)(a:Mach)(b:Mach)(d:Int):Nat→Int→Option (Ex (Unit) (Ex (Unit) (Bool)))
 |0,_=>none
 |e+1,c=>
  gd (okI a.rows d)<|
  bif decide (c<(↑(ix a.rows d).length:Int)) then(
  gd (okI a.rows d)<|
  gd (okI (ix a.rows d) c)<|
  gd (okI b.rows d)<|
  gd (okI (ix b.rows d) c)<|
  bif decide (¬(((ix (ix a.rows d) c).to)=((ix (ix b.rows d) c).to)∧((ix (ix a.rows d) c).out)=((ix (ix b.rows d) c).out))) then(
  some (Ex.rt (Ex.rt false))) else(
  gd (in64 (c+1))<|
  ng N a b d e (c+1))) else(
  some (Ex.go ()))
def xm(N:Nat)(a:Mach)(b:Mach):Nat→Int→Option (Ex (Unit) (Bool))
 |0,_=>none
 |d+1,c=>
  bif decide (c<(↑a.rows.length:Int)) then(
  bd (
  gd (okI a.rows c)<|
  gd (okI b.rows c)<|
  bif decide ((↑(ix a.rows c).length:Int)≠(↑(ix b.rows c).length:Int)) then(
  some (Ex.rt (Ex.rt false))) else(
  ng N a b c N 0)) fun e=>
  Ex.on e (fun f=>
  gd (in64 (c+1))<|
  xm N a b d (c+1)) some) else(
  some (Ex.go ()))
def z0w(N:Nat)(a:Mach)(b:Mach):Option Bool:=
 bif ((decide (a.inputs≠b.inputs))||(decide (a.outputs≠b.outputs)))||(decide ((↑a.rows.length:Int)≠(↑b.rows.length:Int))) then(
 some false) else(
 bd (
 xm N a b N 0) fun c=>
 Ex.on c (fun d=>
 some true) some)
def gm(N:Nat)(m:Mach):Nat→Int→Option (Ex (Unit) (Bool))
 |0,_=>none
 |b+1,a=>
  bif decide (a<(↑m.rows.length:Int)) then(
  gd (okI m.rows a)<|
  gd (okI m.rows a)<|
  bif decide ((↑(ix m.rows a).length:Int)≠(↑(ix m.rows a).length:Int)) then(
  some (Ex.rt false)) else(
  gd (in64 (a+1))<|
  gm N m b (a+1))) else(
  some (Ex.go ()))
def xq(N:Nat)(m:Mach)(e:Int)(want:Mach):Option Bool:=
 bd (gop (true&&((decide (e≠0))==false)) (z0w N m want)) fun a=>
 bif ((decide (e≠0))||(!(a.getD default)))||(decide ((↑m.rows.length:Int)≠(↑m.rows.length:Int))) then(
 some false) else(
 bd (
 gm N m N 0) fun b=>
 Ex.on b (fun c=>
 some true) some)
def fq(N:Nat)(m:Mach)(w_:(List Int)):Nat→Int→(List Int)→Int→Option (List Int)
 |0,_,_,_=>none
 |d+1,e,b,a=>
  bif decide (a<(↑w_.length:Int)) then(
  gd (okI w_ a)<|
  bd (z1w N m e (ix w_ a)) fun c=>
  gd (fits 8 b ([c.out]:List Int))<|
  gd (in64 (a+1))<|
  fq N m w_ d c.to (b++([c.out]:List Int)) (a+1)) else(
  some b)
def yg(N:Nat)(m:Mach)(s:Int)(w_:(List Int)):Option (List Int):=
 bd (
 fq N m w_ N s ([]:List Int) 0) fun a=>
 some a
def bn(N:Nat)(a:(List Int))(b:(List Int)):Nat→Int→Option (Ex (Unit) (Int))
 |0,_=>none
 |d+1,c=>
  bif decide (c<(↑a.length:Int)) then(
  gd (okI a c)<|
  gd (okI b c)<|
  bif decide ((ix a c)<(ix b c)) then(
  some (Ex.rt (-1))) else(
  gd (okI a c)<|
  gd (okI b c)<|
  bif decide ((ix b c)<(ix a c)) then(
  some (Ex.rt 1)) else(
  gd (in64 (c+1))<|
  bn N a b d (c+1)))) else(
  some (Ex.go ()))
def z1o(N:Nat)(a:(List Int))(b:(List Int)):Option Int:=
 bif decide ((↑a.length:Int)<(↑b.length:Int)) then(
 some (-1)) else(
 bif decide ((↑b.length:Int)<(↑a.length:Int)) then(
 some 1) else(
 bd (
 bn N a b N 0) fun c=>
 Ex.on c (fun d=>
 some 0) some))
def ay(N:Nat)(a:(List Int))(b:(List Int)):Option Bool:=
 bd (z1o N a b) fun c=>
 some (decide (c=0))
def z7b(N:Nat)(m:Mach):Option (Mach×Mach×Mach):=
 some (m,m,m)
def om(N:Nat)(self:Int→List Bool→Mach→Option (List Bool))(s:Int)(p1_:Mach):Nat→Int→(List Bool)→Option (List Bool)
 |0,_,_=>none
 |c+1,a,b=>
  bif decide (a<(↑(ix p1_.rows s).length:Int)) then(
  gd (okI (ix p1_.rows s) a)<|
  bd (self ((ix (ix p1_.rows s) a).to) b p1_) fun d=>
  gd (in64 (a+1))<|
  om N self s p1_ c (a+1) d) else(
  some b)
def ma(N:Nat):Nat→Int→List Bool→Mach→Option (List Bool)
 |0,_,_,_=>none
 |F+1,s,p0_,p1_=>
  gd ((true&&((decide (s=(-1)))==false))=true→okI p0_ s)<|
  bif (decide (s=(-1)))||(ix p0_ s) then(
  some p0_) else(
  gd (okI p0_ s)<|
  gd (okI p1_.rows s)<|
  om N (ma N F) s p1_ N 0 (up p0_ s true))
def au(N:Nat)(s:(List Bool))(v_:Bool):Nat→Int→Option (Ex (Unit) (Int))
 |0,_=>none
 |b+1,a=>
  bif decide (a<(↑s.length:Int)) then(
  gd (okI s a)<|
  bif decide (v_=(ix s a)) then(
  some (Ex.rt a)) else(
  gd (in64 (a+1))<|
  au N s v_ b (a+1))) else(
  some (Ex.go ()))
def z4i(N:Nat)(s:(List Bool))(v_:Bool):Option Int:=
 bd (
 au N s v_ N 0) fun a=>
 Ex.on a (fun b=>
 some (-1)) some
def z2k(N:Nat)(s:(List Bool))(v_:Bool):Option Bool:=
 bd (z4i N s v_) fun a=>
 some (decide (0≤a))
def z3z(N:Nat)(m:Mach):Option (Bool×Int):=
 bd (xk N m) fun c=>
 bif decide (c≠0) then(
 some (false,c)) else(
 gd (okM 1 (↑m.rows.length:Int))<|
 bd (ma N N 0 (mk (↑m.rows.length:Int) false) m) fun a=>
 bd (z2k N a false) fun b=>
 some ((!b),0))
def z2m(N:Nat)(p0_:Mach):Option Bool:=
 bd (z3z N p0_) fun a=>
 some a.1
def z04(N:Nat)(x:(List Int)):Nat→Int→Int→Option Int
 |0,_,_=>none
 |c+1,b,a=>
  bif decide (a<(↑x.length:Int)) then(
  gd (okI x a)<|
  gd (in64 (a+1))<|
  z04 N x c (max b (ix x a)) (a+1)) else(
  some b)
def slices_Max_int(N:Nat)(x:(List Int)):Option Int:=
 bif decide ((↑x.length:Int)<1) then(
 none) else(
 gd (okI x 0)<|
 bd (
 z04 N x N (ix x 0) 1) fun a=>
 some a)
def z2s(N:Nat)(p0_:Mach):Option Bool:=
 bd (z4e N p0_) fun a=>
 bd (slices_Max_int N a.1) fun b=>
 gd (in64 ((↑a.1.length:Int)-1))<|
 some (decide (b=((↑a.1.length:Int)-1)))
def xy(N:Nat)(m:Mach):Option (Bool×Int):=
 bd (xk N m) fun d=>
 bif decide (d≠0) then(
 some (false,d)) else(
 bd (z7b N m) fun a=>
 bd (z2m N a.2.1) fun b=>
 bd (gop (true&&(b==true)) (z2s N a.2.2)) fun c=>
 some ((b&&(c.getD default)),0))
def w9(N:Nat)(to_:Int)(out:Int):Option Edge:=
 some (⟨to_,out⟩:Edge)
def z1a(N:Nat)(m:Mach):Option ((List Int)×Int):=
 bd (z3u N m) fun a=>
 some (a.2.1,a.2.2)
def dh(N:Nat)(s:(List Int))(f:Int→Option Bool):Nat→Int→Option (Ex (Unit) (Int))
 |0,_=>none
 |c+1,a=>
  bif decide (a<(↑s.length:Int)) then(
  gd (okI s a)<|
  bd (f (ix s a)) fun b=>
  bif b then(
  some (Ex.rt a)) else(
  gd (in64 (a+1))<|
  dh N s f c (a+1))) else(
  some (Ex.go ()))
def z2h(N:Nat)(s:(List Int))(f:Int→Option Bool):Option Int:=
 bd (
 dh N s f N 0) fun a=>
 Ex.on a (fun b=>
 some (-1)) some
def z14(N:Nat)(s:(List Int))(f:Int→Option Bool):Option Bool:=
 bd (z2h N s f) fun a=>
 some (decide (0≤a))
def z5e(N:Nat)(t:Int)(p0_:Mach):Option Bool:=
 some ((decide (t<0))||(decide ((↑p0_.rows.length:Int)≤t)))
def bi(N:Nat)(a:Mach)(b:Mach)(f:(List Int))(c:Int):Nat→Bool→Int→Option Bool
 |0,_,_=>none
 |g+1,e,d=>
  bif decide (d<(↑(ix a.rows c).length:Int)) then(
  gd (okI (ix a.rows c) d)<|
  bd (
  bif decide (((ix (ix a.rows c) d).to)≠(-1)) then(
  gd (okI f ((ix (ix a.rows c) d).to))<|
  some (ix f ((ix (ix a.rows c) d).to))) else(
  some ((ix (ix a.rows c) d).to))) fun h=>
  gd ((true&&(e==true))=true→okI f c)<|
  gd ((true&&(e==true))=true→okI b.rows (ix f c))<|
  gd ((true&&(e==true))=true→okI (ix b.rows (ix f c)) d)<|
  gd (in64 (d+1))<|
  bi N a b f c g (e&&(decide (h=((ix (ix b.rows (ix f c)) d).to)∧((ix (ix a.rows c) d).out)=((ix (ix b.rows (ix f c)) d).out)))) (d+1)) else(
  some e)
def gy(N:Nat)(a:Mach)(b:Mach)(f:(List Int)):Nat→Bool→Int→Option Bool
 |0,_,_=>none
 |e+1,d,c=>
  bif decide (c<(↑a.rows.length:Int)) then(
  bd (
  gd (okI a.rows c)<|
  bi N a b f c N d 0) fun g=>
  gd (in64 (c+1))<|
  gy N a b f e g (c+1)) else(
  some d)
def uj(N:Nat)(a:Mach)(b:Mach)(f:(List Int)):Option (Bool×Int):=
 bd (xk N a) fun d=>
 bd (xk N b) fun e=>
 bd (z3p N ([d,e]:List Int)) fun c=>
 bif decide (c≠0) then(
 some (false,c)) else(
 bif decide (a.inputs≠b.inputs) then(
 some (false,5)) else(
 bif decide ((↑f.length:Int)≠(↑a.rows.length:Int)) then(
 some (false,16)) else(
 bd (z14 N f (fun i=>z5e N i b)) fun g=>
 bif g then(
 some (false,1)) else(
 gd (okI f 0)<|
 bd (
 gy N a b f N (decide ((ix f 0)=0)) 0) fun h=>
 some (h,0)))))
def z0t(N:Nat)(l_:(List Int))(e:Int)(want:(List Int))(f:Int):Option Bool:=
 bd (gop (true&&((decide (e=f))==true)) (ay N l_ want)) fun a=>
 some (((decide (e=f))&&(a.getD default))&&(decide ((↑l_.length:Int)=(↑l_.length:Int))))
def z8d(N:Nat)(m:Mach):Option Mach:=
 some m
def ik(N:Nat)(σ:Type)(B:((Int×Int)×Edge)→σ→Option (Bool×σ))(p0_:Mach)(c:Int):Nat→σ→Int→Option (Ex (σ) (σ))
 |0,_,_=>none
 |e+1,d,a=>
  bif decide (a<(↑(ix p0_.rows c).length:Int)) then(
  gd (okI (ix p0_.rows c) a)<|
  bd (B (((c,a):(Int×Int)),(⟨(ix (ix p0_.rows c) a).to,(ix (ix p0_.rows c) a).out⟩:Edge)) d) fun b=>
  bif !b.1 then(
  some (Ex.rt b.2)) else(
  gd (in64 (a+1))<|
  ik N σ B p0_ c e b.2 (a+1))) else(
  some (Ex.go d))
def lq(N:Nat)(σ:Type)(B:((Int×Int)×Edge)→σ→Option (Bool×σ))(p0_:Mach):Nat→σ→Int→Option σ
 |0,_,_=>none
 |e+1,d,a=>
  bif decide (a<(↑p0_.rows.length:Int)) then(
  bd (
  gd (okI p0_.rows a)<|
  ik N σ B p0_ a N d 0) fun b=>
  Ex.on b (fun c=>
  gd (in64 (a+1))<|
  lq N σ B p0_ e c (a+1)) some) else(
  some d)
def z4z(N:Nat)(p0_:Mach)(σ:Type)(B:((Int×Int)×Edge)→σ→Option (Bool×σ))(s0:σ):Option σ:=
 lq N σ B p0_ N s0 0
def z5i(N:Nat)(s:(List (Int×Int))):Option (List (Int×Int)):=
 gd (okS s 0 (↑s.length:Int))<|
 some (cut s 0 (↑s.length:Int))
def z4b(N:Nat)(m:Mach):Option (List (Int×Int)):=
 bd (z8d N m) fun f=>
 bd (z4z N f (List (Int×Int)) (fun a b=>
 bd (z5o N) fun c=>
 bif decide (a.2.to=c.to∧a.2.out=c.out) then(
 gd (fits 16 b ([((a.1.1,a.1.2):(Int×Int))]:List (Int×Int)))<|
 some (true,(b++([((a.1.1,a.1.2):(Int×Int))]:List (Int×Int))))) else(
 some (true,b))) ([]:List (Int×Int))) fun d=>
 bd (z5i N d) fun e=>
 some e
def z4p(N:Nat)(m:Mach):Option (Bool×Int):=
 bd (xk N m) fun b=>
 bif decide (b≠0) then(
 some (false,b)) else(
 bd (z4b N m) fun a=>
 some ((decide ((↑a.length:Int)=0)),0))
def z4s(N:Nat)(p0_:Mach):Option Bool:=
 bd (z4p N p0_) fun a=>
 some a.1
def yx(N:Nat)(m:Mach):Option Int:=
 bd (xk N m) fun e=>
 bif decide (e≠0) then(
 some e) else(
 bd (z7b N m) fun a=>
 bd (z4s N a.1) fun b=>
 bif !b then(
 some 9) else(
 bd (z2m N a.2.1) fun c=>
 bif !c then(
 some 11) else(
 bd (z2s N a.2.2) fun d=>
 bif !d then(
 some 12) else(
 some 0))))
def xx(N:Nat):Option Bool:=
 bd (w9 N 1 0) fun q=>
 bd (w9 N 2 0) fun r=>
 bd (w9 N 3 0) fun e=>
 bd (w9 N 2 0) fun f=>
 bd (w9 N 2 0) fun g=>
 bd (w9 N 0 1) fun h=>
 bd (w9 N 1 0) fun i=>
 bd (w9 N 2 0) fun j=>
 bd (w9 N 4 0) fun k=>
 bd (w9 N 4 0) fun l=>
 bd (w9 N 0 0) fun a=>
 bd (w9 N 1 0) fun b=>
 bd (w9 N 1 0) fun c=>
 bd (w9 N 0 1) fun d=>
 bd (wz N (⟨2,2,([([(⟨q.to,q.out⟩:Edge),(⟨r.to,r.out⟩:Edge)]:List Edge),([(⟨e.to,e.out⟩:Edge),(⟨f.to,f.out⟩:Edge)]:List Edge),([(⟨g.to,g.out⟩:Edge),(⟨h.to,h.out⟩:Edge)]:List Edge),([(⟨i.to,i.out⟩:Edge),(⟨j.to,j.out⟩:Edge)]:List Edge),([(⟨k.to,k.out⟩:Edge),(⟨l.to,l.out⟩:Edge)]:List Edge)]:List (List Edge))⟩:Mach)) fun o=>
 bd (z1a N (⟨2,2,([([(⟨q.to,q.out⟩:Edge),(⟨r.to,r.out⟩:Edge)]:List Edge),([(⟨e.to,e.out⟩:Edge),(⟨f.to,f.out⟩:Edge)]:List Edge),([(⟨g.to,g.out⟩:Edge),(⟨h.to,h.out⟩:Edge)]:List Edge),([(⟨i.to,i.out⟩:Edge),(⟨j.to,j.out⟩:Edge)]:List Edge),([(⟨k.to,k.out⟩:Edge),(⟨l.to,l.out⟩:Edge)]:List Edge)]:List (List Edge))⟩:Mach)) fun t=>
 bd (xy N (⟨2,2,([([(⟨q.to,q.out⟩:Edge),(⟨r.to,r.out⟩:Edge)]:List Edge),([(⟨e.to,e.out⟩:Edge),(⟨f.to,f.out⟩:Edge)]:List Edge),([(⟨g.to,g.out⟩:Edge),(⟨h.to,h.out⟩:Edge)]:List Edge),([(⟨i.to,i.out⟩:Edge),(⟨j.to,j.out⟩:Edge)]:List Edge),([(⟨k.to,k.out⟩:Edge),(⟨l.to,l.out⟩:Edge)]:List Edge)]:List (List Edge))⟩:Mach)) fun m=>
 bd (xy N (⟨2,2,([([(⟨a.to,a.out⟩:Edge),(⟨b.to,b.out⟩:Edge)]:List Edge),([(⟨c.to,c.out⟩:Edge),(⟨d.to,d.out⟩:Edge)]:List Edge)]:List (List Edge))⟩:Mach)) fun n=>
 bd (uj N (⟨2,2,([([(⟨q.to,q.out⟩:Edge),(⟨r.to,r.out⟩:Edge)]:List Edge),([(⟨e.to,e.out⟩:Edge),(⟨f.to,f.out⟩:Edge)]:List Edge),([(⟨g.to,g.out⟩:Edge),(⟨h.to,h.out⟩:Edge)]:List Edge),([(⟨i.to,i.out⟩:Edge),(⟨j.to,j.out⟩:Edge)]:List Edge),([(⟨k.to,k.out⟩:Edge),(⟨l.to,l.out⟩:Edge)]:List Edge)]:List (List Edge))⟩:Mach) (⟨2,2,([([(⟨a.to,a.out⟩:Edge),(⟨b.to,b.out⟩:Edge)]:List Edge),([(⟨c.to,c.out⟩:Edge),(⟨d.to,d.out⟩:Edge)]:List Edge)]:List (List Edge))⟩:Mach) ([0,0,1,0,0]:List Int)) fun u=>
 bd (uj N (⟨2,2,([([(⟨a.to,a.out⟩:Edge),(⟨b.to,b.out⟩:Edge)]:List Edge),([(⟨c.to,c.out⟩:Edge),(⟨d.to,d.out⟩:Edge)]:List Edge)]:List (List Edge))⟩:Mach) (⟨2,2,([([(⟨a.to,a.out⟩:Edge),(⟨b.to,b.out⟩:Edge)]:List Edge),([(⟨c.to,c.out⟩:Edge),(⟨d.to,d.out⟩:Edge)]:List Edge)]:List (List Edge))⟩:Mach) ([0,1]:List Int)) fun v=>
 bd (uj N (⟨2,2,([([(⟨q.to,q.out⟩:Edge),(⟨r.to,r.out⟩:Edge)]:List Edge),([(⟨e.to,e.out⟩:Edge),(⟨f.to,f.out⟩:Edge)]:List Edge),([(⟨g.to,g.out⟩:Edge),(⟨h.to,h.out⟩:Edge)]:List Edge),([(⟨i.to,i.out⟩:Edge),(⟨j.to,j.out⟩:Edge)]:List Edge),([(⟨k.to,k.out⟩:Edge),(⟨l.to,l.out⟩:Edge)]:List Edge)]:List (List Edge))⟩:Mach) (⟨2,2,([([(⟨a.to,a.out⟩:Edge),(⟨b.to,b.out⟩:Edge)]:List Edge),([(⟨c.to,c.out⟩:Edge),(⟨d.to,d.out⟩:Edge)]:List Edge)]:List (List Edge))⟩:Mach) ([0,0,1]:List Int)) fun x=>
 bd (xq N (⟨o.1.inputs,o.1.outputs,o.1.rows⟩:Mach) o.2 (⟨2,2,([([(⟨a.to,a.out⟩:Edge),(⟨b.to,b.out⟩:Edge)]:List Edge),([(⟨c.to,c.out⟩:Edge),(⟨d.to,d.out⟩:Edge)]:List Edge)]:List (List Edge))⟩:Mach)) fun p=>
 bd (gop (true&&(p==true)) (z0t N t.1 t.2 ([0,0,1,0,(-1)]:List Int) 0)) fun s=>
 bd (gop (true&&((((((p&&(s.getD default))&&(!m.1))&&(decide (m.2=0)))&&n.1)&&(decide (n.2=0)))==true)) (yx N (⟨2,2,([([(⟨q.to,q.out⟩:Edge),(⟨r.to,r.out⟩:Edge)]:List Edge),([(⟨e.to,e.out⟩:Edge),(⟨f.to,f.out⟩:Edge)]:List Edge),([(⟨g.to,g.out⟩:Edge),(⟨h.to,h.out⟩:Edge)]:List Edge),([(⟨i.to,i.out⟩:Edge),(⟨j.to,j.out⟩:Edge)]:List Edge),([(⟨k.to,k.out⟩:Edge),(⟨l.to,l.out⟩:Edge)]:List Edge)]:List (List Edge))⟩:Mach))) fun w=>
 bd (gop (true&&(((((((p&&(s.getD default))&&(!m.1))&&(decide (m.2=0)))&&n.1)&&(decide (n.2=0)))&&(decide ((w.getD default)=11)))==true)) (yx N (⟨2,2,([([(⟨a.to,a.out⟩:Edge),(⟨b.to,b.out⟩:Edge)]:List Edge),([(⟨c.to,c.out⟩:Edge),(⟨d.to,d.out⟩:Edge)]:List Edge)]:List (List Edge))⟩:Mach))) fun y=>
 some ((((((((((((p&&(s.getD default))&&(!m.1))&&(decide (m.2=0)))&&n.1)&&(decide (n.2=0)))&&(decide ((w.getD default)=11)))&&(decide ((y.getD default)=0)))&&(!u.1))&&(decide (u.2=0)))&&v.1)&&(decide (v.2=0)))&&(decide (x.2=16)))
def su(N:Nat)(x:MDat)(y:WDat):Option Bool:=
 bd (ax N x) fun b=>
 bd (z0y N y b.inputs) fun g=>
 bd (wz N (⟨b.inputs,b.outputs,b.rows⟩:Mach)) fun a=>
 bd (o9 N (⟨b.inputs,b.outputs,b.rows⟩:Mach)) fun i=>
 bd (xq N (⟨a.1.inputs,a.1.outputs,a.1.rows⟩:Mach) a.2 i) fun c=>
 bd (gop (true&&((!c)==false)) (yg N (⟨a.1.inputs,a.1.outputs,a.1.rows⟩:Mach) 0 g)) fun j=>
 bd (gop (true&&((!c)==false)) (yg N (⟨b.inputs,b.outputs,b.rows⟩:Mach) 0 g)) fun k=>
 bd (gop (true&&((!c)==false)) (ay N (j.getD default) (k.getD default))) fun l=>
 bif (!c)||(!(l.getD default)) then(
 some false) else(
 bd (wz N (⟨a.1.inputs,a.1.outputs,a.1.rows⟩:Mach)) fun d=>
 bd (xy N (⟨a.1.inputs,a.1.outputs,a.1.rows⟩:Mach)) fun e=>
 bd (xq N (⟨d.1.inputs,d.1.outputs,d.1.rows⟩:Mach) d.2 (⟨a.1.inputs,a.1.outputs,a.1.rows⟩:Mach)) fun f=>
 bd (gop (true&&(((f&&e.1)&&(decide (e.2=0)))==true)) (xx N)) fun h=>
 some (((f&&e.1)&&(decide (e.2=0)))&&(h.getD default)))
def yw(N:Nat)(b:(List Bool)):Nat→Int→Option (Ex (Unit) (Bool))
 |0,_=>none
 |c+1,a=>
  bif decide (a<(↑b.length:Int)) then(
  gd (okI b a)<|
  bif !(ix b a) then(
  some (Ex.rt false)) else(
  gd (in64 (a+1))<|
  yw N b c (a+1))) else(
  some (Ex.go ()))
def dx(N:Nat)(m:Mach):Option Bool:=
 bd (ig N m 0) fun b=>
 bd (
 yw N b N 0) fun a=>
 Ex.on a (fun c=>
 some true) some
def vo(N:Nat)(c:Mach)(e:(List Int))(b:(List Int)×Int)(d:Mach):Nat→Int→Option (Ex (Unit) (Bool))
 |0,_=>none
 |f+1,a=>
  bif decide (a<(↑b.1.length:Int)) then(
  gd (okI b.1 a)<|
  gd ((true&&((decide (0≤(ix b.1 a)))==true))=true→okI b.1 a)<|
  bd (gop (true&&((decide (0≤(ix b.1 a)))==true)) (yg N (⟨d.inputs,d.outputs,d.rows⟩:Mach) (ix b.1 a) e)) fun g=>
  bd (gop (true&&((decide (0≤(ix b.1 a)))==true)) (yg N (⟨c.inputs,c.outputs,c.rows⟩:Mach) a e)) fun h=>
  bd (gop (true&&((decide (0≤(ix b.1 a)))==true)) (ay N (g.getD default) (h.getD default))) fun i=>
  bif (decide (0≤(ix b.1 a)))&&(!(i.getD default)) then(
  some (Ex.rt false)) else(
  gd (in64 (a+1))<|
  vo N c e b d f (a+1))) else(
  some (Ex.go ()))
def z08(N:Nat)(x:MDat)(y:WDat):Option Bool:=
 bd (ax N x) fun a=>
 bd (z0y N y a.inputs) fun i=>
 bd (z1a N (⟨a.inputs,a.outputs,a.rows⟩:Mach)) fun c=>
 bd (o9 N (⟨a.inputs,a.outputs,a.rows⟩:Mach)) fun d=>
 bd (z1d N (⟨a.inputs,a.outputs,a.rows⟩:Mach)) fun j=>
 bd (z0t N c.1 c.2 j 0) fun e=>
 gd ((true&&((!e)==false))=true→okI c.1 0)<|
 bif (!e)||(decide ((ix c.1 0)≠0)) then(
 some false) else(
 bd (
 vo N a i c d N 0) fun k=>
 Ex.on k (fun l=>
 bd (uj N (⟨a.inputs,a.outputs,a.rows⟩:Mach) (⟨d.inputs,d.outputs,d.rows⟩:Mach) c.1) fun b=>
 bd (dx N (⟨a.inputs,a.outputs,a.rows⟩:Mach)) fun f=>
 bif f then(
 bd (gop (true&&((b.1&&(decide (b.2=0)))==true)) (xx N)) fun g=>
 some ((b.1&&(decide (b.2=0)))&&(g.getD default))) else(
 bd (gop (true&&(((!b.1)&&(decide (b.2=1)))==true)) (xx N)) fun h=>
 some (((!b.1)&&(decide (b.2=1)))&&(h.getD default)))) some)
def z11(N:Nat)(l_:(List Int))(k:Int):Option Int:=
 bif decide (k<(↑l_.length:Int)) then(
 gd (okI l_ k)<|
 gd (in64 (ix l_ k))<|
 some (ix l_ k)) else(
 some 0)
def tu(N:Nat)(x:Sc)(b:Int):Nat→(List Edge)→Int→Option (List Edge)
 |0,_,_=>none
 |e+1,d,a=>
  bif decide (a<((1:Int)+(x.fA%3))) then(
  gd (in64 (b*((1:Int)+(x.fA%3))))<|
  gd (in64 ((b*((1:Int)+(x.fA%3)))+a))<|
  bd (z11 N x.fG ((b*((1:Int)+(x.fA%3)))+a)) fun c=>
  gd (okQ c ((1:Int)+(x.fD%6)))<|
  gd (okR (c/((1:Int)+(x.fD%6))) ((1:Int)+(x.fB%3)))<|
  gd (fits 16 d ([(⟨(-1),(c/((1:Int)+(x.fD%6)))%((1:Int)+(x.fB%3))⟩:Edge)]:List Edge))<|
  gd (in64 (a+1))<|
  tu N x b e (d++([(⟨(-1),(c/((1:Int)+(x.fD%6)))%((1:Int)+(x.fB%3))⟩:Edge)]:List Edge)) (a+1)) else(
  some d)
def cu(N:Nat)(x:Sc):Nat→Int→(List (List Edge))→Option (List (List Edge))
 |0,_,_=>none
 |d+1,a,b=>
  bif decide (a<((1:Int)+(x.fD%6))) then(
  bd (
  tu N x a N ([]:List Edge) 0) fun c=>
  gd (fits 24 b [c])<|
  gd (in64 (a+1))<|
  cu N x d (a+1) (b++[c])) else(
  some b)
def xg(N:Nat)(x:Sc)(d:Int)(b:List (List Edge)):Nat→(List Int)→Int→Option (List Int)
 |0,_,_=>none
 |e+1,c,a=>
  gd (in64 (d*((1:Int)+(x.fA%3))))<|
  bif decide (a<(d*((1:Int)+(x.fA%3)))) then(
  bd (
  gd (okQ a ((1:Int)+(x.fA%3)))<|
  gd (okI b (a/((1:Int)+(x.fA%3))))<|
  gd (okR a ((1:Int)+(x.fA%3)))<|
  gd (okI (ix b (a/((1:Int)+(x.fA%3)))) (a%((1:Int)+(x.fA%3))))<|
  bif decide (((ix (ix b (a/((1:Int)+(x.fA%3)))) (a%((1:Int)+(x.fA%3)))).to)<0) then(
  gd (fits 8 c ([a]:List Int))<|
  some (c++([a]:List Int))) else(
  some c)) fun f=>
  gd (in64 (a+1))<|
  xg N x d b e f (a+1)) else(
  some c)
def o5(N:Nat)(x:Sc):Nat→Int→(List (List Edge))→Option (List (List Edge))
 |0,_,_=>none
 |e+1,a,c=>
  bif decide (a<((1:Int)+(x.fD%6))) then(
  bd (
  xg N x a c N ([]:List Int) 0) fun d=>
  gd (okI d 0)<|
  bd (
  gd (in64 (a-1))<|
  bif decide ((a-1)<(↑x.fE.length:Int)) then(
  gd (in64 (a-1))<|
  gd (okI x.fE (a-1))<|
  gd (in64 (ix x.fE (a-1)))<|
  gd (okR (ix x.fE (a-1)) (↑d.length:Int))<|
  gd (okI d ((ix x.fE (a-1))%(↑d.length:Int)))<|
  some (ix d ((ix x.fE (a-1))%(↑d.length:Int)))) else(
  some (ix d 0))) fun b=>
  gd (okQ b ((1:Int)+(x.fA%3)))<|
  gd (okI c (b/((1:Int)+(x.fA%3))))<|
  gd (okR b ((1:Int)+(x.fA%3)))<|
  gd (okI (ix c (b/((1:Int)+(x.fA%3)))) (b%((1:Int)+(x.fA%3))))<|
  gd (in64 (a+1))<|
  o5 N x e (a+1) (up c (b/((1:Int)+(x.fA%3))) (up (ix c (b/((1:Int)+(x.fA%3)))) (b%((1:Int)+(x.fA%3))) (⟨a,(ix (ix c (b/((1:Int)+(x.fA%3)))) (b%((1:Int)+(x.fA%3)))).out⟩:Edge)))) else(
  some c)
def xh(N:Nat)(x:Sc)(a:Int):Nat→Int→(List (List Edge))→Option (List (List Edge))
 |0,_,_=>none
 |e+1,b,c=>
  bif decide (b<((1:Int)+(x.fA%3))) then(
  bd (
  gd (okI c a)<|
  gd (okI (ix c a) b)<|
  bif decide (((ix (ix c a) b).to)<0) then(
  gd (okI c a)<|
  gd (in64 (a*((1:Int)+(x.fA%3))))<|
  gd (in64 ((a*((1:Int)+(x.fA%3)))+b))<|
  bd (z11 N x.fG ((a*((1:Int)+(x.fA%3)))+b)) fun d=>
  gd (okR d ((1:Int)+(x.fD%6)))<|
  gd (okI (ix c a) b)<|
  some (up c a (up (ix c a) b (⟨d%((1:Int)+(x.fD%6)),(ix (ix c a) b).out⟩:Edge)))) else(
  some c)) fun f=>
  gd (in64 (b+1))<|
  xh N x a e (b+1) f) else(
  some c)
def ol(N:Nat)(x:Sc):Nat→Int→(List (List Edge))→Option (List (List Edge))
 |0,_,_=>none
 |c+1,a,b=>
  bif decide (a<((1:Int)+(x.fD%6))) then(
  bd (
  xh N x a N 0 b) fun d=>
  gd (in64 (a+1))<|
  ol N x c (a+1) d) else(
  some b)
def z0u(N:Nat)(x:Sc):Option Mach:=
 gd (okR x.fD 6)<|
 gd (in64 (x.fD%6))<|
 gd (in64 ((1:Int)+(x.fD%6)))<|
 gd (okR x.fA 3)<|
 gd (in64 (x.fA%3))<|
 gd (in64 ((1:Int)+(x.fA%3)))<|
 gd (okR x.fB 3)<|
 gd (in64 (x.fB%3))<|
 gd (in64 ((1:Int)+(x.fB%3)))<|
 bd (
 cu N x N 0 ([]:List (List Edge))) fun c=>
 bd (
 o5 N x N 1 c) fun a=>
 bd (
 ol N x N 0 a) fun b=>
 some (⟨(1:Int)+(x.fA%3),(1:Int)+(x.fB%3),b⟩:Mach)
def bg(N:Nat)(m:Mach)(b:Int):Nat→Int→Option (Ex (Unit) (Ex (Unit) (Int)))
 |0,_=>none
 |c+1,a=>
  bif decide (a<m.inputs) then(
  bd (
  gd (okI m.rows b)<|
  gd (okI (ix m.rows b) a)<|
  bif (decide (((ix (ix m.rows b) a).to)=(-1)))&&(decide (((ix (ix m.rows b) a).out)=(-1))) then(
  some (Ex.go ())) else(
  bif (((decide (((ix (ix m.rows b) a).to)<0))||(decide ((↑m.rows.length:Int)≤((ix (ix m.rows b) a).to))))||(decide (((ix (ix m.rows b) a).out)<0)))||(decide (m.outputs≤((ix (ix m.rows b) a).out))) then(
  some (Ex.rt (Ex.rt (Ex.rt 1)))) else(
  some (Ex.go ())))) fun d=>
  Ex.on d (fun e=>
  gd (in64 (a+1))<|
  bg N m b c (a+1)) some) else(
  some (Ex.go ()))
def yo(N:Nat)(m:Mach):Nat→Int→Option (Ex (Unit) (Int))
 |0,_=>none
 |b+1,a=>
  bif decide (a<(↑m.rows.length:Int)) then(
  bd (
  gd (okI m.rows a)<|
  bif decide ((↑(ix m.rows a).length:Int)≠m.inputs) then(
  some (Ex.rt (Ex.rt 1))) else(
  bg N m a N 0)) fun c=>
  Ex.on c (fun d=>
  gd (in64 (a+1))<|
  yo N m b (a+1)) some) else(
  some (Ex.go ()))
def z3a(N:Nat)(m:Mach):Option Int:=
 bif ((decide (16<m.inputs))||(decide (16<m.outputs)))||(decide (64<(↑m.rows.length:Int))) then(
 some 3) else(
 bif ((decide (m.inputs<1))||(decide (m.outputs<1)))||(decide ((↑m.rows.length:Int)=0)) then(
 some 1) else(
 bd (
 yo N m N 0) fun a=>
 Ex.on a (fun b=>
 some 0) some))
def gz(N:Nat)(m:Mach)(b:Int):Nat→Int→Int→Option Int
 |0,_,_=>none
 |d+1,c,a=>
  bif decide (a<m.inputs) then(
  bd (
  gd (okI m.rows b)<|
  gd (okI (ix m.rows b) a)<|
  bif decide (0≤((ix (ix m.rows b) a).to)) then(
  gd (in64 (c+1))<|
  some (c+1)) else(
  some c)) fun e=>
  gd (in64 (a+1))<|
  gz N m b d e (a+1)) else(
  some c)
def mh(N:Nat)(m:Mach):Nat→Int→Int→Option Int
 |0,_,_=>none
 |d+1,b,a=>
  bif decide (a<(↑m.rows.length:Int)) then(
  bd (
  gz N m a N b 0) fun c=>
  gd (in64 (a+1))<|
  mh N m d c (a+1)) else(
  some b)
def z1s(N:Nat)(m:Mach):Option Int:=
 bd (
 mh N m N 0 0) fun a=>
 some a
def z1c(N:Nat)(m:Mach):Option Bool:=
 bd (z1s N m) fun a=>
 gd (in64 ((↑m.rows.length:Int)*m.inputs))<|
 some (decide (a=((↑m.rows.length:Int)*m.inputs)))
def p8(N:Nat)(a:(List Int))(c:Int):Nat→Int→Option (Ex (Unit) (Ex (Unit) (Int)))
 |0,_=>none
 |d+1,b=>
  bif decide (b<c) then(
  gd (okI a c)<|
  gd (okI a b)<|
  bif decide ((ix a c)=(ix a b)) then(
  some (Ex.rt (Ex.rt 12))) else(
  gd (in64 (b+1))<|
  p8 N a c d (b+1))) else(
  some (Ex.go ()))
def pq(N:Nat)(b:(List Int)):Nat→Int→Option (Ex (Unit) (Int))
 |0,_=>none
 |c+1,a=>
  bif decide (a<(↑b.length:Int)) then(
  bd (
  p8 N b a N 0) fun d=>
  Ex.on d (fun e=>
  gd (in64 (a+1))<|
  pq N b c (a+1)) some) else(
  some (Ex.go ()))
def mg(N:Nat)(m:Mach):Option Int:=
 bd (z3a N m) fun e=>
 bif decide (e≠0) then(
 some e) else(
 bd (z1c N m) fun a=>
 bif !a then(
 some 9) else(
 bd (dx N m) fun b=>
 bif !b then(
 some 11) else(
 bd (o8 N m) fun c=>
 bd (
 pq N c N 0) fun d=>
 Ex.on d (fun f=>
 some 0) some)))
def uo(N:Nat)(b:(List Int)):Nat→Int→Int→Option Int
 |0,_,_=>none
 |d+1,c,a=>
  bif decide (a<(↑b.length:Int)) then(
  gd (okI b a)<|
  gd (in64 ((ix b a)+1))<|
  gd (in64 (a+1))<|
  uo N b d (max c ((ix b a)+1)) (a+1)) else(
  some c)
def fe(N:Nat)(x:MDat)(y:Sc):Option Bool:=
 bd (ax N x) fun a=>
 bd (z0u N y) fun b=>
 bd (o8 N (⟨a.inputs,a.outputs,a.rows⟩:Mach)) fun i=>
 bd (
 uo N i N 0 0) fun k=>
 bd (xy N (⟨a.inputs,a.outputs,a.rows⟩:Mach)) fun e=>
 bd (yx N (⟨a.inputs,a.outputs,a.rows⟩:Mach)) fun c=>
 bd (mg N (⟨a.inputs,a.outputs,a.rows⟩:Mach)) fun d=>
 bd (gop (true&&((decide (c=d))==true)) (yx N (⟨b.inputs,b.outputs,b.rows⟩:Mach))) fun f=>
 bd (gop (true&&((decide (c=d))==true)) (mg N (⟨b.inputs,b.outputs,b.rows⟩:Mach))) fun g=>
 bd (gop (true&&(((decide (c=d))&&(decide ((f.getD default)=(g.getD default))))==true)) (yx N (⟨b.inputs,b.outputs,b.rows⟩:Mach))) fun h=>
 bd (gop (true&&((((decide (c=d))&&(decide ((f.getD default)=(g.getD default))))&&(decide ((h.getD default)≠9)))==true)) (yx N (⟨b.inputs,b.outputs,b.rows⟩:Mach))) fun j=>
 bd (gop (true&&((((((decide (c=d))&&(decide ((f.getD default)=(g.getD default))))&&(decide ((h.getD default)≠9)))&&(decide ((j.getD default)≠11)))&&(decide (e.2=0)))==true)) (dx N (⟨a.inputs,a.outputs,a.rows⟩:Mach))) fun l=>
 bd (gop (true&&(((((((decide (c=d))&&(decide ((f.getD default)=(g.getD default))))&&(decide ((h.getD default)≠9)))&&(decide ((j.getD default)≠11)))&&(decide (e.2=0)))&&(decide (e.1=((l.getD default)&&(decide (k=(↑i.length:Int)))))))==true)) (xx N)) fun m=>
 some (((((((decide (c=d))&&(decide ((f.getD default)=(g.getD default))))&&(decide ((h.getD default)≠9)))&&(decide ((j.getD default)≠11)))&&(decide (e.2=0)))&&(decide (e.1=((l.getD default)&&(decide (k=(↑i.length:Int)))))))&&(m.getD default))
def z3y(N:Nat)(x:Sd):Option Mach:=
 gd (okR x.fJ.fD 5)<|
 bd (z0u N (⟨x.fJ.fD%5,x.fJ.fA,x.fJ.fB,x.fJ.fE,x.fJ.fG⟩:Sc)) fun b=>
 bd (o9 N b) fun a=>
 some (⟨a.inputs,a.outputs,a.rows⟩:Mach)
def z0q(N:Nat)(x:Sd):Option Bool:=
 bd (z3y N x) fun a=>
 bd (wz N (⟨a.inputs,a.outputs,a.rows⟩:Mach)) fun b=>
 bd (yx N (⟨a.inputs,a.outputs,a.rows⟩:Mach)) fun c=>
 bd (gop (true&&((decide (c=0))==true)) (mg N (⟨a.inputs,a.outputs,a.rows⟩:Mach))) fun d=>
 bd (gop (true&&((((decide (c=0))&&(decide ((d.getD default)=0)))&&(decide ((↑a.rows.length:Int)≤5)))==true)) (xq N (⟨b.1.inputs,b.1.outputs,b.1.rows⟩:Mach) b.2 (⟨a.inputs,a.outputs,a.rows⟩:Mach))) fun e=>
 bd (gop (true&&(((((decide (c=0))&&(decide ((d.getD default)=0)))&&(decide ((↑a.rows.length:Int)≤5)))&&(e.getD default))==true)) (xx N)) fun f=>
 some (((((decide (c=0))&&(decide ((d.getD default)=0)))&&(decide ((↑a.rows.length:Int)≤5)))&&(e.getD default))&&(f.getD default))
def um(N:Nat)(to_:(List Int))(c:Mach)(a:Int):Nat→(List Edge)→Int→Option (List Edge)
 |0,_,_=>none
 |f+1,d,b=>
  bif decide (b<c.inputs) then(
  gd (okR a (↑c.rows.length:Int))<|
  gd (okI c.rows (a%(↑c.rows.length:Int)))<|
  gd (okI (ix c.rows (a%(↑c.rows.length:Int))) b)<|
  bd (
  gd (in64 (a*c.inputs))<|
  gd (in64 ((a*c.inputs)+b))<|
  gd ((true&&(((decide (0≤((ix (ix c.rows (a%(↑c.rows.length:Int))) b).to)))&&(decide (((a*c.inputs)+b)<(↑to_.length:Int))))==true))=true→okI to_ ((a*c.inputs)+b))<|
  gd ((true&&(((decide (0≤((ix (ix c.rows (a%(↑c.rows.length:Int))) b).to)))&&(decide (((a*c.inputs)+b)<(↑to_.length:Int))))==true))=true→okR (ix to_ ((a*c.inputs)+b)) 2)<|
  bif ((decide (0≤((ix (ix c.rows (a%(↑c.rows.length:Int))) b).to)))&&(decide (((a*c.inputs)+b)<(↑to_.length:Int))))&&(decide (((ix to_ ((a*c.inputs)+b))%2)=1)) then(
  gd (in64 (((ix (ix c.rows (a%(↑c.rows.length:Int))) b).to)+(↑c.rows.length:Int)))<|
  some (((ix (ix c.rows (a%(↑c.rows.length:Int))) b).to)+(↑c.rows.length:Int))) else(
  some ((ix (ix c.rows (a%(↑c.rows.length:Int))) b).to))) fun e=>
  gd (fits 16 d ([(⟨e,(ix (ix c.rows (a%(↑c.rows.length:Int))) b).out⟩:Edge)]:List Edge))<|
  gd (in64 (b+1))<|
  um N to_ c a f (d++([(⟨e,(ix (ix c.rows (a%(↑c.rows.length:Int))) b).out⟩:Edge)]:List Edge)) (b+1)) else(
  some d)
def uq(N:Nat)(to_:(List Int))(d:Mach):Nat→Int→(List (List Edge))→Option (List (List Edge))
 |0,_,_=>none
 |e+1,a,b=>
  gd (in64 ((2:Int)*(↑d.rows.length:Int)))<|
  bif decide (a<((2:Int)*(↑d.rows.length:Int))) then(
  bd (
  um N to_ d a N ([]:List Edge) 0) fun c=>
  gd (fits 24 b ([c]:List (List Edge)))<|
  gd (in64 (a+1))<|
  uq N to_ d e (a+1) (b++([c]:List (List Edge)))) else(
  some b)
def ul(N:Nat)(c:Mach):Nat→(List Int)→Int→Option (List Int)
 |0,_,_=>none
 |d+1,b,a=>
  gd (in64 ((2:Int)*(↑c.rows.length:Int)))<|
  bif decide (a<((2:Int)*(↑c.rows.length:Int))) then(
  gd (okR a (↑c.rows.length:Int))<|
  gd (fits 8 b ([a%(↑c.rows.length:Int)]:List Int))<|
  gd (in64 (a+1))<|
  ul N c d (b++([a%(↑c.rows.length:Int)]:List Int)) (a+1)) else(
  some b)
def fo(N:Nat)(x:MDat)(to_:(List Int)):Option Bool:=
 bd (ax N x) fun b=>
 bd (
 uq N to_ b N 0 ([]:List (List Edge))) fun f=>
 bd (wz N (⟨b.inputs,b.outputs,b.rows⟩:Mach)) fun a=>
 bd (wz N (⟨b.inputs,b.outputs,f⟩:Mach)) fun c=>
 bd (xy N (⟨b.inputs,b.outputs,b.rows⟩:Mach)) fun e=>
 bd (gop (true&&((((decide (a.2≠0))||(decide (c.2≠0)))||(decide (e.2≠0)))==false)) (z0w N (⟨a.1.inputs,a.1.outputs,a.1.rows⟩:Mach) (⟨c.1.inputs,c.1.outputs,c.1.rows⟩:Mach))) fun g=>
 bif (((((decide (a.2≠0))||(decide (c.2≠0)))||(decide (e.2≠0)))||(!(g.getD default)))||(decide ((↑b.rows.length:Int)<(↑a.1.rows.length:Int))))||(decide (e.1≠(decide ((↑a.1.rows.length:Int)=(↑b.rows.length:Int))))) then(
 some false) else(
 bd (
 ul N b N ([]:List Int) 0) fun h=>
 bd (uj N (⟨b.inputs,b.outputs,f⟩:Mach) (⟨b.inputs,b.outputs,b.rows⟩:Mach) h) fun d=>
 bd (gop (true&&((d.1&&(decide (d.2=0)))==true)) (xx N)) fun i=>
 some ((d.1&&(decide (d.2=0)))&&(i.getD default)))
def vw(N:Nat)(a:Mach)(b:Mach)(f:(List Int))(c:Int):Nat→Int→Option (Ex (Unit) (Ex (Unit) (Int)))
 |0,_=>none
 |e+1,d=>
  bif decide (d<a.inputs) then(
  gd (okI a.rows c)<|
  gd (okI (ix a.rows c) d)<|
  gd (okI f c)<|
  gd (okI b.rows (ix f c))<|
  gd (okI (ix b.rows (ix f c)) d)<|
  gd (((true&&((decide (((ix (ix a.rows c) d).out)≠((ix (ix b.rows (ix f c)) d).out)))==false))&&((decide (0≤((ix (ix a.rows c) d).to)))==true))=true→okI f ((ix (ix a.rows c) d).to))<|
  bif (decide (((ix (ix a.rows c) d).out)≠((ix (ix b.rows (ix f c)) d).out)))||((decide (0≤((ix (ix a.rows c) d).to)))&&(decide ((ix f ((ix (ix a.rows c) d).to))≠((ix (ix b.rows (ix f c)) d).to)))) then(
  some (Ex.rt (Ex.rt 0))) else(
  gd (in64 (d+1))<|
  vw N a b f c e (d+1))) else(
  some (Ex.go ()))
def yc(N:Nat)(a:Mach)(b:Mach)(f:(List Int)):Nat→Int→Option (Ex (Unit) (Int))
 |0,_=>none
 |d+1,c=>
  bif decide (c<(↑a.rows.length:Int)) then(
  bd (
  vw N a b f c N 0) fun e=>
  Ex.on e (fun g=>
  gd (in64 (c+1))<|
  yc N a b f d (c+1)) some) else(
  some (Ex.go ()))
def z0g(N:Nat)(a:Mach)(b:Mach)(f:(List Int)):Option Int:=
 gd (okI f 0)<|
 bif decide ((ix f 0)≠0) then(
 some 0) else(
 bd (
 yc N a b f N 0) fun c=>
 Ex.on c (fun d=>
 some 1) some)
def kg(N:Nat)(f:(List Int))(c:Mach):Nat→Int→Int→Option Int
 |0,_,_=>none
 |d+1,b,a=>
  bif (decide (a<(↑f.length:Int)))&&(decide (b=0)) then(
  bd (
  gd (okI f a)<|
  gd ((true&&((decide ((ix f a)<0))==false))=true→okI f a)<|
  bif (decide ((ix f a)<0))||(decide ((↑c.rows.length:Int)≤(ix f a))) then(
  some 1) else(
  some b)) fun e=>
  gd (in64 (a+1))<|
  kg N f c d e (a+1)) else(
  some b)
def ko(N:Nat)(f:(List Int))(c:Mach)(d:Mach)(e:Bool×Int)(b:(List Int)):Nat→Int→Option (Ex (Unit) (Bool))
 |0,_=>none
 |g+1,a=>
  bif (decide (a<(↑f.length:Int)))&&e.1 then(
  bd (yg N (⟨c.inputs,c.outputs,c.rows⟩:Mach) a b) fun h=>
  gd (okI f a)<|
  bd (yg N (⟨d.inputs,d.outputs,d.rows⟩:Mach) (ix f a) b) fun i=>
  bd (ay N h i) fun j=>
  bif !j then(
  some (Ex.rt false)) else(
  gd (in64 (a+1))<|
  ko N f c d e b g (a+1))) else(
  some (Ex.go ()))
def mr(N:Nat)(x:(MDat×MDat))(f:(List Int))(y:WDat):Option Bool:=
 bif decide (80<(↑f.length:Int)) then(
 some true) else(
 bd (ax N x.1) fun a=>
 bd (ax N x.2) fun b=>
 bd (uj N (⟨a.inputs,a.outputs,a.rows⟩:Mach) (⟨b.inputs,b.outputs,b.rows⟩:Mach) f) fun c=>
 bd (
 bif decide (a.inputs≠b.inputs) then(
 some 5) else(
 bif decide ((↑f.length:Int)≠(↑a.rows.length:Int)) then(
 some 16) else(
 some 0))) fun k=>
 bd (
 kg N f b N k 0) fun d=>
 bif decide (d≠0) then(
 bd (gop (true&&(((!c.1)&&(decide (c.2=d)))==true)) (xx N)) fun e=>
 some (((!c.1)&&(decide (c.2=d)))&&(e.getD default))) else(
 bd (gop (true&&((decide (c.2≠0))==false)) (z0g N (⟨a.inputs,a.outputs,a.rows⟩:Mach) (⟨b.inputs,b.outputs,b.rows⟩:Mach) f)) fun g=>
 bif (decide (c.2≠0))||(decide (c.1≠(decide ((g.getD default)=1)))) then(
 some false) else(
 bd (z0y N y a.inputs) fun h=>
 bd (
 ko N f a b c h N 0) fun i=>
 Ex.on i (fun l=>
 bd (xx N) fun j=>
 some j) some)))
def nk(N:Nat)(c:Int):Nat→Int→(List (List Edge))→Option (List (List Edge))
 |0,_,_=>none
 |e+1,a,d=>
  bif decide (a<64) then(
  gd (in64 (a+1))<|
  gd (okR (a+1) 64)<|
  gd (okR a c)<|
  gd (in64 ((a%c)+1))<|
  gd (okQ ((a%c)+1) c)<|
  bd (w9 N ((a+1)%64) (((a%c)+1)/c)) fun b=>
  gd (fits 24 d ([([(⟨b.to,b.out⟩:Edge)]:List Edge)]:List (List Edge)))<|
  gd (in64 (a+1))<|
  nk N c e (a+1) (d++([([(⟨b.to,b.out⟩:Edge)]:List Edge)]:List (List Edge)))) else(
  some d)
def u7(N:Nat):Nat→Int→Option (Ex (Unit) (Bool))
 |0,_=>none
 |e+1,c=>
  bif decide (c≤64) then(
  bd (
  nk N c N 0 ([]:List (List Edge))) fun d=>
  bd (wz N (⟨1,2,d⟩:Mach)) fun b=>
  bd (z1a N (⟨1,2,d⟩:Mach)) fun a=>
  gd ((true&&((((decide (b.2≠0))||(decide ((↑b.1.rows.length:Int)≠c)))||(decide (a.2≠0)))==false))=true→okI a.1 63)<|
  gd ((true&&((((decide (b.2≠0))||(decide ((↑b.1.rows.length:Int)≠c)))||(decide (a.2≠0)))==false))=true→okR (63:Int) c)<|
  gd ((true&&(((((decide (b.2≠0))||(decide ((↑b.1.rows.length:Int)≠c)))||(decide (a.2≠0)))||(decide ((ix a.1 63)≠((63:Int)%c))))==false))=true→okR c 64)<|
  gd ((true&&(((((decide (b.2≠0))||(decide ((↑b.1.rows.length:Int)≠c)))||(decide (a.2≠0)))||(decide ((ix a.1 63)≠((63:Int)%c))))==false))=true→okI a.1 (c%64))<|
  bif ((((decide (b.2≠0))||(decide ((↑b.1.rows.length:Int)≠c)))||(decide (a.2≠0)))||(decide ((ix a.1 63)≠((63:Int)%c))))||(decide ((ix a.1 (c%64))≠0)) then(
  some (Ex.rt false)) else(
  gd (in64 (c*2))<|
  u7 N e (c*2))) else(
  some (Ex.go ()))
def uy(N:Nat)(c:Int):Nat→Int→(List Int)→(List Int)→Int→Option (Int×List Int×List Int)
 |0,_,_,_,_=>none
 |f+1,b,d,e,a=>
  bif decide (a<18) then(
  gd (in64 (b*31))<|
  gd (in64 ((7:Int)*a))<|
  gd (in64 ((b*31)+((7:Int)*a)))<|
  gd (in64 (((b*31)+((7:Int)*a))+11))<|
  gd (okR (((b*31)+((7:Int)*a))+11) 100003)<|
  gd (in64 ((8:Int)+c))<|
  gd (okR ((((b*31)+((7:Int)*a))+11)%100003) ((8:Int)+c))<|
  gd (fits 2 d ([IntKind.u16.wrap (((((b*31)+((7:Int)*a))+11)%100003)%((8:Int)+c))]:List Int))<|
  gd (okQ ((((b*31)+((7:Int)*a))+11)%100003) 7)<|
  gd (fits 1 e ([IntKind.u8.wrap (((((b*31)+((7:Int)*a))+11)%100003)/7)]:List Int))<|
  gd (in64 (a+1))<|
  uy N c f ((((b*31)+((7:Int)*a))+11)%100003) (d++([IntKind.u16.wrap (((((b*31)+((7:Int)*a))+11)%100003)%((8:Int)+c))]:List Int)) (e++([IntKind.u8.wrap (((((b*31)+((7:Int)*a))+11)%100003)/7)]:List Int)) (a+1)) else(
  some (b,d,e))
def uz(N:Nat):Nat→Int→Int→Option (Ex (Unit) (Bool))
 |0,_,_=>none
 |h+1,i,a=>
  bif decide (a<60) then(
  bd (
  uy N a N i ([]:List Int) ([]:List Int) 0) fun b=>
  gd (okQ a 3)<|
  gd (okR a 2)<|
  gd (okQ b.1 7)<|
  gd (okQ a 3)<|
  bd (su N (⟨IntKind.u8.wrap a,IntKind.u8.wrap (a/3),1,decide ((a%2)=0),b.2.1⟩:MDat) (⟨([IntKind.u8.wrap b.1,IntKind.u8.wrap a,1,2,IntKind.u8.wrap (b.1/7)]:List Int)⟩:WDat)) fun c=>
  bd (gop (true&&((!c)==false)) (z08 N (⟨IntKind.u8.wrap a,IntKind.u8.wrap (a/3),1,decide ((a%2)=0),b.2.1⟩:MDat) (⟨([IntKind.u8.wrap b.1,IntKind.u8.wrap a,1,2,IntKind.u8.wrap (b.1/7)]:List Int)⟩:WDat))) fun d=>
  bd (gop (true&&(((!c)||(!(d.getD default)))==false)) (fo N (⟨IntKind.u8.wrap a,IntKind.u8.wrap (a/3),1,decide ((a%2)=0),b.2.1⟩:MDat) b.2.1)) fun e=>
  bd (gop (true&&((((!c)||(!(d.getD default)))||(!(e.getD default)))==false)) (fe N (⟨IntKind.u8.wrap a,IntKind.u8.wrap (a/3),1,decide ((a%2)=0),b.2.1⟩:MDat) (⟨IntKind.u8.wrap a,IntKind.u8.wrap (a/3),1,b.2.2,b.2.1⟩:Sc))) fun f=>
  gd ((true&&(((((!c)||(!(d.getD default)))||(!(e.getD default)))||(!(f.getD default)))==false))=true→okR a 6)<|
  gd ((true&&(((((!c)||(!(d.getD default)))||(!(e.getD default)))||(!(f.getD default)))==false))=true→in64 ((1:Int)+(a%6)))<|
  gd ((true&&(((((!c)||(!(d.getD default)))||(!(e.getD default)))||(!(f.getD default)))==false))=true→okS ([0,1,2,3,4,5]:List Int) 0 ((1:Int)+(a%6)))<|
  bd (gop (true&&(((((!c)||(!(d.getD default)))||(!(e.getD default)))||(!(f.getD default)))==false)) (mr N (((⟨IntKind.u8.wrap a,IntKind.u8.wrap (a/3),1,decide ((a%2)=0),b.2.1⟩:MDat),(⟨IntKind.u8.wrap a,IntKind.u8.wrap (a/3),1,decide ((a%2)=0),b.2.1⟩:MDat)):(MDat×MDat)) (cut ([0,1,2,3,4,5]:List Int) 0 ((1:Int)+(a%6))) (⟨([IntKind.u8.wrap b.1,IntKind.u8.wrap a,1,2,IntKind.u8.wrap (b.1/7)]:List Int)⟩:WDat))) fun g=>
  bd (gop (true&&((((((!c)||(!(d.getD default)))||(!(e.getD default)))||(!(f.getD default)))||(!(g.getD default)))==false)) (z0q N (⟨(⟨IntKind.u8.wrap a,IntKind.u8.wrap (a/3),1,b.2.2,b.2.1⟩:Sc)⟩:Sd))) fun j=>
  bif (((((!c)||(!(d.getD default)))||(!(e.getD default)))||(!(f.getD default)))||(!(g.getD default)))||(!(j.getD default)) then(
  some (Ex.rt false)) else(
  gd (in64 (a+1))<|
  uz N h b.1 (a+1))) else(
  some (Ex.go ()))
def z0s(N:Nat):Option Bool:=
 bd (
 u7 N N 1) fun d=>
 Ex.on d (fun e=>
 bd (
 uz N N 1 0) fun a=>
 Ex.on a (fun c=>
 bd (xx N) fun b=>
 some b) some) some
end GV
end Go.Proofs.YtkcccdcloealfaaGreat
