import Derived.Test.YtkkcidhcfkmbjaaGreatDoorShTypes
set_option linter.unusedVariables false
set_option linter.unusedSimpArgs false
set_option linter.unusedSectionVars false
namespace Go.Proofs.YtkkcidhcfkmbjaaGreatDoor
namespace GV
set_option maxRecDepth 100000
def wy(N:Nat)(x:MDat)(c:Int):Nat→(List Edge)→Int→Option (List Edge)
 |0,_,_=>none
 |e+1,d,b=>
  bif decide (b<((1:Int)+(x.ins%3))) then(
  bd (
  bd (
  gd (in64 (c*((1:Int)+(x.ins%3))))<|
  gd (in64 ((c*((1:Int)+(x.ins%3)))+b))<|
  bif decide (((c*((1:Int)+(x.ins%3)))+b)<(↑x.edges.length:Int)) then(
  gd (okI x.edges ((c*((1:Int)+(x.ins%3)))+b))<|
  gd (in64 (ix x.edges ((c*((1:Int)+(x.ins%3)))+b)))<|
  some (ix x.edges ((c*((1:Int)+(x.ins%3)))+b))) else(
  some 0)) fun a=>
  gd ((true&&(x.part==true))=true→okR a 4)<|
  bif x.part&&(decide ((a%4)=3)) then(
  gd (fits 16 d ([(⟨(-1),(-1)⟩:Edge)]:List Edge))<|
  some (d++([(⟨(-1),(-1)⟩:Edge)]:List Edge))) else(
  gd (okQ a 4)<|
  gd (okR (a/4) ((1:Int)+(x.states%6)))<|
  gd (okQ a 4)<|
  gd (okQ (a/4) ((1:Int)+(x.states%6)))<|
  gd (okR ((a/4)/((1:Int)+(x.states%6))) ((1:Int)+(x.outs%3)))<|
  gd (fits 16 d ([(⟨(a/4)%((1:Int)+(x.states%6)),((a/4)/((1:Int)+(x.states%6)))%((1:Int)+(x.outs%3))⟩:Edge)]:List Edge))<|
  some (d++([(⟨(a/4)%((1:Int)+(x.states%6)),((a/4)/((1:Int)+(x.states%6)))%((1:Int)+(x.outs%3))⟩:Edge)]:List Edge)))) fun f=>
  gd (in64 (b+1))<|
  wy N x c e f (b+1)) else(
  some d)
def ym(N:Nat)(x:MDat):Nat→Int→(List (List Edge))→Option (List (List Edge))
 |0,_,_=>none
 |d+1,a,b=>
  bif decide (a<((1:Int)+(x.states%6))) then(
  bd (
  wy N x a N ([]:List Edge) 0) fun c=>
  gd (fits 24 b ([c]:List (List Edge)))<|
  gd (in64 (a+1))<|
  ym N x d (a+1) (b++([c]:List (List Edge)))) else(
  some b)
def dx(N:Nat)(x:MDat):Option Mach:=
 gd (okR x.states 6)<|
 gd (in64 (x.states%6))<|
 gd (in64 ((1:Int)+(x.states%6)))<|
 gd (okR x.ins 3)<|
 gd (in64 (x.ins%3))<|
 gd (in64 ((1:Int)+(x.ins%3)))<|
 gd (okR x.outs 3)<|
 gd (in64 (x.outs%3))<|
 gd (in64 ((1:Int)+(x.outs%3)))<|
 bd (
 ym N x N 0 ([]:List (List Edge))) fun a=>
 some (⟨(1:Int)+(x.ins%3),(1:Int)+(x.outs%3),a⟩:Mach)
def vg(N:Nat)(m:Mach):Nat→Int→(List (List Edge))→Option (List (List Edge))
 |0,_,_=>none
 |c+1,a,b=>
  bif decide (a<(↑m.rows.length:Int)) then(
  gd (okI m.rows a)<|
  gd (fits 16 ([]:List Edge) (ix m.rows a))<|
  gd (fits 24 b [(([]:List Edge)++(ix m.rows a))])<|
  gd (in64 (a+1))<|
  vg N m c (a+1) (b++[(([]:List Edge)++(ix m.rows a))])) else(
  some b)
def bu(N:Nat)(m:Mach):Option Mach:=
 bd (
 vg N m N 0 ([]:List (List Edge))) fun a=>
 some (⟨m.inputs,m.outputs,a⟩:Mach)
def uj(N:Nat)(m:Mach)(b:Int):Nat→Int→Option (Ex (Unit) (Ex (Unit) (Int)))
 |0,_=>none
 |c+1,a=>
  bif decide (a<m.inputs) then(
  bd (
  gd (okI m.rows b)<|
  gd (okI (ix m.rows b) a)<|
  bif (decide (((ix (ix m.rows b) a).to)=(-1)))&&(decide (((ix (ix m.rows b) a).out)=(-1))) then(
  some (Ex.go ())) else(
  bif (((decide (((ix (ix m.rows b) a).to)<0))||(decide ((↑m.rows.length:Int)≤((ix (ix m.rows b) a).to))))||(decide (((ix (ix m.rows b) a).out)<0)))||(decide (m.outputs≤((ix (ix m.rows b) a).out))) then(
  some (Ex.rt (Ex.rt (Ex.rt 1)))) else(
  some (Ex.go ())))) fun d=>
  Ex.on d (fun e=>
  gd (in64 (a+1))<|
  uj N m b c (a+1)) some) else(
  some (Ex.go ()))
def u6(N:Nat)(m:Mach):Nat→Int→Option (Ex (Unit) (Int))
 |0,_=>none
 |b+1,a=>
  bif decide (a<(↑m.rows.length:Int)) then(
  bd (
  gd (okI m.rows a)<|
  bif decide ((↑(ix m.rows a).length:Int)≠m.inputs) then(
  some (Ex.rt (Ex.rt 1))) else(
  uj N m a N 0)) fun c=>
  Ex.on c (fun d=>
  gd (in64 (a+1))<|
  u6 N m b (a+1)) some) else(
  some (Ex.go ()))
def iw(N:Nat)(m:Mach):Option Int:=
 bif ((decide (16<m.inputs))||(decide (16<m.outputs)))||(decide (64<(↑m.rows.length:Int))) then(
 some 3) else(
 bif ((decide (m.inputs<1))||(decide (m.outputs<1)))||(decide ((↑m.rows.length:Int)=0)) then(
 some 1) else(
 bd (
 u6 N m N 0) fun a=>
 Ex.on a (fun b=>
 some 0) some))
def yl(N:Nat)(c:Mach):Nat→(List Int)→Int→Option (List Int)
 |0,_,_=>none
 |d+1,b,a=>
  bif decide (a<(↑c.rows.length:Int)) then(
  gd (fits 8 b ([a]:List Int))<|
  gd (in64 (a+1))<|
  yl N c d (b++([a]:List Int)) (a+1)) else(
  some b)
def yj(N:Nat)(c:Mach)(d:List Int)(a:Int):Nat→Int→(List (List Edge))→Option (List (List Edge))
 |0,_,_=>none
 |f+1,b,e=>
  bif decide (b<c.inputs) then(
  gd (okI c.rows a)<|
  gd (okI (ix c.rows a) b)<|
  bd (
  bif decide (0≤((ix (ix c.rows a) b).to)) then(
  gd (okI d ((ix (ix c.rows a) b).to))<|
  some (ix d ((ix (ix c.rows a) b).to))) else(
  some ((ix (ix c.rows a) b).to))) fun g=>
  gd (okI d a)<|
  gd (okI e (ix d a))<|
  gd (okI (ix e (ix d a)) b)<|
  gd (in64 (b+1))<|
  yj N c d a f (b+1) (up e (ix d a) (up (ix e (ix d a)) b (⟨g,(ix (ix c.rows a) b).out⟩:Edge)))) else(
  some e)
def yn(N:Nat)(c:Mach)(d:List Int):Nat→Int→(List (List Edge))→Option (List (List Edge))
 |0,_,_=>none
 |e+1,a,b=>
  bif decide (a<(↑c.rows.length:Int)) then(
  bd (
  yj N c d a N 0 b) fun f=>
  gd (in64 (a+1))<|
  yn N c d e (a+1) f) else(
  some b)
def fw(N:Nat)(x:Sd):Option (Mach×Mach):=
 bd (dx N (⟨x.fE.states,x.fE.ins,x.fE.outs,x.fE.part,x.fE.edges⟩:MDat)) fun a=>
 bif !x.fM then(
 bd (dx N (⟨x.fH.states,x.fE.ins,x.fH.outs,x.fH.part,x.fH.edges⟩:MDat)) fun f=>
 some ((⟨a.inputs,a.outputs,a.rows⟩:Mach),(⟨f.inputs,f.outputs,f.rows⟩:Mach))) else(
 bd (
 yl N a N ([]:List Int) 0) fun c=>
 bd (
 bif decide (1<(↑a.rows.length:Int)) then(
 gd (in64 x.fA.1)<|
 gd (in64 ((↑a.rows.length:Int)-1))<|
 gd (okR x.fA.1 ((↑a.rows.length:Int)-1))<|
 gd (in64 ((1:Int)+(x.fA.1%((↑a.rows.length:Int)-1))))<|
 gd (in64 x.fA.2)<|
 gd (in64 ((↑a.rows.length:Int)-1))<|
 gd (okR x.fA.2 ((↑a.rows.length:Int)-1))<|
 gd (in64 ((1:Int)+(x.fA.2%((↑a.rows.length:Int)-1))))<|
 gd (okI c ((1:Int)+(x.fA.2%((↑a.rows.length:Int)-1))))<|
 gd (okI c ((1:Int)+(x.fA.1%((↑a.rows.length:Int)-1))))<|
 gd (okI c ((1:Int)+(x.fA.1%((↑a.rows.length:Int)-1))))<|
 gd (okI c ((1:Int)+(x.fA.2%((↑a.rows.length:Int)-1))))<|
 some (up (up c ((1:Int)+(x.fA.1%((↑a.rows.length:Int)-1))) (ix c ((1:Int)+(x.fA.2%((↑a.rows.length:Int)-1))))) ((1:Int)+(x.fA.2%((↑a.rows.length:Int)-1))) (ix c ((1:Int)+(x.fA.1%((↑a.rows.length:Int)-1)))))) else(
 some c)) fun h=>
 bd (bu N (⟨a.inputs,a.outputs,a.rows⟩:Mach)) fun d=>
 bd (
 yn N a h N 0 d.rows) fun e=>
 bd (bu N (⟨d.inputs,d.outputs,e⟩:Mach)) fun b=>
 gd (in64 x.fD.1)<|
 gd (okR x.fD.1 (↑a.rows.length:Int))<|
 gd (okI b.rows (x.fD.1%(↑a.rows.length:Int)))<|
 gd (in64 x.fD.2)<|
 gd (okR x.fD.2 a.inputs)<|
 gd (okI (ix b.rows (x.fD.1%(↑a.rows.length:Int))) (x.fD.2%a.inputs))<|
 bd (iw N (⟨b.inputs,b.outputs,(up b.rows (x.fD.1%(↑a.rows.length:Int)) (up (ix b.rows (x.fD.1%(↑a.rows.length:Int))) (x.fD.2%a.inputs) (⟨x.fJ.to,x.fJ.out⟩:Edge)))⟩:Mach)) fun g=>
 bif decide (g=0) then(
 some ((⟨a.inputs,a.outputs,a.rows⟩:Mach),(⟨b.inputs,b.outputs,(up b.rows (x.fD.1%(↑a.rows.length:Int)) (up (ix b.rows (x.fD.1%(↑a.rows.length:Int))) (x.fD.2%a.inputs) (⟨x.fJ.to,x.fJ.out⟩:Edge)))⟩:Mach))) else(
 some ((⟨a.inputs,a.outputs,a.rows⟩:Mach),(⟨d.inputs,d.outputs,e⟩:Mach))))
def kg(N:Nat)(s:(List Edge))(f:Edge→Option Bool):Nat→Int→Option (Ex (Unit) (Int))
 |0,_=>none
 |c+1,a=>
  bif decide (a<(↑s.length:Int)) then(
  gd (okI s a)<|
  bd (f (ix s a)) fun b=>
  bif b then(
  some (Ex.rt a)) else(
  gd (in64 (a+1))<|
  kg N s f c (a+1))) else(
  some (Ex.go ()))
def pz(N:Nat)(s:(List Edge))(f:Edge→Option Bool):Option Int:=
 bd (
 kg N s f N 0) fun a=>
 Ex.on a (fun b=>
 some (-1)) some
def xx(N:Nat)(s:(List Edge))(f:Edge→Option Bool):Option Bool:=
 bd (pz N s f) fun a=>
 some (decide (0≤a))
def z6y(N:Nat):Option Edge:=
 some (⟨(-1),(-1)⟩:Edge)
def z6w(N:Nat)(m:Mach)(x:Edge):Option Bool:=
 bd (z6y N) fun a=>
 some ((decide (x.to=a.to∧x.out=a.out))||((((decide (0≤x.to))&&(decide (x.to<(↑m.rows.length:Int))))&&(decide (0≤x.out)))&&(decide (x.out<m.outputs))))
def z3w(N:Nat)(x:Edge)(p0_:Mach):Option Bool:=
 bd (z6w N p0_ x) fun a=>
 some (!a)
def gz(N:Nat)(m:Mach):Nat→Int→Option (Ex (Unit) (Int))
 |0,_=>none
 |b+1,a=>
  bif decide (a<(↑m.rows.length:Int)) then(
  gd (okI m.rows a)<|
  bd (gop (true&&((decide ((↑(ix m.rows a).length:Int)≠m.inputs))==false)) (xx N (ix m.rows a) (fun d=>z3w N d m))) fun c=>
  bif (decide ((↑(ix m.rows a).length:Int)≠m.inputs))||(c.getD default) then(
  some (Ex.rt 1)) else(
  gd (in64 (a+1))<|
  gz N m b (a+1))) else(
  some (Ex.go ()))
def yg(N:Nat)(m:Mach):Option Int:=
 bif ((decide (16<m.inputs))||(decide (16<m.outputs)))||(decide (64<(↑m.rows.length:Int))) then(
 some 3) else(
 bif ((decide (m.inputs<1))||(decide (m.outputs<1)))||(decide ((↑m.rows.length:Int)<1)) then(
 some 1) else(
 bd (
 gz N m N 0) fun a=>
 Ex.on a (fun b=>
 some 0) some))
def z3o(N:Nat)(m:Mach):Option Mach:=
 some m
def xy(N:Nat)(m:Mach)(p:(List Int))(s:Int):Nat→Int→(Arr 16 (Int×Int))→Option (Arr 16 (Int×Int))
 |0,_,_=>none
 |c+1,a,b=>
  bif decide (a<(↑(ix m.rows s).length:Int)) then(
  bd (
  gd (okI (ix m.rows s) a)<|
  gd (okI b.1 a)<|
  bif decide (((ix (ix m.rows s) a).to)≠(-1)) then(
  gd (okI p ((ix (ix m.rows s) a).to))<|
  gd (okI (z0t b a (((ix (ix m.rows s) a).out,(-1)):(Int×Int))).1 a)<|
  some (z0t (z0t b a (((ix (ix m.rows s) a).out,(-1)):(Int×Int))) a (((ix (z0t b a (((ix (ix m.rows s) a).out,(-1)):(Int×Int))).1 a).1,(ix p ((ix (ix m.rows s) a).to))):(Int×Int)))) else(
  some (z0t b a (((ix (ix m.rows s) a).out,(-1)):(Int×Int))))) fun d=>
  gd (in64 (a+1))<|
  xy N m p s c (a+1) d) else(
  some b)
def z3g(N:Nat)(m:Mach)(p:(List Int))(s:Int):Option (Arr 16 (Int×Int)):=
 bd (
 gd (okI m.rows s)<|
 xy N m p s N 0 (z6p 16 (List.replicate 16 (((0:Int),(0:Int)):(Int×Int))))) fun a=>
 some a
def xq(N:Nat)(m:Mach)(p:(List Int)):Nat→Int→(List (Sc×Int))→(List Int)→Option (List Int)
 |0,_,_,_=>none
 |f+1,a,b,c=>
  bif decide (a<(↑p.length:Int)) then(
  gd (okI p a)<|
  bd (z3g N m p a) fun d=>
  bd (
  bif !(z1x b (⟨(ix p a),d⟩:Sc)) then(
  some (z1q b (⟨(ix p a),d⟩:Sc) (↑b.length:Int))) else(
  some b)) fun e=>
  gd (okI c a)<|
  gd (in64 (a+1))<|
  xq N m p f (a+1) e (up c a (ai (0:Int) e (⟨(ix p a),d⟩:Sc)))) else(
  some c)
def z13(N:Nat)(m:Mach)(p:(List Int)):Option (List Int):=
 gd (okM 8 (↑p.length:Int))<|
 bd (
 xq N m p N 0 ([]:List (Sc×Int)) (mk (↑p.length:Int) (0:Int))) fun a=>
 some a
def yx(N:Nat)(s1_:(List Int))(s2_:(List Int)):Nat→Int→Option (Ex (Unit) (Bool))
 |0,_=>none
 |b+1,a=>
  bif decide (a<(↑s1_.length:Int)) then(
  gd (okI s1_ a)<|
  gd (okI s2_ a)<|
  bif decide ((ix s1_ a)≠(ix s2_ a)) then(
  some (Ex.rt false)) else(
  gd (in64 (a+1))<|
  yx N s1_ s2_ b (a+1))) else(
  some (Ex.go ()))
def slices_Equal_int(N:Nat)(s1_:(List Int))(s2_:(List Int)):Option Bool:=
 bif decide ((↑s1_.length:Int)≠(↑s2_.length:Int)) then(
 some false) else(
 bd (
 yx N s1_ s2_ N 0) fun a=>
 Ex.on a (fun b=>
 some true) some)
def di(N:Nat)(σ:Type)(B:(List Int)→σ→Option (Bool×σ))(p0_:Mach):Nat→σ→(List Int)→Option σ
 |0,_,_=>none
 |d+1,e,b=>
  bd (B b e) fun a=>
  bif a.1 then(
  bd (z13 N p0_ b) fun c=>
  bd (slices_Equal_int N b c) fun f=>
  bif f then(
  some a.2) else(
  di N σ B p0_ d a.2 c)) else(
  some a.2)
def z1t(N:Nat)(p0_:Mach)(σ:Type)(B:(List Int)→σ→Option (Bool×σ))(s0:σ):Option σ:=
 gd (okM 8 (↑p0_.rows.length:Int))<|
 di N σ B p0_ N s0 (mk (↑p0_.rows.length:Int) (0:Int))
def z14(N:Nat)(m:Mach):Option ((List Int)×Int×Int):=
 bd (yg N m) fun a=>
 bif decide (a≠0) then(
 some (([]:(List Int)),0,a)) else(
 bd (z3o N m) fun d=>
 bd (z1t N d ((List Int)×Int) (fun e b=>
 gd (in64 (b.2+1))<|
 some (true,(e,b.2+1))) (([]:(List Int)),(-1))) fun c=>
 some (c.1,c.2,0))
def uz(N:Nat)(l_:(List Int)):Nat→(List Int)→Int→(List (Int×Int))→(List Int)→Option (List Int×List Int)
 |0,_,_,_,_=>none
 |f+1,b,a,c,d=>
  bif decide (a<(↑l_.length:Int)) then(
  gd (okI l_ a)<|
  bd (
  bif !(z1x c (ix l_ a)) then(
  gd (fits 8 b ([a]:List Int))<|
  some ((b++([a]:List Int)),(z1q c (ix l_ a) (↑b.length:Int)))) else(
  some (b,c))) fun e=>
  gd (okI d a)<|
  gd (in64 (a+1))<|
  uz N l_ f e.1 (a+1) e.2 (up d a (ai (0:Int) e.2 (ix l_ a)))) else(
  some (b,d))
def iy(N:Nat)(l_:(List Int)):Option ((List Int)×(List Int)):=
 gd (okM 8 (↑l_.length:Int))<|
 bd (
 uz N l_ N ([]:List Int) 0 ([]:List (Int×Int)) (mk (↑l_.length:Int) (0:Int))) fun a=>
 some (a.1,a.2)
def au(N:Nat)(s:(List Edge)):Option (List Edge):=
 gd (fits 16 ([]:List Edge) s)<|
 some (([]:List Edge)++s)
def z01(N:Nat)(s:(List Edge)):Option (List Edge):=
 gd (okS s 0 (↑s.length:Int))<|
 some (cut s 0 (↑s.length:Int))
def yw(N:Nat)(d:(List Int)×(List Int))(c:(List Edge)):Nat→Int→(List Edge)→Option (List Edge)
 |0,_,_=>none
 |e+1,a,b=>
  bif decide (a<(↑c.length:Int)) then(
  bd (
  gd (okI b a)<|
  bif decide (((ix b a).to)≠(-1)) then(
  gd (okI d.2 ((ix b a).to))<|
  gd (okI b a)<|
  some (up b a (⟨(ix d.2 ((ix b a).to)),(ix b a).out⟩:Edge))) else(
  some b)) fun f=>
  gd (in64 (a+1))<|
  yw N d c e (a+1) f) else(
  some b)
def yt(N:Nat)(m:Mach)(d:(List Int)×(List Int)):Nat→Int→(List (List Edge))→Option (List (List Edge))
 |0,_,_=>none
 |f+1,a,c=>
  bif decide (a<(↑d.1.length:Int)) then(
  gd (okI d.1 a)<|
  gd (okI m.rows (ix d.1 a))<|
  bd (au N (ix m.rows (ix d.1 a))) fun e=>
  bd (
  yw N d e N 0 e) fun g=>
  bd (z01 N g) fun b=>
  gd (fits 24 c ([b]:List (List Edge)))<|
  gd (in64 (a+1))<|
  yt N m d f (a+1) (c++([b]:List (List Edge)))) else(
  some c)
def z0j(N:Nat)(m:Mach)(p:(List Int)):Option (Mach×(List Int)):=
 bd (iy N p) fun b=>
 bd (
 yt N m b N 0 ([]:List (List Edge))) fun a=>
 some ((⟨m.inputs,m.outputs,a⟩:Mach),b.2)
def z3f(N:Nat)(m:Mach)(from_:Int):Option (Mach×Int):=
 some (m,from_)
def yu(N:Nat)(σ:Type)(p0_:Mach)(b:List Sb):Nat→σ→Int→(List Bool)→(List Sb)→Option (Ex (σ×List Bool×List Sb) (σ))
 |0,_,_,_,_=>none
 |g+1,e,a,c,d=>
  bif decide (a<(↑(ix p0_.rows ((ix b 0).fF)).length:Int)) then(
  bd (
  gd (okI (ix p0_.rows ((ix b 0).fF)) a)<|
  gd ((true&&((decide (((ix (ix p0_.rows ((ix b 0).fF)) a).to)≠(-1)))==true))=true→okI c ((ix (ix p0_.rows ((ix b 0).fF)) a).to))<|
  bif (decide (((ix (ix p0_.rows ((ix b 0).fF)) a).to)≠(-1)))&&(!(ix c ((ix (ix p0_.rows ((ix b 0).fF)) a).to))) then(
  gd (okI c ((ix (ix p0_.rows ((ix b 0).fF)) a).to))<|
  gd (fits 24 d ([(⟨(ix (ix p0_.rows ((ix b 0).fF)) a).to,(ix b 0).fF,a⟩:Sb)]:List Sb))<|
  some (e,(up c ((ix (ix p0_.rows ((ix b 0).fF)) a).to) true),(d++([(⟨(ix (ix p0_.rows ((ix b 0).fF)) a).to,(ix b 0).fF,a⟩:Sb)]:List Sb)))) else(
  some (e,c,d))) fun f=>
  gd (in64 (a+1))<|
  yu N σ p0_ b g f.1 (a+1) f.2.1 f.2.2) else(
  some (Ex.go (e,c,d)))
def dh(N:Nat)(σ:Type)(B:Sb→σ→Option (Bool×σ))(p0_:Mach):Nat→σ→(List Bool)→(List Sb)→Option σ
 |0,_,_,_=>none
 |e+1,d,f,a=>
  bd (
  bif decide (0<(↑a.length:Int)) then(
  gd (okI a 0)<|
  gd (okS a 1 (↑a.length:Int))<|
  bd (B (⟨(ix a 0).fF,(ix a 0).fQ,(ix a 0).fG⟩:Sb) d) fun b=>
  bif !b.1 then(
  some (Ex.rt b.2)) else(
  gd (okI p0_.rows ((ix a 0).fF))<|
  yu N σ p0_ a N b.2 0 f (cut a 1 (↑a.length:Int)))) else(
  some (Ex.rt d))) fun g=>
  Ex.on g (fun c=>
  dh N σ B p0_ e c.1 c.2.1 c.2.2) some
def rq(N:Nat)(p0_:Mach)(p1_:Int)(σ:Type)(B:Sb→σ→Option (Bool×σ))(s0:σ):Option σ:=
 gd (okM 1 (↑p0_.rows.length:Int))<|
 gd (okI (mk (↑p0_.rows.length:Int) false) p1_)<|
 dh N σ B p0_ N s0 (up (mk (↑p0_.rows.length:Int) false) p1_ true) ([(⟨p1_,(-1),(-1)⟩:Sb)]:List Sb)
def su(N:Nat)(m:Mach):Option (List Int):=
 bd (z3f N m 0) fun d=>
 bd (rq N d.1 d.2 (List Int) (fun a b=>
 gd (fits 8 b ([a.fF]:List Int))<|
 some (true,(b++([a.fF]:List Int)))) ([]:List Int)) fun c=>
 some c
def z5c(N:Nat)(x:Edge)(p0_:(List (Int×Int))):Option Edge:=
 some (⟨(ai (0:Int) p0_ x.to),x.out⟩:Edge)
def oo(N:Nat)(l_:(List Int)):Nat→Int→(List (Int×Int))→Option (List (Int×Int))
 |0,_,_=>none
 |c+1,a,b=>
  bif decide (a<(↑l_.length:Int)) then(
  gd (okI l_ a)<|
  gd (in64 (a+1))<|
  oo N l_ c (a+1) (z1q b (ix l_ a) a)) else(
  some b)
def ow(N:Nat)(m:Mach)(l_:(List Int))(d:List (Int×Int))(b:Int):Nat→Int→(List (List Edge))→Option (List (List Edge))
 |0,_,_=>none
 |e+1,a,c=>
  bif decide (a<(↑(ix m.rows (ix l_ b)).length:Int)) then(
  gd (okI (ix m.rows (ix l_ b)) a)<|
  gd (okI c b)<|
  bd (z5c N (⟨(ix (ix m.rows (ix l_ b)) a).to,(ix (ix m.rows (ix l_ b)) a).out⟩:Edge) d) fun f=>
  gd (okI (ix c b) a)<|
  gd (in64 (a+1))<|
  ow N m l_ d b e (a+1) (up c b (up (ix c b) a f))) else(
  some c)
def om(N:Nat)(m:Mach)(l_:(List Int))(c:List (Int×Int)):Nat→Int→(List (List Edge))→Option (List (List Edge))
 |0,_,_=>none
 |d+1,a,b=>
  bif decide (a<(↑l_.length:Int)) then(
  bd (
  gd (okI l_ a)<|
  gd (okM 16 m.inputs)<|
  gd (okI b a)<|
  gd (okI m.rows (ix l_ a))<|
  ow N m l_ c a N 0 (up b a (mk m.inputs (⟨(0:Int),(0:Int)⟩:Edge)))) fun e=>
  gd (in64 (a+1))<|
  om N m l_ c d (a+1) e) else(
  some b)
def z09(N:Nat)(m:Mach)(l_:(List Int)):Option Mach:=
 bd (
 oo N l_ N 0 (z1q ([]:List (Int×Int)) (-1) (-1))) fun a=>
 gd (okM 24 (↑l_.length:Int))<|
 bd (
 om N m l_ a N 0 (mk (↑l_.length:Int) ([]:List Edge))) fun b=>
 some (⟨m.inputs,m.outputs,b⟩:Mach)
def lu(N:Nat)(m:Mach):Option (Mach×Int):=
 bd (yg N m) fun c=>
 bif decide (c≠0) then(
 some ((⟨0,0,[]⟩:Mach),c)) else(
 bd (su N m) fun b=>
 bd (z09 N m b) fun a=>
 some ((⟨a.inputs,a.outputs,a.rows⟩:Mach),0))
def ut(N:Nat)(vals:(List Int)):Nat→Int→Option (Ex (Unit) (Int))
 |0,_=>none
 |b+1,a=>
  bif decide (a<(↑vals.length:Int)) then(
  gd (okI vals a)<|
  bif decide ((ix vals a)≠0) then(
  some (Ex.rt (ix vals a))) else(
  gd (in64 (a+1))<|
  ut N vals b (a+1))) else(
  some (Ex.go ()))
def dz(N:Nat)(vals:(List Int)):Option Int:=
 bd (
 ut N vals N 0) fun a=>
 Ex.on a (fun b=>
 some 0) some
def jv(N:Nat)(s1_:(List (List Edge)))(s2_:(List (List Edge)))(eq:(List Edge)→(List Edge)→Option Bool):Nat→Int→Option (Ex (Unit) (Bool))
 |0,_=>none
 |c+1,a=>
  bif decide (a<(↑s1_.length:Int)) then(
  gd (okI s1_ a)<|
  gd (okI s2_ a)<|
  bd (eq (ix s1_ a) (ix s2_ a)) fun b=>
  bif !b then(
  some (Ex.rt false)) else(
  gd (in64 (a+1))<|
  jv N s1_ s2_ eq c (a+1))) else(
  some (Ex.go ()))
def bv(N:Nat)(s1_:(List (List Edge)))(s2_:(List (List Edge)))(eq:(List Edge)→(List Edge)→Option Bool):Option Bool:=
 bif decide ((↑s1_.length:Int)≠(↑s2_.length:Int)) then(
 some false) else(
 bd (
 jv N s1_ s2_ eq N 0) fun a=>
 Ex.on a (fun b=>
 some true) some)
def ui(N:Nat)(s1_:(List Edge))(s2_:(List Edge)):Nat→Int→Option (Ex (Unit) (Bool))
 |0,_=>none
 |b+1,a=>
  bif decide (a<(↑s1_.length:Int)) then(
  gd (okI s1_ a)<|
  gd (okI s2_ a)<|
  bif decide (¬(((ix s1_ a).to)=((ix s2_ a).to)∧((ix s1_ a).out)=((ix s2_ a).out))) then(
  some (Ex.rt false)) else(
  gd (in64 (a+1))<|
  ui N s1_ s2_ b (a+1))) else(
  some (Ex.go ()))
def o7(N:Nat)(s1_:(List Edge))(s2_:(List Edge)):Option Bool:=
 bif decide ((↑s1_.length:Int)≠(↑s2_.length:Int)) then(
 some false) else(
 bd (
 ui N s1_ s2_ N 0) fun a=>
 Ex.on a (fun b=>
 some true) some)
def z07(N:Nat)(a:Mach)(b:Mach):Option Bool:=
 bd (yg N a) fun c=>
 bd (gop (true&&((decide (c=0))==true)) (yg N b)) fun d=>
 bd (gop (true&&(((((decide (c=0))&&(decide ((d.getD default)=0)))&&(decide (a.inputs=b.inputs)))&&(decide (a.outputs=b.outputs)))==true)) (bv N a.rows b.rows (fun f g=>o7 N f g))) fun e=>
 some (((((decide (c=0))&&(decide ((d.getD default)=0)))&&(decide (a.inputs=b.inputs)))&&(decide (a.outputs=b.outputs)))&&(e.getD default))
def z2g(N:Nat)(x y:Int):Option (Int×Int):=
 gd ((0≤x∧x<18446744073709551616)∧0≤y∧y<18446744073709551616) (some (x*y/18446744073709551616,x*y%18446744073709551616))
def yc(N:Nat):Nat→Int→(List Int)→Option (List Int)
 |0,_,_=>none
 |c+1,a,b=>
  bif decide (a<(↑b.length:Int)) then(
  gd (okS b a (↑b.length:Int))<|
  gd (okS b 0 a)<|
  gd (in64 (a+(↑(min (a.toNat-0) (b.length-a.toNat)):Int)))<|
  yc N c (a+(↑(min (a.toNat-0) (b.length-a.toNat)):Int)) (z3p b a.toNat ((b.drop 0).take (min (a.toNat-0) (b.length-a.toNat))))) else(
  some b)
def mg(N:Nat)(x:(List Int))(count:Int):Option (List Int):=
 bif decide (count<0) then(
 none) else(
 bd (z2g N (IntKind.u64.wrap (↑x.length:Int)) (IntKind.u64.wrap count)) fun a=>
 bif (decide (0<a.1))||(decide (9223372036854775807<a.2)) then(
 none) else(
 gd (in64 a.2)<|
 gd (okM 8 a.2)<|
 bd (
 yc N N (↑(min x.length (mk a.2 (0:Int)).length):Int) (z3p (mk a.2 (0:Int)) 0 (x.take (min x.length (mk a.2 (0:Int)).length)))) fun b=>
 some b))
def il(N:Nat)(s:(List Int)):Option (List Int):=
 gd (okS s 0 (↑s.length:Int))<|
 some (cut s 0 (↑s.length:Int))
def yo(N:Nat)(b:(List Int))(d:(List Int)):Nat→Int→(List Int)→Option (List Int)
 |0,_,_=>none
 |e+1,a,c=>
  bif decide (a<(↑b.length:Int)) then(
  gd (okI b a)<|
  gd (okI d a)<|
  gd (okI c (ix b a))<|
  gd (in64 (a+1))<|
  yo N b d e (a+1) (up c (ix b a) (ix d a))) else(
  some c)
def ru(N:Nat)(a:Mach)(b:Mach):Option ((List Int)×Bool×Int):=
 bd (yg N a) fun h=>
 bd (yg N b) fun i=>
 bd (dz N ([h,i]:List Int)) fun c=>
 bif decide (c≠0) then(
 some (([]:(List Int)),false,c)) else(
 bd (su N a) fun d=>
 bd (su N b) fun e=>
 bd (z09 N a d) fun j=>
 bd (z09 N b e) fun k=>
 bd (z07 N j k) fun l=>
 bif !l then(
 some (([]:(List Int)),false,0)) else(
 bd (mg N ([(-1)]:List Int) (↑a.rows.length:Int)) fun m=>
 bd (
 yo N d e N 0 m) fun f=>
 bd (il N f) fun g=>
 some (g,true,0)))
def z1g(N:Nat)(s:(List Int)):Option (List Int):=
 some s
def yf(N:Nat)(σ:Type)(B:Int→σ→Option (Bool×σ))(p0_:(List Int)):Nat→σ→Int→Option σ
 |0,_,_=>none
 |d+1,c,b=>
  bif decide (b<(↑p0_.length:Int)) then(
  gd (okI p0_ b)<|
  bd (B (ix p0_ b) c) fun a=>
  bif !a.1 then(
  some a.2) else(
  gd (in64 (b+1))<|
  yf N σ B p0_ d a.2 (b+1))) else(
  some c)
def iq(N:Nat)(p0_:(List Int))(σ:Type)(B:Int→σ→Option (Bool×σ))(s0:σ):Option σ:=
 yf N σ B p0_ N s0 0
def slices_Sort_int(N:Nat)(x:List Int):Option (List Int):=
 gd (0<x.length∧x.length<4611686018427387904) (some (z2c x))
def p9(N:Nat)(s:List Int)(seq_0_:(List Int)):Option (List Int):=
 bd (iq N seq_0_ (List Int) (fun a b=>
 gd (fits 8 b ([a]:List Int))<|
 some (true,(b++([a]:List Int)))) s) fun c=>
 some c
def z05(N:Nat)(seq_0_:(List Int)):Option (List Int):=
 bd (p9 N ([]:List Int) seq_0_) fun a=>
 some a
def z03(N:Nat)(seq_0_:(List Int)):Option (List Int):=
 bd (z05 N seq_0_) fun b=>
 bd (slices_Sort_int N b) fun a=>
 some a
def z2u(N:Nat)(m:Mach):Option ((List Int)×Int):=
 bd (yg N m) fun e=>
 bif decide (e≠0) then(
 some (([]:(List Int)),e)) else(
 bd (su N m) fun a=>
 bd (z1g N a) fun b=>
 bd (z03 N b) fun c=>
 bd (il N c) fun d=>
 some (d,0))
def bf(N:Nat)(c:Mach×(List Int))(d:(List Int)×Bool×Int)(b:(List Int)×Int):Nat→Int→(List Int)→Option (List Int)
 |0,_,_=>none
 |f+1,a,e=>
  bif decide (a<(↑b.1.length:Int)) then(
  gd (okI b.1 a)<|
  gd (okI c.2 (ix b.1 a))<|
  gd (okI d.1 (ix c.2 (ix b.1 a)))<|
  gd (okI e (ix b.1 a))<|
  gd (in64 (a+1))<|
  bf N c d b f (a+1) (up e (ix b.1 a) (ix d.1 (ix c.2 (ix b.1 a))))) else(
  some e)
def z0k(N:Nat)(m:Mach):Option (Mach×(List Int)×Int):=
 bd (z14 N m) fun f=>
 bif decide (f.2.2≠0) then(
 some ((⟨0,0,[]⟩:Mach),([]:(List Int)),f.2.2)) else(
 bd (z0j N m f.1) fun b=>
 bd (lu N (⟨b.1.inputs,b.1.outputs,b.1.rows⟩:Mach)) fun a=>
 bif decide (a.2≠0) then(
 some ((⟨0,0,[]⟩:Mach),([]:(List Int)),a.2)) else(
 bd (ru N (⟨b.1.inputs,b.1.outputs,b.1.rows⟩:Mach) (⟨a.1.inputs,a.1.outputs,a.1.rows⟩:Mach)) fun c=>
 bif decide (c.2.2≠0) then(
 some ((⟨0,0,[]⟩:Mach),([]:(List Int)),c.2.2)) else(
 bd (mg N ([(-1)]:List Int) (↑m.rows.length:Int)) fun g=>
 bd (z2u N m) fun d=>
 bd (
 bf N b c d N 0 g) fun h=>
 bd (il N h) fun e=>
 some ((⟨a.1.inputs,a.1.outputs,a.1.rows⟩:Mach),e,d.2))))
def dm(N:Nat)(m:Mach):Option (Mach×Int):=
 bd (z0k N m) fun a=>
 some ((⟨a.1.inputs,a.1.outputs,a.1.rows⟩:Mach),a.2.2)
def z1c(N:Nat)(m:Mach):Option ((List Int)×Int):=
 bd (z0k N m) fun a=>
 some (a.2.1,a.2.2)
def z2w(N:Nat)(a:Mach)(b:Mach):Option Int:=
 bd (yg N a) fun d=>
 bd (yg N b) fun e=>
 bd (dz N ([d,e]:List Int)) fun c=>
 bd (
 bif (decide (c=0))&&(decide (a.inputs≠b.inputs)) then(
 some 5) else(
 some c)) fun f=>
 some f
def z3c(N:Nat)(a:Mach)(b:Mach):Option (Mach×Mach):=
 some (a,b)
def mf(N:Nat)(σ:Type)(B:(Sg×(List Sa))→σ→Option (Bool×σ))(p0_:Mach)(p1_:Mach)(a:Int)(c:List Sa):Nat→σ→Int→(List ((Int×Int)×Bool))→(List Sa)→Option (Ex (σ×List ((Int×Int)×Bool)×List Sa) (σ))
 |0,_,_,_,_=>none
 |i+1,h,b,f,e=>
  bif decide (b<p0_.inputs) then(
  bd (
  gd (okI p0_.rows (((ix c a).fC).1))<|
  gd (okI (ix p0_.rows (((ix c a).fC).1)) b)<|
  gd (okI p1_.rows (((ix c a).fC).2))<|
  gd (okI (ix p1_.rows (((ix c a).fC).2)) b)<|
  bd (B ((⟨a,b,(⟨(ix (ix p0_.rows (((ix c a).fC).1)) b).to,(ix (ix p0_.rows (((ix c a).fC).1)) b).out⟩:Edge),(⟨(ix (ix p1_.rows (((ix c a).fC).2)) b).to,(ix (ix p1_.rows (((ix c a).fC).2)) b).out⟩:Edge)⟩:Sg),e) h) fun d=>
  bif !d.1 then(
  some (Ex.rt (Ex.rt d.2))) else(
  bif ((decide (((ix (ix p0_.rows (((ix c a).fC).1)) b).to)≠(-1)))&&(decide (((ix (ix p1_.rows (((ix c a).fC).2)) b).to)≠(-1))))&&(!(ai false f (((ix (ix p0_.rows (((ix c a).fC).1)) b).to,(ix (ix p1_.rows (((ix c a).fC).2)) b).to):(Int×Int)))) then(
  gd (fits 32 e ([(⟨(((ix (ix p0_.rows (((ix c a).fC).1)) b).to,(ix (ix p1_.rows (((ix c a).fC).2)) b).to):(Int×Int)),a,b⟩:Sa)]:List Sa))<|
  some (Ex.go (d.2,(z1q f (((ix (ix p0_.rows (((ix c a).fC).1)) b).to,(ix (ix p1_.rows (((ix c a).fC).2)) b).to):(Int×Int)) true),(e++([(⟨(((ix (ix p0_.rows (((ix c a).fC).1)) b).to,(ix (ix p1_.rows (((ix c a).fC).2)) b).to):(Int×Int)),a,b⟩:Sa)]:List Sa))))) else(
  some (Ex.go (d.2,f,e))))) fun j=>
  Ex.on j (fun g=>
  gd (in64 (b+1))<|
  mf N σ B p0_ p1_ a c i g.1 (b+1) g.2.1 g.2.2) some) else(
  some (Ex.go (h,f,e)))
def dw(N:Nat)(σ:Type)(B:(Sg×(List Sa))→σ→Option (Bool×σ))(p0_:Mach)(p1_:Mach):Nat→σ→Int→(List ((Int×Int)×Bool))→(List Sa)→Option σ
 |0,_,_,_,_=>none
 |e+1,d,a,f,b=>
  bif decide (a<(↑b.length:Int)) then(
  bd (
  gd (okI b a)<|
  gd (okI b a)<|
  mf N σ B p0_ p1_ a b N d 0 f b) fun g=>
  Ex.on g (fun c=>
  gd (in64 (a+1))<|
  dw N σ B p0_ p1_ e c.1 (a+1) c.2.1 c.2.2) some) else(
  some d)
def z1l(N:Nat)(p0_:Mach)(p1_:Mach)(σ:Type)(B:(Sg×(List Sa))→σ→Option (Bool×σ))(s0:σ):Option σ:=
 dw N σ B p0_ p1_ N s0 0 (z1q ([]:List ((Int×Int)×Bool)) ((0,0):(Int×Int)) true) ([(⟨((0,0):(Int×Int)),(-1),0⟩:Sa)]:List Sa)
def z04(N:Nat)(s:List Int):Option (List Int):=
 gd (okS s 0 (↑s.length:Int))<|
 some (cut s 0 (↑s.length:Int))
def oh(N:Nat)(l_:(List Sa)):Nat→Int→(List Int)→Option (List Int)
 |0,_,_=>none
 |c+1,a,b=>
  gd (okI l_ a)<|
  bif decide (((ix l_ a).fQ)≠(-1)) then(
  gd (okI l_ a)<|
  gd (fits 8 ([(ix l_ a).fG]:List Int) b)<|
  gd (okI l_ a)<|
  oh N l_ c ((ix l_ a).fQ) (([(ix l_ a).fG]:List Int)++b)) else(
  some b)
def z08(N:Nat)(l_:(List Sa))(at_:Int)(more:List Int):Option (List Int):=
 bd (
 oh N l_ N at_ more) fun b=>
 bd (z04 N b) fun a=>
 some a
def ky(N:Nat)(s:(List (Int×Int)))(v_:(Int×Int)):Nat→Int→Option (Ex (Unit) (Int))
 |0,_=>none
 |b+1,a=>
  bif decide (a<(↑s.length:Int)) then(
  gd (okI s a)<|
  bif decide (v_.1=((ix s a).1)∧v_.2=((ix s a).2)) then(
  some (Ex.rt a)) else(
  gd (in64 (a+1))<|
  ky N s v_ b (a+1))) else(
  some (Ex.go ()))
def z0g(N:Nat)(s:(List (Int×Int)))(v_:(Int×Int)):Option Int:=
 bd (
 ky N s v_ N 0) fun a=>
 Ex.on a (fun b=>
 some (-1)) some
def xh(N:Nat)(s:(List (Int×Int)))(v_:(Int×Int)):Option Bool:=
 bd (z0g N s v_) fun a=>
 some (decide (0≤a))
def rf(N:Nat)(a:Mach)(b:Mach):Option ((List Int)×(List (Int×Int))):=
 bd (z3c N a b) fun e=>
 bd (z1l N e.1 e.2 (Ex (List (Int×Int)) ((List Int)×(List (Int×Int)))) (fun c s=>Ex.on s (fun d=>
 bif decide (c.1.fI.out≠c.1.fK.out) then(
 bd (z08 N c.2 c.1.fU ([c.1.fG]:List Int)) fun g=>
 some (false,Ex.rt (g,([]:(List (Int×Int)))))) else(
 bd (gop (true&&((decide (c.1.fI.to≠(-1)))==true)) (xh N d ((c.1.fI.to,c.1.fK.to):(Int×Int)))) fun f=>
 bif (decide (c.1.fI.to≠(-1)))&&(!(f.getD default)) then(
 gd (fits 16 d ([((c.1.fI.to,c.1.fK.to):(Int×Int))]:List (Int×Int)))<|
 some (true,Ex.go (d++([((c.1.fI.to,c.1.fK.to):(Int×Int))]:List (Int×Int))))) else(
 some (true,Ex.go d)))) fun _=>none) (Ex.go ([((0,0):(Int×Int))]:List (Int×Int)))) fun h=>
 Ex.on h (fun i=>
 some (([]:(List Int)),i)) some
def z4s(N:Nat)(x:Int):Option Int:=
 bd (
 bif decide (4294967296≤x) then(
 gd (okSh .u64 (32:Int))<|
 some (zh9 x (32:Int),32)) else(
 some (x,0))) fun b=>
 bd (
 bif decide (65536≤b.1) then(
 gd (okSh .u64 (16:Int))<|
 gd (in64 (b.2+16))<|
 some (zh9 b.1 (16:Int),b.2+16)) else(
 some (b.1,b.2))) fun c=>
 bd (
 bif decide (256≤c.1) then(
 gd (okSh .u64 (8:Int))<|
 gd (in64 (c.2+8))<|
 some (zh9 c.1 (8:Int),c.2+8)) else(
 some (c.1,c.2))) fun a=>
 gd (okI zfg (IntKind.u8.wrap a.1))<|
 gd (in64 (ix zfg (IntKind.u8.wrap a.1)))<|
 gd (in64 (a.2+(ix zfg (IntKind.u8.wrap a.1))))<|
 some (a.2+(ix zfg (IntKind.u8.wrap a.1)))
def z4e(N:Nat)(x:Int):Option Int:=
 bd (z4s N x) fun a=>
 some a
def jl(N:Nat)(a:Int)(cmp:(Int×Int)→(Int×Int)→Option Int):Nat→Int→(List (Int×Int))→Option (List (Int×Int))
 |0,_,_=>none
 |d+1,b,c=>
  gd ((true&&((decide (a<b))==true))=true→okI c b)<|
  gd ((true&&((decide (a<b))==true))=true→in64 (b-1))<|
  gd ((true&&((decide (a<b))==true))=true→okI c (b-1))<|
  bd (gop (true&&((decide (a<b))==true)) (cmp (ix c b) (ix c (b-1)))) fun e=>
  bif (decide (a<b))&&(decide ((e.getD default)<0)) then(
  gd (in64 (b-1))<|
  gd (in64 (b-1))<|
  gd (okI c (b-1))<|
  gd (okI c b)<|
  gd (okI c b)<|
  gd (okI c (b-1))<|
  gd (in64 (b-1))<|
  jl N a cmp d (b-1) (up (up c b (ix c (b-1))) (b-1) (ix c b))) else(
  some c)
def jd(N:Nat)(a:Int)(b:Int)(cmp:(Int×Int)→(Int×Int)→Option Int):Nat→Int→(List (Int×Int))→Option (List (Int×Int))
 |0,_,_=>none
 |f+1,c,e=>
  bif decide (c<b) then(
  bd (
  jl N a cmp N c e) fun d=>
  gd (in64 (c+1))<|
  jd N a b cmp f (c+1) d) else(
  some e)
def wu(N:Nat)(data:List (Int×Int))(a:Int)(b:Int)(cmp:(Int×Int)→(Int×Int)→Option Int):Option (List (Int×Int)):=
 gd (in64 (a+1))<|
 jd N a b cmp N (a+1) data
def yh(N:Nat)(data:List (Int×Int))(a:Int)(b:Int)(cmp:(Int×Int)→(Int×Int)→Option Int):Nat→Option (List (Int×Int))
 |0=>none
 |d+1=>
  gd (in64 (b-a))<|
  bif decide ((b-a)≤12) then(
  bd (wu N data a b cmp) fun c=>
  some c) else(
  none)
def xw(N:Nat)(data:List (Int×Int))(a:Int)(b:Int)(limit:Int)(cmp:(Int×Int)→(Int×Int)→Option Int):Option (List (Int×Int)):=
 yh N data a b cmp N 
def ny(N:Nat)(x:List (Int×Int))(cmp:(Int×Int)→(Int×Int)→Option Int):Option (List (Int×Int)):=
 bd (z4e N (IntKind.u64.wrap (↑x.length:Int))) fun a=>
 bd (xw N x 0 (↑x.length:Int) a cmp) fun b=>
 some b
def z11(N:Nat)(a:Mach)(b:Mach):Option ((List Int)×(List (Int×Int))):=
 bd (z3c N a b) fun e=>
 bd (z1l N e.1 e.2 (Ex (List (Int×Int)) ((List Int)×(List (Int×Int)))) (fun c s=>Ex.on s (fun d=>
 bif decide (c.1.fI.out≠c.1.fK.out) then(
 bd (z08 N c.2 c.1.fU ([c.1.fG]:List Int)) fun g=>
 some (false,Ex.rt (g,([]:List (Int×Int))))) else(
 bd (gop (true&&((decide (c.1.fI.to≠(-1)))==true)) (xh N d ((c.1.fI.to,c.1.fK.to):(Int×Int)))) fun f=>
 bif (decide (c.1.fI.to≠(-1)))&&(!(f.getD default)) then(
 gd (fits 16 d ([((c.1.fI.to,c.1.fK.to):(Int×Int))]:List (Int×Int)))<|
 some (true,Ex.go (d++([((c.1.fI.to,c.1.fK.to):(Int×Int))]:List (Int×Int))))) else(
 some (true,Ex.go d)))) fun _=>none) (Ex.go ([((0,0):(Int×Int))]:List (Int×Int)))) fun h=>
 Ex.on h (fun i=>
 some (([]:List Int),i)) some
def cmp_isNaN_int(N:Nat)(x:Int):Option Bool:=
 some (decide (x≠x))
def cmp_Compare_int(N:Nat)(x:Int)(y:Int):Option Int:=
 bd (cmp_isNaN_int N x) fun b=>
 bd (cmp_isNaN_int N y) fun a=>
 bif b then(
 bif a then(
 some 0) else(
 some (-1))) else(
 bif a then(
 some 1) else(
 bif decide (x<y) then(
 some (-1)) else(
 bif decide (y<x) then(
 some 1) else(
 some 0))))
def uo(N:Nat)(s1_:(List Int))(s2_:(List Int)):Nat→Int→Option (Ex (Unit) (Int))
 |0,_=>none
 |c+1,a=>
  bif decide (a<(↑s1_.length:Int)) then(
  gd (okI s1_ a)<|
  bif decide ((↑s2_.length:Int)≤a) then(
  some (Ex.rt 1)) else(
  gd (okI s2_ a)<|
  bd (cmp_Compare_int N (ix s1_ a) (ix s2_ a)) fun b=>
  bif decide (b≠0) then(
  some (Ex.rt b)) else(
  gd (in64 (a+1))<|
  uo N s1_ s2_ c (a+1)))) else(
  some (Ex.go ()))
def z0u(N:Nat)(s1_:(List Int))(s2_:(List Int)):Option Int:=
 bd (
 uo N s1_ s2_ N 0) fun a=>
 Ex.on a (fun b=>
 bif decide ((↑s1_.length:Int)<(↑s2_.length:Int)) then(
 some (-1)) else(
 some 0)) some
def ll(N:Nat)(p:(Int×Int))(q:(Int×Int)):Option Int:=
 bd (z0u N ([p.1,p.2]:List Int) ([q.1,q.2]:List Int)) fun a=>
 some a
def l6(N:Nat)(s:(List (Int×Int))):Option (List (Int×Int)):=
 gd (okS s 0 (↑s.length:Int))<|
 some (cut s 0 (↑s.length:Int))
def z1a(N:Nat)(a:Mach)(b:Mach):Option ((List (Int×Int))×Bool×Int):=
 bd (z2w N a b) fun c=>
 bif decide (c≠0) then(
 some (([]:(List (Int×Int))),false,c)) else(
 bd (z11 N a b) fun d=>
 bd (ny N d.2 (fun g h=>ll N g h)) fun e=>
 bd (l6 N e) fun f=>
 some (f,(decide ((↑d.1.length:Int)=0)),0))
def z0c(N:Nat)(a:Mach)(b:Mach):Option ((List Int)×Bool×Int):=
 bd (z2w N a b) fun c=>
 bif decide (c≠0) then(
 some (([]:(List Int)),false,c)) else(
 bd (rf N a b) fun d=>
 some (d.1,(decide (0<(↑d.1.length:Int))),0))
def z3j(N:Nat)(a:Mach)(b:Mach):Option (Bool×Int):=
 bd (z0c N a b) fun c=>
 some (((decide (c.2.2=0))&&(!c.2.1)),c.2.2)
def z0v(N:Nat):Option Bool:=some true
def wz(N:Nat)(d:(List Int)×Int)(c:(List (Int×Int))×Bool×Int):Nat→Int→Int→Option (Ex (Int) (Bool))
 |0,_,_=>none
 |e+1,a,b=>
  bif decide (b<(↑d.1.length:Int)) then(
  bd (
  gd (okI d.1 b)<|
  bif decide ((ix d.1 b)<0) then(
  some (Ex.go a)) else(
  gd ((true&&((decide (a=(↑c.1.length:Int)))==false))=true→okI c.1 a)<|
  gd ((true&&((decide (a=(↑c.1.length:Int)))==false))=true→okI d.1 b)<|
  bif (decide (a=(↑c.1.length:Int)))||(decide (¬(((ix c.1 a).1)=b∧((ix c.1 a).2)=(ix d.1 b)))) then(
  some (Ex.rt (Ex.rt false))) else(
  gd (in64 (a+1))<|
  some (Ex.go (a+1))))) fun f=>
  Ex.on f (fun g=>
  gd (in64 (b+1))<|
  wz N d c e g (b+1)) some) else(
  some (Ex.go a))
def fe(N:Nat)(x:Sd):Option Bool:=
 bd (fw N x) fun a=>
 bd (dm N (⟨a.1.inputs,a.1.outputs,a.1.rows⟩:Mach)) fun f=>
 bd (z1c N (⟨a.1.inputs,a.1.outputs,a.1.rows⟩:Mach)) fun i=>
 bd (z1a N (⟨a.1.inputs,a.1.outputs,a.1.rows⟩:Mach) (⟨f.1.inputs,f.1.outputs,f.1.rows⟩:Mach)) fun e=>
 bif (((decide (f.2≠0))||(decide (i.2≠0)))||(decide (e.2.2≠0)))||(!e.2.1) then(
 some false) else(
 bd (
 wz N i e N 0 0) fun k=>
 Ex.on k (fun h=>
 bd (dm N (⟨a.1.inputs,max a.1.outputs a.2.outputs,a.1.rows⟩:Mach)) fun b=>
 bd (dm N (⟨a.2.inputs,max a.1.outputs a.2.outputs,a.2.rows⟩:Mach)) fun c=>
 bd (z3j N (⟨a.1.inputs,max a.1.outputs a.2.outputs,a.1.rows⟩:Mach) (⟨a.2.inputs,max a.1.outputs a.2.outputs,a.2.rows⟩:Mach)) fun d=>
 bd (gop (true&&(((((decide (h=(↑e.1.length:Int)))&&(decide (b.2=0)))&&(decide (c.2=0)))&&(decide (d.2=0)))==true)) (z07 N (⟨b.1.inputs,b.1.outputs,b.1.rows⟩:Mach) (⟨c.1.inputs,c.1.outputs,c.1.rows⟩:Mach))) fun g=>
 bd (gop (true&&((((((decide (h=(↑e.1.length:Int)))&&(decide (b.2=0)))&&(decide (c.2=0)))&&(decide (d.2=0)))&&(decide (d.1=(g.getD default))))==true)) (z0v N)) fun j=>
 some ((((((decide (h=(↑e.1.length:Int)))&&(decide (b.2=0)))&&(decide (c.2=0)))&&(decide (d.2=0)))&&(decide (d.1=(g.getD default))))&&(j.getD default))) some)
end GV
end Go.Proofs.YtkkcidhcfkmbjaaGreatDoor
