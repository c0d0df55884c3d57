import Derived.Test.YtkhihcleegljhaaGreatShTypes
set_option linter.unusedVariables false
set_option linter.unusedSimpArgs false
namespace Go.Proofs.YtkhihcleegljhaaGreat
namespace GV
set_option maxRecDepth 100000
def di(N:Nat)(x:MDat)(c:Int):Nat→(List Edge)→Int→Option (List Edge)
 |0,_,_=>none
 |e+1,d,b=>
  bif decide (b<((1:Int)+(x.ins%3))) then(
  bd (
  bd (
  gd (in64 (c*((1:Int)+(x.ins%3))))<|
  gd (in64 ((c*((1:Int)+(x.ins%3)))+b))<|
  bif decide (((c*((1:Int)+(x.ins%3)))+b)<(↑x.edges.length:Int)) then(
  gd (okI x.edges ((c*((1:Int)+(x.ins%3)))+b))<|
  gd (in64 (ix x.edges ((c*((1:Int)+(x.ins%3)))+b)))<|
  some (ix x.edges ((c*((1:Int)+(x.ins%3)))+b))) else(
  some 0)) fun a=>
  gd ((true&&(x.part==true))=true→okR a 4)<|
  bif x.part&&(decide ((a%4)=3)) then(
  gd (fits 16 d ([(⟨(-1),(-1)⟩:Edge)]:List Edge))<|
  some (d++([(⟨(-1),(-1)⟩:Edge)]:List Edge))) else(
  gd (okQ a 4)<|
  gd (okR (a/4) ((1:Int)+(x.states%6)))<|
  gd (okQ a 4)<|
  gd (okQ (a/4) ((1:Int)+(x.states%6)))<|
  gd (okR ((a/4)/((1:Int)+(x.states%6))) ((1:Int)+(x.outs%3)))<|
  gd (fits 16 d ([(⟨(a/4)%((1:Int)+(x.states%6)),((a/4)/((1:Int)+(x.states%6)))%((1:Int)+(x.outs%3))⟩:Edge)]:List Edge))<|
  some (d++([(⟨(a/4)%((1:Int)+(x.states%6)),((a/4)/((1:Int)+(x.states%6)))%((1:Int)+(x.outs%3))⟩:Edge)]:List Edge)))) fun f=>
  gd (in64 (b+1))<|
  di N x c e f (b+1)) else(
  some d)
def tu(N:Nat)(x:MDat):Nat→Int→(List (List Edge))→Option (List (List Edge))
 |0,_,_=>none
 |d+1,a,b=>
  bif decide (a<((1:Int)+(x.states%6))) then(
  bd (
  di N x a N ([]:List Edge) 0) fun c=>
  gd (fits 24 b ([c]:List (List Edge)))<|
  gd (in64 (a+1))<|
  tu N x d (a+1) (b++([c]:List (List Edge)))) else(
  some b)
def z2f(N:Nat)(x:MDat):Option Mach:=
 gd (okR x.states 6)<|
 gd (in64 (x.states%6))<|
 gd (in64 ((1:Int)+(x.states%6)))<|
 gd (okR x.ins 3)<|
 gd (in64 (x.ins%3))<|
 gd (in64 ((1:Int)+(x.ins%3)))<|
 gd (okR x.outs 3)<|
 gd (in64 (x.outs%3))<|
 gd (in64 ((1:Int)+(x.outs%3)))<|
 bd (
 tu N x N 0 ([]:List (List Edge))) fun a=>
 some (⟨(1:Int)+(x.ins%3),(1:Int)+(x.outs%3),a⟩:Mach)
def lu(N:Nat)(x:Sc):Option Int:=
 gd (okR x.fO 3)<|
 gd (in64 (x.fO%3))<|
 gd (in64 ((1:Int)+(x.fO%3)))<|
 some ((1:Int)+(x.fO%3))
def xu(N:Nat)(x:Sc)(a:Int):Nat→Int→(List Int)→Option (List Int)
 |0,_,_=>none
 |e+1,b,c=>
  gd (okI x.fI a)<|
  bif (decide (b<(↑(ix x.fI a).length:Int)))&&(decide (b<12)) then(
  gd (okI x.fI a)<|
  gd (okI (ix x.fI a) b)<|
  gd (in64 (ix (ix x.fI a) b))<|
  bd (lu N x) fun d=>
  gd (okR (ix (ix x.fI a) b) d)<|
  gd (fits 8 c ([(ix (ix x.fI a) b)%d]:List Int))<|
  gd (in64 (b+1))<|
  xu N x a e (b+1) (c++([(ix (ix x.fI a) b)%d]:List Int))) else(
  some c)
def xx(N:Nat)(x:Sc):Nat→(List (List Int))→Int→Option (List (List Int))
 |0,_,_=>none
 |d+1,b,a=>
  bif (decide (a<(↑x.fI.length:Int)))&&(decide (a<40)) then(
  bd (
  xu N x a N 0 ([]:List Int)) fun c=>
  gd (fits 24 b ([c]:List (List Int)))<|
  gd (in64 (a+1))<|
  xx N x d (b++([c]:List (List Int))) (a+1)) else(
  some b)
def z1m(N:Nat)(x:Sc):Option (List (List Int)):=
 bd (
 xx N x N ([]:List (List Int)) 0) fun a=>
 some a
def yj(N:Nat)(a:(List Int))(b:(List Int)):Nat→Int→Option (Ex (Unit) (Int))
 |0,_=>none
 |d+1,c=>
  bif decide (c<(↑a.length:Int)) then(
  gd (okI a c)<|
  gd (okI b c)<|
  bif decide ((ix a c)<(ix b c)) then(
  some (Ex.rt (-1))) else(
  gd (okI a c)<|
  gd (okI b c)<|
  bif decide ((ix b c)<(ix a c)) then(
  some (Ex.rt 1)) else(
  gd (in64 (c+1))<|
  yj N a b d (c+1)))) else(
  some (Ex.go ()))
def ak(N:Nat)(a:(List Int))(b:(List Int)):Option Int:=
 bif decide ((↑a.length:Int)≠(↑b.length:Int)) then(
 bif decide ((↑a.length:Int)<(↑b.length:Int)) then(
 some (-1)) else(
 some 1)) else(
 bd (
 yj N a b N 0) fun c=>
 Ex.on c (fun d=>
 some 0) some)
def xw(N:Nat)(l_:List (List Int))(w_:(List Int)):Nat→Int→Int→Option Int
 |0,_,_=>none
 |d+1,a,b=>
  bif decide (a<b) then(
  gd (in64 (a+b))<|
  gd (okQ (a+b) 2)<|
  gd (okI l_ ((a+b)/2))<|
  bd (ak N (ix l_ ((a+b)/2)) w_) fun c=>
  bif decide (c<0) then(
  gd (in64 (((a+b)/2)+1))<|
  xw N l_ w_ d (((a+b)/2)+1) b) else(
  xw N l_ w_ d a ((a+b)/2))) else(
  some a)
def eu(N:Nat)(d:Int):Nat→Int→(List (List Int))→Option (List (List Int))
 |0,_,_=>none
 |c+1,a,b=>
  bif decide (d<a) then(
  gd (in64 (a-1))<|
  gd (okI b (a-1))<|
  gd (okI b a)<|
  gd (in64 (a-1))<|
  eu N d c (a-1) (up b a (ix b (a-1)))) else(
  some b)
def z1l(N:Nat)(l_:List (List Int))(w_:(List Int)):Option (List (List Int)):=
 bd (
 xw N l_ w_ N 0 (↑l_.length:Int)) fun a=>
 gd ((true&&((decide (a<(↑l_.length:Int)))==true))=true→okI l_ a)<|
 bd (gop (true&&((decide (a<(↑l_.length:Int)))==true)) (ak N (ix l_ a) w_)) fun c=>
 bif (decide (a<(↑l_.length:Int)))&&(decide ((c.getD default)=0)) then(
 some l_) else(
 gd (fits 24 l_ ([[]]:List (List Int)))<|
 bd (
 gd (in64 ((↑(l_++([[]]:List (List Int))).length:Int)-1))<|
 eu N a N ((↑(l_++([[]]:List (List Int))).length:Int)-1) (l_++([[]]:List (List Int)))) fun b=>
 gd (fits 8 ([]:List Int) w_)<|
 gd (okI b a)<|
 some (up b a (([]:List Int)++w_)))
def dn(N:Nat)(l_:(List (List Int))):Nat→(List (List Int))→Int→Option (List (List Int))
 |0,_,_=>none
 |d+1,b,a=>
  bif decide (a<(↑l_.length:Int)) then(
  gd (okI l_ a)<|
  bd (z1l N b (ix l_ a)) fun c=>
  gd (in64 (a+1))<|
  dn N l_ d c (a+1)) else(
  some b)
def z14(N:Nat)(l_:(List (List Int))):Option (List (List Int)):=
 bd (
 dn N l_ N ([]:List (List Int)) 0) fun a=>
 some a
def z1u(N:Nat)(x:Sc):Option (List (List Int)):=
 bd (z1m N x) fun b=>
 bd (z14 N b) fun a=>
 some a
def lg(N:Nat)(m:Mach)(s:Int)(i:Int):Option Bool:=
 gd ((true&&(((((decide (0≤s))&&(decide (s<(↑m.rows.length:Int))))&&(decide (0≤i)))&&(decide (i<m.inputs)))==true))=true→okI m.rows s)<|
 gd ((true&&(((((decide (0≤s))&&(decide (s<(↑m.rows.length:Int))))&&(decide (0≤i)))&&(decide (i<m.inputs)))==true))=true→okI (ix m.rows s) i)<|
 some (((((decide (0≤s))&&(decide (s<(↑m.rows.length:Int))))&&(decide (0≤i)))&&(decide (i<m.inputs)))&&(decide (((ix (ix m.rows s) i).to)≠(-1))))
def z2x(N:Nat)(m:Mach)(f:Sb):Option Bool:=
 bd (lg N m f.fB f.fC) fun b=>
 bif !b then(
 some false) else(
 gd (okI m.rows f.fB)<|
 gd (okI (ix m.rows f.fB) f.fC)<|
 bif decide (f.fK=0) then(
 some ((((decide (f.fG=0))&&(decide (f.fJ=0)))&&((decide (0≤f.fF))&&(decide (f.fF<m.outputs))))&&(decide (f.fF≠((ix (ix m.rows f.fB) f.fC).out))))) else(
 bif decide (f.fK=1) then(
 some ((((decide (f.fJ=0))&&(decide (f.fF=0)))&&((decide (0≤f.fG))&&(decide (f.fG<(↑m.rows.length:Int)))))&&(decide (f.fG≠((ix (ix m.rows f.fB) f.fC).to))))) else(
 bif decide (f.fK=2) then(
 some (((decide (f.fG=0))&&(decide (f.fJ=0)))&&(decide (f.fF=0)))) else(
 bif decide (f.fK=3) then(
 some (((decide (f.fJ=0))&&(decide (f.fF=0)))&&((decide (0≤f.fG))&&(decide (f.fG<(↑m.rows.length:Int)))))) else(
 bif decide (f.fK=4) then(
 bd (gop (true&&((decide (f.fG=0))==true)) (lg N m ((ix (ix m.rows f.fB) f.fC).to) f.fJ)) fun a=>
 gd ((true&&((((decide (f.fG=0))&&(a.getD default))&&((decide (0≤f.fF))&&(decide (f.fF<m.outputs))))==true))=true→okI m.rows ((ix (ix m.rows f.fB) f.fC).to))<|
 gd ((true&&((((decide (f.fG=0))&&(a.getD default))&&((decide (0≤f.fF))&&(decide (f.fF<m.outputs))))==true))=true→okI (ix m.rows ((ix (ix m.rows f.fB) f.fC).to)) f.fJ)<|
 some ((((decide (f.fG=0))&&(a.getD default))&&((decide (0≤f.fF))&&(decide (f.fF<m.outputs))))&&(decide (f.fF≠((ix (ix m.rows ((ix (ix m.rows f.fB) f.fC).to)) f.fJ).out))))) else(
 some false))))))
def gy(N:Nat)(m:Mach)(kinds:(List Int))(c:Int)(d:Int)(e:Int)(f:Int)(g:Int):Nat→Int→(List Sb)→Option (List Sb)
 |0,_,_=>none
 |h+1,a,b=>
  bif decide (a<m.outputs) then(
  bd (
  gd (okI kinds c)<|
  bd (z2x N m (⟨(ix kinds c),d,e,f,g,a⟩:Sb)) fun i=>
  bif i then(
  gd (fits 48 b ([(⟨(ix kinds c),d,e,f,g,a⟩:Sb)]:List Sb))<|
  some (b++([(⟨(ix kinds c),d,e,f,g,a⟩:Sb)]:List Sb))) else(
  some b)) fun j=>
  gd (in64 (a+1))<|
  gy N m kinds c d e f g h (a+1) j) else(
  some b)
def gq(N:Nat)(m:Mach)(kinds:(List Int))(b:Int)(c:Int)(d:Int)(e:Int):Nat→Int→(List Sb)→Option (List Sb)
 |0,_,_=>none
 |h+1,a,f=>
  bif decide (a<m.inputs) then(
  bd (
  gy N m kinds b c d e a N 0 f) fun g=>
  gd (in64 (a+1))<|
  gq N m kinds b c d e h (a+1) g) else(
  some f)
def gp(N:Nat)(m:Mach)(kinds:(List Int))(b:Int)(c:Int)(d:Int):Nat→Int→(List Sb)→Option (List Sb)
 |0,_,_=>none
 |f+1,a,e=>
  bif decide (a<(↑m.rows.length:Int)) then(
  bd (
  gq N m kinds b c d a N 0 e) fun g=>
  gd (in64 (a+1))<|
  gp N m kinds b c d f (a+1) g) else(
  some e)
def xz(N:Nat)(m:Mach)(kinds:(List Int))(b:Int)(c:Int):Nat→Int→(List Sb)→Option (List Sb)
 |0,_,_=>none
 |e+1,a,d=>
  bif decide (a<m.inputs) then(
  bd (
  gp N m kinds b c a N 0 d) fun f=>
  gd (in64 (a+1))<|
  xz N m kinds b c e (a+1) f) else(
  some d)
def bg(N:Nat)(m:Mach)(kinds:(List Int))(b:Int):Nat→Int→(List Sb)→Option (List Sb)
 |0,_,_=>none
 |d+1,a,c=>
  bif decide (a<(↑m.rows.length:Int)) then(
  bd (
  xz N m kinds b a N 0 c) fun e=>
  gd (in64 (a+1))<|
  bg N m kinds b d (a+1) e) else(
  some c)
def ma(N:Nat)(m:Mach)(kinds:(List Int)):Nat→(List Sb)→Int→Option (List Sb)
 |0,_,_=>none
 |c+1,b,a=>
  bif decide (a<(↑kinds.length:Int)) then(
  bd (
  bg N m kinds a N 0 b) fun d=>
  gd (in64 (a+1))<|
  ma N m kinds c d (a+1)) else(
  some b)
def z2k(N:Nat)(m:Mach)(kinds:(List Int)):Option (List Sb):=
 bd (
 ma N m kinds N ([]:List Sb) 0) fun a=>
 some a
def z1z(N:Nat)(x:Sj)(m:Mach):Option (Sb×Bool):=
 bd (z2k N m ([0,1,2,3,4]:List Int)) fun a=>
 bif decide ((↑a.length:Int)=0) then(
 some ((⟨0,0,0,0,0,0⟩:Sb),false)) else(
 gd (in64 x.fAa)<|
 gd (okR x.fAa (↑a.length:Int))<|
 gd (okI a (x.fAa%(↑a.length:Int)))<|
 some ((⟨(ix a (x.fAa%(↑a.length:Int))).fK,(ix a (x.fAa%(↑a.length:Int))).fB,(ix a (x.fAa%(↑a.length:Int))).fC,(ix a (x.fAa%(↑a.length:Int))).fG,(ix a (x.fAa%(↑a.length:Int))).fJ,(ix a (x.fAa%(↑a.length:Int))).fF⟩:Sb),true))
def xy(N:Nat)(m:Mach):Nat→Int→(List (List Edge))→Option (List (List Edge))
 |0,_,_=>none
 |c+1,a,b=>
  bif decide (a<(↑m.rows.length:Int)) then(
  gd (okI m.rows a)<|
  gd (fits 16 ([]:List Edge) (ix m.rows a))<|
  gd (fits 24 b [(([]:List Edge)++(ix m.rows a))])<|
  gd (in64 (a+1))<|
  xy N m c (a+1) (b++[(([]:List Edge)++(ix m.rows a))])) else(
  some b)
def z0o(N:Nat)(m:Mach)(f:Sb):Option Mach:=
 bd (
 xy N m N 0 ([]:List (List Edge))) fun b=>
 gd (okI m.rows f.fB)<|
 gd (okI (ix m.rows f.fB) f.fC)<|
 bd (
 bif decide (f.fK=0) then(
 some (b,(ix (ix m.rows f.fB) f.fC).to,f.fF)) else(
 bif decide (f.fK=1) then(
 some (b,f.fG,(ix (ix m.rows f.fB) f.fC).out)) else(
 bif decide (f.fK=2) then(
 some (b,(-1),(-1))) else(
 bif decide (f.fK=3) then(
 gd (okI m.rows f.fG)<|
 gd (fits 16 ([]:List Edge) (ix m.rows f.fG))<|
 gd (fits 24 b [(([]:List Edge)++(ix m.rows f.fG))])<|
 some ((b++[(([]:List Edge)++(ix m.rows f.fG))]),(↑m.rows.length:Int),(ix (ix m.rows f.fB) f.fC).out)) else(
 bif decide (f.fK=4) then(
 gd (okI m.rows ((ix (ix m.rows f.fB) f.fC).to))<|
 gd (fits 16 ([]:List Edge) (ix m.rows ((ix (ix m.rows f.fB) f.fC).to)))<|
 gd (okI (([]:List Edge)++(ix m.rows ((ix (ix m.rows f.fB) f.fC).to))) f.fJ)<|
 gd (fits 24 b [(up (([]:List Edge)++(ix m.rows ((ix (ix m.rows f.fB) f.fC).to))) f.fJ (⟨(ix (([]:List Edge)++(ix m.rows ((ix (ix m.rows f.fB) f.fC).to))) f.fJ).to,f.fF⟩:Edge))])<|
 some ((b++[(up (([]:List Edge)++(ix m.rows ((ix (ix m.rows f.fB) f.fC).to))) f.fJ (⟨(ix (([]:List Edge)++(ix m.rows ((ix (ix m.rows f.fB) f.fC).to))) f.fJ).to,f.fF⟩:Edge))]),(↑m.rows.length:Int),(ix (ix m.rows f.fB) f.fC).out)) else(
 some (b,(ix (ix m.rows f.fB) f.fC).to,(ix (ix m.rows f.fB) f.fC).out))))))) fun a=>
 gd (okI a.1 f.fB)<|
 gd (okI (ix a.1 f.fB) f.fC)<|
 some (⟨m.inputs,m.outputs,(up a.1 f.fB (up (ix a.1 f.fB) f.fC (⟨a.2.1,a.2.2⟩:Edge)))⟩:Mach)
def dx(N:Nat)(m:Mach):Nat→Int→(List (List Edge))→Option (List (List Edge))
 |0,_,_=>none
 |c+1,a,b=>
  bif decide (a<(↑m.rows.length:Int)) then(
  gd (okI m.rows a)<|
  gd (fits 16 ([]:List Edge) (ix m.rows a))<|
  gd (fits 24 b [(([]:List Edge)++(ix m.rows a))])<|
  gd (in64 (a+1))<|
  dx N m c (a+1) (b++[(([]:List Edge)++(ix m.rows a))])) else(
  some b)
def pz(N:Nat)(x:Sg)(m:Mach):Nat→Int→(List (List Edge))→Option (List (List Edge))
 |0,_,_=>none
 |c+1,a,b=>
  bif (decide (a<(↑x.fH.length:Int)))&&(decide (a<2)) then(
  gd (okI x.fH a)<|
  gd (in64 (ix x.fH a))<|
  gd (okR (ix x.fH a) (↑m.rows.length:Int))<|
  gd (okI m.rows ((ix x.fH a)%(↑m.rows.length:Int)))<|
  gd (fits 16 ([]:List Edge) (ix m.rows ((ix x.fH a)%(↑m.rows.length:Int))))<|
  gd (fits 24 b [(([]:List Edge)++(ix m.rows ((ix x.fH a)%(↑m.rows.length:Int))))])<|
  gd (in64 (a+1))<|
  pz N x m c (a+1) (b++[(([]:List Edge)++(ix m.rows ((ix x.fH a)%(↑m.rows.length:Int))))])) else(
  some b)
def dm(N:Nat)(x:Sg)(m:Mach):Nat→Int→(List (List Edge))→Option (List (List Edge))
 |0,_,_=>none
 |d+1,a,b=>
  bif (decide (a<(↑x.fD.length:Int)))&&(decide (a<40)) then(
  gd (okI x.fD a)<|
  gd (in64 ((ix x.fD a).2.2.1))<|
  gd (okR ((ix x.fD a).2.2.1) (↑b.length:Int))<|
  gd (in64 ((ix x.fD a).2.2.2))<|
  gd (in64 (m.outputs+1))<|
  gd (okR ((ix x.fD a).2.2.2) (m.outputs+1))<|
  bd (
  bif decide ((((ix x.fD a).2.2.2)%(m.outputs+1))=m.outputs) then(
  some ((-1),(-1))) else(
  some (((ix x.fD a).2.2.1)%(↑b.length:Int),((ix x.fD a).2.2.2)%(m.outputs+1)))) fun c=>
  gd (in64 ((ix x.fD a).1))<|
  gd (okR ((ix x.fD a).1) (↑b.length:Int))<|
  gd (okI b (((ix x.fD a).1)%(↑b.length:Int)))<|
  gd (in64 ((ix x.fD a).2.1))<|
  gd (okR ((ix x.fD a).2.1) m.inputs)<|
  gd (okI (ix b (((ix x.fD a).1)%(↑b.length:Int))) (((ix x.fD a).2.1)%m.inputs))<|
  gd (in64 (a+1))<|
  dm N x m d (a+1) (up b (((ix x.fD a).1)%(↑b.length:Int)) (up (ix b (((ix x.fD a).1)%(↑b.length:Int))) (((ix x.fD a).2.1)%m.inputs) (⟨c.1,c.2⟩:Edge)))) else(
  some b)
def z15(N:Nat)(x:Sg)(m:Mach):Option Mach:=
 bd (
 dx N m N 0 ([]:List (List Edge))) fun b=>
 bd (
 pz N x m N 0 b) fun c=>
 bd (
 dm N x m N 0 c) fun a=>
 some (⟨m.inputs,m.outputs,a⟩:Mach)
def wy(N:Nat)(m:Mach)(n:(List Int)):Nat→(List Mach)→Int→Option (List Mach)
 |0,_,_=>none
 |e+1,d,b=>
  bif (decide (b<(↑n.length:Int)))&&(decide (b<12)) then(
  bd (
  gd (okI n b)<|
  bd (z1z N (⟨(ix n b)⟩:Sj) m) fun a=>
  bif a.2 then(
  bd (z0o N m (⟨a.1.fK,a.1.fB,a.1.fC,a.1.fG,a.1.fJ,a.1.fF⟩:Sb)) fun c=>
  gd (fits 40 d ([(⟨c.inputs,c.outputs,c.rows⟩:Mach)]:List Mach))<|
  some (d++([(⟨c.inputs,c.outputs,c.rows⟩:Mach)]:List Mach))) else(
  some d)) fun f=>
  gd (in64 (b+1))<|
  wy N m n e f (b+1)) else(
  some d)
def il(N:Nat)(m:Mach)(n:(List Int)):Option (List Mach):=
 bd (
 wy N m n N ([]:List Mach) 0) fun a=>
 some a
def uz(N:Nat)(s:(List Edge))(f:Edge→Option Bool):Nat→Int→Option (Ex (Unit) (Int))
 |0,_=>none
 |c+1,a=>
  bif decide (a<(↑s.length:Int)) then(
  gd (okI s a)<|
  bd (f (ix s a)) fun b=>
  bif b then(
  some (Ex.rt a)) else(
  gd (in64 (a+1))<|
  uz N s f c (a+1))) else(
  some (Ex.go ()))
def fq(N:Nat)(s:(List Edge))(f:Edge→Option Bool):Option Int:=
 bd (
 uz N s f N 0) fun a=>
 Ex.on a (fun b=>
 some (-1)) some
def af(N:Nat)(s:(List Edge))(f:Edge→Option Bool):Option Bool:=
 bd (fq N s f) fun a=>
 some (decide (0≤a))
def z4t(N:Nat):Option Edge:=
 some (⟨(-1),(-1)⟩:Edge)
def z9v(N:Nat)(m:Mach)(x:Edge):Option Bool:=
 bd (z4t N) fun a=>
 some ((decide (x.to=a.to∧x.out=a.out))||((((decide (0≤x.to))&&(decide (x.to<(↑m.rows.length:Int))))&&(decide (0≤x.out)))&&(decide (x.out<m.outputs))))
def z6z(N:Nat)(x:Edge)(p0_:Mach):Option Bool:=
 bd (z9v N p0_ x) fun a=>
 some (!a)
def ig(N:Nat)(m:Mach):Nat→Int→Option (Ex (Unit) (Int))
 |0,_=>none
 |b+1,a=>
  bif decide (a<(↑m.rows.length:Int)) then(
  gd (okI m.rows a)<|
  bd (gop (true&&((decide ((↑(ix m.rows a).length:Int)≠m.inputs))==false)) (af N (ix m.rows a) (fun d=>z6z N d m))) fun c=>
  bif (decide ((↑(ix m.rows a).length:Int)≠m.inputs))||(c.getD default) then(
  some (Ex.rt 1)) else(
  gd (in64 (a+1))<|
  ig N m b (a+1))) else(
  some (Ex.go ()))
def z1c(N:Nat)(m:Mach):Option Int:=
 bif ((decide (16<m.inputs))||(decide (16<m.outputs)))||(decide (64<(↑m.rows.length:Int))) then(
 some 3) else(
 bif ((decide (m.inputs<1))||(decide (m.outputs<1)))||(decide ((↑m.rows.length:Int)<1)) then(
 some 1) else(
 bd (
 ig N m N 0) fun a=>
 Ex.on a (fun b=>
 some 0) some))
def yu(N:Nat)(s:(List Int))(f:Int→Option Bool):Nat→Int→Option (Ex (Unit) (Int))
 |0,_=>none
 |c+1,a=>
  bif decide (a<(↑s.length:Int)) then(
  gd (okI s a)<|
  bd (f (ix s a)) fun b=>
  bif b then(
  some (Ex.rt a)) else(
  gd (in64 (a+1))<|
  yu N s f c (a+1))) else(
  some (Ex.go ()))
def z06(N:Nat)(s:(List Int))(f:Int→Option Bool):Option Int:=
 bd (
 yu N s f N 0) fun a=>
 Ex.on a (fun b=>
 some (-1)) some
def iq(N:Nat)(s:(List Int))(f:Int→Option Bool):Option Bool:=
 bd (z06 N s f) fun a=>
 some (decide (0≤a))
def z9p(N:Nat)(c:Int)(p0_:Int):Option Bool:=
 some ((decide (c<0))||(decide (p0_≤c)))
def z3d(N:Nat)(w_:(List Int))(inputs:Int):Option Int:=
 bif (decide (16<inputs))||(decide (256<(↑w_.length:Int))) then(
 some 3) else(
 bd (gop (true&&((decide (inputs<1))==false)) (iq N w_ (fun b=>z9p N b inputs))) fun a=>
 bif (decide (inputs<1))||(a.getD default) then(
 some 1) else(
 some 0))
def z0g(N:Nat)(l_:(List (List Int)))(inputs:Int):Nat→Int→Option (Ex (Unit) (Int))
 |0,_=>none
 |c+1,a=>
  bif decide (a<(↑l_.length:Int)) then(
  gd (okI l_ a)<|
  bd (z3d N (ix l_ a) inputs) fun b=>
  bif decide (b≠0) then(
  some (Ex.rt b)) else(
  gd (in64 (a+1))<|
  z0g N l_ inputs c (a+1))) else(
  some (Ex.go ()))
def z7o(N:Nat)(l_:(List (List Int)))(inputs:Int):Option Int:=
 bif (decide (16<inputs))||(decide (4096<(↑l_.length:Int))) then(
 some 3) else(
 bif decide (inputs<1) then(
 some 1) else(
 bd (
 z0g N l_ inputs N 0) fun a=>
 Ex.on a (fun b=>
 some 0) some))
def cmp_isNaN_int(N:Nat)(x:Int):Option Bool:=
 some (decide (x≠x))
def cmp_Compare_int(N:Nat)(x:Int)(y:Int):Option Int:=
 bd (cmp_isNaN_int N x) fun b=>
 bd (cmp_isNaN_int N y) fun a=>
 bif b then(
 bif a then(
 some 0) else(
 some (-1))) else(
 bif a then(
 some 1) else(
 bif decide (x<y) then(
 some (-1)) else(
 bif decide (y<x) then(
 some 1) else(
 some 0))))
def dw(N:Nat)(s1_:(List Int))(s2_:(List Int)):Nat→Int→Option (Ex (Unit) (Int))
 |0,_=>none
 |c+1,a=>
  bif decide (a<(↑s1_.length:Int)) then(
  gd (okI s1_ a)<|
  bif decide ((↑s2_.length:Int)≤a) then(
  some (Ex.rt 1)) else(
  gd (okI s2_ a)<|
  bd (cmp_Compare_int N (ix s1_ a) (ix s2_ a)) fun b=>
  bif decide (b≠0) then(
  some (Ex.rt b)) else(
  gd (in64 (a+1))<|
  dw N s1_ s2_ c (a+1)))) else(
  some (Ex.go ()))
def z2c(N:Nat)(s1_:(List Int))(s2_:(List Int)):Option Int:=
 bd (
 dw N s1_ s2_ N 0) fun a=>
 Ex.on a (fun b=>
 bif decide ((↑s1_.length:Int)<(↑s2_.length:Int)) then(
 some (-1)) else(
 some 0)) some
def lv(N:Nat)(vals:(List Int)):Nat→Int→Option (Ex (Unit) (Int))
 |0,_=>none
 |b+1,a=>
  bif decide (a<(↑vals.length:Int)) then(
  gd (okI vals a)<|
  bif decide ((ix vals a)≠0) then(
  some (Ex.rt (ix vals a))) else(
  gd (in64 (a+1))<|
  lv N vals b (a+1))) else(
  some (Ex.go ()))
def z8m(N:Nat)(vals:(List Int)):Option Int:=
 bd (
 lv N vals N 0) fun a=>
 Ex.on a (fun b=>
 some 0) some
def z4r(N:Nat)(a:(List Int))(b:(List Int)):Option Int:=
 bd (cmp_Compare_int N (↑a.length:Int) (↑b.length:Int)) fun d=>
 bd (z2c N a b) fun e=>
 bd (z8m N ([d,e]:List Int)) fun c=>
 some c
def z00(N:Nat)(l_:(List (List Int))):Nat→Int→Option (Ex (Unit) (Bool))
 |0,_=>none
 |c+1,a=>
  bif decide (a<(↑l_.length:Int)) then(
  gd (in64 (a-1))<|
  gd (okI l_ (a-1))<|
  gd (okI l_ a)<|
  bd (z4r N (ix l_ (a-1)) (ix l_ a)) fun b=>
  bif decide (0≤b) then(
  some (Ex.rt false)) else(
  gd (in64 (a+1))<|
  z00 N l_ c (a+1))) else(
  some (Ex.go ()))
def z7r(N:Nat)(l_:(List (List Int))):Option Bool:=
 bd (
 z00 N l_ N 1) fun a=>
 Ex.on a (fun b=>
 some true) some
def z0h(N:Nat)(l_:(List (List Int))):Nat→Int→Int→Option Int
 |0,_,_=>none
 |c+1,b,a=>
  bif decide (a<(↑l_.length:Int)) then(
  gd (okI l_ a)<|
  gd (in64 (b+(↑(ix l_ a).length:Int)))<|
  gd (in64 (a+1))<|
  z0h N l_ c (b+(↑(ix l_ a).length:Int)) (a+1)) else(
  some b)
def z7q(N:Nat)(l_:(List (List Int))):Option Int:=
 bd (
 z0h N l_ N 0 0) fun a=>
 some a
def z7p(N:Nat)(l_:(List (List Int)))(inputs:Int):Option Int:=
 bd (z7o N l_ inputs) fun b=>
 bif decide (b≠0) then(
 some b) else(
 bd (z7r N l_) fun c=>
 bif !c then(
 some 1) else(
 bd (z7q N l_) fun a=>
 bif decide (65536<a) then(
 some 3) else(
 some 0)))
def z4i(N:Nat)(m:Mach)(s:Int):Option Int:=
 bd (z1c N m) fun a=>
 bif decide (a≠0) then(
 some a) else(
 bif (decide (s<0))||(decide ((↑m.rows.length:Int)≤s)) then(
 some 1) else(
 some 0))
def z0r(N:Nat)(m:Mach)(w_:(List Int)):Nat→Int→Int→(List Int)→Option (Int×List Int)
 |0,_,_,_=>none
 |f+1,b,a,c=>
  bif decide (a<(↑w_.length:Int)) then(
  gd (okI w_ a)<|
  bd (z4t N) fun d=>
  bd (
  bif decide (b≠(-1)) then(
  gd (okI m.rows b)<|
  gd (okI (ix m.rows b) (ix w_ a))<|
  some ((ix (ix m.rows b) (ix w_ a)).to,(ix (ix m.rows b) (ix w_ a)).out)) else(
  some (d.to,d.out))) fun e=>
  gd (okI c a)<|
  gd (in64 (a+1))<|
  z0r N m w_ f e.1 (a+1) (up c a e.2)) else(
  some (b,c))
def z6e(N:Nat)(m:Mach)(s:Int)(w_:(List Int)):Option ((List Int)×Int):=
 gd (okM 8 (↑w_.length:Int))<|
 bd (
 z0r N m w_ N s 0 (mk (↑w_.length:Int) (0:Int))) fun a=>
 some (a.2,a.1)
def z3i(N:Nat)(m:Mach)(s:Int)(w_:(List Int)):Option ((List Int)×Int):=
 bd (z4i N m s) fun c=>
 bif decide (c≠0) then(
 some (([]:(List Int)),c)) else(
 bd (z3d N w_ m.inputs) fun a=>
 bif decide (a≠0) then(
 some (([]:(List Int)),a)) else(
 bd (z6e N m s w_) fun b=>
 some (b.1,0)))
def ai(N:Nat)(b:(List Int)×Int)(c:(List Int)×Int):Nat→Int→Option (Ex (Unit) (Int))
 |0,_=>none
 |d+1,a=>
  bif decide (a<(↑b.1.length:Int)) then(
  gd (okI b.1 a)<|
  gd (okI c.1 a)<|
  bif decide ((ix b.1 a)≠(ix c.1 a)) then(
  some (Ex.rt a)) else(
  gd (in64 (a+1))<|
  ai N b c d (a+1))) else(
  some (Ex.go ()))
def z4q(N:Nat)(m:Mach)(other:Mach)(w_:(List Int)):Option Int:=
 bd (z3i N m 0 w_) fun a=>
 bd (z3i N other 0 w_) fun b=>
 bd (
 ai N a b N 0) fun c=>
 Ex.on c (fun d=>
 some (-1)) some
def rq(N:Nat)(m:Mach)(mutants:(List Mach)):Nat→Int→Option (Ex (Unit) (Sa×Int))
 |0,_=>none
 |c+1,a=>
  bif decide (a<(↑mutants.length:Int)) then(
  gd (okI mutants a)<|
  bd (z1c N (⟨(ix mutants a).inputs,(ix mutants a).outputs,(ix mutants a).rows⟩:Mach)) fun b=>
  bif decide (b≠0) then(
  some (Ex.rt ((⟨[]⟩:Sa),b))) else(
  bif decide (((ix mutants a).inputs)≠m.inputs) then(
  some (Ex.rt ((⟨[]⟩:Sa),5))) else(
  gd (in64 (a+1))<|
  rq N m mutants c (a+1)))) else(
  some (Ex.go ()))
def r9(N:Nat)(m:Mach)(mutants:(List Mach))(l_:(List (List Int)))(b:Int):Nat→Int→(List (List Int))→Option (List (List Int))
 |0,_,_=>none
 |d+1,a,c=>
  bif decide (a<(↑l_.length:Int)) then(
  gd (okI l_ a)<|
  gd (okI c b)<|
  bd (z4q N m (⟨(ix mutants b).inputs,(ix mutants b).outputs,(ix mutants b).rows⟩:Mach) (ix l_ a)) fun e=>
  gd (okI (ix c b) a)<|
  gd (in64 (a+1))<|
  r9 N m mutants l_ b d (a+1) (up c b (up (ix c b) a e))) else(
  some c)
def sj(N:Nat)(m:Mach)(mutants:(List Mach))(l_:(List (List Int))):Nat→Int→(List (List Int))→Option (List (List Int))
 |0,_,_=>none
 |c+1,a,b=>
  bif decide (a<(↑mutants.length:Int)) then(
  bd (
  gd (okI mutants a)<|
  gd (okM 8 (↑l_.length:Int))<|
  gd (okI b a)<|
  r9 N m mutants l_ a N 0 (up b a (mk (↑l_.length:Int) (0:Int)))) fun d=>
  gd (in64 (a+1))<|
  sj N m mutants l_ c (a+1) d) else(
  some b)
def z2s(N:Nat)(m:Mach)(mutants:(List Mach))(l_:(List (List Int))):Option (Sa×Int):=
 bd (z1c N m) fun d=>
 bif decide (d≠0) then(
 some ((⟨[]⟩:Sa),d)) else(
 bif decide (4096<(↑mutants.length:Int)) then(
 some ((⟨[]⟩:Sa),3)) else(
 bd (
 rq N m mutants N 0) fun b=>
 Ex.on b (fun e=>
 bd (z7p N l_ m.inputs) fun a=>
 bif decide (a≠0) then(
 some ((⟨[]⟩:Sa),a)) else(
 gd (in64 ((↑mutants.length:Int)*(↑l_.length:Int)))<|
 bif decide (262144<((↑mutants.length:Int)*(↑l_.length:Int))) then(
 some ((⟨[]⟩:Sa),3)) else(
 gd (okM 24 (↑mutants.length:Int))<|
 bd (
 sj N m mutants l_ N 0 (mk (↑mutants.length:Int) ([]:List Int))) fun c=>
 some ((⟨c⟩:Sa),0)))) some))
def z2e(N:Nat)(m:Mach)(s:Int)(i:Int):Option Edge:=
 bif decide (s<0) then(
 some (⟨(-1),(-1)⟩:Edge)) else(
 gd (okI m.rows s)<|
 gd (okI (ix m.rows s) i)<|
 some (⟨(ix (ix m.rows s) i).to,(ix (ix m.rows s) i).out⟩:Edge))
def oq(N:Nat)(m:Mach)(w_:(List Int)):Nat→Int→(List Int)→Int→Option (List Int)
 |0,_,_,_=>none
 |d+1,e,b,a=>
  bif decide (a<(↑w_.length:Int)) then(
  gd (okI w_ a)<|
  bd (z2e N m e (ix w_ a)) fun c=>
  gd (fits 8 b ([c.out]:List Int))<|
  gd (in64 (a+1))<|
  oq N m w_ d c.to (b++([c.out]:List Int)) (a+1)) else(
  some b)
def z1f(N:Nat)(m:Mach)(s:Int)(w_:(List Int)):Option (List Int):=
 bd (
 oq N m w_ N s ([]:List Int) 0) fun a=>
 some a
def xc(N:Nat)(b:(List Int))(c:(List Int)):Nat→Int→Option (Ex (Unit) (Int))
 |0,_=>none
 |d+1,a=>
  bif decide (a<(↑b.length:Int)) then(
  gd (okI b a)<|
  gd (okI c a)<|
  bif decide ((ix b a)≠(ix c a)) then(
  some (Ex.rt a)) else(
  gd (in64 (a+1))<|
  xc N b c d (a+1))) else(
  some (Ex.go ()))
def z1y(N:Nat)(m:Mach)(other:Mach)(w_:(List Int)):Option Int:=
 bd (z1f N m 0 w_) fun a=>
 bd (z1f N other 0 w_) fun b=>
 bd (
 xc N a b N 0) fun c=>
 Ex.on c (fun d=>
 some (-1)) some
def dz(N:Nat)(m:Mach)(mutants:(List Mach))(l_:(List (List Int)))(b:Int):Nat→Int→(List Int)→Option (List Int)
 |0,_,_=>none
 |e+1,a,c=>
  bif decide (a<(↑l_.length:Int)) then(
  gd (okI mutants b)<|
  gd (okI l_ a)<|
  bd (z1y N m (ix mutants b) (ix l_ a)) fun d=>
  gd (fits 8 c ([d]:List Int))<|
  gd (in64 (a+1))<|
  dz N m mutants l_ b e (a+1) (c++([d]:List Int))) else(
  some c)
def pu(N:Nat)(m:Mach)(mutants:(List Mach))(l_:(List (List Int))):Nat→Int→(List (List Int))→Option (List (List Int))
 |0,_,_=>none
 |d+1,a,b=>
  bif decide (a<(↑mutants.length:Int)) then(
  bd (
  dz N m mutants l_ a N 0 ([]:List Int)) fun c=>
  gd (fits 24 b ([c]:List (List Int)))<|
  gd (in64 (a+1))<|
  pu N m mutants l_ d (a+1) (b++([c]:List (List Int)))) else(
  some b)
def z13(N:Nat)(m:Mach)(mutants:(List Mach))(l_:(List (List Int))):Option Sa:=
 bd (
 pu N m mutants l_ N 0 ([]:List (List Int))) fun a=>
 some (⟨a⟩:Sa)
def dh(N:Nat)(a:(List (List Int)))(b:(List (List Int))):Nat→Int→Option (Ex (Unit) (Bool))
 |0,_=>none
 |e+1,c=>
  bif decide (c<(↑a.length:Int)) then(
  gd (okI a c)<|
  gd (okI b c)<|
  bd (ak N (ix a c) (ix b c)) fun d=>
  bif decide (d≠0) then(
  some (Ex.rt false)) else(
  gd (in64 (c+1))<|
  dh N a b e (c+1))) else(
  some (Ex.go ()))
def z10(N:Nat)(a:(List (List Int)))(b:(List (List Int))):Option Bool:=
 bif decide ((↑a.length:Int)≠(↑b.length:Int)) then(
 some false) else(
 bd (
 dh N a b N 0) fun c=>
 Ex.on c (fun d=>
 some true) some)
def iy(N:Nat)(a:Sa)(b:Sa):Option Bool:=
 bd (z10 N a.fE b.fE) fun c=>
 some c
def ww(N:Nat)(x:Sa):Nat→Int→Int→Option Int
 |0,_,_=>none
 |c+1,b,a=>
  bif decide (a<(↑x.fE.length:Int)) then(
  gd (okI x.fE a)<|
  gd (in64 (a+1))<|
  ww N x c (max b (↑(ix x.fE a).length:Int)) (a+1)) else(
  some b)
def yz(N:Nat)(x:Sa):Option Int:=
 bd (
 ww N x N 0 0) fun a=>
 some a
def ay(N:Nat)(x:Sa):Nat→Int→Int→Option Int
 |0,_,_=>none
 |c+1,b,a=>
  bif decide (a<(↑x.fE.length:Int)) then(
  gd (okI x.fE a)<|
  ay N x c (IntKind.i64.wrap (b+(↑(ix x.fE a).length:Int))) (IntKind.i64.wrap (a+1))) else(
  some b)
def ol(N:Nat)(x:Sa)(a:Int):Nat→Int→Option (Ex (Unit) (Ex (Unit) (Int)))
 |0,_=>none
 |c+1,b=>
  bif decide (b<(↑(ix x.fE a).length:Int)) then(
  bd (
  gd (okI (ix x.fE a) b)<|
  bd (
  bif decide ((ix (ix x.fE a) b)<(-1)) then(
  some (Ex.go ())) else(
  bif decide (256≤(ix (ix x.fE a) b)) then(
  some (Ex.go ())) else(
  some (Ex.rt (Ex.go ()))))) fun d=>
  Ex.on d (fun f=>
  some (Ex.rt (Ex.rt (Ex.rt 1)))) some) fun e=>
  Ex.on e (fun g=>
  ol N x a c (IntKind.i64.wrap (b+1))) some) else(
  some (Ex.go ()))
def om(N:Nat)(x:Sa)(d:Int):Nat→Int→Option (Ex (Unit) (Int))
 |0,_=>none
 |b+1,a=>
  bif decide (a<(↑x.fE.length:Int)) then(
  bd (
  gd (okI x.fE a)<|
  bif decide ((↑(ix x.fE a).length:Int)≠d) then(
  some (Ex.rt (Ex.rt 1))) else(
  ol N x a N 0)) fun c=>
  Ex.on c (fun e=>
  om N x d b (IntKind.i64.wrap (a+1))) some) else(
  some (Ex.go ()))
def ae(N:Nat)(x:Sa):Option Int:=
 bd (yz N x) fun c=>
 bd (
 ay N x N 0 0) fun a=>
 bif ((decide (4096<(↑x.fE.length:Int)))||(decide (4096<c)))||(decide (262144<a)) then(
 some 3) else(
 bd (
 om N x c N 0) fun b=>
 Ex.on b (fun d=>
 some 0) some)
def aj(N:Nat)(x:Sa)(row:Int)(column:Int):Option Bool:=
 gd (okI x.fE row)<|
 gd (okI (ix x.fE row) column)<|
 some (decide ((ix (ix x.fE row) column)≠(-1)))
def wz(N:Nat)(x:Sa)(row:Int):Nat→(List Int)→Int→Option (List Int)
 |0,_,_=>none
 |c+1,b,a=>
  bif decide (a<(↑(ix x.fE row).length:Int)) then(
  bd (
  bd (aj N x row a) fun d=>
  bif d then(
  gd (fits 8 b ([a]:List Int))<|
  some (b++([a]:List Int))) else(
  some b)) fun e=>
  gd (in64 (a+1))<|
  wz N x row c e (a+1)) else(
  some b)
def yg(N:Nat)(x:Sa)(row:Int):Option (List Int):=
 bd (
 gd (okI x.fE row)<|
 wz N x row N ([]:List Int) 0) fun a=>
 some a
def oz(N:Nat)(x:Sa):Nat→Int→(List Bool)→Option (List Bool)
 |0,_,_=>none
 |c+1,a,b=>
  bif decide (a<(↑(mk (↑x.fE.length:Int) false).length:Int)) then(
  bd (yg N x a) fun d=>
  gd (okI b a)<|
  gd (in64 (a+1))<|
  oz N x c (a+1) (up b a (decide (0<(↑d.length:Int))))) else(
  some b)
def z1i(N:Nat)(x:Sa):Option ((List Bool)×Int):=
 bd (ae N x) fun b=>
 bif decide (b≠0) then(
 some (([]:(List Bool)),b)) else(
 gd (okM 1 (↑x.fE.length:Int))<|
 bd (
 oz N x N 0 (mk (↑x.fE.length:Int) false)) fun a=>
 some (a,0))
def z1n(N:Nat)(x:Sa)(row:Int)(column:Int):Option Bool:=
 gd (okI x.fE row)<|
 gd (okI (ix x.fE row) column)<|
 some (decide (0≤(ix (ix x.fE row) column)))
def yh(N:Nat)(x:Sa)(row:Int):Nat→Int→Option (Ex (Unit) (Bool))
 |0,_=>none
 |b+1,a=>
  gd (okI x.fE row)<|
  bif decide (a<(↑(ix x.fE row).length:Int)) then(
  bd (z1n N x row a) fun c=>
  bif c then(
  some (Ex.rt true)) else(
  gd (in64 (a+1))<|
  yh N x row b (a+1))) else(
  some (Ex.go ()))
def z1b(N:Nat)(x:Sa)(row:Int):Option Bool:=
 bd (
 yh N x row N 0) fun a=>
 Ex.on a (fun b=>
 some false) some
def z05(N:Nat)(x:Sa)(is:Int→Option Bool):Nat→(List Int)→Int→Option (List Int)
 |0,_,_=>none
 |c+1,b,a=>
  bif decide (a<(↑x.fE.length:Int)) then(
  bd (
  bd (is a) fun d=>
  bif d then(
  gd (fits 8 b ([a]:List Int))<|
  some (b++([a]:List Int))) else(
  some b)) fun e=>
  gd (in64 (a+1))<|
  z05 N x is c e (a+1)) else(
  some b)
def z1e(N:Nat)(x:Sa)(is:Int→Option Bool):Option (List Int):=
 bd (
 z05 N x is N ([]:List Int) 0) fun a=>
 some a
def fw(N:Nat)(b:(List Int)):Nat→Int→(List Int)→Option (List Int)
 |0,_,_=>none
 |d+1,a,c=>
  bif decide (a<(↑b.length:Int)) then(
  gd (okI b a)<|
  gd (okI c (ix b a))<|
  gd (in64 ((ix c (ix b a))+1))<|
  gd (okI c (ix b a))<|
  gd (in64 (a+1))<|
  fw N b d (a+1) (up c (ix b a) ((ix c (ix b a))+1))) else(
  some c)
def rz(N:Nat)(x:Sa)(rows:(List Int)):Nat→Int→(List Int)→Option (List Int)
 |0,_,_=>none
 |c+1,a,b=>
  bif decide (a<(↑rows.length:Int)) then(
  bd (
  gd (okI rows a)<|
  bd (yg N x (ix rows a)) fun d=>
  fw N d N 0 b) fun e=>
  gd (in64 (a+1))<|
  rz N x rows c (a+1) e) else(
  some b)
def z3g(N:Nat)(x:Sa)(rows:(List Int)):Option (List Int):=
 bd (yz N x) fun b=>
 gd (okM 8 b)<|
 bd (
 rz N x rows N 0 (mk b (0:Int))) fun a=>
 some a
def ry(N:Nat)(x:Sa)(row:Int):Option Bool:=
 bd (yg N x row) fun a=>
 some (decide (0<(↑a.length:Int)))
def z7y(N:Nat)(x:Sa):Option ((List Int)×Int):=
 bd (ae N x) fun c=>
 bif decide (c≠0) then(
 some (([]:(List Int)),c)) else(
 bd (z1e N x (fun d=>ry N x d)) fun a=>
 bd (z3g N x a) fun b=>
 some (b,0))
def slices_Sort_int(N:Nat)(x:List Int):Option (List Int):=
 gd (x.length<4611686018427387904) (some (z5n x))
def z0w(N:Nat)(s:List Int)(a:Int):Nat→Int→Int→(List Int)→Option (Int×List Int)
 |0,_,_,_=>none
 |f+1,d,b,c=>
  bif decide (b<(↑(s.length-a.toNat:Nat):Int)) then(
  bd (
  gd (okA c a (s.length-a.toNat) b)<|
  gd (in64 (b-1))<|
  gd (okA c a (s.length-a.toNat) (b-1))<|
  bif decide ((ix c (a+b))≠(ix c (a+(b-1)))) then(
  gd (okA c a (s.length-a.toNat) b)<|
  gd (okI c d)<|
  gd (in64 (d+1))<|
  some (d+1,(up c d (ix c (a+b))))) else(
  some (d,c))) fun e=>
  gd (in64 (b+1))<|
  z0w N s a f e.1 (b+1) e.2) else(
  some (d,c))
def z0v(N:Nat)(s:List Int):Nat→Int→Option (Ex (Unit) ((List Int)))
 |0,_=>none
 |c+1,b=>
  bif decide (b<(↑s.length:Int)) then(
  gd (okI s b)<|
  gd (in64 (b-1))<|
  gd (okI s (b-1))<|
  bif decide ((ix s b)=(ix s (b-1))) then(
  gd (okS s b (↑s.length:Int))<|
  bd (
  z0w N s b N b 1 s) fun a=>
  gd (okS a.2 a.1 (↑a.2.length:Int))<|
  gd (okS (z9a a.2 a.1.toNat (List.replicate (a.2.length-a.1.toNat) (0:Int))) 0 a.1)<|
  some (Ex.rt (cut (z9a a.2 a.1.toNat (List.replicate (a.2.length-a.1.toNat) (0:Int))) 0 a.1))) else(
  gd (in64 (b+1))<|
  z0v N s c (b+1))) else(
  some (Ex.go ()))
def slices_Compact_int(N:Nat)(s:List Int):Option (List Int):=
 bif decide ((↑s.length:Int)<2) then(
 some s) else(
 bd (
 z0v N s N 1) fun a=>
 Ex.on a (fun b=>
 some s) some)
def z4x(N:Nat)(s:(List Int)):Option (List Int):=
 gd (okS s 0 (↑s.length:Int))<|
 some (cut s 0 (↑s.length:Int))
def z0u(N:Nat)(x:Sa):Nat→(List Int)→Int→Option (List Int)
 |0,_,_=>none
 |d+1,a,b=>
  bif decide (b<(↑x.fE.length:Int)) then(
  bd (
  bd (yg N x b) fun c=>
  bif decide ((↑c.length:Int)=1) then(
  gd (okI c 0)<|
  gd (fits 8 a ([(ix c 0)]:List Int))<|
  some (a++([(ix c 0)]:List Int))) else(
  some a)) fun e=>
  gd (in64 (b+1))<|
  z0u N x d e (b+1)) else(
  some a)
def z3k(N:Nat)(x:Sa):Option ((List Int)×Int):=
 bd (ae N x) fun e=>
 bif decide (e≠0) then(
 some (([]:(List Int)),e)) else(
 bd (
 z0u N x N ([]:List Int) 0) fun a=>
 bd (slices_Sort_int N a) fun b=>
 bd (slices_Compact_int N b) fun c=>
 bd (z4x N c) fun d=>
 some (d,0))
def z7t(N:Nat)(x:Int):Option Int:=
 bd (
 bif decide (4294967296≤x) then(
 gd (okSh .u64 (32:Int))<|
 some (z5p x (32:Int),32)) else(
 some (x,0))) fun b=>
 bd (
 bif decide (65536≤b.1) then(
 gd (okSh .u64 (16:Int))<|
 gd (in64 (b.2+16))<|
 some (z5p b.1 (16:Int),b.2+16)) else(
 some (b.1,b.2))) fun c=>
 bd (
 bif decide (256≤c.1) then(
 gd (okSh .u64 (8:Int))<|
 gd (in64 (c.2+8))<|
 some (z5p c.1 (8:Int),c.2+8)) else(
 some (c.1,c.2))) fun a=>
 gd (okI zf9 (IntKind.u8.wrap a.1))<|
 gd (in64 (ix zf9 (IntKind.u8.wrap a.1)))<|
 gd (in64 (a.2+(ix zf9 (IntKind.u8.wrap a.1))))<|
 some (a.2+(ix zf9 (IntKind.u8.wrap a.1)))
def z7c(N:Nat)(x:Int):Option Int:=
 bd (z7t N x) fun a=>
 some a
def z6c(N:Nat)(x:Int):Option Bool:=
 some (decide (x≠x))
def ni(N:Nat)(x:Int)(y:Int):Option Bool:=
 bd (z6c N x) fun b=>
 bd (gop (true&&(b==true)) (z6c N y)) fun a=>
 some ((b&&(!(a.getD default)))||(decide (x<y)))
def bi(N:Nat)(a:Int):Nat→Int→(List Int)→Option (List Int)
 |0,_,_=>none
 |d+1,b,c=>
  gd ((true&&((decide (a<b))==true))=true→okI c b)<|
  gd ((true&&((decide (a<b))==true))=true→in64 (b-1))<|
  gd ((true&&((decide (a<b))==true))=true→okI c (b-1))<|
  bd (gop (true&&((decide (a<b))==true)) (ni N (ix c b) (ix c (b-1)))) fun e=>
  bif (decide (a<b))&&(e.getD default) then(
  gd (in64 (b-1))<|
  gd (in64 (b-1))<|
  gd (okI c (b-1))<|
  gd (okI c b)<|
  gd (okI c b)<|
  gd (okI c (b-1))<|
  gd (in64 (b-1))<|
  bi N a d (b-1) (up (up c b (ix c (b-1))) (b-1) (ix c b))) else(
  some c)
def bf(N:Nat)(a:Int)(b:Int):Nat→Int→(List Int)→Option (List Int)
 |0,_,_=>none
 |f+1,c,e=>
  bif decide (c<b) then(
  bd (
  bi N a N c e) fun d=>
  gd (in64 (c+1))<|
  bf N a b f (c+1) d) else(
  some e)
def z0k(N:Nat)(data:List Int)(a:Int)(b:Int):Option (List Int):=
 gd (in64 (a+1))<|
 bf N a b N (a+1) data
def o5(N:Nat)(hi:Int)(first:Int):Nat→Int→(List Int)→Option (List Int)
 |0,_,_=>none
 |f+1,a,c=>
  gd (in64 ((2:Int)*a))<|
  gd (in64 (((2:Int)*a)+1))<|
  bif decide (hi≤(((2:Int)*a)+1)) then(
  some c) else(
  bd (
  gd (in64 ((((2:Int)*a)+1)+1))<|
  gd ((true&&((decide (((((2:Int)*a)+1)+1)<hi))==true))=true→in64 (first+(((2:Int)*a)+1)))<|
  gd ((true&&((decide (((((2:Int)*a)+1)+1)<hi))==true))=true→okI c (first+(((2:Int)*a)+1)))<|
  gd ((true&&((decide (((((2:Int)*a)+1)+1)<hi))==true))=true→in64 (first+(((2:Int)*a)+1)))<|
  gd ((true&&((decide (((((2:Int)*a)+1)+1)<hi))==true))=true→in64 ((first+(((2:Int)*a)+1))+1))<|
  gd ((true&&((decide (((((2:Int)*a)+1)+1)<hi))==true))=true→okI c ((first+(((2:Int)*a)+1))+1))<|
  bd (gop (true&&((decide (((((2:Int)*a)+1)+1)<hi))==true)) (ni N (ix c (first+(((2:Int)*a)+1))) (ix c ((first+(((2:Int)*a)+1))+1)))) fun d=>
  bif (decide (((((2:Int)*a)+1)+1)<hi))&&(d.getD default) then(
  gd (in64 ((((2:Int)*a)+1)+1))<|
  some ((((2:Int)*a)+1)+1)) else(
  some (((2:Int)*a)+1))) fun b=>
  gd (in64 (first+a))<|
  gd (okI c (first+a))<|
  gd (in64 (first+b))<|
  gd (okI c (first+b))<|
  bd (ni N (ix c (first+a)) (ix c (first+b))) fun e=>
  bif !e then(
  some c) else(
  gd (in64 (first+a))<|
  gd (in64 (first+b))<|
  gd (in64 (first+b))<|
  gd (okI c (first+b))<|
  gd (in64 (first+a))<|
  gd (okI c (first+a))<|
  gd (okI c (first+a))<|
  gd (okI c (first+b))<|
  o5 N hi first f b (up (up c (first+a) (ix c (first+b))) (first+b) (ix c (first+a)))))
def z09(N:Nat)(data:List Int)(lo:Int)(hi:Int)(first:Int):Option (List Int):=
 o5 N hi first N lo data
def oh(N:Nat)(a:Int)(b:Int):Nat→Int→(List Int)→Option (List Int)
 |0,_,_=>none
 |f+1,c,d=>
  bif decide (0≤c) then(
  bd (z09 N d c (b-a) a) fun e=>
  gd (in64 (c-1))<|
  oh N a b f (c-1) e) else(
  some d)
def og(N:Nat)(a:Int):Nat→Int→(List Int)→Option (List Int)
 |0,_,_=>none
 |d+1,b,c=>
  bif decide (0≤b) then(
  gd (in64 (a+b))<|
  gd (in64 (a+b))<|
  gd (okI c (a+b))<|
  gd (okI c a)<|
  gd (okI c a)<|
  gd (okI c (a+b))<|
  bd (z09 N (up (up c a (ix c (a+b))) (a+b) (ix c a)) 0 b a) fun e=>
  gd (in64 (b-1))<|
  og N a d (b-1) e) else(
  some c)
def z1r(N:Nat)(data:List Int)(a:Int)(b:Int):Option (List Int):=
 gd (in64 (b-a))<|
 bd (
 gd (in64 ((b-a)-1))<|
 gd (okQ ((b-a)-1) 2)<|
 oh N a b N (((b-a)-1)/2) data) fun c=>
 gd (in64 ((b-a)-1))<|
 og N a N ((b-a)-1) c
def z3u(N:Nat)(length:Int):Option Int:=
 bd (z7c N (IntKind.u64.wrap length)) fun a=>
 gd (okSh .u64 a)<|
 some (z0a .u64 (1:Int) a)
def z4e(N:Nat)(r_:Int):Option (Int×Int):=
 gd (okSh .u64 (13:Int))<|
 gd (okB .u64 r_ (z0a .u64 r_ (13:Int)))<|
 gd (okSh .u64 (7:Int))<|
 gd (okB .u64 (z04 r_ (z0a .u64 r_ (13:Int))) (z5p (z04 r_ (z0a .u64 r_ (13:Int))) (7:Int)))<|
 gd (okSh .u64 (17:Int))<|
 gd (okB .u64 (z04 (z04 r_ (z0a .u64 r_ (13:Int))) (z5p (z04 r_ (z0a .u64 r_ (13:Int))) (7:Int))) (z0a .u64 (z04 (z04 r_ (z0a .u64 r_ (13:Int))) (z5p (z04 r_ (z0a .u64 r_ (13:Int))) (7:Int))) (17:Int)))<|
 some ((z04 (z04 (z04 r_ (z0a .u64 r_ (13:Int))) (z5p (z04 r_ (z0a .u64 r_ (13:Int))) (7:Int))) (z0a .u64 (z04 (z04 r_ (z0a .u64 r_ (13:Int))) (z5p (z04 r_ (z0a .u64 r_ (13:Int))) (7:Int))) (17:Int))),(z04 (z04 (z04 r_ (z0a .u64 r_ (13:Int))) (z5p (z04 r_ (z0a .u64 r_ (13:Int))) (7:Int))) (z0a .u64 (z04 (z04 r_ (z0a .u64 r_ (13:Int))) (z5p (z04 r_ (z0a .u64 r_ (13:Int))) (7:Int))) (17:Int))))
def gz(N:Nat)(a:Int)(b:Int)(g:Int):Nat→Int→(List Int)→Int→Option (List Int)
 |0,_,_,_=>none
 |h+1,d,c,i=>
  gd (okQ (b-a) 4)<|
  gd (in64 (((b-a)/4)*2))<|
  gd (in64 (a+(((b-a)/4)*2)))<|
  gd (in64 ((a+(((b-a)/4)*2))+1))<|
  bif decide (d≤((a+(((b-a)/4)*2))+1)) then(
  bd (z4e N i) fun e=>
  gd (okB .u64 e.1 (IntKind.u64.wrap (g-1)))<|
  gd (in64 (zcm e.1 (IntKind.u64.wrap (g-1))))<|
  bd (
  bif decide ((b-a)≤(zcm e.1 (IntKind.u64.wrap (g-1)))) then(
  gd (in64 ((zcm e.1 (IntKind.u64.wrap (g-1)))-(b-a)))<|
  some ((zcm e.1 (IntKind.u64.wrap (g-1)))-(b-a))) else(
  some (zcm e.1 (IntKind.u64.wrap (g-1))))) fun f=>
  gd (in64 (a+f))<|
  gd (in64 (a+f))<|
  gd (okI c (a+f))<|
  gd (okI c d)<|
  gd (okI c d)<|
  gd (okI c (a+f))<|
  gd (in64 (d+1))<|
  gz N a b g h (d+1) (up (up c d (ix c (a+f))) (a+f) (ix c d)) e.2) else(
  some c)
def z0e(N:Nat)(data:List Int)(a:Int)(b:Int):Option (List Int):=
 gd (in64 (b-a))<|
 bif decide (8≤(b-a)) then(
 bd (z3u N (b-a)) fun c=>
 gd (okQ (b-a) 4)<|
 gd (in64 (((b-a)/4)*2))<|
 gd (in64 (a+(((b-a)/4)*2)))<|
 gd (in64 ((a+(((b-a)/4)*2))-1))<|
 gz N a b c N ((a+(((b-a)/4)*2))-1) data (IntKind.u64.wrap (b-a))) else(
 some data)
def fo(N:Nat)(data:(List Int))(a:Int)(b:Int)(swaps:Int):Option (Int×Int×Int):=
 gd (okI data b)<|
 gd (okI data a)<|
 bd (ni N (ix data b) (ix data a)) fun c=>
 bif c then(
 gd (in64 (swaps+1))<|
 some (b,a,(swaps+1))) else(
 some (a,b,swaps))
def z0t(N:Nat)(data:(List Int))(a:Int)(b:Int)(c:Int)(swaps:Int):Option (Int×Int):=
 bd (fo N data a b swaps) fun e=>
 bd (fo N data e.2.1 c e.2.2) fun f=>
 bd (fo N data e.1 f.1 f.2.2) fun d=>
 some (d.2.1,d.2.2)
def nk(N:Nat)(data:(List Int))(a:Int)(swaps:Int):Option (Int×Int):=
 gd (in64 (a-1))<|
 gd (in64 (a+1))<|
 bd (z0t N data (a-1) a (a+1) swaps) fun b=>
 some (b.1,b.2)
def z0x(N:Nat)(data:(List Int))(a:Int)(b:Int):Option (Int×Int):=
 gd (in64 (b-a))<|
 gd (okQ (b-a) 4)<|
 gd (in64 (((b-a)/4)*1))<|
 gd (in64 (a+(((b-a)/4)*1)))<|
 gd (okQ (b-a) 4)<|
 gd (in64 (((b-a)/4)*2))<|
 gd (in64 (a+(((b-a)/4)*2)))<|
 gd (okQ (b-a) 4)<|
 gd (in64 (((b-a)/4)*3))<|
 gd (in64 (a+(((b-a)/4)*3)))<|
 bd (
 bif decide (8≤(b-a)) then(
 bd (
 bif decide (50≤(b-a)) then(
 bd (nk N data (a+(((b-a)/4)*1)) 0) fun e=>
 bd (nk N data (a+(((b-a)/4)*2)) e.2) fun f=>
 bd (nk N data (a+(((b-a)/4)*3)) f.2) fun g=>
 some (e.1,f.1,g.1,g.2)) else(
 some (a+(((b-a)/4)*1),a+(((b-a)/4)*2),a+(((b-a)/4)*3),0))) fun d=>
 bd (z0t N data d.1 d.2.1 d.2.2.1 d.2.2.2) fun h=>
 some (h.1,h.2)) else(
 some (a+(((b-a)/4)*2),0))) fun c=>
 bif decide (c.2=0) then(
 some (c.1,1)) else(
 bif decide (c.2=12) then(
 some (c.1,2)) else(
 some (c.1,0)))
def p9(N:Nat):Nat→Int→Int→(List Int)→Option (List Int)
 |0,_,_,_=>none
 |d+1,b,c,a=>
  bif decide (b<c) then(
  gd (okI a c)<|
  gd (okI a b)<|
  gd (okI a b)<|
  gd (okI a c)<|
  gd (in64 (b+1))<|
  gd (in64 (c-1))<|
  p9 N d (b+1) (c-1) (up (up a b (ix a c)) c (ix a b))) else(
  some a)
def z0s(N:Nat)(data:List Int)(a:Int)(b:Int):Option (List Int):=
 gd (in64 (b-1))<|
 p9 N N a (b-1) data
def vg(N:Nat)(b:Int)(c:List Int):Nat→Int→Option Int
 |0,_=>none
 |d+1,a=>
  gd ((true&&((decide (a<b))==true))=true→okI c a)<|
  gd ((true&&((decide (a<b))==true))=true→in64 (a-1))<|
  gd ((true&&((decide (a<b))==true))=true→okI c (a-1))<|
  bd (gop (true&&((decide (a<b))==true)) (ni N (ix c a) (ix c (a-1)))) fun e=>
  bif (decide (a<b))&&(!(e.getD default)) then(
  gd (in64 (a+1))<|
  vg N b c d (a+1)) else(
  some a)
def vk(N:Nat):Nat→Int→(List Int)→Option (List Int)
 |0,_,_=>none
 |c+1,a,b=>
  bif decide (1≤a) then(
  gd (okI b a)<|
  gd (in64 (a-1))<|
  gd (okI b (a-1))<|
  bd (ni N (ix b a) (ix b (a-1))) fun d=>
  bif !d then(
  some b) else(
  gd (in64 (a-1))<|
  gd (in64 (a-1))<|
  gd (okI b (a-1))<|
  gd (okI b a)<|
  gd (okI b a)<|
  gd (okI b (a-1))<|
  gd (in64 (a-1))<|
  vk N c (a-1) (up (up b a (ix b (a-1))) (a-1) (ix b a)))) else(
  some b)
def vo(N:Nat)(b:Int)(d:Int):Nat→Int→(List Int)→Option (Ex (Int×List Int) (Ex (List Int) (Bool×List Int)))
 |0,_,_=>none
 |e+1,a,c=>
  bif decide (a<b) then(
  gd (okI c a)<|
  gd (in64 (a-1))<|
  gd (okI c (a-1))<|
  bd (ni N (ix c a) (ix c (a-1))) fun f=>
  bif !f then(
  some (Ex.go (d,c))) else(
  gd (in64 (a-1))<|
  gd (in64 (a-1))<|
  gd (okI c (a-1))<|
  gd (okI c a)<|
  gd (okI c a)<|
  gd (okI c (a-1))<|
  gd (in64 (a+1))<|
  vo N b d e (a+1) (up (up c a (ix c (a-1))) (a-1) (ix c a)))) else(
  some (Ex.go (d,c)))
def vw(N:Nat)(a:Int)(b:Int):Nat→Int→Int→(List Int)→Option (Ex (List Int) (Bool×List Int))
 |0,_,_,_=>none
 |i+1,j,f,d=>
  bif decide (f<5) then(
  bd (
  bd (
  vg N b d N j) fun c=>
  bif decide (c=b) then(
  some (Ex.rt (Ex.rt (true,d)))) else(
  gd (in64 (b-a))<|
  bif decide ((b-a)<50) then(
  some (Ex.rt (Ex.rt (false,d)))) else(
  gd (in64 (c-1))<|
  gd (in64 (c-1))<|
  gd (okI d (c-1))<|
  gd (okI d c)<|
  gd (okI d c)<|
  gd (okI d (c-1))<|
  bd (
  gd (in64 (c-a))<|
  bif decide (2≤(c-a)) then(
  gd (in64 (c-1))<|
  vk N N (c-1) (up (up d c (ix d (c-1))) (c-1) (ix d c))) else(
  some (up (up d c (ix d (c-1))) (c-1) (ix d c)))) fun e=>
  gd (in64 (b-c))<|
  bif decide (2≤(b-c)) then(
  gd (in64 (c+1))<|
  vo N b c N (c+1) e) else(
  some (Ex.go (c,e)))))) fun h=>
  Ex.on h (fun g=>
  gd (in64 (f+1))<|
  vw N a b i g.1 (f+1) g.2) some) else(
  some (Ex.go d))
def ik(N:Nat)(data:List Int)(a:Int)(b:Int):Option (Bool×List Int):=
 gd (in64 (a+1))<|
 bd (
 vw N a b N (a+1) 0 data) fun c=>
 Ex.on c (fun d=>
 some (false,d)) some
def xh(N:Nat)(a:Int)(c:Int)(d:List Int):Nat→Int→Option Int
 |0,_=>none
 |e+1,b=>
  gd ((true&&((decide (b≤c))==true))=true→okI d a)<|
  gd ((true&&((decide (b≤c))==true))=true→okI d b)<|
  bd (gop (true&&((decide (b≤c))==true)) (ni N (ix d a) (ix d b))) fun f=>
  bif (decide (b≤c))&&(!(f.getD default)) then(
  gd (in64 (b+1))<|
  xh N a c d e (b+1)) else(
  some b)
def xe(N:Nat)(a:Int)(c:List Int)(d:Int):Nat→Int→Option Int
 |0,_=>none
 |e+1,b=>
  gd ((true&&((decide (d≤b))==true))=true→okI c a)<|
  gd ((true&&((decide (d≤b))==true))=true→okI c b)<|
  bd (gop (true&&((decide (d≤b))==true)) (ni N (ix c a) (ix c b))) fun f=>
  bif (decide (d≤b))&&(f.getD default) then(
  gd (in64 (b-1))<|
  xe N a c d e (b-1)) else(
  some b)
def xg(N:Nat)(a:Int):Nat→Int→Int→(List Int)→Option (Int×List Int)
 |0,_,_,_=>none
 |f+1,g,e,c=>
  bd (
  xh N a e c N g) fun d=>
  bd (
  xe N a c d N e) fun b=>
  bif decide (b<d) then(
  some (d,c)) else(
  gd (okI c b)<|
  gd (okI c d)<|
  gd (okI c d)<|
  gd (okI c b)<|
  gd (in64 (d+1))<|
  gd (in64 (b-1))<|
  xg N a f (d+1) (b-1) (up (up c d (ix c b)) b (ix c d)))
def z0b(N:Nat)(data:List Int)(a:Int)(b:Int)(pivot:Int):Option (Int×List Int):=
 gd (okI data pivot)<|
 gd (okI data a)<|
 gd (okI data a)<|
 gd (okI data pivot)<|
 gd (in64 (a+1))<|
 gd (in64 (b-1))<|
 bd (
 xg N a N (a+1) (b-1) (up (up data a (ix data pivot)) pivot (ix data a))) fun c=>
 some (c.1,c.2)
def mo(N:Nat)(data:List Int)(a:Int)(b:Int)(pivot:Int):Nat→Int→Option Int
 |0,_=>none
 |d+1,c=>
  gd ((true&&((decide (c≤(b-1)))==true))=true→okI (up (up data a (ix data pivot)) pivot (ix data a)) c)<|
  gd ((true&&((decide (c≤(b-1)))==true))=true→okI (up (up data a (ix data pivot)) pivot (ix data a)) a)<|
  bd (gop (true&&((decide (c≤(b-1)))==true)) (ni N (ix (up (up data a (ix data pivot)) pivot (ix data a)) c) (ix (up (up data a (ix data pivot)) pivot (ix data a)) a))) fun e=>
  bif (decide (c≤(b-1)))&&(e.getD default) then(
  gd (in64 (c+1))<|
  mo N data a b pivot d (c+1)) else(
  some c)
def mr(N:Nat)(data:List Int)(a:Int)(pivot:Int)(c:Int):Nat→Int→Option Int
 |0,_=>none
 |d+1,b=>
  gd ((true&&((decide (c≤b))==true))=true→okI (up (up data a (ix data pivot)) pivot (ix data a)) b)<|
  gd ((true&&((decide (c≤b))==true))=true→okI (up (up data a (ix data pivot)) pivot (ix data a)) a)<|
  bd (gop (true&&((decide (c≤b))==true)) (ni N (ix (up (up data a (ix data pivot)) pivot (ix data a)) b) (ix (up (up data a (ix data pivot)) pivot (ix data a)) a))) fun e=>
  bif (decide (c≤b))&&(!(e.getD default)) then(
  gd (in64 (b-1))<|
  mr N data a pivot c d (b-1)) else(
  some b)
def mi(N:Nat)(a:Int)(c:Int)(d:List Int):Nat→Int→Option Int
 |0,_=>none
 |e+1,b=>
  gd ((true&&((decide (b≤c))==true))=true→okI d b)<|
  gd ((true&&((decide (b≤c))==true))=true→okI d a)<|
  bd (gop (true&&((decide (b≤c))==true)) (ni N (ix d b) (ix d a))) fun f=>
  bif (decide (b≤c))&&(f.getD default) then(
  gd (in64 (b+1))<|
  mi N a c d e (b+1)) else(
  some b)
def mh(N:Nat)(a:Int)(c:List Int)(d:Int):Nat→Int→Option Int
 |0,_=>none
 |e+1,b=>
  gd ((true&&((decide (d≤b))==true))=true→okI c b)<|
  gd ((true&&((decide (d≤b))==true))=true→okI c a)<|
  bd (gop (true&&((decide (d≤b))==true)) (ni N (ix c b) (ix c a))) fun f=>
  bif (decide (d≤b))&&(!(f.getD default)) then(
  gd (in64 (b-1))<|
  mh N a c d e (b-1)) else(
  some b)
def mq(N:Nat)(a:Int):Nat→Int→Int→(List Int)→Option (Int×List Int)
 |0,_,_,_=>none
 |f+1,g,e,b=>
  bd (
  mi N a e b N g) fun c=>
  bd (
  mh N a b c N e) fun d=>
  bif decide (d<c) then(
  some (d,b)) else(
  gd (okI b d)<|
  gd (okI b c)<|
  gd (okI b c)<|
  gd (okI b d)<|
  gd (in64 (c+1))<|
  gd (in64 (d-1))<|
  mq N a f (c+1) (d-1) (up (up b c (ix b d)) d (ix b c)))
def z1h(N:Nat)(data:List Int)(a:Int)(b:Int)(pivot:Int):Option (Int×Bool×List Int):=
 gd (okI data pivot)<|
 gd (okI data a)<|
 gd (okI data a)<|
 gd (okI data pivot)<|
 gd (in64 (a+1))<|
 gd (in64 (b-1))<|
 bd (
 mo N data a b pivot N (a+1)) fun e=>
 bd (
 mr N data a pivot e N (b-1)) fun d=>
 bif decide (d<e) then(
 gd (okI (up (up data a (ix data pivot)) pivot (ix data a)) a)<|
 gd (okI (up (up data a (ix data pivot)) pivot (ix data a)) d)<|
 gd (okI (up (up data a (ix data pivot)) pivot (ix data a)) d)<|
 gd (okI (up (up data a (ix data pivot)) pivot (ix data a)) a)<|
 some (d,true,(up (up (up (up data a (ix data pivot)) pivot (ix data a)) d (ix (up (up data a (ix data pivot)) pivot (ix data a)) a)) a (ix (up (up data a (ix data pivot)) pivot (ix data a)) d)))) else(
 gd (okI (up (up data a (ix data pivot)) pivot (ix data a)) d)<|
 gd (okI (up (up data a (ix data pivot)) pivot (ix data a)) e)<|
 gd (okI (up (up data a (ix data pivot)) pivot (ix data a)) e)<|
 gd (okI (up (up data a (ix data pivot)) pivot (ix data a)) d)<|
 gd (in64 (e+1))<|
 gd (in64 (d-1))<|
 bd (
 mq N a N (e+1) (d-1) (up (up (up (up data a (ix data pivot)) pivot (ix data a)) e (ix (up (up data a (ix data pivot)) pivot (ix data a)) d)) d (ix (up (up data a (ix data pivot)) pivot (ix data a)) e))) fun c=>
 gd (okI c.2 a)<|
 gd (okI c.2 c.1)<|
 gd (okI c.2 c.1)<|
 gd (okI c.2 a)<|
 some (c.1,false,(up (up c.2 c.1 (ix c.2 a)) a (ix c.2 c.1))))
def yl(N:Nat)(self:List Int→Int→Int→Int→Option (List Int)):Nat→Int→Int→Int→Bool→Bool→(List Int)→Option (List Int)
 |0,_,_,_,_,_,_=>none
 |o+1,b,c,m,p,v,n=>
  gd (in64 (c-b))<|
  bif decide ((c-b)≤12) then(
  bd (z0k N n b c) fun q=>
  some q) else(
  bif decide (m=0) then(
  bd (z1r N n b c) fun r=>
  some r) else(
  bd (
  bif !p then(
  bd (z0e N n b c) fun s=>
  gd (in64 (m-1))<|
  some (m-1,s)) else(
  some (m,n))) fun d=>
  bd (z0x N d.2 b c) fun f=>
  bd (
  bif decide (f.2=2) then(
  bd (z0s N d.2 b c) fun t=>
  gd (in64 (c-1))<|
  gd (in64 (f.1-b))<|
  gd (in64 ((c-1)-(f.1-b)))<|
  some ((c-1)-(f.1-b),1,t)) else(
  some (f.1,f.2,d.2))) fun e=>
  bd (
  bif (p&&v)&&(decide (e.2.1=1)) then(
  bd (ik N e.2.2 b c) fun h=>
  bif h.1 then(
  some (Ex.rt h.2)) else(
  some (Ex.go h.2))) else(
  some (Ex.go e.2.2))) fun u=>
  Ex.on u (fun g=>
  gd ((true&&((decide (0<b))==true))=true→in64 (b-1))<|
  gd ((true&&((decide (0<b))==true))=true→okI g (b-1))<|
  gd ((true&&((decide (0<b))==true))=true→okI g e.1)<|
  bd (gop (true&&((decide (0<b))==true)) (ni N (ix g (b-1)) (ix g e.1))) fun j=>
  bif (decide (0<b))&&(!(j.getD default)) then(
  bd (z0b N g b c e.1) fun i=>
  yl N self o i.1 c d.1 p v i.2) else(
  bd (z1h N g b c e.1) fun a=>
  gd (in64 (a.1-b))<|
  gd (in64 (c-a.1))<|
  gd (okQ (c-b) 8)<|
  bif decide ((a.1-b)<(c-a.1)) then(
  bd (self a.2.2 b a.1 d.1) fun k=>
  gd (in64 (a.1+1))<|
  yl N self o (a.1+1) c d.1 (decide (((c-b)/8)≤(a.1-b))) a.2.1 k) else(
  gd (in64 (a.1+1))<|
  bd (self a.2.2 (a.1+1) c d.1) fun l=>
  yl N self o b a.1 d.1 (decide (((c-b)/8)≤(c-a.1))) a.2.1 l))) some))
def pg(N:Nat):Nat→List Int→Int→Int→Int→Option (List Int)
 |0,_,_,_,_=>none
 |F+1,data,a,b,limit=>
  yl N (pg N F) N a b limit true true data
def z6q(N:Nat)(x:List Int):Option (List Int):=
 bd (z7c N (IntKind.u64.wrap (↑x.length:Int))) fun a=>
 bd (pg N N x 0 (↑x.length:Int) a) fun b=>
 some b
def z0n(N:Nat)(s:List Int)(a:Int):Nat→Int→Int→(List Int)→Option (Int×List Int)
 |0,_,_,_=>none
 |f+1,d,b,c=>
  bif decide (b<(↑(s.length-a.toNat:Nat):Int)) then(
  bd (
  gd (okA c a (s.length-a.toNat) b)<|
  gd (in64 (b-1))<|
  gd (okA c a (s.length-a.toNat) (b-1))<|
  bif decide ((ix c (a+b))≠(ix c (a+(b-1)))) then(
  gd (okA c a (s.length-a.toNat) b)<|
  gd (okI c d)<|
  gd (in64 (d+1))<|
  some (d+1,(up c d (ix c (a+b))))) else(
  some (d,c))) fun e=>
  gd (in64 (b+1))<|
  z0n N s a f e.1 (b+1) e.2) else(
  some (d,c))
def z0j(N:Nat)(s:List Int):Nat→Int→Option (Ex (Unit) ((List Int)))
 |0,_=>none
 |c+1,b=>
  bif decide (b<(↑s.length:Int)) then(
  gd (okI s b)<|
  gd (in64 (b-1))<|
  gd (okI s (b-1))<|
  bif decide ((ix s b)=(ix s (b-1))) then(
  gd (okS s b (↑s.length:Int))<|
  bd (
  z0n N s b N b 1 s) fun a=>
  gd (okS a.2 a.1 (↑a.2.length:Int))<|
  gd (okS (z9a a.2 a.1.toNat (List.replicate (a.2.length-a.1.toNat) (0:Int))) 0 a.1)<|
  some (Ex.rt (cut (z9a a.2 a.1.toNat (List.replicate (a.2.length-a.1.toNat) (0:Int))) 0 a.1))) else(
  gd (in64 (b+1))<|
  z0j N s c (b+1))) else(
  some (Ex.go ()))
def z4o(N:Nat)(s:List Int):Option (List Int):=
 bif decide ((↑s.length:Int)<2) then(
 some s) else(
 bd (
 z0j N s N 1) fun a=>
 Ex.on a (fun b=>
 some s) some)
def z01(N:Nat)(b:(List Int)):Nat→Int→Int→Option Int
 |0,_,_=>none
 |d+1,c,a=>
  bif decide (a<(↑b.length:Int)) then(
  gd (okI b a)<|
  gd (okSh .u64 (ix b a))<|
  gd (okB .u64 c (z0a .u64 (1:Int) (ix b a)))<|
  gd (in64 (a+1))<|
  z01 N b d (ior c (z0a .u64 (1:Int) (ix b a))) (a+1)) else(
  some c)
def ll(N:Nat)(x:Sa)(b:(List Int)):Nat→(List Int)→Int→Option (List Int)
 |0,_,_=>none
 |e+1,c,a=>
  bif decide (a<(↑b.length:Int)) then(
  gd (okI b a)<|
  bd (
  bd (yg N x (ix b a)) fun f=>
  z01 N f N 0 0) fun d=>
  gd (fits 8 c ([d]:List Int))<|
  gd (in64 (a+1))<|
  ll N x b e (c++([d]:List Int)) (a+1)) else(
  some c)
def z3v(N:Nat)(x:Sa):Option (List Int):=
 bd (
 bd (z1e N x (fun d=>ry N x d)) fun a=>
 ll N x a N ([]:List Int) 0) fun e=>
 bd (z6q N e) fun b=>
 bd (z4o N b) fun c=>
 some c
def lq(N:Nat)(s:(List Int))(f:Int→Option Bool):Nat→Int→Option (Ex (Unit) (Int))
 |0,_=>none
 |c+1,a=>
  bif decide (a<(↑s.length:Int)) then(
  gd (okI s a)<|
  bd (f (ix s a)) fun b=>
  bif b then(
  some (Ex.rt a)) else(
  gd (in64 (a+1))<|
  lq N s f c (a+1))) else(
  some (Ex.go ()))
def z3t(N:Nat)(s:(List Int))(f:Int→Option Bool):Option Int:=
 bd (
 lq N s f N 0) fun a=>
 Ex.on a (fun b=>
 some (-1)) some
def z2q(N:Nat)(s:(List Int))(f:Int→Option Bool):Option Bool:=
 bd (z3t N s f) fun a=>
 some (decide (0≤a))
def z5b(N:Nat)(set:Int)(p0_:Int):Option Bool:=
 gd (okB .u64 set p0_)<|
 some (decide ((zcm set p0_)=0))
def z1o(N:Nat)(self:Int→Int→Int→(List Int)→Int→Option (Int×Bool))(some_:Int)(left:Int)(p0_:(List Int))(p1_:Int):Nat→Int→Option (Ex (Unit) (Int×Bool))
 |0,_=>none
 |c+1,a=>
  gd (in64 (p1_-left))<|
  bif decide (a≤(p1_-left)) then(
  gd (okSh .u64 a)<|
  gd (okB .u64 some_ (z0a .u64 (1:Int) a))<|
  gd (in64 (a+1))<|
  gd (in64 (left-1))<|
  bd (self (ior some_ (z0a .u64 (1:Int) a)) (a+1) (left-1) p0_ p1_) fun b=>
  bif b.2 then(
  some (Ex.rt (b.1,true))) else(
  gd (in64 (a+1))<|
  z1o N self some_ left p0_ p1_ c (a+1))) else(
  some (Ex.go ()))
def z0z(N:Nat):Nat→Int→Int→Int→(List Int)→Int→Option (Int×Bool)
 |0,_,_,_,_,_=>none
 |F+1,some_,from_,left,p0_,p1_=>
  bif decide (left=0) then(
  bd (z2q N p0_ (fun b=>z5b N b some_)) fun c=>
  some (some_,(!c))) else(
  bd (
  z1o N (z0z N F) some_ left p0_ p1_ N from_) fun a=>
  Ex.on a (fun d=>
  some (0,false)) some)
def z2j(N:Nat)(d:Int)(c:Int×Bool):Nat→(List Int)→Int→Option (List Int)
 |0,_,_=>none
 |e+1,b,a=>
  bif decide (a<d) then(
  bd (
  gd (okSh .u64 a)<|
  gd (okB .u64 (z5p c.1 a) 1)<|
  bif decide ((zcm (z5p c.1 a) 1)=1) then(
  gd (fits 8 b ([a]:List Int))<|
  some (b++([a]:List Int))) else(
  some b)) fun f=>
  gd (in64 (a+1))<|
  z2j N d c e f (a+1)) else(
  some b)
def z2n(N:Nat)(a:Int)(c:(List Int)):Nat→Int→Option (Ex (Unit) ((List Int)×Int))
 |0,_=>none
 |f+1,b=>
  bif decide (b<(a+1)) then(
  bd (z0z N N 0 0 b c a) fun d=>
  bif d.2 then(
  bd (
  z2j N a d N ([]:List Int) 0) fun g=>
  bd (z4x N g) fun e=>
  some (Ex.rt (e,0))) else(
  gd (in64 (b+1))<|
  z2n N a c f (b+1))) else(
  some (Ex.go ()))
def z5t(N:Nat)(x:Sa):Option ((List Int)×Int):=
 bd (ae N x) fun d=>
 bif decide (d≠0) then(
 some (([]:(List Int)),d)) else(
 bd (yz N x) fun a=>
 bif decide (16<a) then(
 some (([]:(List Int)),3)) else(
 bd (z3v N x) fun b=>
 bd (
 gd (in64 (a+1))<|
 z2n N a b N 0) fun c=>
 Ex.on c (fun e=>
 some (([]:(List Int)),0)) some))
def z2l(N:Nat)(x:(List Int)):Nat→Int→Int→Option Int
 |0,_,_=>none
 |c+1,b,a=>
  bif decide (a<(↑x.length:Int)) then(
  gd (okI x a)<|
  gd (in64 (a+1))<|
  z2l N x c (max b (ix x a)) (a+1)) else(
  some b)
def slices_Max_int(N:Nat)(x:(List Int)):Option Int:=
 bif decide ((↑x.length:Int)<1) then(
 none) else(
 gd (okI x 0)<|
 bd (
 z2l N x N (ix x 0) 1) fun a=>
 some a)
def z1k(N:Nat)(s:(List Int))(v_:Int):Nat→Int→Option (Ex (Unit) (Int))
 |0,_=>none
 |b+1,a=>
  bif decide (a<(↑s.length:Int)) then(
  gd (okI s a)<|
  bif decide (v_=(ix s a)) then(
  some (Ex.rt a)) else(
  gd (in64 (a+1))<|
  z1k N s v_ b (a+1))) else(
  some (Ex.go ()))
def slices_Index_int(N:Nat)(s:(List Int))(v_:Int):Option Int:=
 bd (
 z1k N s v_ N 0) fun a=>
 Ex.on a (fun b=>
 some (-1)) some
def z9o(N:Nat)(l_:(List Int)):Option (Int×Bool):=
 bif decide ((↑l_.length:Int)=0) then(
 some (0,false)) else(
 bd (slices_Max_int N l_) fun a=>
 bd (slices_Index_int N l_ a) fun b=>
 some (b,(decide (0<a))))
def fe(N:Nat)(x:Sa)(is:Int→Option Bool):Nat→(List Int)→Int→Option (List Int)
 |0,_,_=>none
 |c+1,b,a=>
  bif decide (a<(↑x.fE.length:Int)) then(
  bd (
  bd (is a) fun d=>
  bif d then(
  gd (fits 8 b ([a]:List Int))<|
  some (b++([a]:List Int))) else(
  some b)) fun e=>
  gd (in64 (a+1))<|
  fe N x is c e (a+1)) else(
  some b)
def z3h(N:Nat)(x:Sa)(is:Int→Option Bool):Option (List Int):=
 bd (
 fe N x is N ([]:List Int) 0) fun a=>
 some a
def ax(N:Nat)(b:(List Int)):Nat→Int→(List Int)→Option (List Int)
 |0,_,_=>none
 |d+1,a,c=>
  bif decide (a<(↑b.length:Int)) then(
  gd (okI b a)<|
  gd (okI c (ix b a))<|
  gd (in64 ((ix c (ix b a))+1))<|
  gd (okI c (ix b a))<|
  gd (in64 (a+1))<|
  ax N b d (a+1) (up c (ix b a) ((ix c (ix b a))+1))) else(
  some c)
def au(N:Nat)(x:Sa)(rows:(List Int)):Nat→Int→(List Int)→Option (List Int)
 |0,_,_=>none
 |c+1,a,b=>
  bif decide (a<(↑rows.length:Int)) then(
  bd (
  gd (okI rows a)<|
  bd (yg N x (ix rows a)) fun d=>
  ax N d N 0 b) fun e=>
  gd (in64 (a+1))<|
  au N x rows c (a+1) e) else(
  some b)
def z2p(N:Nat)(x:Sa)(rows:(List Int)):Option (List Int):=
 bd (yz N x) fun b=>
 gd (okM 8 b)<|
 bd (
 au N x rows N 0 (mk b (0:Int))) fun a=>
 some a
def z5u(N:Nat)(i:Int)(p0_:Sa)(p1_:Int):Option Bool:=
 bd (aj N p0_ i p1_) fun a=>
 some a
def iw(N:Nat)(del:Int→Option Bool):Nat→Int→Int→(List Int)→Option (Int×List Int)
 |0,_,_,_=>none
 |e+1,b,c,a=>
  bif decide (c<(↑a.length:Int)) then(
  bd (
  gd (okI a c)<|
  bd (del (ix a c)) fun f=>
  bif !f then(
  gd (okI a b)<|
  gd (in64 (b+1))<|
  some (b+1,(up a b (ix a c)))) else(
  some (b,a))) fun d=>
  gd (in64 (c+1))<|
  iw N del e d.1 (c+1) d.2) else(
  some (b,a))
def z3a(N:Nat)(s:List Int)(del:Int→Option Bool):Option (List Int):=
 bd (z06 N s del) fun b=>
 bif decide (b=(-1)) then(
 some s) else(
 bd (
 gd (in64 (b+1))<|
 iw N del N b (b+1) s) fun a=>
 gd (okS a.2 a.1 (↑a.2.length:Int))<|
 gd (okS (z9a a.2 a.1.toNat (List.replicate (a.2.length-a.1.toNat) (0:Int))) 0 a.1)<|
 some (cut (z9a a.2 a.1.toNat (List.replicate (a.2.length-a.1.toNat) (0:Int))) 0 a.1))
def z6a(N:Nat)(s:List Int):Option (List Int):=
 gd (okS s 0 (↑s.length:Int))<|
 some (cut s 0 (↑s.length:Int))
def z1x(N:Nat)(x:Sa):Nat→(List Int)→(List Int)→Option (List Int)
 |0,_,_=>none
 |d+1,c,b=>
  bd (z2p N x c) fun e=>
  bd (z9o N e) fun a=>
  bif !a.2 then(
  some b) else(
  gd (fits 8 b ([a.1]:List Int))<|
  bd (z3a N c (fun g=>z5u N g x a.1)) fun f=>
  z1x N x d f (b++([a.1]:List Int)))
def z3m(N:Nat)(x:Sa):Option ((List Int)×Int):=
 bd (ae N x) fun e=>
 bif decide (e≠0) then(
 some (([]:(List Int)),e)) else(
 bd (z3h N x (fun f=>ry N x f)) fun b=>
 bd (
 z1x N x N b ([]:List Int)) fun c=>
 bd (slices_Sort_int N c) fun d=>
 bd (z6a N d) fun a=>
 some (a,0))
def mg(N:Nat)(a:(List Int))(b:(List Int)):Option Bool:=
 bd (z10 N ([a]:List (List Int)) ([b]:List (List Int))) fun c=>
 some (c&&(decide ((↑a.length:Int)=(↑a.length:Int))))
def z6d(N:Nat)(c:Int)(p0_:Sa)(p1_:Int):Option Bool:=
 bd (aj N p0_ p1_ c) fun a=>
 some a
def z1t(N:Nat)(choice:(List Int))(b:Int):Nat→Int→Option (Ex (Unit) (Bool×Int))
 |0,_=>none
 |c+1,a=>
  bif decide (a<(↑choice.length:Int)) then(
  gd (okI choice a)<|
  gd (((true&&(((decide ((ix choice a)<0))||(decide (b≤(ix choice a))))==false))&&((decide (0<a))==true))=true→in64 (a-1))<|
  gd (((true&&(((decide ((ix choice a)<0))||(decide (b≤(ix choice a))))==false))&&((decide (0<a))==true))=true→okI choice (a-1))<|
  bif ((decide ((ix choice a)<0))||(decide (b≤(ix choice a))))||((decide (0<a))&&(decide ((ix choice a)≤(ix choice (a-1))))) then(
  some (Ex.rt (false,1))) else(
  gd (in64 (a+1))<|
  z1t N choice b c (a+1))) else(
  some (Ex.go ()))
def z2d(N:Nat)(x:Sa)(choice:(List Int))(b:(List Int)):Nat→Int→Option (Ex (Unit) (Bool×Int))
 |0,_=>none
 |d+1,a=>
  bif decide (a<(↑b.length:Int)) then(
  gd (okI b a)<|
  bd (iq N choice (fun e=>z6d N e x (ix b a))) fun c=>
  bif !c then(
  some (Ex.rt (false,0))) else(
  gd (in64 (a+1))<|
  z2d N x choice b d (a+1))) else(
  some (Ex.go ()))
def z4v(N:Nat)(x:Sa)(choice:(List Int)):Option (Bool×Int):=
 bd (ae N x) fun e=>
 bif decide (e≠0) then(
 some (false,e)) else(
 bd (yz N x) fun a=>
 bd (
 z1t N choice a N 0) fun b=>
 Ex.on b (fun f=>
 bd (
 bd (z1e N x (fun g=>ry N x g)) fun c=>
 z2d N x choice c N 0) fun d=>
 Ex.on d (fun h=>
 some (true,0)) some) some)
def z2t(N:Nat):Option Bool:=
 bd (z2s N (⟨1,2,([([(⟨1,0⟩:Edge)]:List Edge),([(⟨0,1⟩:Edge)]:List Edge)]:List (List Edge))⟩:Mach) ([(⟨1,2,([([(⟨1,1⟩:Edge)]:List Edge),([(⟨0,1⟩:Edge)]:List Edge)]:List (List Edge))⟩:Mach),(⟨1,2,([([(⟨1,0⟩:Edge)]:List Edge),([(⟨0,0⟩:Edge)]:List Edge)]:List (List Edge))⟩:Mach),(⟨1,2,([([(⟨1,0⟩:Edge)]:List Edge),([(⟨1,1⟩:Edge)]:List Edge)]:List (List Edge))⟩:Mach)]:List Mach) ([([0]:List Int),([0,0]:List Int),([0,0,0]:List Int)]:List (List Int))) fun b=>
 bd (gop (true&&((decide (b.2≠0))==false)) (iy N (⟨b.1.fE⟩:Sa) (⟨([([0,0,0]:List Int),([(-1),1,1]:List Int),([(-1),(-1),2]:List Int)]:List (List Int))⟩:Sa))) fun s=>
 bif (decide (b.2≠0))||(!(s.getD default)) then(
 some false) else(
 bd (z1i N (⟨b.1.fE⟩:Sa)) fun a=>
 bd (z7y N (⟨b.1.fE⟩:Sa)) fun d=>
 bd (z3k N (⟨b.1.fE⟩:Sa)) fun e=>
 bd (z5t N (⟨b.1.fE⟩:Sa)) fun f=>
 bd (z3m N (⟨b.1.fE⟩:Sa)) fun g=>
 gd ((true&&(((((((decide (a.2≠0))||(decide (d.2≠0)))||(decide (e.2≠0)))||(decide (f.2≠0)))||(decide (g.2≠0)))||(decide ((↑a.1.length:Int)≠3)))==false))=true→okI a.1 0)<|
 gd ((true&&((((((((decide (a.2≠0))||(decide (d.2≠0)))||(decide (e.2≠0)))||(decide (f.2≠0)))||(decide (g.2≠0)))||(decide ((↑a.1.length:Int)≠3)))||(!(ix a.1 0)))==false))=true→okI a.1 1)<|
 gd ((true&&(((((((((decide (a.2≠0))||(decide (d.2≠0)))||(decide (e.2≠0)))||(decide (f.2≠0)))||(decide (g.2≠0)))||(decide ((↑a.1.length:Int)≠3)))||(!(ix a.1 0)))||(!(ix a.1 1)))==false))=true→okI a.1 2)<|
 bd (gop (true&&((((((((((decide (a.2≠0))||(decide (d.2≠0)))||(decide (e.2≠0)))||(decide (f.2≠0)))||(decide (g.2≠0)))||(decide ((↑a.1.length:Int)≠3)))||(!(ix a.1 0)))||(!(ix a.1 1)))||(!(ix a.1 2)))==false)) (mg N d.1 ([1,2,3]:List Int))) fun m=>
 bd (gop (true&&(((((((((((decide (a.2≠0))||(decide (d.2≠0)))||(decide (e.2≠0)))||(decide (f.2≠0)))||(decide (g.2≠0)))||(decide ((↑a.1.length:Int)≠3)))||(!(ix a.1 0)))||(!(ix a.1 1)))||(!(ix a.1 2)))||(!(m.getD default)))==false)) (mg N e.1 ([2]:List Int))) fun o=>
 bd (gop (true&&((((((((((((decide (a.2≠0))||(decide (d.2≠0)))||(decide (e.2≠0)))||(decide (f.2≠0)))||(decide (g.2≠0)))||(decide ((↑a.1.length:Int)≠3)))||(!(ix a.1 0)))||(!(ix a.1 1)))||(!(ix a.1 2)))||(!(m.getD default)))||(!(o.getD default)))==false)) (mg N f.1 ([2]:List Int))) fun q=>
 bd (gop (true&&(((((((((((((decide (a.2≠0))||(decide (d.2≠0)))||(decide (e.2≠0)))||(decide (f.2≠0)))||(decide (g.2≠0)))||(decide ((↑a.1.length:Int)≠3)))||(!(ix a.1 0)))||(!(ix a.1 1)))||(!(ix a.1 2)))||(!(m.getD default)))||(!(o.getD default)))||(!(q.getD default)))==false)) (mg N g.1 ([2]:List Int))) fun t=>
 bif ((((((((((((decide (a.2≠0))||(decide (d.2≠0)))||(decide (e.2≠0)))||(decide (f.2≠0)))||(decide (g.2≠0)))||(decide ((↑a.1.length:Int)≠3)))||(!(ix a.1 0)))||(!(ix a.1 1)))||(!(ix a.1 2)))||(!(m.getD default)))||(!(o.getD default)))||(!(q.getD default)))||(!(t.getD default)) then(
 some false) else(
 bd (z4v N (⟨b.1.fE⟩:Sa) ([0,1]:List Int)) fun c=>
 bd (z4v N (⟨b.1.fE⟩:Sa) ([1,0]:List Int)) fun l=>
 bd (z5t N (⟨([([0,0,(-1),(-1)]:List Int),([0,(-1),0,(-1)]:List Int),([0,(-1),(-1),(-1)]:List Int),([(-1),0,(-1),0]:List Int),([(-1),(-1),0,0]:List Int)]:List (List Int))⟩:Sa)) fun h=>
 bd (z3m N (⟨([([0,0,(-1),(-1)]:List Int),([0,(-1),0,(-1)]:List Int),([0,(-1),(-1),(-1)]:List Int),([(-1),0,(-1),0]:List Int),([(-1),(-1),0,0]:List Int)]:List (List Int))⟩:Sa)) fun i=>
 bd (z3m N (⟨([([(-1),0,0]:List Int),([0,0,(-1)]:List Int),([0,(-1),(-1)]:List Int),([(-1),(-1),0]:List Int)]:List (List Int))⟩:Sa)) fun j=>
 bd (z3k N (⟨([([(-1),0,0]:List Int),([0,0,(-1)]:List Int),([0,(-1),(-1)]:List Int),([(-1),(-1),0]:List Int)]:List (List Int))⟩:Sa)) fun k=>
 bd (gop (true&&((((((((decide (c.2=0))&&(decide (l.2=1)))&&(decide (h.2=0)))&&(decide (i.2=0)))&&(decide (j.2=0)))&&(decide (k.2=0)))&&(!c.1))==true)) (mg N h.1 ([0,3]:List Int))) fun n=>
 bd (gop (true&&(((((((((decide (c.2=0))&&(decide (l.2=1)))&&(decide (h.2=0)))&&(decide (i.2=0)))&&(decide (j.2=0)))&&(decide (k.2=0)))&&(!c.1))&&(n.getD default))==true)) (mg N i.1 ([0,3]:List Int))) fun p=>
 bd (gop (true&&((((((((((decide (c.2=0))&&(decide (l.2=1)))&&(decide (h.2=0)))&&(decide (i.2=0)))&&(decide (j.2=0)))&&(decide (k.2=0)))&&(!c.1))&&(n.getD default))&&(p.getD default))==true)) (mg N j.1 ([0,2]:List Int))) fun r=>
 bd (gop (true&&(((((((((((decide (c.2=0))&&(decide (l.2=1)))&&(decide (h.2=0)))&&(decide (i.2=0)))&&(decide (j.2=0)))&&(decide (k.2=0)))&&(!c.1))&&(n.getD default))&&(p.getD default))&&(r.getD default))==true)) (mg N k.1 ([0,2]:List Int))) fun u=>
 some (((((((((((decide (c.2=0))&&(decide (l.2=1)))&&(decide (h.2=0)))&&(decide (i.2=0)))&&(decide (j.2=0)))&&(decide (k.2=0)))&&(!c.1))&&(n.getD default))&&(p.getD default))&&(r.getD default))&&(u.getD default))))
def ul(N:Nat)(d:Mach)(a:(List (List Int)))(b:Int):Nat→(List Int)→Int→Option (List Int)
 |0,_,_=>none
 |f+1,e,c=>
  gd (okI a b)<|
  bif decide (c<(↑(ix a b).length:Int)) then(
  gd (okI a b)<|
  gd (okI (ix a b) c)<|
  gd (okR (ix (ix a b) c) d.inputs)<|
  gd (fits 8 e ([(ix (ix a b) c)%d.inputs]:List Int))<|
  gd (in64 (c+1))<|
  ul N d a b f (e++([(ix (ix a b) c)%d.inputs]:List Int)) (c+1)) else(
  some e)
def uk(N:Nat)(d:Mach)(b:(List (List Int))):Nat→(List (List Int))→Int→Option (List (List Int))
 |0,_,_=>none
 |f+1,c,a=>
  bif decide (a<(↑b.length:Int)) then(
  bd (
  ul N d b a N ([]:List Int) 0) fun e=>
  gd (fits 24 c ([e]:List (List Int)))<|
  gd (in64 (a+1))<|
  uk N d b f (c++([e]:List (List Int))) (a+1)) else(
  some c)
def uw(N:Nat)(e:(List Mach))(f:Mach)(b:Sa×Int)(c:(List Bool)×Int):Nat→Int→Option (Ex (Unit) (Bool))
 |0,_=>none
 |g+1,a=>
  bif decide (a<(↑(e++([f]:List Mach)).length:Int)) then(
  gd (okI c.1 a)<|
  bd (z1b N (⟨b.1.fE⟩:Sa) a) fun d=>
  gd ((true&&((decide ((ix c.1 a)≠d))==false))=true→okI b.1.fE a)<|
  gd ((true&&((decide ((ix c.1 a)≠d))==false))=true→okI b.1.fE a)<|
  bif (decide ((ix c.1 a)≠d))||(decide ((↑(ix b.1.fE a).length:Int)≠(↑(ix b.1.fE a).length:Int))) then(
  some (Ex.rt false)) else(
  gd (in64 (a+1))<|
  uw N e f b c g (a+1))) else(
  some (Ex.go ()))
def si(N:Nat)(x:MDat)(y:Sc)(z:Sd):Option Bool:=
 bd (z2f N x) fun b=>
 bd (z1u N y) fun l=>
 bd (
 uk N b l N ([]:List (List Int)) 0) fun m=>
 bd (z14 N m) fun f=>
 bd (il N (⟨b.inputs,b.outputs,b.rows⟩:Mach) z.fZ) fun c=>
 bd (z15 N z.fAf (⟨b.inputs,b.outputs,b.rows⟩:Mach)) fun d=>
 gd (fits 40 c ([d]:List Mach))<|
 bd (z2s N (⟨b.inputs,b.outputs,b.rows⟩:Mach) (c++([d]:List Mach)) f) fun a=>
 bd (gop (true&&((decide (a.2≠0))==false)) (z13 N (⟨b.inputs,b.outputs,b.rows⟩:Mach) (c++([d]:List Mach)) f)) fun h=>
 bd (gop (true&&((decide (a.2≠0))==false)) (iy N (⟨a.1.fE⟩:Sa) (h.getD default))) fun g=>
 bd (gop (true&&(((decide (a.2≠0))||(!(g.getD default)))==false)) (ae N (⟨a.1.fE⟩:Sa))) fun i=>
 bif (((decide (a.2≠0))||(!(g.getD default)))||(decide ((i.getD default)≠0)))||(decide ((↑a.1.fE.length:Int)≠(↑a.1.fE.length:Int))) then(
 some false) else(
 bd (z1i N (⟨a.1.fE⟩:Sa)) fun e=>
 bif (decide (e.2≠0))||(decide ((↑e.1.length:Int)≠(↑(c++([d]:List Mach)).length:Int))) then(
 some false) else(
 bd (
 uw N c d a e N 0) fun j=>
 Ex.on j (fun n=>
 bd (z2t N) fun k=>
 some k) some))
end GV
end Go.Proofs.YtkhihcleegljhaaGreat
