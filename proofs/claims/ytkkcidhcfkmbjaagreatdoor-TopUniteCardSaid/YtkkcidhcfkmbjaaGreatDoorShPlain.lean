import Derived.Test.YtkkcidhcfkmbjaaGreatDoorShTypes
set_option linter.unusedVariables false
set_option linter.unusedSimpArgs false
set_option linter.unusedSectionVars false
namespace Go.Proofs.YtkkcidhcfkmbjaaGreatDoor
namespace GV
set_option maxRecDepth 100000
def um(N:Nat)(x:MDat)(c:Int):Nat→(List Edge)→Int→Option (List Edge)
 |0,_,_=>none
 |e+1,d,b=>
  bif decide (b<((1:Int)+(x.ins%3))) then(
  bd (
  bd (
  gd (in64 (c*((1:Int)+(x.ins%3))))<|
  gd (in64 ((c*((1:Int)+(x.ins%3)))+b))<|
  bif decide (((c*((1:Int)+(x.ins%3)))+b)<(↑x.edges.length:Int)) then(
  gd (okI x.edges ((c*((1:Int)+(x.ins%3)))+b))<|
  gd (in64 (ix x.edges ((c*((1:Int)+(x.ins%3)))+b)))<|
  some (ix x.edges ((c*((1:Int)+(x.ins%3)))+b))) else(
  some 0)) fun a=>
  gd ((true&&(x.part==true))=true→okR a 4)<|
  bif x.part&&(decide ((a%4)=3)) then(
  gd (fits 16 d ([(⟨(-1),(-1)⟩:Edge)]:List Edge))<|
  some (d++([(⟨(-1),(-1)⟩:Edge)]:List Edge))) else(
  gd (okQ a 4)<|
  gd (okR (a/4) ((1:Int)+(x.states%6)))<|
  gd (okQ a 4)<|
  gd (okQ (a/4) ((1:Int)+(x.states%6)))<|
  gd (okR ((a/4)/((1:Int)+(x.states%6))) ((1:Int)+(x.outs%3)))<|
  gd (fits 16 d ([(⟨(a/4)%((1:Int)+(x.states%6)),((a/4)/((1:Int)+(x.states%6)))%((1:Int)+(x.outs%3))⟩:Edge)]:List Edge))<|
  some (d++([(⟨(a/4)%((1:Int)+(x.states%6)),((a/4)/((1:Int)+(x.states%6)))%((1:Int)+(x.outs%3))⟩:Edge)]:List Edge)))) fun f=>
  gd (in64 (b+1))<|
  um N x c e f (b+1)) else(
  some d)
def ww(N:Nat)(x:MDat):Nat→Int→(List (List Edge))→Option (List (List Edge))
 |0,_,_=>none
 |d+1,a,b=>
  bif decide (a<((1:Int)+(x.states%6))) then(
  bd (
  um N x a N ([]:List Edge) 0) fun c=>
  gd (fits 24 b ([c]:List (List Edge)))<|
  gd (in64 (a+1))<|
  ww N x d (a+1) (b++([c]:List (List Edge)))) else(
  some b)
def gz(N:Nat)(x:MDat):Option Mach:=
 gd (okR x.states 6)<|
 gd (in64 (x.states%6))<|
 gd (in64 ((1:Int)+(x.states%6)))<|
 gd (okR x.ins 3)<|
 gd (in64 (x.ins%3))<|
 gd (in64 ((1:Int)+(x.ins%3)))<|
 gd (okR x.outs 3)<|
 gd (in64 (x.outs%3))<|
 gd (in64 ((1:Int)+(x.outs%3)))<|
 bd (
 ww N x N 0 ([]:List (List Edge))) fun a=>
 some (⟨(1:Int)+(x.ins%3),(1:Int)+(x.outs%3),a⟩:Mach)
def uo(N:Nat)(m:Mach):Nat→Int→(List (List Edge))→Option (List (List Edge))
 |0,_,_=>none
 |c+1,a,b=>
  bif decide (a<(↑m.rows.length:Int)) then(
  gd (okI m.rows a)<|
  gd (fits 16 ([]:List Edge) (ix m.rows a))<|
  gd (fits 24 b [(([]:List Edge)++(ix m.rows a))])<|
  gd (in64 (a+1))<|
  uo N m c (a+1) (b++[(([]:List Edge)++(ix m.rows a))])) else(
  some b)
def xh(N:Nat)(m:Mach):Option Mach:=
 bd (
 uo N m N 0 ([]:List (List Edge))) fun a=>
 some (⟨m.inputs,m.outputs,a⟩:Mach)
def kg(N:Nat)(m:Mach)(b:Int):Nat→Int→Option (Ex (Unit) (Ex (Unit) (Int)))
 |0,_=>none
 |c+1,a=>
  bif decide (a<m.inputs) then(
  bd (
  gd (okI m.rows b)<|
  gd (okI (ix m.rows b) a)<|
  bif (decide (((ix (ix m.rows b) a).to)=(-1)))&&(decide (((ix (ix m.rows b) a).out)=(-1))) then(
  some (Ex.go ())) else(
  bif (((decide (((ix (ix m.rows b) a).to)<0))||(decide ((↑m.rows.length:Int)≤((ix (ix m.rows b) a).to))))||(decide (((ix (ix m.rows b) a).out)<0)))||(decide (m.outputs≤((ix (ix m.rows b) a).out))) then(
  some (Ex.rt (Ex.rt (Ex.rt 1)))) else(
  some (Ex.go ())))) fun d=>
  Ex.on d (fun e=>
  gd (in64 (a+1))<|
  kg N m b c (a+1)) some) else(
  some (Ex.go ()))
def jm(N:Nat)(m:Mach):Nat→Int→Option (Ex (Unit) (Int))
 |0,_=>none
 |b+1,a=>
  bif decide (a<(↑m.rows.length:Int)) then(
  bd (
  gd (okI m.rows a)<|
  bif decide ((↑(ix m.rows a).length:Int)≠m.inputs) then(
  some (Ex.rt (Ex.rt 1))) else(
  kg N m a N 0)) fun c=>
  Ex.on c (fun d=>
  gd (in64 (a+1))<|
  jm N m b (a+1)) some) else(
  some (Ex.go ()))
def om(N:Nat)(m:Mach):Option Int:=
 bif ((decide (16<m.inputs))||(decide (16<m.outputs)))||(decide (64<(↑m.rows.length:Int))) then(
 some 3) else(
 bif ((decide (m.inputs<1))||(decide (m.outputs<1)))||(decide ((↑m.rows.length:Int)=0)) then(
 some 1) else(
 bd (
 jm N m N 0) fun a=>
 Ex.on a (fun b=>
 some 0) some))
def wy(N:Nat)(c:Mach):Nat→(List Int)→Int→Option (List Int)
 |0,_,_=>none
 |d+1,b,a=>
  bif decide (a<(↑c.rows.length:Int)) then(
  gd (fits 8 b ([a]:List Int))<|
  gd (in64 (a+1))<|
  wy N c d (b++([a]:List Int)) (a+1)) else(
  some b)
def wu(N:Nat)(c:Mach)(d:List Int)(a:Int):Nat→Int→(List (List Edge))→Option (List (List Edge))
 |0,_,_=>none
 |f+1,b,e=>
  bif decide (b<c.inputs) then(
  gd (okI c.rows a)<|
  gd (okI (ix c.rows a) b)<|
  bd (
  bif decide (0≤((ix (ix c.rows a) b).to)) then(
  gd (okI d ((ix (ix c.rows a) b).to))<|
  some (ix d ((ix (ix c.rows a) b).to))) else(
  some ((ix (ix c.rows a) b).to))) fun g=>
  gd (okI d a)<|
  gd (okI e (ix d a))<|
  gd (okI (ix e (ix d a)) b)<|
  gd (in64 (b+1))<|
  wu N c d a f (b+1) (up e (ix d a) (up (ix e (ix d a)) b (⟨g,(ix (ix c.rows a) b).out⟩:Edge)))) else(
  some e)
def wz(N:Nat)(c:Mach)(d:List Int):Nat→Int→(List (List Edge))→Option (List (List Edge))
 |0,_,_=>none
 |e+1,a,b=>
  bif decide (a<(↑c.rows.length:Int)) then(
  bd (
  wu N c d a N 0 b) fun f=>
  gd (in64 (a+1))<|
  wz N c d e (a+1) f) else(
  some b)
def au(N:Nat)(x:Sd):Option (Mach×Mach):=
 bd (gz N (⟨x.fE.states,x.fE.ins,x.fE.outs,x.fE.part,x.fE.edges⟩:MDat)) fun a=>
 bif !x.fJ then(
 bd (gz N (⟨x.fF.states,x.fE.ins,x.fF.outs,x.fF.part,x.fF.edges⟩:MDat)) fun f=>
 some ((⟨a.inputs,a.outputs,a.rows⟩:Mach),(⟨f.inputs,f.outputs,f.rows⟩:Mach))) else(
 bd (
 wy N a N ([]:List Int) 0) fun c=>
 bd (
 bif decide (1<(↑a.rows.length:Int)) then(
 gd (in64 x.fA.1)<|
 gd (in64 ((↑a.rows.length:Int)-1))<|
 gd (okR x.fA.1 ((↑a.rows.length:Int)-1))<|
 gd (in64 ((1:Int)+(x.fA.1%((↑a.rows.length:Int)-1))))<|
 gd (in64 x.fA.2)<|
 gd (in64 ((↑a.rows.length:Int)-1))<|
 gd (okR x.fA.2 ((↑a.rows.length:Int)-1))<|
 gd (in64 ((1:Int)+(x.fA.2%((↑a.rows.length:Int)-1))))<|
 gd (okI c ((1:Int)+(x.fA.2%((↑a.rows.length:Int)-1))))<|
 gd (okI c ((1:Int)+(x.fA.1%((↑a.rows.length:Int)-1))))<|
 gd (okI c ((1:Int)+(x.fA.1%((↑a.rows.length:Int)-1))))<|
 gd (okI c ((1:Int)+(x.fA.2%((↑a.rows.length:Int)-1))))<|
 some (up (up c ((1:Int)+(x.fA.1%((↑a.rows.length:Int)-1))) (ix c ((1:Int)+(x.fA.2%((↑a.rows.length:Int)-1))))) ((1:Int)+(x.fA.2%((↑a.rows.length:Int)-1))) (ix c ((1:Int)+(x.fA.1%((↑a.rows.length:Int)-1)))))) else(
 some c)) fun h=>
 bd (xh N (⟨a.inputs,a.outputs,a.rows⟩:Mach)) fun d=>
 bd (
 wz N a h N 0 d.rows) fun e=>
 bd (xh N (⟨d.inputs,d.outputs,e⟩:Mach)) fun b=>
 gd (in64 x.fD.1)<|
 gd (okR x.fD.1 (↑a.rows.length:Int))<|
 gd (okI b.rows (x.fD.1%(↑a.rows.length:Int)))<|
 gd (in64 x.fD.2)<|
 gd (okR x.fD.2 a.inputs)<|
 gd (okI (ix b.rows (x.fD.1%(↑a.rows.length:Int))) (x.fD.2%a.inputs))<|
 bd (om N (⟨b.inputs,b.outputs,(up b.rows (x.fD.1%(↑a.rows.length:Int)) (up (ix b.rows (x.fD.1%(↑a.rows.length:Int))) (x.fD.2%a.inputs) (⟨x.fG.to,x.fG.out⟩:Edge)))⟩:Mach)) fun g=>
 bif decide (g=0) then(
 some ((⟨a.inputs,a.outputs,a.rows⟩:Mach),(⟨b.inputs,b.outputs,(up b.rows (x.fD.1%(↑a.rows.length:Int)) (up (ix b.rows (x.fD.1%(↑a.rows.length:Int))) (x.fD.2%a.inputs) (⟨x.fG.to,x.fG.out⟩:Edge)))⟩:Mach))) else(
 some ((⟨a.inputs,a.outputs,a.rows⟩:Mach),(⟨d.inputs,d.outputs,e⟩:Mach))))
def jg(N:Nat)(s:(List Edge))(f:Edge→Option Bool):Nat→Int→Option (Ex (Unit) (Int))
 |0,_=>none
 |c+1,a=>
  bif decide (a<(↑s.length:Int)) then(
  gd (okI s a)<|
  bd (f (ix s a)) fun b=>
  bif b then(
  some (Ex.rt a)) else(
  gd (in64 (a+1))<|
  jg N s f c (a+1))) else(
  some (Ex.go ()))
def xu(N:Nat)(s:(List Edge))(f:Edge→Option Bool):Option Int:=
 bd (
 jg N s f N 0) fun a=>
 Ex.on a (fun b=>
 some (-1)) some
def yg(N:Nat)(s:(List Edge))(f:Edge→Option Bool):Option Bool:=
 bd (xu N s f) fun a=>
 some (decide (0≤a))
def z4d(N:Nat):Option Edge:=
 some (⟨(-1),(-1)⟩:Edge)
def z4g(N:Nat)(m:Mach)(x:Edge):Option Bool:=
 bd (z4d N) fun a=>
 some ((decide (x.to=a.to∧x.out=a.out))||((((decide (0≤x.to))&&(decide (x.to<(↑m.rows.length:Int))))&&(decide (0≤x.out)))&&(decide (x.out<m.outputs))))
def z1w(N:Nat)(x:Edge)(p0_:Mach):Option Bool:=
 bd (z4g N p0_ x) fun a=>
 some (!a)
def yo(N:Nat)(m:Mach):Nat→Int→Option (Ex (Unit) (Int))
 |0,_=>none
 |b+1,a=>
  bif decide (a<(↑m.rows.length:Int)) then(
  gd (okI m.rows a)<|
  bd (gop (true&&((decide ((↑(ix m.rows a).length:Int)≠m.inputs))==false)) (yg N (ix m.rows a) (fun d=>z1w N d m))) fun c=>
  bif (decide ((↑(ix m.rows a).length:Int)≠m.inputs))||(c.getD default) then(
  some (Ex.rt 1)) else(
  gd (in64 (a+1))<|
  yo N m b (a+1))) else(
  some (Ex.go ()))
def yz(N:Nat)(m:Mach):Option Int:=
 bif ((decide (16<m.inputs))||(decide (16<m.outputs)))||(decide (64<(↑m.rows.length:Int))) then(
 some 3) else(
 bif ((decide (m.inputs<1))||(decide (m.outputs<1)))||(decide ((↑m.rows.length:Int)<1)) then(
 some 1) else(
 bd (
 yo N m N 0) fun a=>
 Ex.on a (fun b=>
 some 0) some))
def xy(N:Nat)(vals:(List Int)):Nat→Int→Option (Ex (Unit) (Int))
 |0,_=>none
 |b+1,a=>
  bif decide (a<(↑vals.length:Int)) then(
  gd (okI vals a)<|
  bif decide ((ix vals a)≠0) then(
  some (Ex.rt (ix vals a))) else(
  gd (in64 (a+1))<|
  xy N vals b (a+1))) else(
  some (Ex.go ()))
def aa(N:Nat)(vals:(List Int)):Option Int:=
 bd (
 xy N vals N 0) fun a=>
 Ex.on a (fun b=>
 some 0) some
def z3c(N:Nat)(a:Mach)(b:Mach):Option Int:=
 bd (yz N a) fun c=>
 bd (yz N b) fun d=>
 bd (aa N ([c,d]:List Int)) fun e=>
 some e
def z2d(N:Nat)(s:Int)(i:Int)(x:Edge):Option (Int×Int×Edge):=
 some (s,i,(⟨x.to,x.out⟩:Edge))
def o7(N:Nat)(m:Mach):Nat→Int→(List (List Edge))→Option (List (List Edge))
 |0,_,_=>none
 |c+1,a,b=>
  bif decide (a<(↑(mk (↑m.rows.length:Int) ([]:List Edge)).length:Int)) then(
  gd (okM 16 m.inputs)<|
  gd (okI b a)<|
  gd (in64 (a+1))<|
  o7 N m c (a+1) (up b a (mk m.inputs (⟨(0:Int),(0:Int)⟩:Edge)))) else(
  some b)
def o9(N:Nat)(m:Mach)(c:Int):Nat→Int→(List (List Edge))→Option (List (List Edge))
 |0,_,_=>none
 |e+1,b,d=>
  bif decide (b<(↑(ix m.rows c).length:Int)) then(
  gd (okI (ix m.rows c) b)<|
  bd (z2d N c b (⟨(ix (ix m.rows c) b).to,(ix (ix m.rows c) b).out⟩:Edge)) fun a=>
  gd (okI d a.1)<|
  gd (okI (ix d a.1) a.2.1)<|
  gd (in64 (b+1))<|
  o9 N m c e (b+1) (up d a.1 (up (ix d a.1) a.2.1 (⟨a.2.2.to,a.2.2.out⟩:Edge)))) else(
  some d)
def oh(N:Nat)(m:Mach):Nat→Int→(List (List Edge))→Option (List (List Edge))
 |0,_,_=>none
 |c+1,a,b=>
  bif decide (a<(↑m.rows.length:Int)) then(
  bd (
  gd (okI m.rows a)<|
  o9 N m a N 0 b) fun d=>
  gd (in64 (a+1))<|
  oh N m c (a+1) d) else(
  some b)
def z1i(N:Nat)(m:Mach):Option Mach:=
 gd (okM 24 (↑m.rows.length:Int))<|
 bd (
 o7 N m N 0 (mk (↑m.rows.length:Int) ([]:List Edge))) fun a=>
 bd (
 oh N m N 0 a) fun b=>
 some (⟨m.inputs,m.outputs,b⟩:Mach)
def z3f(N:Nat):Option Edge:=
 some (⟨(-1),(-1)⟩:Edge)
def z0t(N:Nat)(s:Int)(i:Int)(x:Edge)(p0_:Int):Option (Int×Int×Edge):=
 bd (
 bd (z3f N) fun a=>
 bif decide (¬(x.to=a.to∧x.out=a.out)) then(
 gd (in64 (x.to+p0_))<|
 some (x.to+p0_)) else(
 some x.to)) fun b=>
 some (s,i,(⟨b,x.out⟩:Edge))
def bv(N:Nat)(m:Mach):Nat→Int→(List (List Edge))→Option (List (List Edge))
 |0,_,_=>none
 |c+1,a,b=>
  bif decide (a<(↑(mk (↑m.rows.length:Int) ([]:List Edge)).length:Int)) then(
  gd (okM 16 m.inputs)<|
  gd (okI b a)<|
  gd (in64 (a+1))<|
  bv N m c (a+1) (up b a (mk m.inputs (⟨(0:Int),(0:Int)⟩:Edge)))) else(
  some b)
def bu(N:Nat)(m:Mach)(fP:Int)(c:Int):Nat→Int→(List (List Edge))→Option (List (List Edge))
 |0,_,_=>none
 |e+1,b,d=>
  bif decide (b<(↑(ix m.rows c).length:Int)) then(
  gd (okI (ix m.rows c) b)<|
  bd (z0t N c b (⟨(ix (ix m.rows c) b).to,(ix (ix m.rows c) b).out⟩:Edge) fP) fun a=>
  gd (okI d a.1)<|
  gd (okI (ix d a.1) a.2.1)<|
  gd (in64 (b+1))<|
  bu N m fP c e (b+1) (up d a.1 (up (ix d a.1) a.2.1 (⟨a.2.2.to,a.2.2.out⟩:Edge)))) else(
  some d)
def pg(N:Nat)(m:Mach)(fP:Int):Nat→Int→(List (List Edge))→Option (List (List Edge))
 |0,_,_=>none
 |c+1,a,b=>
  bif decide (a<(↑m.rows.length:Int)) then(
  bd (
  gd (okI m.rows a)<|
  bu N m fP a N 0 b) fun d=>
  gd (in64 (a+1))<|
  pg N m fP c (a+1) d) else(
  some b)
def z01(N:Nat)(m:Mach)(fP:Int):Option Mach:=
 gd (okM 24 (↑m.rows.length:Int))<|
 bd (
 bv N m N 0 (mk (↑m.rows.length:Int) ([]:List Edge))) fun a=>
 bd (
 pg N m fP N 0 a) fun b=>
 some (⟨m.inputs,m.outputs,b⟩:Mach)
def bf(N:Nat)(n:Int):Option (List (List Edge)):=
 bif decide (n<0) then(
 none) else(
 bd (
 gd (in64 ((0:Int)-0))<|
 gd (in64 (n-((0:Int)-0)))<|
 bif decide (0<(n-((0:Int)-0))) then(
 gd (okZ 24 (n-((0:Int)-0)))<|
 gd (okS (mk (n-((0:Int)-0)) ([]:List Edge)) 0 0)<|
 some (cut (mk (n-((0:Int)-0)) ([]:List Edge)) 0 0)) else(
 some ([]:List (List Edge)))) fun a=>
 some a)
def ul(N:Nat)(slices:(List (List (List Edge)))):Nat→Int→Int→Option Int
 |0,_,_=>none
 |c+1,b,a=>
  bif decide (a<(↑slices.length:Int)) then(
  gd (okI slices a)<|
  gd (in64 (b+(↑(ix slices a).length:Int)))<|
  bif decide ((b+(↑(ix slices a).length:Int))<0) then(
  none) else(
  gd (in64 (a+1))<|
  ul N slices c (b+(↑(ix slices a).length:Int)) (a+1))) else(
  some b)
def uk(N:Nat)(slices:(List (List (List Edge)))):Nat→Int→(List (List Edge))→Option (List (List Edge))
 |0,_,_=>none
 |c+1,a,b=>
  bif decide (a<(↑slices.length:Int)) then(
  gd (okI slices a)<|
  gd (fits 24 b (ix slices a))<|
  gd (in64 (a+1))<|
  uk N slices c (a+1) (b++(ix slices a))) else(
  some b)
def bi(N:Nat)(slices:(List (List (List Edge)))):Option (List (List Edge)):=
 bd (
 ul N slices N 0 0) fun c=>
 bd (bf N c) fun a=>
 bd (
 uk N slices N 0 a) fun b=>
 some b
def dm(N:Nat)(s:(List (List Edge))):Option (List (List Edge)):=
 gd (okS s 0 (↑s.length:Int))<|
 some (cut s 0 (↑s.length:Int))
def z1b(N:Nat)(a:Mach)(b:Mach):Option (Mach×Int):=
 bd (z3c N a b) fun c=>
 bif decide (c≠0) then(
 some ((⟨0,0,[]⟩:Mach),c)) else(
 bif decide (a.inputs≠b.inputs) then(
 some ((⟨0,0,[]⟩:Mach),5)) else(
 gd (in64 ((↑a.rows.length:Int)+(↑b.rows.length:Int)))<|
 bif decide (64<((↑a.rows.length:Int)+(↑b.rows.length:Int))) then(
 some ((⟨0,0,[]⟩:Mach),3)) else(
 bd (z1i N a) fun d=>
 bd (z01 N b (↑a.rows.length:Int)) fun e=>
 bd (bi N ([d.rows,e.rows]:List (List (List Edge)))) fun f=>
 bd (dm N f) fun g=>
 some ((⟨a.inputs,max a.outputs b.outputs,g⟩:Mach),0))))
def z1l(N:Nat)(m:Mach):Option Mach:=
 some m
def yh(N:Nat)(m:Mach)(p:(List Int))(s:Int):Nat→Int→(Arr 16 (Int×Int))→Option (Arr 16 (Int×Int))
 |0,_,_=>none
 |c+1,a,b=>
  bif decide (a<(↑(ix m.rows s).length:Int)) then(
  bd (
  gd (okI (ix m.rows s) a)<|
  gd (okI b.1 a)<|
  bif decide (((ix (ix m.rows s) a).to)≠(-1)) then(
  gd (okI p ((ix (ix m.rows s) a).to))<|
  gd (okI (fu b a (((ix (ix m.rows s) a).out,(-1)):(Int×Int))).1 a)<|
  some (fu (fu b a (((ix (ix m.rows s) a).out,(-1)):(Int×Int))) a (((ix (fu b a (((ix (ix m.rows s) a).out,(-1)):(Int×Int))).1 a).1,(ix p ((ix (ix m.rows s) a).to))):(Int×Int)))) else(
  some (fu b a (((ix (ix m.rows s) a).out,(-1)):(Int×Int))))) fun d=>
  gd (in64 (a+1))<|
  yh N m p s c (a+1) d) else(
  some b)
def z1n(N:Nat)(m:Mach)(p:(List Int))(s:Int):Option (Arr 16 (Int×Int)):=
 bd (
 gd (okI m.rows s)<|
 yh N m p s N 0 (z3w 16 (List.replicate 16 (((0:Int),(0:Int)):(Int×Int))))) fun a=>
 some a
def yf(N:Nat)(m:Mach)(p:(List Int)):Nat→Int→(List (Sb×Int))→(List Int)→Option (List Int)
 |0,_,_,_=>none
 |f+1,a,b,c=>
  bif decide (a<(↑p.length:Int)) then(
  gd (okI p a)<|
  bd (z1n N m p a) fun d=>
  bd (
  bif !(z1d b (⟨(ix p a),d⟩:Sb)) then(
  some (z2x b (⟨(ix p a),d⟩:Sb) (↑b.length:Int))) else(
  some b)) fun e=>
  gd (okI c a)<|
  gd (in64 (a+1))<|
  yf N m p f (a+1) e (up c a (z1c (0:Int) e (⟨(ix p a),d⟩:Sb)))) else(
  some c)
def l7(N:Nat)(m:Mach)(p:(List Int)):Option (List Int):=
 gd (okM 8 (↑p.length:Int))<|
 bd (
 yf N m p N 0 ([]:List (Sb×Int)) (mk (↑p.length:Int) (0:Int))) fun a=>
 some a
def vg(N:Nat)(s1_:(List Int))(s2_:(List Int)):Nat→Int→Option (Ex (Unit) (Bool))
 |0,_=>none
 |b+1,a=>
  bif decide (a<(↑s1_.length:Int)) then(
  gd (okI s1_ a)<|
  gd (okI s2_ a)<|
  bif decide ((ix s1_ a)≠(ix s2_ a)) then(
  some (Ex.rt false)) else(
  gd (in64 (a+1))<|
  vg N s1_ s2_ b (a+1))) else(
  some (Ex.go ()))
def slices_Equal_int(N:Nat)(s1_:(List Int))(s2_:(List Int)):Option Bool:=
 bif decide ((↑s1_.length:Int)≠(↑s2_.length:Int)) then(
 some false) else(
 bd (
 vg N s1_ s2_ N 0) fun a=>
 Ex.on a (fun b=>
 some true) some)
def xx(N:Nat)(σ:Type)(B:(List Int)→σ→Option (Bool×σ))(p0_:Mach):Nat→σ→(List Int)→Option σ
 |0,_,_=>none
 |d+1,e,b=>
  bd (B b e) fun a=>
  bif a.1 then(
  bd (l7 N p0_ b) fun c=>
  bd (slices_Equal_int N b c) fun f=>
  bif f then(
  some a.2) else(
  xx N σ B p0_ d a.2 c)) else(
  some a.2)
def z0l(N:Nat)(p0_:Mach)(σ:Type)(B:(List Int)→σ→Option (Bool×σ))(s0:σ):Option σ:=
 gd (okM 8 (↑p0_.rows.length:Int))<|
 xx N σ B p0_ N s0 (mk (↑p0_.rows.length:Int) (0:Int))
def l9(N:Nat)(m:Mach):Option ((List Int)×Int×Int):=
 bd (yz N m) fun a=>
 bif decide (a≠0) then(
 some (([]:(List Int)),0,a)) else(
 bd (z1l N m) fun d=>
 bd (z0l N d ((List Int)×Int) (fun e b=>
 gd (in64 (b.2+1))<|
 some (true,(e,b.2+1))) (([]:(List Int)),(-1))) fun c=>
 some (c.1,c.2,0))
def dz(N:Nat)(m:Mach)(s:Int)(t:Int):Option (Bool×Int):=
 bd (l9 N m) fun a=>
 bif decide (a.2.2≠0) then(
 some (false,a.2.2)) else(
 bif (decide ((min s t)<0))||(decide ((↑a.1.length:Int)≤(max s t))) then(
 some (false,1)) else(
 gd (okI a.1 s)<|
 gd (okI a.1 t)<|
 some ((decide ((ix a.1 s)=(ix a.1 t))),0)))
def jv(N:Nat)(s:(List Int))(f:Int→Option Bool):Nat→Int→Option (Ex (Unit) (Int))
 |0,_=>none
 |c+1,a=>
  bif decide (a<(↑s.length:Int)) then(
  gd (okI s a)<|
  bd (f (ix s a)) fun b=>
  bif b then(
  some (Ex.rt a)) else(
  gd (in64 (a+1))<|
  jv N s f c (a+1))) else(
  some (Ex.go ()))
def iq(N:Nat)(s:(List Int))(f:Int→Option Bool):Option Int:=
 bd (
 jv N s f N 0) fun a=>
 Ex.on a (fun b=>
 some (-1)) some
def bn(N:Nat)(s:(List Int))(f:Int→Option Bool):Option Bool:=
 bd (iq N s f) fun a=>
 some (decide (0≤a))
def z3h(N:Nat)(s:Int)(p0_:Mach):Option Bool:=
 some ((decide (s<0))||(decide ((↑p0_.rows.length:Int)≤s)))
def z1j(N:Nat)(m:Mach)(l_:(List Int)):Option Int:=
 bd (yz N m) fun b=>
 bif decide (b≠0) then(
 some b) else(
 bd (bn N l_ (fun c=>z3h N c m)) fun a=>
 bif a then(
 some 1) else(
 some 0))
def z1o(N:Nat)(m:Mach):Option Mach:=
 some m
def p9(N:Nat)(σ:Type)(B:(Int×Int)→σ→Option (Bool×σ))(p0_:Mach)(e:Int):Nat→σ→Int→Option (Ex (σ) (σ))
 |0,_,_=>none
 |d+1,c,a=>
  bif decide (a<(↑p0_.rows.length:Int)) then(
  bd (B (e,a) c) fun b=>
  bif !b.1 then(
  some (Ex.rt b.2)) else(
  gd (in64 (a+1))<|
  p9 N σ B p0_ e d b.2 (a+1))) else(
  some (Ex.go c))
def p8(N:Nat)(σ:Type)(B:(Int×Int)→σ→Option (Bool×σ))(p0_:Mach):Nat→σ→Int→Option σ
 |0,_,_=>none
 |e+1,d,a=>
  bif decide (a<(↑p0_.rows.length:Int)) then(
  bd (
  gd (in64 (a+1))<|
  p9 N σ B p0_ a N d (a+1)) fun b=>
  Ex.on b (fun c=>
  gd (in64 (a+1))<|
  p8 N σ B p0_ e c (a+1)) some) else(
  some d)
def z08(N:Nat)(p0_:Mach)(σ:Type)(B:(Int×Int)→σ→Option (Bool×σ))(s0:σ):Option σ:=
 p8 N σ B p0_ N s0 0
def iw(N:Nat)(n:Int):Option (List Int):=
 bif decide (n<0) then(
 none) else(
 bd (
 gd (in64 ((0:Int)-0))<|
 gd (in64 (n-((0:Int)-0)))<|
 bif decide (0<(n-((0:Int)-0))) then(
 gd (okZ 8 (n-((0:Int)-0)))<|
 gd (okS (mk (n-((0:Int)-0)) (0:Int)) 0 0)<|
 some (cut (mk (n-((0:Int)-0)) (0:Int)) 0 0)) else(
 some ([]:List Int))) fun a=>
 some a)
def xc(N:Nat)(slices:(List (List Int))):Nat→Int→Int→Option Int
 |0,_,_=>none
 |c+1,b,a=>
  bif decide (a<(↑slices.length:Int)) then(
  gd (okI slices a)<|
  gd (in64 (b+(↑(ix slices a).length:Int)))<|
  bif decide ((b+(↑(ix slices a).length:Int))<0) then(
  none) else(
  gd (in64 (a+1))<|
  xc N slices c (b+(↑(ix slices a).length:Int)) (a+1))) else(
  some b)
def xg(N:Nat)(slices:(List (List Int))):Nat→Int→(List Int)→Option (List Int)
 |0,_,_=>none
 |c+1,a,b=>
  bif decide (a<(↑slices.length:Int)) then(
  gd (okI slices a)<|
  gd (fits 8 b (ix slices a))<|
  gd (in64 (a+1))<|
  xg N slices c (a+1) (b++(ix slices a))) else(
  some b)
def tq(N:Nat)(slices:(List (List Int))):Option (List Int):=
 bd (
 xc N slices N 0 0) fun c=>
 bd (iw N c) fun a=>
 bd (
 xg N slices N 0 a) fun b=>
 some b
def ik(N:Nat)(s:(List Int)):Option (List Int):=
 gd (okS s 0 (↑s.length:Int))<|
 some (cut s 0 (↑s.length:Int))
def uu(N:Nat)(m:Mach)(s:Int)(t:Int)(n:Int)(fP:(List (List Int))):Nat→Int→Option (List Int)
 |0,_=>none
 |c+1,a=>
  bif decide (a<(↑(ix m.rows s).length:Int)) then(
  gd (okI (ix m.rows s) a)<|
  gd (okI m.rows t)<|
  gd (okI (ix m.rows t) a)<|
  bif decide (((ix (ix m.rows s) a).out)≠((ix (ix m.rows t) a).out)) then(
  some ([a]:List Int)) else(
  gd ((true&&(((decide (1<n))&&(decide (((ix (ix m.rows s) a).to)≠(-1))))==true))=true→(0:Int)≤(ix (ix m.rows s) a).to∧(ix (ix m.rows s) a).to<(64:Nat))<|
  gd ((true&&(((decide (1<n))&&(decide (((ix (ix m.rows s) a).to)≠(-1))))==true))=true→(0:Int)≤(ix (ix m.rows t) a).to∧(ix (ix m.rows t) a).to<(64:Nat))<|
  gd ((true&&(((decide (1<n))&&(decide (((ix (ix m.rows s) a).to)≠(-1))))==true))=true→in64 (n-1))<|
  bif ((decide (1<n))&&(decide (((ix (ix m.rows s) a).to)≠(-1))))&&(decide ((↑(ix fP (i2 ((ix (ix m.rows s) a).to) ((ix (ix m.rows t) a).to))).length:Int)=(n-1))) then(
  gd ((0:Int)≤(ix (ix m.rows s) a).to∧(ix (ix m.rows s) a).to<(64:Nat))<|
  gd ((0:Int)≤(ix (ix m.rows t) a).to∧(ix (ix m.rows t) a).to<(64:Nat))<|
  bd (tq N ([([a]:List Int),(ix fP (i2 ((ix (ix m.rows s) a).to) ((ix (ix m.rows t) a).to)))]:List (List Int))) fun b=>
  some b) else(
  gd (in64 (a+1))<|
  uu N m s t n fP c (a+1)))) else(
  some ([]:(List Int)))
def mh(N:Nat)(m:Mach)(s:Int)(t:Int)(n:Int)(fP:(List (List Int))):Option (List Int):=
 bd (
 gd (okI m.rows s)<|
 uu N m s t n fP N 0) fun b=>
 bif decide ((↑b.length:Int)≠n) then(
 some ([]:(List Int))) else(
 bd (ik N b) fun a=>
 gd (0<a.length)<|
 some a)
def ry(N:Nat)(s:Int)(t:Int)(w_:(List Int))(fP:(List (List Int))):Option (List (List Int)):=
 gd ((0:Int)≤s∧s<(64:Nat))<|
 gd ((0:Int)≤t∧t<(64:Nat))<|
 gd (0<w_.length)<|
 gd ((0:Int)≤t∧t<(64:Nat))<|
 gd ((0:Int)≤s∧s<(64:Nat))<|
 gd (0<w_.length)<|
 some (up (up fP (i2 s t) w_) (i2 t s) w_)
def yn(N:Nat)(b:List Sc):Nat→Int→(List (List Int))→Option (List (List Int))
 |0,_,_=>none
 |d+1,a,c=>
  bif decide (a<(↑b.length:Int)) then(
  gd (okI b a)<|
  bd (ry N ((ix b a).fAb) ((ix b a).fAc) ((ix b a).fAe) c) fun e=>
  gd (in64 (a+1))<|
  yn N b d (a+1) e) else(
  some c)
def xz(N:Nat)(m:Mach):Nat→Int→(List (List Int))→Option (List (List Int))
 |0,_,_=>none
 |f+1,b,c=>
  bif decide (b<(max (↑m.rows.length:Int) 2)) then(
  bd (
  bd (z1o N m) fun g=>
  bd (z08 N g (List Sc) (fun a d=>
  gd ((0:Int)≤a.1∧a.1<(64:Nat))<|
  gd ((0:Int)≤a.2∧a.2<(64:Nat))<|
  bif !(ix c (i2 a.1 a.2)).isEmpty then(
  some (true,d)) else(
  bd (mh N m a.1 a.2 b c) fun e=>
  bif !e.isEmpty then(
  gd (fits 48 d ([(⟨a.1,a.2,e,false⟩:Sc)]:List Sc))<|
  some (true,(d++([(⟨a.1,a.2,e,false⟩:Sc)]:List Sc)))) else(
  some (true,d)))) ([]:List Sc)) fun h=>
  yn N h N 0 c) fun i=>
  gd (in64 (b+1))<|
  xz N m f (b+1) i) else(
  some c)
def z0f(N:Nat)(m:Mach):Option (List (List Int)):=
 bd (
 xz N m N 1 ((List.replicate 4096 []):List (List Int))) fun a=>
 some a
def slices_Clone_int(N:Nat)(s:(List Int)):Option (List Int):=
 gd (fits 8 ([]:List Int) s)<|
 some (([]:List Int)++s)
def il(N:Nat)(m:Mach)(s:Int)(t:Int):Option ((List Int)×Bool×Int):=
 bd (z1j N m ([s,t]:List Int)) fun a=>
 bif decide (a≠0) then(
 some (([]:(List Int)),false,a)) else(
 bd (z0f N m) fun c=>
 gd ((0:Int)≤s∧s<(64:Nat))<|
 gd ((0:Int)≤t∧t<(64:Nat))<|
 bd (slices_Clone_int N (ix c (i2 s t))) fun d=>
 bd (ik N d) fun b=>
 some (b,(decide (0<(↑b.length:Int))),0))
def z2g(N:Nat)(a:Mach)(b:Mach):Option Int:=
 bd (yz N a) fun d=>
 bd (yz N b) fun e=>
 bd (aa N ([d,e]:List Int)) fun c=>
 bd (
 bif (decide (c=0))&&(decide (a.inputs≠b.inputs)) then(
 some 5) else(
 some c)) fun f=>
 some f
def z2t(N:Nat)(a:Mach)(b:Mach):Option (Mach×Mach):=
 some (a,b)
def bz(N:Nat)(σ:Type)(B:(Sg×(List Sa))→σ→Option (Bool×σ))(p0_:Mach)(p1_:Mach)(a:Int)(c:List Sa):Nat→σ→Int→(List ((Int×Int)×Bool))→(List Sa)→Option (Ex (σ×List ((Int×Int)×Bool)×List Sa) (σ))
 |0,_,_,_,_=>none
 |i+1,h,b,f,e=>
  bif decide (b<p0_.inputs) then(
  bd (
  gd (okI p0_.rows (((ix c a).fC).1))<|
  gd (okI (ix p0_.rows (((ix c a).fC).1)) b)<|
  gd (okI p1_.rows (((ix c a).fC).2))<|
  gd (okI (ix p1_.rows (((ix c a).fC).2)) b)<|
  bd (B ((⟨a,b,(⟨(ix (ix p0_.rows (((ix c a).fC).1)) b).to,(ix (ix p0_.rows (((ix c a).fC).1)) b).out⟩:Edge),(⟨(ix (ix p1_.rows (((ix c a).fC).2)) b).to,(ix (ix p1_.rows (((ix c a).fC).2)) b).out⟩:Edge)⟩:Sg),e) h) fun d=>
  bif !d.1 then(
  some (Ex.rt (Ex.rt d.2))) else(
  bif ((decide (((ix (ix p0_.rows (((ix c a).fC).1)) b).to)≠(-1)))&&(decide (((ix (ix p1_.rows (((ix c a).fC).2)) b).to)≠(-1))))&&(!(z1c false f (((ix (ix p0_.rows (((ix c a).fC).1)) b).to,(ix (ix p1_.rows (((ix c a).fC).2)) b).to):(Int×Int)))) then(
  gd (fits 32 e ([(⟨(((ix (ix p0_.rows (((ix c a).fC).1)) b).to,(ix (ix p1_.rows (((ix c a).fC).2)) b).to):(Int×Int)),a,b⟩:Sa)]:List Sa))<|
  some (Ex.go (d.2,(z2x f (((ix (ix p0_.rows (((ix c a).fC).1)) b).to,(ix (ix p1_.rows (((ix c a).fC).2)) b).to):(Int×Int)) true),(e++([(⟨(((ix (ix p0_.rows (((ix c a).fC).1)) b).to,(ix (ix p1_.rows (((ix c a).fC).2)) b).to):(Int×Int)),a,b⟩:Sa)]:List Sa))))) else(
  some (Ex.go (d.2,f,e))))) fun j=>
  Ex.on j (fun g=>
  gd (in64 (b+1))<|
  bz N σ B p0_ p1_ a c i g.1 (b+1) g.2.1 g.2.2) some) else(
  some (Ex.go (h,f,e)))
def gm(N:Nat)(σ:Type)(B:(Sg×(List Sa))→σ→Option (Bool×σ))(p0_:Mach)(p1_:Mach):Nat→σ→Int→(List ((Int×Int)×Bool))→(List Sa)→Option σ
 |0,_,_,_,_=>none
 |e+1,d,a,f,b=>
  bif decide (a<(↑b.length:Int)) then(
  bd (
  gd (okI b a)<|
  gd (okI b a)<|
  bz N σ B p0_ p1_ a b N d 0 f b) fun g=>
  Ex.on g (fun c=>
  gd (in64 (a+1))<|
  gm N σ B p0_ p1_ e c.1 (a+1) c.2.1 c.2.2) some) else(
  some d)
def z1h(N:Nat)(p0_:Mach)(p1_:Mach)(σ:Type)(B:(Sg×(List Sa))→σ→Option (Bool×σ))(s0:σ):Option σ:=
 gm N σ B p0_ p1_ N s0 0 (z2x ([]:List ((Int×Int)×Bool)) ((0,0):(Int×Int)) true) ([(⟨((0,0):(Int×Int)),(-1),0⟩:Sa)]:List Sa)
def iy(N:Nat)(s:List Int):Option (List Int):=
 gd (okS s 0 (↑s.length:Int))<|
 some (cut s 0 (↑s.length:Int))
def dx(N:Nat)(l_:(List Sa)):Nat→Int→(List Int)→Option (List Int)
 |0,_,_=>none
 |c+1,a,b=>
  gd (okI l_ a)<|
  bif decide (((ix l_ a).fU)≠(-1)) then(
  gd (okI l_ a)<|
  gd (fits 8 ([(ix l_ a).fI]:List Int) b)<|
  gd (okI l_ a)<|
  dx N l_ c ((ix l_ a).fU) (([(ix l_ a).fI]:List Int)++b)) else(
  some b)
def lg(N:Nat)(l_:(List Sa))(at_:Int)(more:List Int):Option (List Int):=
 bd (
 dx N l_ N at_ more) fun b=>
 bd (iy N b) fun a=>
 some a
def jl(N:Nat)(s:(List (Int×Int)))(v_:(Int×Int)):Nat→Int→Option (Ex (Unit) (Int))
 |0,_=>none
 |b+1,a=>
  bif decide (a<(↑s.length:Int)) then(
  gd (okI s a)<|
  bif decide (v_.1=((ix s a).1)∧v_.2=((ix s a).2)) then(
  some (Ex.rt a)) else(
  gd (in64 (a+1))<|
  jl N s v_ b (a+1))) else(
  some (Ex.go ()))
def su(N:Nat)(s:(List (Int×Int)))(v_:(Int×Int)):Option Int:=
 bd (
 jl N s v_ N 0) fun a=>
 Ex.on a (fun b=>
 some (-1)) some
def xk(N:Nat)(s:(List (Int×Int)))(v_:(Int×Int)):Option Bool:=
 bd (su N s v_) fun a=>
 some (decide (0≤a))
def si(N:Nat)(a:Mach)(b:Mach):Option ((List Int)×(List (Int×Int))):=
 bd (z2t N a b) fun e=>
 bd (z1h N e.1 e.2 (Ex (List (Int×Int)) ((List Int)×(List (Int×Int)))) (fun c s=>Ex.on s (fun d=>
 bif decide (c.1.fM.out≠c.1.fO.out) then(
 bd (lg N c.2 c.1.fV ([c.1.fI]:List Int)) fun g=>
 some (false,Ex.rt (g,([]:(List (Int×Int)))))) else(
 bd (gop (true&&((decide (c.1.fM.to≠(-1)))==true)) (xk N d ((c.1.fM.to,c.1.fO.to):(Int×Int)))) fun f=>
 bif (decide (c.1.fM.to≠(-1)))&&(!(f.getD default)) then(
 gd (fits 16 d ([((c.1.fM.to,c.1.fO.to):(Int×Int))]:List (Int×Int)))<|
 some (true,Ex.go (d++([((c.1.fM.to,c.1.fO.to):(Int×Int))]:List (Int×Int))))) else(
 some (true,Ex.go d)))) fun _=>none) (Ex.go ([((0,0):(Int×Int))]:List (Int×Int)))) fun h=>
 Ex.on h (fun i=>
 some (([]:(List Int)),i)) some
def ng(N:Nat)(a:Mach)(b:Mach):Option ((List Int)×Bool×Int):=
 bd (z2g N a b) fun c=>
 bif decide (c≠0) then(
 some (([]:(List Int)),false,c)) else(
 bd (si N a b) fun d=>
 some (d.1,(decide (0<(↑d.1.length:Int))),0))
def ko(N:Nat)(a:(List Int))(b:(List Int)):Nat→Int→Option (Ex (Unit) (Int))
 |0,_=>none
 |d+1,c=>
  bif decide (c<(↑a.length:Int)) then(
  gd (okI a c)<|
  gd (okI b c)<|
  bif decide ((ix a c)<(ix b c)) then(
  some (Ex.rt (-1))) else(
  gd (okI a c)<|
  gd (okI b c)<|
  bif decide ((ix b c)<(ix a c)) then(
  some (Ex.rt 1)) else(
  gd (in64 (c+1))<|
  ko N a b d (c+1)))) else(
  some (Ex.go ()))
def di(N:Nat)(a:(List Int))(b:(List Int)):Option Int:=
 bif decide ((↑a.length:Int)<(↑b.length:Int)) then(
 some (-1)) else(
 bif decide ((↑b.length:Int)<(↑a.length:Int)) then(
 some 1) else(
 bd (
 ko N a b N 0) fun c=>
 Ex.on c (fun d=>
 some 0) some))
def ak(N:Nat)(a:(List Int))(b:(List Int)):Option Bool:=
 bd (di N a b) fun c=>
 some (decide (c=0))
def ae(N:Nat):Option Bool:=some true
def nk(N:Nat)(x:Sd):Option Bool:=
 bd (au N x) fun d=>
 bd (z1b N (⟨d.1.inputs,d.1.outputs,d.1.rows⟩:Mach) (⟨d.2.inputs,d.2.outputs,d.2.rows⟩:Mach)) fun b=>
 bd (dz N (⟨b.1.inputs,b.1.outputs,b.1.rows⟩:Mach) 0 (↑d.1.rows.length:Int)) fun e=>
 bd (il N (⟨b.1.inputs,b.1.outputs,b.1.rows⟩:Mach) 0 (↑d.1.rows.length:Int)) fun c=>
 bd (ng N (⟨d.1.inputs,d.1.outputs,d.1.rows⟩:Mach) (⟨d.2.inputs,d.2.outputs,d.2.rows⟩:Mach)) fun a=>
 bd (gop (true&&(((((((decide (b.2=0))&&(decide (e.2=0)))&&(decide (c.2.2=0)))&&(decide (a.2.2=0)))&&(decide (e.1=(!a.2.1))))&&(decide (c.2.1=a.2.1)))==true)) (ak N c.1 a.1)) fun f=>
 bd (gop (true&&((((((((decide (b.2=0))&&(decide (e.2=0)))&&(decide (c.2.2=0)))&&(decide (a.2.2=0)))&&(decide (e.1=(!a.2.1))))&&(decide (c.2.1=a.2.1)))&&(f.getD default))==true)) (ae N)) fun g=>
 some ((((((((decide (b.2=0))&&(decide (e.2=0)))&&(decide (c.2.2=0)))&&(decide (a.2.2=0)))&&(decide (e.1=(!a.2.1))))&&(decide (c.2.1=a.2.1)))&&(f.getD default))&&(g.getD default))
end GV
end Go.Proofs.YtkkcidhcfkmbjaaGreatDoor
