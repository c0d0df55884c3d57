import Derived.Test.YtdhccodneoebpaaShTypes
set_option linter.unusedVariables false
set_option linter.unusedSimpArgs false
set_option linter.unusedSectionVars false
namespace Go.Proofs.Ytdhccodneoebpaa
namespace GV
set_option maxRecDepth 100000
def u7(N:Nat)(s:(List Edge))(f:Edge→Option Bool):Nat→Int→Option (Ex (Unit) (Int))
 |0,_=>none
 |c+1,a=>
  bif decide (a<(↑s.length:Int)) then(
  gd (okI s a)<|
  bd (f (ix s a)) fun b=>
  bif b then(
  some (Ex.rt a)) else(
  gd (in64 (a+1))<|
  u7 N s f c (a+1))) else(
  some (Ex.go ()))
def dw(N:Nat)(s:(List Edge))(f:Edge→Option Bool):Option Int:=
 bd (
 u7 N s f N 0) fun a=>
 Ex.on a (fun b=>
 some (-1)) some
def gy(N:Nat)(s:(List Edge))(f:Edge→Option Bool):Option Bool:=
 bd (dw N s f) fun a=>
 some (decide (0≤a))
def z8d(N:Nat):Option Edge:=
 some (⟨(-1),(-1)⟩:Edge)
def z8c(N:Nat)(m:Mach)(x:Edge):Option Bool:=
 bd (z8d N) fun a=>
 some ((decide (x.to=a.to∧x.out=a.out))||((((decide (0≤x.to))&&(decide (x.to<(↑m.rows.length:Int))))&&(decide (0≤x.out)))&&(decide (x.out<m.outputs))))
def z5g(N:Nat)(x:Edge)(p0_:Mach):Option Bool:=
 bd (z8c N p0_ x) fun a=>
 some (!a)
def bi(N:Nat)(m:Mach):Nat→Int→Option (Ex (Unit) (Int))
 |0,_=>none
 |b+1,a=>
  bif decide (a<(↑m.rows.length:Int)) then(
  gd (okI m.rows a)<|
  bd (gop (true&&((decide ((↑(ix m.rows a).length:Int)≠m.inputs))==false)) (gy N (ix m.rows a) (fun d=>z5g N d m))) fun c=>
  bif (decide ((↑(ix m.rows a).length:Int)≠m.inputs))||(c.getD default) then(
  some (Ex.rt 1)) else(
  gd (in64 (a+1))<|
  bi N m b (a+1))) else(
  some (Ex.go ()))
def z1h(N:Nat)(m:Mach):Option Int:=
 bif ((decide (16<m.inputs))||(decide (16<m.outputs)))||(decide (64<(↑m.rows.length:Int))) then(
 some 3) else(
 bif ((decide (m.inputs<1))||(decide (m.outputs<1)))||(decide ((↑m.rows.length:Int)<1)) then(
 some 1) else(
 bd (
 bi N m N 0) fun a=>
 Ex.on a (fun b=>
 some 0) some))
def yn(N:Nat)(self:Int→List Bool→Mach→Option (List Bool))(s:Int)(p1_:Mach):Nat→Int→(List Bool)→Option (List Bool)
 |0,_,_=>none
 |c+1,a,b=>
  bif decide (a<(↑(ix p1_.rows s).length:Int)) then(
  gd (okI (ix p1_.rows s) a)<|
  bd (self ((ix (ix p1_.rows s) a).to) b p1_) fun d=>
  gd (in64 (a+1))<|
  yn N self s p1_ c (a+1) d) else(
  some b)
def y7(N:Nat):Nat→Int→List Bool→Mach→Option (List Bool)
 |0,_,_,_=>none
 |F+1,s,p0_,p1_=>
  gd ((true&&((decide (s=(-1)))==false))=true→okI p0_ s)<|
  bif (decide (s=(-1)))||(ix p0_ s) then(
  some p0_) else(
  gd (okI p0_ s)<|
  gd (okI p1_.rows s)<|
  yn N (y7 N F) s p1_ N 0 (up p0_ s true))
def yu(N:Nat)(s:(List Bool))(v_:Bool):Nat→Int→Option (Ex (Unit) (Int))
 |0,_=>none
 |b+1,a=>
  bif decide (a<(↑s.length:Int)) then(
  gd (okI s a)<|
  bif decide (v_=(ix s a)) then(
  some (Ex.rt a)) else(
  gd (in64 (a+1))<|
  yu N s v_ b (a+1))) else(
  some (Ex.go ()))
def z0t(N:Nat)(s:(List Bool))(v_:Bool):Option Int:=
 bd (
 yu N s v_ N 0) fun a=>
 Ex.on a (fun b=>
 some (-1)) some
def l8(N:Nat)(s:(List Bool))(v_:Bool):Option Bool:=
 bd (z0t N s v_) fun a=>
 some (decide (0≤a))
def z0e(N:Nat)(m:Mach):Option (Bool×Int):=
 bd (z1h N m) fun c=>
 bif decide (c≠0) then(
 some (false,c)) else(
 gd (okM 1 (↑m.rows.length:Int))<|
 bd (y7 N N 0 (mk (↑m.rows.length:Int) false) m) fun a=>
 bd (l8 N a false) fun b=>
 some ((!b),0))
def au(N:Nat)(m:Mach):Option Int:=
 bd (z0e N m) fun a=>
 bif (decide (a.2=0))&&(!a.1) then(
 some 11) else(
 some a.2)
def ym(N:Nat)(m:Mach)(s:Int):Option (Mach×Int):=
 some (m,s)
def tq(N:Nat)(σ:Type)(B:Sb→σ→Option (Bool×σ))(p0_:Mach)(p1_:Int):Nat→σ→Int→Option σ
 |0,_,_=>none
 |d+1,b,a=>
  bif decide (a<(↑(ix p0_.rows p1_).length:Int)) then(
  bd (
  gd (okI (ix p0_.rows p1_) a)<|
  bif decide (((ix (ix p0_.rows p1_) a).to)≠(-1)) then(
  bd (B (⟨a,(ix (ix p0_.rows p1_) a).to⟩:Sb) b) fun c=>
  bif !c.1 then(
  some (Ex.rt c.2)) else(
  some (Ex.go c.2))) else(
  some (Ex.go b))) fun e=>
  Ex.on e (fun f=>
  gd (in64 (a+1))<|
  tq N σ B p0_ p1_ d f (a+1)) some) else(
  some b)
def xu(N:Nat)(p0_:Mach)(p1_:Int)(σ:Type)(B:Sb→σ→Option (Bool×σ))(s0:σ):Option σ:=
 gd (okI p0_.rows p1_)<|
 tq N σ B p0_ p1_ N s0 0
def fq(N:Nat)(m:Mach):Nat→(List Bool)→(List Int)→Option (List Bool)
 |0,_,_=>none
 |g+1,d,a=>
  bif decide (0<(↑a.length:Int)) then(
  gd (in64 ((↑a.length:Int)-1))<|
  gd (okI a ((↑a.length:Int)-1))<|
  gd (in64 ((↑a.length:Int)-1))<|
  gd (okS a 0 ((↑a.length:Int)-1))<|
  bd (ym N m (ix a ((↑a.length:Int)-1))) fun e=>
  bd (xu N e.1 e.2 (List Bool×List Int) (fun c b=>
  gd (okI b.1 c.fB)<|
  bif !(ix b.1 c.fB) then(
  gd (okI b.1 c.fB)<|
  gd (fits 8 b.2 ([c.fB]:List Int))<|
  some (true,((up b.1 c.fB true),(b.2++([c.fB]:List Int))))) else(
  some (true,(b.1,b.2)))) (d,(cut a 0 ((↑a.length:Int)-1)))) fun f=>
  fq N m g f.1 f.2) else(
  some d)
def z5y(N:Nat)(m:Mach)(s:Int):Option (List Bool):=
 gd (okM 1 (↑m.rows.length:Int))<|
 gd (okI (mk (↑m.rows.length:Int) false) s)<|
 bd (
 fq N m N (up (mk (↑m.rows.length:Int) false) s true) ([s]:List Int)) fun a=>
 some a
def oz(N:Nat)(m:Mach):Nat→Int→(List (List Bool))→Option (List (List Bool))
 |0,_,_=>none
 |c+1,a,b=>
  bif decide (a<(↑(mk (↑m.rows.length:Int) ([]:List Bool)).length:Int)) then(
  bd (z5y N m a) fun d=>
  gd (okI b a)<|
  gd (in64 (a+1))<|
  oz N m c (a+1) (up b a d)) else(
  some b)
def om(N:Nat)(c:List (List Bool))(a:Int):Nat→(List Int)→Option (List Int)
 |0,_=>none
 |d+1,b=>
  gd (okI c a)<|
  gd (okI b a)<|
  gd (okI (ix c a) (ix b a))<|
  gd ((true&&((!(ix (ix c a) (ix b a)))==false))=true→okI b a)<|
  gd ((true&&((!(ix (ix c a) (ix b a)))==false))=true→okI c (ix b a))<|
  gd ((true&&((!(ix (ix c a) (ix b a)))==false))=true→okI (ix c (ix b a)) a)<|
  bif (!(ix (ix c a) (ix b a)))||(!(ix (ix c (ix b a)) a)) then(
  gd (okI b a)<|
  gd (in64 ((ix b a)+1))<|
  gd (okI b a)<|
  om N c a d (up b a ((ix b a)+1))) else(
  some b)
def l9(N:Nat)(m:Mach)(b:List (List Bool)):Nat→Int→(List Int)→Option (List Int)
 |0,_,_=>none
 |d+1,a,c=>
  bif decide (a<(↑(mk (↑m.rows.length:Int) (0:Int)).length:Int)) then(
  bd (
  om N b a N c) fun e=>
  gd (in64 (a+1))<|
  l9 N m b d (a+1) e) else(
  some c)
def z3x(N:Nat)(m:Mach):Option (List Int):=
 gd (okM 24 (↑m.rows.length:Int))<|
 bd (
 oz N m N 0 (mk (↑m.rows.length:Int) ([]:List Bool))) fun a=>
 gd (okM 8 (↑m.rows.length:Int))<|
 bd (
 l9 N m a N 0 (mk (↑m.rows.length:Int) (0:Int))) fun b=>
 some b
def z0r(N:Nat)(s:(List Int)):Option (List Int):=
 gd (okS s 0 (↑s.length:Int))<|
 some (cut s 0 (↑s.length:Int))
def z5e(N:Nat)(s:(List (List Int))):Option (List (List Int)):=
 gd (okS s 0 (↑s.length:Int))<|
 some (cut s 0 (↑s.length:Int))
def z2t(N:Nat)(b:(List Int))(d:Int):Nat→(List Int)→Int→Option (List Int)
 |0,_,_=>none
 |e+1,c,a=>
  bif decide (a<(↑b.length:Int)) then(
  bd (
  gd (okI b a)<|
  bif decide ((ix b a)=d) then(
  gd (fits 8 c ([a]:List Int))<|
  some (c++([a]:List Int))) else(
  some c)) fun f=>
  gd (in64 (a+1))<|
  z2t N b d e f (a+1)) else(
  some c)
def z2o(N:Nat)(b:(List Int)):Nat→(List (List Int))→Int→Option (List (List Int))
 |0,_,_=>none
 |e+1,c,a=>
  bif decide (a<(↑b.length:Int)) then(
  bd (
  gd (okI b a)<|
  bif decide ((ix b a)≠a) then(
  some c) else(
  bd (
  z2t N b a N ([]:List Int) 0) fun f=>
  bd (z0r N f) fun d=>
  gd (fits 24 c ([d]:List (List Int)))<|
  some (c++([d]:List (List Int))))) fun g=>
  gd (in64 (a+1))<|
  z2o N b e g (a+1)) else(
  some c)
def z7r(N:Nat)(m:Mach):Option ((List (List Int))×Int):=
 bd (au N m) fun d=>
 bif decide (d≠0) then(
 some (([]:(List (List Int))),d)) else(
 bd (z3x N m) fun b=>
 bd (
 z2o N b N ([]:List (List Int)) 0) fun c=>
 bd (z5e N c) fun a=>
 some (a,0))
def ny(N:Nat)(a:(List Int))(b:(List Int)):Nat→Int→Option (Ex (Unit) (Int))
 |0,_=>none
 |d+1,c=>
  bif decide (c<(↑a.length:Int)) then(
  gd (okI a c)<|
  gd (okI b c)<|
  bif decide ((ix a c)<(ix b c)) then(
  some (Ex.rt (-1))) else(
  gd (okI a c)<|
  gd (okI b c)<|
  bif decide ((ix b c)<(ix a c)) then(
  some (Ex.rt 1)) else(
  gd (in64 (c+1))<|
  ny N a b d (c+1)))) else(
  some (Ex.go ()))
def z2g(N:Nat)(a:(List Int))(b:(List Int)):Option Int:=
 bif decide ((↑a.length:Int)≠(↑b.length:Int)) then(
 bif decide ((↑a.length:Int)<(↑b.length:Int)) then(
 some (-1)) else(
 some 1)) else(
 bd (
 ny N a b N 0) fun c=>
 Ex.on c (fun d=>
 some 0) some)
def ib(N:Nat)(a:(List (List Int)))(b:(List (List Int))):Nat→Int→Option (Ex (Unit) (Bool))
 |0,_=>none
 |e+1,c=>
  bif decide (c<(↑a.length:Int)) then(
  gd (okI a c)<|
  gd (okI b c)<|
  bd (z2g N (ix a c) (ix b c)) fun d=>
  bif decide (d≠0) then(
  some (Ex.rt false)) else(
  gd (in64 (c+1))<|
  ib N a b e (c+1))) else(
  some (Ex.go ()))
def z1p(N:Nat)(a:(List (List Int)))(b:(List (List Int))):Option Bool:=
 bif decide ((↑a.length:Int)≠(↑b.length:Int)) then(
 some false) else(
 bd (
 ib N a b N 0) fun c=>
 Ex.on c (fun d=>
 some true) some)
def z0s(N:Nat):Option Mach:=
 some (⟨2,2,([([(⟨1,0⟩:Edge),(⟨0,0⟩:Edge)]:List Edge),([(⟨0,1⟩:Edge),(⟨1,0⟩:Edge)]:List Edge)]:List (List Edge))⟩:Mach)
def z0d(N:Nat):Option Mach:=
 some (⟨1,1,([([(⟨1,0⟩:Edge)]:List Edge),([(⟨1,0⟩:Edge)]:List Edge)]:List (List Edge))⟩:Mach)
def bv(N:Nat)(x:(List Int)):Nat→Int→Int→Option Int
 |0,_,_=>none
 |c+1,b,a=>
  bif decide (a<(↑x.length:Int)) then(
  gd (okI x a)<|
  gd (in64 (a+1))<|
  bv N x c (max b (ix x a)) (a+1)) else(
  some b)
def slices_Max_int(N:Nat)(x:(List Int)):Option Int:=
 bif decide ((↑x.length:Int)<1) then(
 none) else(
 gd (okI x 0)<|
 bd (
 bv N x N (ix x 0) 1) fun a=>
 some a)
def ma(N:Nat)(m:Mach)(c:(List Int)):Nat→Int→(List Int)→Option (List Int)
 |0,_,_=>none
 |g+1,a,d=>
  bif decide (a<(↑m.rows.length:Int)) then(
  bd (ym N m a) fun e=>
  bd (xu N e.1 e.2 (List Int) (fun f b=>
  gd (okI c f.fB)<|
  gd (okI c a)<|
  bif decide ((ix c f.fB)≠(ix c a)) then(
  gd (okI c a)<|
  gd (okI b (ix c a))<|
  gd (in64 ((ix b (ix c a))+1))<|
  gd (okI b (ix c a))<|
  some (true,(up b (ix c a) ((ix b (ix c a))+1)))) else(
  some (true,b))) d) fun h=>
  gd (in64 (a+1))<|
  ma N m c g (a+1) h) else(
  some d)
def z0v(N:Nat)(m:Mach)(round:Bool):Option Bool:=
 bd (z3x N m) fun d=>
 gd (okM 8 (↑m.rows.length:Int))<|
 bd (
 ma N m d N 0 (mk (↑m.rows.length:Int) (0:Int))) fun c=>
 bd (
 bif round then(
 some 0) else(
 some 1)) fun a=>
 bd (slices_Max_int N c) fun b=>
 some (decide (b≤a))
def p9(N:Nat)(m:Mach)(times:Int→Int→Option Int):Nat→Int→Int→(List (List Int))→Option (Int×List (List Int))
 |0,_,_,_=>none
 |i+1,a,f,e=>
  bif decide (a<(↑(mk (↑m.rows.length:Int) ([]:List Int)).length:Int)) then(
  gd (okM 8 m.inputs)<|
  gd (okI e a)<|
  bd (ym N (⟨m.inputs,m.outputs,m.rows⟩:Mach) a) fun g=>
  bd (xu N g.1 g.2 (Int×List (List Int)) (fun c b=>
  gd (okI b.2 a)<|
  bd (times a c.fA) fun d=>
  gd (okI (ix b.2 a) c.fA)<|
  gd (okI (up b.2 a (up (ix b.2 a) c.fA d)) a)<|
  gd (okI (ix (up b.2 a (up (ix b.2 a) c.fA d)) a) c.fA)<|
  gd (in64 (b.1+(ix (ix (up b.2 a (up (ix b.2 a) c.fA d)) a) c.fA)))<|
  some (true,(b.1+(ix (ix (up b.2 a (up (ix b.2 a) c.fA d)) a) c.fA),(up b.2 a (up (ix b.2 a) c.fA d))))) (f,(up e a (mk m.inputs (0:Int))))) fun h=>
  gd (in64 (a+1))<|
  p9 N m times i (a+1) h.1 h.2) else(
  some (f,e))
def av(N:Nat)(m:Mach)(times:Int→Int→Option Int):Option Sc:=
 gd (okM 24 (↑m.rows.length:Int))<|
 bd (
 p9 N m times N 0 0 (mk (↑m.rows.length:Int) ([]:List Int))) fun a=>
 some (⟨(⟨m.inputs,m.outputs,m.rows⟩:Mach),a.2,a.1⟩:Sc)
def z6y(N:Nat)(p0_:Int)(p1_:Int):Option Int:=
 some 1
def og(N:Nat)(r_:Sc)(s:Int):Option (Sc×Int):=
 some (r_,s)
def pu(N:Nat)(p0_:Sc)(p1_:Int)(σ:Type)(B:Sb→σ→Option (Bool×σ))(s0:σ):Option σ:=
 bd (ym N p0_.fD p1_) fun f=>
 bd (xu N f.1 f.2 (Ex (σ) (σ)) (fun a s=>Ex.on s (fun c=>
 gd (okI p0_.fF p1_)<|
 gd (okI (ix p0_.fF p1_) a.fA)<|
 bif decide (0<(ix (ix p0_.fF p1_) a.fA)) then(
 bd (B (⟨a.fA,a.fB⟩:Sb) c) fun b=>
 bif !b.1 then(
 some (false,Ex.rt b.2)) else(
 some (true,Ex.go b.2))) else(
 some (true,Ex.go c))) fun _=>none) (Ex.go s0)) fun d=>
 Ex.on d (fun e=>
 some e) some
def xe(N:Nat)(r_:Sc):Nat→Int→(List Int)→Option (List Int)
 |0,_,_=>none
 |f+1,a,d=>
  bif decide (a<(↑(mk (↑r_.fF.length:Int) (0:Int)).length:Int)) then(
  bd (og N r_ a) fun e=>
  bd (pu N e.1 e.2 (List Int) (fun b c=>
  gd (okI c a)<|
  gd (okI r_.fF a)<|
  gd (okI (ix r_.fF a) b.fA)<|
  gd (in64 ((ix c a)+(ix (ix r_.fF a) b.fA)))<|
  gd (okI c a)<|
  gd (okI (up c a ((ix c a)+(ix (ix r_.fF a) b.fA))) b.fB)<|
  gd (okI r_.fF a)<|
  gd (okI (ix r_.fF a) b.fA)<|
  gd (in64 ((ix (up c a ((ix c a)+(ix (ix r_.fF a) b.fA))) b.fB)-(ix (ix r_.fF a) b.fA)))<|
  gd (okI (up c a ((ix c a)+(ix (ix r_.fF a) b.fA))) b.fB)<|
  some (true,(up (up c a ((ix c a)+(ix (ix r_.fF a) b.fA))) b.fB ((ix (up c a ((ix c a)+(ix (ix r_.fF a) b.fA))) b.fB)-(ix (ix r_.fF a) b.fA))))) d) fun g=>
  gd (in64 (a+1))<|
  xe N r_ f (a+1) g) else(
  some d)
def mi(N:Nat)(r_:Sc):Option (List Int):=
 gd (okM 8 (↑r_.fF.length:Int))<|
 bd (
 xe N r_ N 0 (mk (↑r_.fF.length:Int) (0:Int))) fun a=>
 some a
def wz(N:Nat)(to_:Int)(x:Sa)(p0_:List Sa):Option (Bool×List Sa):=
 gd (okI p0_ to_)<|
 bif decide (((ix p0_ to_).fC)≤x.fC) then(
 some (false,p0_)) else(
 gd (okI p0_ to_)<|
 some (true,(up p0_ to_ x)))
def x9(N:Nat)(fP:List Int):Nat→Int→(List Sa)→Option (List Sa)
 |0,_,_=>none
 |c+1,a,b=>
  bif decide (a<(↑fP.length:Int)) then(
  bd (
  gd (okI fP a)<|
  gd (okI b a)<|
  bif decide (0<(ix fP a)) then(
  gd (okI (up b a (⟨(-1),0,false,1073741824⟩:Sa)) a)<|
  some (up (up b a (⟨(-1),0,false,1073741824⟩:Sa)) a (⟨(ix (up b a (⟨(-1),0,false,1073741824⟩:Sa)) a).fG,(ix (up b a (⟨(-1),0,false,1073741824⟩:Sa)) a).fA,(ix (up b a (⟨(-1),0,false,1073741824⟩:Sa)) a).fZ,0⟩:Sa))) else(
  some (up b a (⟨(-1),0,false,1073741824⟩:Sa)))) fun d=>
  gd (in64 (a+1))<|
  x9 N fP c (a+1) d) else(
  some b)
def y5(N:Nat)(fM:Int)(fO:Int)(fAc:(List (List Edge)))(fJ:List (List Int)):Nat→Int→(List Sa)→Bool→Option (List Sa×Bool)
 |0,_,_,_=>none
 |k+1,a,g,h=>
  bif decide (a<(↑fJ.length:Int)) then(
  bd (ym N (⟨fM,fO,fAc⟩:Mach) a) fun i=>
  bd (xu N i.1 i.2 (List Sa×Bool) (fun b c=>
  bd (
  gd (okI c.1 a)<|
  gd ((true&&((decide (((ix c.1 a).fC)<1073741824))==true))=true→okI c.1 a)<|
  gd ((true&&((decide (((ix c.1 a).fC)<1073741824))==true))=true→in64 (((ix c.1 a).fC)+1))<|
  bif decide (((ix c.1 a).fC)<1073741824) then(
  bd (wz N b.fB (⟨a,b.fA,false,((ix c.1 a).fC)+1⟩:Sa) c.1) fun e=>
  bif e.1 then(
  some (e.2,true)) else(
  some (e.2,c.2))) else(
  some (c.1,c.2))) fun d=>
  gd (okI fJ a)<|
  gd (okI (ix fJ a) b.fA)<|
  gd ((true&&((decide (0<(ix (ix fJ a) b.fA)))==true))=true→okI d.1 b.fB)<|
  gd ((true&&(((decide (0<(ix (ix fJ a) b.fA)))&&(decide (((ix d.1 b.fB).fC)<1073741824)))==true))=true→okI d.1 b.fB)<|
  gd ((true&&(((decide (0<(ix (ix fJ a) b.fA)))&&(decide (((ix d.1 b.fB).fC)<1073741824)))==true))=true→in64 (((ix d.1 b.fB).fC)-1))<|
  bif (decide (0<(ix (ix fJ a) b.fA)))&&(decide (((ix d.1 b.fB).fC)<1073741824)) then(
  bd (wz N a (⟨b.fB,b.fA,true,((ix d.1 b.fB).fC)-1⟩:Sa) d.1) fun f=>
  bif f.1 then(
  some (true,(f.2,true))) else(
  some (true,(f.2,d.2)))) else(
  some (true,(d.1,d.2)))) (g,h)) fun j=>
  gd (in64 (a+1))<|
  y5 N fM fO fAc fJ k (a+1) j.1 j.2) else(
  some (g,h))
def pq(N:Nat)(fM:Int)(fO:Int)(fAc:(List (List Edge)))(fJ:List (List Int)):Nat→Bool→(List Sa)→Option (List Sa)
 |0,_,_=>none
 |c+1,d,a=>
  bif d then(
  bd (
  y5 N fM fO fAc fJ N 0 a false) fun b=>
  pq N fM fO fAc fJ c b.2 b.1) else(
  some a)
def z0y(N:Nat)(fM:Int)(fO:Int)(fAc:(List (List Edge)))(fJ:List (List Int))(fP:List Int):Option (List Sa):=
 gd (okM 32 (↑fJ.length:Int))<|
 bd (
 x9 N fP N 0 (mk (↑fJ.length:Int) (⟨(0:Int),(0:Int),false,(0:Int)⟩:Sa))) fun a=>
 bd (
 pq N fM fO fAc fJ N true a) fun b=>
 some b
def xy(N:Nat)(fP:List Int)(c:(List Sa)):Nat→Int→Int→Option Int
 |0,_,_=>none
 |d+1,b,a=>
  bif decide (a<(↑fP.length:Int)) then(
  bd (
  gd (okI fP a)<|
  gd (((true&&((decide ((ix fP a)<0))==true))&&((decide (b=(-1)))==false))=true→okI c a)<|
  gd (((true&&((decide ((ix fP a)<0))==true))&&((decide (b=(-1)))==false))=true→okI c b)<|
  bif (decide ((ix fP a)<0))&&((decide (b=(-1)))||(decide (((ix c a).fC)<((ix c b).fC)))) then(
  some a) else(
  some b)) fun e=>
  gd (in64 (a+1))<|
  xy N fP c d e (a+1)) else(
  some b)
def mh(N:Nat)(c:(List Sa)):Nat→Int→(List (List Int))→Option (Int×List (List Int))
 |0,_,_=>none
 |e+1,a,b=>
  gd (okI c a)<|
  bif decide (((ix c a).fG)≠(-1)) then(
  gd (okI c a)<|
  bd (
  bif (ix c a).fZ then(
  gd (okI b a)<|
  gd (okI (ix b a) ((ix c a).fA))<|
  gd (in64 ((ix (ix b a) ((ix c a).fA))-1))<|
  gd (okI (ix b a) ((ix c a).fA))<|
  some (up b a (up (ix b a) ((ix c a).fA) ((ix (ix b a) ((ix c a).fA))-1)))) else(
  gd (okI b ((ix c a).fG))<|
  gd (okI (ix b ((ix c a).fG)) ((ix c a).fA))<|
  gd (in64 ((ix (ix b ((ix c a).fG)) ((ix c a).fA))+1))<|
  gd (okI (ix b ((ix c a).fG)) ((ix c a).fA))<|
  some (up b ((ix c a).fG) (up (ix b ((ix c a).fG)) ((ix c a).fA) ((ix (ix b ((ix c a).fG)) ((ix c a).fA))+1))))) fun d=>
  mh N c e ((ix c a).fG) d) else(
  some (a,b))
def z0p(N:Nat)(fM:Int)(fO:Int)(fAc:(List (List Edge)))(fJ:List (List Int))(fP:List Int):Option (Bool×List (List Int)×List Int):=
 bd (z0y N fM fO fAc fJ fP) fun c=>
 bd (
 xy N fP c N (-1) 0) fun a=>
 bif decide (a=(-1)) then(
 some (false,fJ,fP)) else(
 gd (okI fP a)<|
 gd (in64 ((ix fP a)+1))<|
 gd (okI fP a)<|
 bd (
 mh N c N a fJ) fun b=>
 gd (okI (up fP a ((ix fP a)+1)) b.1)<|
 gd (in64 ((ix (up fP a ((ix fP a)+1)) b.1)-1))<|
 gd (okI (up fP a ((ix fP a)+1)) b.1)<|
 some (true,b.2,(up (up fP a ((ix fP a)+1)) b.1 ((ix (up fP a ((ix fP a)+1)) b.1)-1))))
def z1g(N:Nat)(s:Int)(i:Int)(p0_:Sg):Option Int:=
 gd (okI p0_.fAg s)<|
 gd (okI (ix p0_.fAg s) i)<|
 gd (in64 ((1:Int)+(ix (ix p0_.fAg s) i)))<|
 some ((1:Int)+(ix (ix p0_.fAg s) i))
def xm(N:Nat)(m:Mach):Nat→Int→(List (List Int))→Option (List (List Int))
 |0,_,_=>none
 |c+1,a,b=>
  bif decide (a<(↑(mk (↑m.rows.length:Int) ([]:List Int)).length:Int)) then(
  gd (okM 8 m.inputs)<|
  gd (okI b a)<|
  gd (in64 (a+1))<|
  xm N m c (a+1) (up b a (mk m.inputs (0:Int)))) else(
  some b)
def xk(N:Nat)(b:(List Int)):Nat→Int→(List Int)→Option (List Int)
 |0,_,_=>none
 |d+1,a,c=>
  bif decide (a<(↑b.length:Int)) then(
  gd (okI b a)<|
  gd (okN (ix b a))<|
  gd (fits 8 c ([-(ix b a)]:List Int))<|
  gd (in64 (a+1))<|
  xk N b d (a+1) (c++([-(ix b a)]:List Int))) else(
  some c)
def dx(N:Nat)(m:Mach):Nat→(List (List Int))→(List Int)→Option (List (List Int)×List Int)
 |0,_,_=>none
 |b+1,c,d=>
  bd (z0p N m.inputs m.outputs m.rows c d) fun a=>
  bif a.1 then(
  dx N m b a.2.1 a.2.2) else(
  some (a.2.1,a.2.2))
def si(N:Nat)(m:Mach):Option Sc:=
 gd (okM 24 (↑m.rows.length:Int))<|
 bd (
 xm N m N 0 (mk (↑m.rows.length:Int) ([]:List Int))) fun e=>
 bd (
 bd (av N (⟨m.inputs,m.outputs,m.rows⟩:Mach) (fun f g=>z6y N f g)) fun b=>
 bd (mi N (⟨(⟨b.fD.inputs,b.fD.outputs,b.fD.rows⟩:Mach),b.fF,b.fI⟩:Sc)) fun d=>
 xk N d N 0 ([]:List Int)) fun h=>
 bd (
 dx N m N e h) fun c=>
 bd (av N (⟨m.inputs,m.outputs,m.rows⟩:Mach) (fun f g=>z1g N f g (⟨(⟨m.inputs,m.outputs,m.rows⟩:Mach),c.1,c.2⟩:Sg))) fun a=>
 some (⟨(⟨a.fD.inputs,a.fD.outputs,a.fD.rows⟩:Mach),a.fF,a.fI⟩:Sc)
def iy(N:Nat)(s:Int)(r__0_:Int)(r__1_:Int)(r__2_:(List (List Edge)))(r__3_:List (List Int))(r__4_:Int):Option Int:=
 some s
def tu(N:Nat)(p1_:Int)(σ:Type)(get:σ→Option (Int×Int×(List (List Edge))×List (List Int)×Int))(B:Sb→σ→Option (Bool×σ))(s0:σ):Option σ:=
 bd (get s0) fun f=>
 bd (ym N (⟨f.1,f.2.1,f.2.2.1⟩:Mach) p1_) fun e=>
 bd (xu N e.1 e.2 (Ex (σ) (σ)) (fun b s=>Ex.on s (fun c=>
 bd (get c) fun d=>
 gd (okI d.2.2.2.1 p1_)<|
 gd (okI (ix d.2.2.2.1 p1_) b.fA)<|
 bif decide (0<(ix (ix d.2.2.2.1 p1_) b.fA)) then(
 bd (B (⟨b.fA,b.fB⟩:Sb) c) fun a=>
 bif !a.1 then(
 some (false,Ex.rt a.2)) else(
 some (true,Ex.go a.2))) else(
 some (true,Ex.go c))) fun _=>none) (Ex.go s0)) fun g=>
 Ex.on g (fun h=>
 some h) some
def yo(N:Nat)(s:Int)(i:Int)(n:Int)(r__0_:Int)(r__1_:Int)(r__2_:(List (List Edge)))(r__3_:List (List Int))(r__4_:Int):Option (List (List Int)×Int):=
 gd (okI r__3_ s)<|
 gd (okI (ix r__3_ s) i)<|
 gd (in64 ((ix (ix r__3_ s) i)-n))<|
 gd (okI (ix r__3_ s) i)<|
 gd (in64 (r__4_-n))<|
 some ((up r__3_ s (up (ix r__3_ s) i ((ix (ix r__3_ s) i)-n))),(r__4_-n))
def xg(N:Nat):Nat→Int→Int→(List Int)→Option (List Int)
 |0,_,_,_=>none
 |d+1,b,c,a=>
  bif decide (b<c) then(
  gd (okI a c)<|
  gd (okI a b)<|
  gd (okI a b)<|
  gd (okI a c)<|
  gd (in64 (b+1))<|
  gd (in64 (c-1))<|
  xg N d (b+1) (c-1) (up (up a b (ix a c)) c (ix a b))) else(
  some a)
def slices_Reverse_int(N:Nat)(s:List Int):Option (List Int):=
 gd (in64 ((↑s.length:Int)-1))<|
 xg N N 0 ((↑s.length:Int)-1) s
def ou(N:Nat)(b:Sc):Nat→Int→(List (List Int))→(List Int)→(List Sb)→Option (List Int)
 |0,_,_,_,_=>none
 |i+1,f,g,e,a=>
  bif decide (0<(↑a.length:Int)) then(
  gd (in64 ((↑a.length:Int)-1))<|
  gd (okI a ((↑a.length:Int)-1))<|
  bd (
  bd (iy N ((ix a ((↑a.length:Int)-1)).fB) b.fD.inputs b.fD.outputs b.fD.rows g f) fun l=>
  bd (tu N l (Ex (Unit) (Int×List (List Int)×List Sb×Bool)) (Ex.got (fun(o:Unit)=>(b.fD.inputs,b.fD.outputs,b.fD.rows,g,f))) (fun d s=>Ex.on s (fun m=>
  bd (yo N ((ix a ((↑a.length:Int)-1)).fB) d.fA 1 b.fD.inputs b.fD.outputs b.fD.rows g f) fun h=>
  gd (fits 16 a ([(⟨d.fA,d.fB⟩:Sb)]:List Sb))<|
  some (false,Ex.rt (h.2,h.1,(a++([(⟨d.fA,d.fB⟩:Sb)]:List Sb)),true))) fun _=>none) (Ex.go ())) fun j=>
  Ex.on j (fun n=>
  some (f,g,a,false)) some) fun c=>
  bif !c.2.2.2 then(
  bd (
  bif decide (((ix a ((↑a.length:Int)-1)).fA)≠(-1)) then(
  gd (e.length+([(ix a ((↑a.length:Int)-1)).fA]:List Int).length≤b.fI.toNat)<|
  some (e++([(ix a ((↑a.length:Int)-1)).fA]:List Int))) else(
  some e)) fun k=>
  gd (in64 ((↑c.2.2.1.length:Int)-1))<|
  gd (okS c.2.2.1 0 ((↑c.2.2.1.length:Int)-1))<|
  ou N b i c.1 c.2.1 k (cut c.2.2.1 0 ((↑c.2.2.1.length:Int)-1))) else(
  ou N b i c.1 c.2.1 e c.2.2.1)) else(
  some e)
def mq(N:Nat)(m:Mach):Option ((List Int)×Int):=
 bd (au N m) fun e=>
 bif decide (e≠0) then(
 some (([]:(List Int)),e)) else(
 bd (z0v N m true) fun c=>
 bif !c then(
 some (([]:(List Int)),7)) else(
 bd (si N m) fun a=>
 bif decide (256<a.fI) then(
 some (([]:(List Int)),3)) else(
 gd (okM 8 a.fI∧0≤(0:Int)∧(0:Int)≤a.fI)<|
 bd (
 ou N a N a.fI a.fF (mk 0 (0:Int)) ([(⟨(-1),0⟩:Sb)]:List Sb)) fun d=>
 bd (slices_Reverse_int N d) fun b=>
 gd (b.length=a.fI.toNat)<|
 some (b,0))))
def fu(N:Nat)(m:Mach):Nat→Int→Int→Option Int
 |0,_,_=>none
 |e+1,a,b=>
  bif decide (a<(↑m.rows.length:Int)) then(
  bd (ym N m a) fun c=>
  bd (xu N c.1 c.2 (Int) (fun g d=>
  gd (in64 (d+1))<|
  some (true,d+1)) b) fun f=>
  gd (in64 (a+1))<|
  fu N m e (a+1) f) else(
  some b)
def z5u(N:Nat)(m:Mach):Option Int:=
 bd (
 fu N m N 0 0) fun a=>
 some a
def fe(N:Nat)(m:Mach):Nat→Int→(List ((Int×Int)×Int))→Option (List ((Int×Int)×Int))
 |0,_,_=>none
 |e+1,a,b=>
  bif decide (a<(↑m.rows.length:Int)) then(
  bd (ym N m a) fun c=>
  bd (xu N c.1 c.2 (List ((Int×Int)×Int)) (fun f d=>
  some (true,(zec d ((a,f.fA):(Int×Int)) (↑d.length:Int)))) b) fun g=>
  gd (in64 (a+1))<|
  fe N m e (a+1) g) else(
  some b)
def ry(N:Nat)(m:Mach)(e:List ((Int×Int)×Int))(a:Int)(d:List (List Int)):Nat→Int→(List (List Int))→Option (List (List Int))
 |0,_,_=>none
 |f+1,b,c=>
  bif decide (b<(↑(ix (up d a (mk m.inputs (0:Int))) a).length:Int)) then(
  gd (okI c a)<|
  gd (okSh .i64 (za8 (0:Int) e ((a,b):(Int×Int))))<|
  gd (okI (ix c a) b)<|
  gd (in64 (b+1))<|
  ry N m e a d f (b+1) (up c a (up (ix c a) b (z5d .i64 (1:Int) (za8 (0:Int) e ((a,b):(Int×Int))))))) else(
  some c)
def rq(N:Nat)(m:Mach)(c:List ((Int×Int)×Int)):Nat→Int→(List (List Int))→Option (List (List Int))
 |0,_,_=>none
 |d+1,a,b=>
  bif decide (a<(↑(mk (↑m.rows.length:Int) ([]:List Int)).length:Int)) then(
  bd (
  gd (okM 8 m.inputs)<|
  gd (okI b a)<|
  gd (okI (up b a (mk m.inputs (0:Int))) a)<|
  ry N m c a b N 0 (up b a (mk m.inputs (0:Int)))) fun e=>
  gd (in64 (a+1))<|
  rq N m c d (a+1) e) else(
  some b)
def z18(N:Nat)(a:List Sd):Nat→(List Int)→Int→Option (List Int)
 |0,_,_=>none
 |d+1,c,b=>
  bif decide (0<b) then(
  gd (okI a b)<|
  gd (fits 8 c ([(ix a b).fA]:List Int))<|
  gd (okI a b)<|
  z18 N a d (c++([(ix a b).fA]:List Int)) ((ix a b).fG)) else(
  some c)
def z16(N:Nat)(m:Mach)(round:Bool)(g:Int)(d:List (List Int)):Nat→Int→(List Bool)→(List (Int×Int))→(List Sd)→Option (Ex (Unit) ((List Int)×Int))
 |0,_,_,_,_=>none
 |k+1,a,l,b,h=>
  bif decide (a<(↑b.length:Int)) then(
  gd (okI b a)<|
  gd (okSh .i64 g)<|
  gd (in64 ((z5d .i64 (1:Int) g)-1))<|
  bif (decide (((ix b a).2)=((z5d .i64 (1:Int) g)-1)))&&((!round)||(decide (((ix b a).1)=0))) then(
  bd (
  z18 N h N ([]:List Int) a) fun i=>
  bif decide (256<(↑i.length:Int)) then(
  some (Ex.rt (([]:(List Int)),3))) else(
  bd (slices_Reverse_int N i) fun n=>
  bd (z0r N n) fun o=>
  some (Ex.rt (o,0)))) else(
  bd (ym N m ((ix b a).1)) fun j=>
  bd (xu N j.1 j.2 (List Bool×List (Int×Int)×List Sd) (fun c e=>
  gd (okI d ((ix b a).1))<|
  gd (okI (ix d ((ix b a).1)) c.fA)<|
  gd (okB .i64 ((ix b a).2) (ix (ix d ((ix b a).1)) c.fA))<|
  gd (in64 ((ior ((ix b a).2) (ix (ix d ((ix b a).1)) c.fA))*(↑m.rows.length:Int)))<|
  gd (in64 (((ior ((ix b a).2) (ix (ix d ((ix b a).1)) c.fA))*(↑m.rows.length:Int))+c.fB))<|
  gd (okI e.1 (((ior ((ix b a).2) (ix (ix d ((ix b a).1)) c.fA))*(↑m.rows.length:Int))+c.fB))<|
  bif !(ix e.1 (((ior ((ix b a).2) (ix (ix d ((ix b a).1)) c.fA))*(↑m.rows.length:Int))+c.fB)) then(
  gd (okI e.1 (((ior ((ix b a).2) (ix (ix d ((ix b a).1)) c.fA))*(↑m.rows.length:Int))+c.fB))<|
  gd (fits 16 e.2.1 ([((c.fB,ior ((ix b a).2) (ix (ix d ((ix b a).1)) c.fA)):(Int×Int))]:List (Int×Int)))<|
  gd (fits 16 e.2.2 ([(⟨a,c.fA⟩:Sd)]:List Sd))<|
  some (true,((up e.1 (((ior ((ix b a).2) (ix (ix d ((ix b a).1)) c.fA))*(↑m.rows.length:Int))+c.fB) true),(e.2.1++([((c.fB,ior ((ix b a).2) (ix (ix d ((ix b a).1)) c.fA)):(Int×Int))]:List (Int×Int))),(e.2.2++([(⟨a,c.fA⟩:Sd)]:List Sd))))) else(
  some (true,(e.1,e.2.1,e.2.2)))) (l,b,h)) fun f=>
  gd (in64 (a+1))<|
  z16 N m round g d k (a+1) f.1 f.2.1 f.2.2)) else(
  some (Ex.go ()))
def gp(N:Nat)(m:Mach)(round:Bool):Option ((List Int)×Int):=
 bd (au N m) fun f=>
 bif decide (f≠0) then(
 some (([]:(List Int)),f)) else(
 bd (z0v N m round) fun d=>
 bif !d then(
 some (([]:(List Int)),7)) else(
 bd (z5u N m) fun a=>
 bif decide (16<a) then(
 some (([]:(List Int)),3)) else(
 bd (
 fe N m N 0 ([]:List ((Int×Int)×Int))) fun e=>
 gd (okM 24 (↑m.rows.length:Int))<|
 bd (
 rq N m e N 0 (mk (↑m.rows.length:Int) ([]:List Int))) fun b=>
 gd (okSh .i64 a)<|
 gd (okM 1 (z5d .i64 (↑m.rows.length:Int) a))<|
 gd (okI (mk (z5d .i64 (↑m.rows.length:Int) a) false) 0)<|
 bd (
 z16 N m round a b N 0 (up (mk (z5d .i64 (↑m.rows.length:Int) a) false) 0 true) ([((0,0):(Int×Int))]:List (Int×Int)) ([(⟨0,0⟩:Sd)]:List Sd)) fun c=>
 Ex.on c (fun g=>
 some (([]:(List Int)),7)) some)))
def xh(N:Nat)(r_:Sc):Nat→(List Bool)→(List Int)→Option (List Bool)
 |0,_,_=>none
 |g+1,d,a=>
  bif decide (0<(↑a.length:Int)) then(
  gd (in64 ((↑a.length:Int)-1))<|
  gd (okI a ((↑a.length:Int)-1))<|
  gd (in64 ((↑a.length:Int)-1))<|
  gd (okS a 0 ((↑a.length:Int)-1))<|
  bd (og N r_ (ix a ((↑a.length:Int)-1))) fun e=>
  bd (pu N e.1 e.2 (List Bool×List Int) (fun c b=>
  gd (okI b.1 c.fB)<|
  bif !(ix b.1 c.fB) then(
  gd (okI b.1 c.fB)<|
  gd (fits 8 b.2 ([c.fB]:List Int))<|
  some (true,((up b.1 c.fB true),(b.2++([c.fB]:List Int))))) else(
  some (true,(b.1,b.2)))) (d,(cut a 0 ((↑a.length:Int)-1)))) fun f=>
  xh N r_ g f.1 f.2) else(
  some d)
def yj(N:Nat)(r_:Sc)(c:List Bool):Nat→Int→Option (Ex (Unit) (Bool))
 |0,_=>none
 |d+1,a=>
  bif decide (a<(↑r_.fF.length:Int)) then(
  bd (og N r_ a) fun b=>
  bd (pu N b.1 b.2 (Ex (Unit) (Ex (Unit) (Bool))) (fun f s=>Ex.on s (fun g=>
  gd (okI c a)<|
  bif !(ix c a) then(
  some (false,Ex.rt (Ex.rt false))) else(
  some (true,Ex.go ()))) fun _=>none) (Ex.go ())) fun e=>
  Ex.on e (fun h=>
  gd (in64 (a+1))<|
  yj N r_ c d (a+1)) some) else(
  some (Ex.go ()))
def z0g(N:Nat)(r_:Sc)(at_:Int):Option Bool:=
 gd (okM 1 (↑r_.fF.length:Int))<|
 gd (okI (mk (↑r_.fF.length:Int) false) at_)<|
 bd (
 xh N r_ N (up (mk (↑r_.fF.length:Int) false) at_ true) ([at_]:List Int)) fun b=>
 bd (
 yj N r_ b N 0) fun a=>
 Ex.on a (fun c=>
 some true) some
def bq(N:Nat)(at_:Int)(round:Bool)(b:(List Int)):Nat→Int→Int→Int→Option (Ex (Int×Int) (Bool))
 |0,_,_,_=>none
 |f+1,c,d,a=>
  bif decide (a<(↑b.length:Int)) then(
  bd (
  gd (okI b a)<|
  bif decide ((ix b a)=0) then(
  some (Ex.go (c,d))) else(
  bif (decide ((ix b a)=1))&&(decide (a=at_)) then(
  gd (in64 (c+1))<|
  some (Ex.go (c+1,d))) else(
  bif (decide ((ix b a)=(-1)))&&((!round)||(decide (a=0))) then(
  gd (in64 (d+1))<|
  some (Ex.go (c,d+1))) else(
  some (Ex.rt (Ex.rt false)))))) fun g=>
  Ex.on g (fun e=>
  gd (in64 (a+1))<|
  bq N at_ round b f e.1 e.2 (a+1)) some) else(
  some (Ex.go (c,d)))
def gu(N:Nat)(r_:Sc)(at_:Int)(round:Bool):Option Bool:=
 bif decide (r_.fI=0) then(
 some ((!round)||(decide (at_=0)))) else(
 bd (
 bd (mi N r_) fun c=>
 bq N at_ round c N 0 0 0) fun d=>
 Ex.on d (fun a=>
 bif (decide (a.1≠a.2))||((round&&(decide (a.1=0)))&&(decide (at_≠0))) then(
 some false) else(
 bd (z0g N r_ at_) fun b=>
 some b)) some)
def z0i(N:Nat)(round:Bool)(a:Sc):Nat→Int→Int→(List (List Int))→(List Int)→Int→Option (List Int)
 |0,_,_,_,_,_=>none
 |p+1,q,d,k,e,f=>
  bd (
  bif (decide (0<d))&&(decide (q≠d)) then(
  bd (iy N f a.fD.inputs a.fD.outputs a.fD.rows k d) fun l=>
  bd (tu N l (Ex (Int×List (List Int)) (Ex (Int×List (List Int)×List Int×Int) (List Int))) (Ex.got (fun(o:Int×List (List Int))=>(a.fD.inputs,a.fD.outputs,a.fD.rows,o.2,o.1))) (fun b s=>Ex.on s (fun h=>
  bd (yo N f b.fA 1 a.fD.inputs a.fD.outputs a.fD.rows h.2 h.1) fun c=>
  bd (gu N (⟨(⟨a.fD.inputs,a.fD.outputs,a.fD.rows⟩:Mach),c.1,c.2⟩:Sc) b.fB round) fun m=>
  bif m then(
  gd (e.length+([b.fA]:List Int).length≤a.fI.toNat)<|
  some (false,Ex.rt (Ex.go (c.2,c.1,(e++([b.fA]:List Int)),b.fB)))) else(
  bd (yo N f b.fA (-1) a.fD.inputs a.fD.outputs a.fD.rows c.1 c.2) fun i=>
  some (true,Ex.go (i.2,i.1)))) fun _=>none) (Ex.go (d,k))) fun n=>
  Ex.on n (fun j=>
  some (Ex.go (j.1,j.2,e,f))) some) else(
  some (Ex.rt e))) fun r=>
  Ex.on r (fun g=>
  z0i N round a p d g.1 g.2.1 g.2.2.1 g.2.2.2) some
def cu(N:Nat)(m:Mach)(round:Bool):Option ((List Int)×Int):=
 bd (au N m) fun b=>
 bif decide (b≠0) then(
 some (([]:(List Int)),b)) else(
 bd (av N m (fun e f=>z6y N e f)) fun a=>
 bd (gu N (⟨(⟨a.fD.inputs,a.fD.outputs,a.fD.rows⟩:Mach),a.fF,a.fI⟩:Sc) 0 round) fun d=>
 bif !d then(
 some (([]:(List Int)),7)) else(
 bif decide (256<a.fI) then(
 some (([]:(List Int)),3)) else(
 gd (okM 8 a.fI∧0≤(0:Int)∧(0:Int)≤a.fI)<|
 bd (
 z0i N round a N (-1) a.fI a.fF (mk 0 (0:Int)) 0) fun c=>
 gd (c.length=a.fI.toNat)<|
 some (c,0))))
def gm(N:Nat)(m:Mach):Option (Int×Int):=
 bd (au N m) fun c=>
 bif decide (c≠0) then(
 some (0,c)) else(
 bd (z0v N m true) fun a=>
 bif !a then(
 some (0,7)) else(
 bd (si N m) fun b=>
 some (b.fI,0)))
def nu(N:Nat)(a:(List Int))(b:(List Int)):Nat→Int→Option (Ex (Unit) (Int))
 |0,_=>none
 |d+1,c=>
  bif decide (c<(↑a.length:Int)) then(
  gd (okI a c)<|
  gd (okI b c)<|
  bif decide ((ix a c)<(ix b c)) then(
  some (Ex.rt (-1))) else(
  gd (okI a c)<|
  gd (okI b c)<|
  bif decide ((ix b c)<(ix a c)) then(
  some (Ex.rt 1)) else(
  gd (in64 (c+1))<|
  nu N a b d (c+1)))) else(
  some (Ex.go ()))
def z2h(N:Nat)(a:(List Int))(b:(List Int)):Option Int:=
 bif decide ((↑a.length:Int)<(↑b.length:Int)) then(
 some (-1)) else(
 bif decide ((↑b.length:Int)<(↑a.length:Int)) then(
 some 1) else(
 bd (
 nu N a b N 0) fun c=>
 Ex.on c (fun d=>
 some 0) some))
def su(N:Nat)(a:(List Int))(b:(List Int)):Option Bool:=
 bd (z2h N a b) fun c=>
 some (decide (c=0))
def ai(N:Nat)(m:Mach)(tour:(List Int))(round:(List Int))(exact:(List Int))(exactRound:(List Int))(e:(Int×Int×Int×Int))(length:Int):Option Bool:=
 bd (gp N m false) fun b=>
 bd (gp N m true) fun a=>
 bd (cu N m false) fun c=>
 bd (cu N m true) fun d=>
 bd (gm N m) fun h=>
 bd (gop (true&&((decide (((b.2,a.2,c.2,d.2):(Int×Int×Int×Int))=e))==true)) (su N b.1 tour)) fun f=>
 bd (gop (true&&(((decide (((b.2,a.2,c.2,d.2):(Int×Int×Int×Int))=e))&&(f.getD default))==true)) (su N a.1 round)) fun g=>
 bd (gop (true&&((((decide (((b.2,a.2,c.2,d.2):(Int×Int×Int×Int))=e))&&(f.getD default))&&(g.getD default))==true)) (su N c.1 exact)) fun i=>
 bd (gop (true&&(((((decide (((b.2,a.2,c.2,d.2):(Int×Int×Int×Int))=e))&&(f.getD default))&&(g.getD default))&&(i.getD default))==true)) (su N d.1 exactRound)) fun j=>
 some (((((((decide (((b.2,a.2,c.2,d.2):(Int×Int×Int×Int))=e))&&(f.getD default))&&(g.getD default))&&(i.getD default))&&(j.getD default))&&(decide (h.1=length)))&&(decide (h.2=a.2)))
def z4g(N:Nat):Option Mach:=
 some (⟨2,1,([([(⟨1,0⟩:Edge),(⟨1,0⟩:Edge)]:List Edge),([(⟨0,0⟩:Edge),(⟨(-1),(-1)⟩:Edge)]:List Edge)]:List (List Edge))⟩:Mach)
def z06(N:Nat):Option Bool:=
 bd (z0s N) fun o=>
 bd (z7r N o) fun b=>
 bd (z0d N) fun m=>
 bd (z7r N m) fun c=>
 bd (z0d N) fun n=>
 bd (mq N n) fun d=>
 bd (gop (true&&((((decide (b.2=0))&&(decide (c.2=0)))&&(decide (d.2=7)))==true)) (z1p N b.1 ([([0,1]:List Int)]:List (List Int)))) fun f=>
 bd (gop (true&&(((((decide (b.2=0))&&(decide (c.2=0)))&&(decide (d.2=7)))&&(f.getD default))==true)) (z1p N c.1 ([([0]:List Int),([1]:List Int)]:List (List Int)))) fun a=>
 bd (gop (true&&((((((decide (b.2=0))&&(decide (c.2=0)))&&(decide (d.2=7)))&&(f.getD default))&&(a.getD default))==true)) (z0s N)) fun i=>
 bd (gop (true&&((((((decide (b.2=0))&&(decide (c.2=0)))&&(decide (d.2=7)))&&(f.getD default))&&(a.getD default))==true)) (ai N (i.getD default) ([0,1,0,1]:List Int) ([0,1,0,1]:List Int) ([0,1,0,1]:List Int) ([0,1,0,1]:List Int) ((0,0,0,0):(Int×Int×Int×Int)) 4)) fun e=>
 bd (gop (true&&(((((((decide (b.2=0))&&(decide (c.2=0)))&&(decide (d.2=7)))&&(f.getD default))&&(a.getD default))&&(e.getD default))==true)) (z4g N)) fun j=>
 bd (gop (true&&(((((((decide (b.2=0))&&(decide (c.2=0)))&&(decide (d.2=7)))&&(f.getD default))&&(a.getD default))&&(e.getD default))==true)) (ai N (j.getD default) ([0,0,1]:List Int) ([0,0,1,0]:List Int) ([0,0,1]:List Int) ([]:(List Int)) ((0,0,0,7):(Int×Int×Int×Int)) 4)) fun g=>
 bd (gop (true&&((((((((decide (b.2=0))&&(decide (c.2=0)))&&(decide (d.2=7)))&&(f.getD default))&&(a.getD default))&&(e.getD default))&&(g.getD default))==true)) (z0d N)) fun k=>
 bd (gop (true&&((((((((decide (b.2=0))&&(decide (c.2=0)))&&(decide (d.2=7)))&&(f.getD default))&&(a.getD default))&&(e.getD default))&&(g.getD default))==true)) (ai N (k.getD default) ([0,0]:List Int) ([]:(List Int)) ([0,0]:List Int) ([]:(List Int)) ((0,7,0,7):(Int×Int×Int×Int)) 0)) fun h=>
 bd (gop (true&&(((((((((decide (b.2=0))&&(decide (c.2=0)))&&(decide (d.2=7)))&&(f.getD default))&&(a.getD default))&&(e.getD default))&&(g.getD default))&&(h.getD default))==true)) (ai N (⟨1,1,([([(⟨(-1),(-1)⟩:Edge)]:List Edge)]:List (List Edge))⟩:Mach) ([]:(List Int)) ([]:(List Int)) ([]:(List Int)) ([]:(List Int)) ((0,0,0,0):(Int×Int×Int×Int)) 0)) fun l=>
 some (((((((((decide (b.2=0))&&(decide (c.2=0)))&&(decide (d.2=7)))&&(f.getD default))&&(a.getD default))&&(e.getD default))&&(g.getD default))&&(h.getD default))&&(l.getD default))
def vz(N:Nat)(m:Mach)(b:Int):Nat→Int→(List (Int×Int))→Option (List (Int×Int))
 |0,_,_=>none
 |d+1,a,c=>
  bif decide (a<m.inputs) then(
  bd (
  gd (okI m.rows b)<|
  gd (okI (ix m.rows b) a)<|
  bif decide (((ix (ix m.rows b) a).to)≠(-1)) then(
  gd (fits 16 c ([((b,a):(Int×Int))]:List (Int×Int)))<|
  some (c++([((b,a):(Int×Int))]:List (Int×Int)))) else(
  some c)) fun e=>
  gd (in64 (a+1))<|
  vz N m b d (a+1) e) else(
  some c)
def yz(N:Nat)(m:Mach):Nat→(List (Int×Int))→Int→Option (List (Int×Int))
 |0,_,_=>none
 |c+1,b,a=>
  bif decide (a<(↑m.rows.length:Int)) then(
  bd (
  vz N m a N 0 b) fun d=>
  gd (in64 (a+1))<|
  yz N m c d (a+1)) else(
  some b)
def z04(N:Nat)(m:Mach):Option (List (Int×Int)):=
 bd (
 yz N m N ([]:List (Int×Int)) 0) fun a=>
 some a
def vv(N:Nat)(m:Mach):Nat→(List (List Int))→Int→Option (List (List Int))
 |0,_,_=>none
 |c+1,a,b=>
  bif decide (b<(↑m.rows.length:Int)) then(
  gd (okM 8 m.inputs)<|
  gd (fits 24 a [(mk m.inputs (0:Int))])<|
  gd (in64 (b+1))<|
  vv N m c (a++[(mk m.inputs (0:Int))]) (b+1)) else(
  some a)
def yt(N:Nat)(m:Mach)(w_:(List Int)):Nat→Int→Int→(List (List Int))→Option (Ex (Int×List (List Int)) ((List (List Int))×Int×Bool))
 |0,_,_,_=>none
 |d+1,b,a,c=>
  bif decide (a<(↑w_.length:Int)) then(
  gd (okI m.rows b)<|
  gd (okI w_ a)<|
  gd (okI (ix m.rows b) (ix w_ a))<|
  bif decide (((ix (ix m.rows b) (ix w_ a)).to)=(-1)) then(
  some (Ex.rt (([]:(List (List Int))),0,false))) else(
  gd (okI c b)<|
  gd (okI w_ a)<|
  gd (okI (ix c b) (ix w_ a))<|
  gd (in64 ((ix (ix c b) (ix w_ a))+1))<|
  gd (okI (ix c b) (ix w_ a))<|
  gd (in64 (a+1))<|
  yt N m w_ d ((ix (ix m.rows b) (ix w_ a)).to) (a+1) (up c b (up (ix c b) (ix w_ a) ((ix (ix c b) (ix w_ a))+1))))) else(
  some (Ex.go (b,c)))
def z02(N:Nat)(m:Mach)(w_:(List Int)):Option ((List (List Int))×Int×Bool):=
 bd (
 vv N m N ([]:List (List Int)) 0) fun c=>
 bd (
 yt N m w_ N 0 0 c) fun b=>
 Ex.on b (fun a=>
 some (a.2,a.1,true)) some
def wu(N:Nat)(m:Mach)(w_:(List Int)):Nat→Int→Option (Ex (Unit) (Bool))
 |0,_=>none
 |b+1,a=>
  bif decide (a<(↑w_.length:Int)) then(
  gd (okI w_ a)<|
  gd ((true&&((decide ((ix w_ a)<0))==false))=true→okI w_ a)<|
  bif (decide ((ix w_ a)<0))||(decide (m.inputs≤(ix w_ a))) then(
  some (Ex.rt false)) else(
  gd (in64 (a+1))<|
  wu N m w_ b (a+1))) else(
  some (Ex.go ()))
def wm(N:Nat)(c:(List (List Int))×Int×Bool)(b:(List (Int×Int))):Nat→Int→Option (Ex (Unit) (Bool))
 |0,_=>none
 |d+1,a=>
  bif decide (a<(↑b.length:Int)) then(
  gd (okI b a)<|
  gd (okI c.1 ((ix b a).1))<|
  gd (okI b a)<|
  gd (okI (ix c.1 ((ix b a).1)) ((ix b a).2))<|
  bif decide ((ix (ix c.1 ((ix b a).1)) ((ix b a).2))=0) then(
  some (Ex.rt false)) else(
  gd (in64 (a+1))<|
  wm N c b d (a+1))) else(
  some (Ex.go ()))
def mr(N:Nat)(m:Mach)(w_:(List Int))(round:Bool):Option Bool:=
 bif decide (256<(↑w_.length:Int)) then(
 some false) else(
 bd (
 wu N m w_ N 0) fun d=>
 Ex.on d (fun f=>
 bd (z02 N m w_) fun a=>
 bif (!a.2.2)||(round&&(decide (a.2.1≠0))) then(
 some false) else(
 bd (z04 N m) fun b=>
 bd (
 wm N a b N 0) fun c=>
 Ex.on c (fun e=>
 some true) some)) some)
def ic(N:Nat)(n:Int)(loops:Bool):Nat→Int→(List (List Edge))→Option (List (List Edge))
 |0,_,_=>none
 |d+1,a,b=>
  bif decide (a<n) then(
  gd (in64 (a+1))<|
  gd (okR (a+1) n)<|
  bd (
  bif loops then(
  gd (fits 16 ([(⟨(a+1)%n,0⟩:Edge)]:List Edge) ([(⟨a,0⟩:Edge)]:List Edge))<|
  some (([(⟨(a+1)%n,0⟩:Edge)]:List Edge)++([(⟨a,0⟩:Edge)]:List Edge))) else(
  some ([(⟨(a+1)%n,0⟩:Edge)]:List Edge))) fun c=>
  gd (fits 24 b ([c]:List (List Edge)))<|
  gd (in64 (a+1))<|
  ic N n loops d (a+1) (b++([c]:List (List Edge)))) else(
  some b)
def ko(N:Nat)(n:Int)(loops:Bool):Option Mach:=
 bd (
 bif loops then(
 some 2) else(
 some 1)) fun b=>
 bd (
 ic N n loops N 0 ([]:List (List Edge))) fun a=>
 some (⟨b,1,a⟩:Mach)
def di(N:Nat)(n:Int)(loops:Bool):Nat→Int→(List (List Edge))→Option (List (List Edge))
 |0,_,_=>none
 |d+1,a,b=>
  bif decide (a<n) then(
  gd (in64 (a+1))<|
  gd (okR (a+1) n)<|
  bd (
  bif loops then(
  gd (fits 16 ([(⟨(a+1)%n,0⟩:Edge)]:List Edge) ([(⟨a,0⟩:Edge)]:List Edge))<|
  some (([(⟨(a+1)%n,0⟩:Edge)]:List Edge)++([(⟨a,0⟩:Edge)]:List Edge))) else(
  some ([(⟨(a+1)%n,0⟩:Edge)]:List Edge))) fun c=>
  gd (fits 24 b [c])<|
  gd (in64 (a+1))<|
  di N n loops d (a+1) (b++[c])) else(
  some b)
def oq(N:Nat)(n:Int)(loops:Bool):Option Mach:=
 bd (
 bif loops then(
 some 2) else(
 some 1)) fun b=>
 bd (
 di N n loops N 0 ([]:List (List Edge))) fun a=>
 some (⟨b,1,a⟩:Mach)
def iq(N:Nat)(a:Mach)(b:Mach)(d:Int):Nat→Int→Option (Ex (Unit) (Ex (Unit) (Bool)))
 |0,_=>none
 |e+1,c=>
  gd (okI a.rows d)<|
  bif decide (c<(↑(ix a.rows d).length:Int)) then(
  gd (okI a.rows d)<|
  gd (okI (ix a.rows d) c)<|
  gd (okI b.rows d)<|
  gd (okI (ix b.rows d) c)<|
  bif decide (¬(((ix (ix a.rows d) c).to)=((ix (ix b.rows d) c).to)∧((ix (ix a.rows d) c).out)=((ix (ix b.rows d) c).out))) then(
  some (Ex.rt (Ex.rt false))) else(
  gd (in64 (c+1))<|
  iq N a b d e (c+1))) else(
  some (Ex.go ()))
def ig(N:Nat)(a:Mach)(b:Mach):Nat→Int→Option (Ex (Unit) (Bool))
 |0,_=>none
 |d+1,c=>
  bif decide (c<(↑a.rows.length:Int)) then(
  bd (
  gd (okI a.rows c)<|
  gd (okI b.rows c)<|
  bif decide ((↑(ix a.rows c).length:Int)≠(↑(ix b.rows c).length:Int)) then(
  some (Ex.rt (Ex.rt false))) else(
  iq N a b c N 0)) fun e=>
  Ex.on e (fun f=>
  gd (in64 (c+1))<|
  ig N a b d (c+1)) some) else(
  some (Ex.go ()))
def sj(N:Nat)(a:Mach)(b:Mach):Option Bool:=
 bif ((decide (a.inputs≠b.inputs))||(decide (a.outputs≠b.outputs)))||(decide ((↑a.rows.length:Int)≠(↑b.rows.length:Int))) then(
 some false) else(
 bd (
 ig N a b N 0) fun c=>
 Ex.on c (fun d=>
 some true) some)
def bf(N:Nat)(b:Int):Nat→(List Edge)→Int→Option (List Edge)
 |0,_,_=>none
 |f+1,d,a=>
  bif decide (a<16) then(
  bd (
  bif (decide (b=0))&&(decide (a<15)) then(
  gd (okR a 8)<|
  gd (in64 ((1:Int)+(a%8)))<|
  some ((1:Int)+(a%8),0)) else(
  some ((-1),(-1)))) fun e=>
  bd (
  bif ((decide (0<b))&&(decide (a=0)))&&(decide (b<9)) then(
  some (0,0)) else(
  some (e.1,e.2))) fun c=>
  gd (fits 16 d ([(⟨c.1,c.2⟩:Edge)]:List Edge))<|
  gd (in64 (a+1))<|
  bf N b f (d++([(⟨c.1,c.2⟩:Edge)]:List Edge)) (a+1)) else(
  some d)
def vw(N:Nat):Nat→Int→(List (List Edge))→Option (List (List Edge))
 |0,_,_=>none
 |d+1,a,b=>
  bif decide (a<16) then(
  bd (
  bd (
  bf N a N ([]:List Edge) 0) fun c=>
  bif decide (a<9) then(
  gd (fits 24 b ([c]:List (List Edge)))<|
  some (b++([c]:List (List Edge)))) else(
  some b)) fun e=>
  gd (in64 (a+1))<|
  vw N d (a+1) e) else(
  some b)
def bu(N:Nat)(a:Int):Nat→Int→(List (List Edge))→Option (List (List Edge))
 |0,_,_=>none
 |d+1,b,c=>
  bif decide (b<16) then(
  gd (okI c a)<|
  gd (in64 (a+b))<|
  gd (okR (a+b) 64)<|
  gd (fits 16 (ix c a) ([(⟨(a+b)%64,0⟩:Edge)]:List Edge))<|
  gd (okI c a)<|
  gd (in64 (b+1))<|
  bu N a d (b+1) (up c a ((ix c a)++([(⟨(a+b)%64,0⟩:Edge)]:List Edge)))) else(
  some c)
def vo(N:Nat):Nat→Int→(List (List Edge))→Option (List (List Edge))
 |0,_,_=>none
 |c+1,a,b=>
  bif decide (a<64) then(
  bd (
  gd (okI b a)<|
  bu N a N 0 (up b a ([]:List Edge))) fun d=>
  gd (in64 (a+1))<|
  vo N c (a+1) d) else(
  some b)
def nz(N:Nat):Option Bool:=
 bd (ko N 64 true) fun i=>
 bd (cu N (⟨i.inputs,i.outputs,i.rows⟩:Mach) true) fun b=>
 bd (gp N (⟨i.inputs,i.outputs,i.rows⟩:Mach) false) fun l=>
 bd (gm N (⟨i.inputs,i.outputs,i.rows⟩:Mach)) fun c=>
 bd (gop (true&&(((((decide (b.2≠0))||(decide (l.2≠3)))||(decide (c.2≠0)))||(decide (c.1≠128)))==false)) (mr N (⟨i.inputs,i.outputs,i.rows⟩:Mach) b.1 true)) fun o=>
 gd ((true&&((((((decide (b.2≠0))||(decide (l.2≠3)))||(decide (c.2≠0)))||(decide (c.1≠128)))||(!(o.getD default)))==false))=true→okI b.1 0)<|
 gd ((true&&(((((((decide (b.2≠0))||(decide (l.2≠3)))||(decide (c.2≠0)))||(decide (c.1≠128)))||(!(o.getD default)))||(decide ((ix b.1 0)≠0)))==false))=true→okI b.1 1)<|
 bif ((((((decide (b.2≠0))||(decide (l.2≠3)))||(decide (c.2≠0)))||(decide (c.1≠128)))||(!(o.getD default)))||(decide ((ix b.1 0)≠0)))||(decide ((ix b.1 1)≠1)) then(
 some false) else(
 bd (ko N 16 false) fun p=>
 bd (gp N p true) fun m=>
 bd (ko N 17 false) fun q=>
 bd (gp N q true) fun r=>
 bif ((decide (m.2≠0))||(decide ((↑m.1.length:Int)≠16)))||(decide (r.2≠3)) then(
 some false) else(
 bd (
 vw N N 0 ([]:List (List Edge))) fun j=>
 bd (gm N (⟨16,1,j⟩:Mach)) fun g=>
 bd (mq N (⟨16,1,j⟩:Mach)) fun d=>
 bd (gop (true&&(((((decide (g.2≠0))||(decide (d.2≠0)))||(decide (g.1≠30)))||(decide ((↑d.1.length:Int)≠30)))==false)) (mr N (⟨16,1,j⟩:Mach) d.1 true)) fun s=>
 bif ((((decide (g.2≠0))||(decide (d.2≠0)))||(decide (g.1≠30)))||(decide ((↑d.1.length:Int)≠30)))||(!(s.getD default)) then(
 some false) else(
 bd (oq N 64 false) fun h=>
 bd (
 vo N N 0 h.rows) fun k=>
 bd (gm N (⟨16,h.outputs,k⟩:Mach)) fun a=>
 bd (mq N (⟨16,h.outputs,k⟩:Mach)) fun e=>
 bd (cu N (⟨16,h.outputs,k⟩:Mach) true) fun f=>
 bd (gop (true&&(((((decide (a.2=0))&&(decide (a.1=1024)))&&(decide (e.2=3)))&&(decide (f.2=3)))==true)) (ko N 1 false)) fun t=>
 bd (gop (true&&(((((decide (a.2=0))&&(decide (a.1=1024)))&&(decide (e.2=3)))&&(decide (f.2=3)))==true)) (ko N 1 false)) fun u=>
 bd (gop (true&&(((((decide (a.2=0))&&(decide (a.1=1024)))&&(decide (e.2=3)))&&(decide (f.2=3)))==true)) (sj N (t.getD default) (u.getD default))) fun n=>
 bd (gop (true&&((((((decide (a.2=0))&&(decide (a.1=1024)))&&(decide (e.2=3)))&&(decide (f.2=3)))&&(n.getD default))==true)) (z06 N)) fun v=>
 some ((((((decide (a.2=0))&&(decide (a.1=1024)))&&(decide (e.2=3)))&&(decide (f.2=3)))&&(n.getD default))&&(v.getD default)))))
end GV
end Go.Proofs.Ytdhccodneoebpaa
