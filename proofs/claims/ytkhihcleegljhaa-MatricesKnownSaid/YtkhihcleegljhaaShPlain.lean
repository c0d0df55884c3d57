import Derived.Test.YtkhihcleegljhaaShTypes
set_option linter.unusedVariables false
set_option linter.unusedSimpArgs false
set_option linter.unusedSectionVars false
namespace Go.Proofs.Ytkhihcleegljhaa
namespace GV
set_option maxRecDepth 100000
def iy(N:Nat)(inputs:Int)(a:List (List Int))(b:Int):Nat→Int→(List (List Int))→Option (List (List Int))
 |0,_,_=>none
 |e+1,c,d=>
  bif decide (c<inputs) then(
  gd (okI a b)<|
  gd (fits 8 ([]:List Int) (ix a b))<|
  gd (fits 8 (([]:List Int)++(ix a b)) ([c]:List Int))<|
  gd (fits 24 d ([((([]:List Int)++(ix a b))++([c]:List Int))]:List (List Int)))<|
  gd (in64 (c+1))<|
  iy N inputs a b e (c+1) (d++([((([]:List Int)++(ix a b))++([c]:List Int))]:List (List Int)))) else(
  some d)
def ic(N:Nat)(inputs:Int)(b:List (List Int)):Nat→(List (List Int))→Int→Option (List (List Int))
 |0,_,_=>none
 |d+1,c,a=>
  bif decide (a<(↑b.length:Int)) then(
  bd (
  iy N inputs b a N 0 c) fun e=>
  gd (in64 (a+1))<|
  ic N inputs b d e (a+1)) else(
  some c)
def iw(N:Nat)(inputs:Int)(k:Int):Nat→(List (List Int))→Int→Option (List (List Int))
 |0,_,_=>none
 |c+1,b,a=>
  bif decide (a<k) then(
  bd (
  ic N inputs b N ([]:List (List Int)) 0) fun d=>
  gd (in64 (a+1))<|
  iw N inputs k c d (a+1)) else(
  some b)
def lh(N:Nat)(inputs:Int)(k:Int):Option (List (List Int)):=
 bd (
 iw N inputs k N ([([]:List Int)]:List (List Int)) 0) fun a=>
 some a
def bq(N:Nat)(s:(List Edge))(f:Edge→Option Bool):Nat→Int→Option (Ex (Unit) (Int))
 |0,_=>none
 |c+1,a=>
  bif decide (a<(↑s.length:Int)) then(
  gd (okI s a)<|
  bd (f (ix s a)) fun b=>
  bif b then(
  some (Ex.rt a)) else(
  gd (in64 (a+1))<|
  bq N s f c (a+1))) else(
  some (Ex.go ()))
def z0c(N:Nat)(s:(List Edge))(f:Edge→Option Bool):Option Int:=
 bd (
 bq N s f N 0) fun a=>
 Ex.on a (fun b=>
 some (-1)) some
def l9(N:Nat)(s:(List Edge))(f:Edge→Option Bool):Option Bool:=
 bd (z0c N s f) fun a=>
 some (decide (0≤a))
def z3i(N:Nat):Option Edge:=
 some (⟨(-1),(-1)⟩:Edge)
def z5q(N:Nat)(m:Mach)(x:Edge):Option Bool:=
 bd (z3i N) fun a=>
 some ((decide (x.to=a.to∧x.out=a.out))||((((decide (0≤x.to))&&(decide (x.to<(↑m.rows.length:Int))))&&(decide (0≤x.out)))&&(decide (x.out<m.outputs))))
def z3f(N:Nat)(x:Edge)(p0_:Mach):Option Bool:=
 bd (z5q N p0_ x) fun a=>
 some (!a)
def z0g(N:Nat)(m:Mach):Nat→Int→Option (Ex (Unit) (Int))
 |0,_=>none
 |b+1,a=>
  bif decide (a<(↑m.rows.length:Int)) then(
  gd (okI m.rows a)<|
  bd (gop (true&&((decide ((↑(ix m.rows a).length:Int)≠m.inputs))==false)) (l9 N (ix m.rows a) (fun d=>z3f N d m))) fun c=>
  bif (decide ((↑(ix m.rows a).length:Int)≠m.inputs))||(c.getD default) then(
  some (Ex.rt 1)) else(
  gd (in64 (a+1))<|
  z0g N m b (a+1))) else(
  some (Ex.go ()))
def z0i(N:Nat)(m:Mach):Option Int:=
 bif ((decide (16<m.inputs))||(decide (16<m.outputs)))||(decide (64<(↑m.rows.length:Int))) then(
 some 3) else(
 bif ((decide (m.inputs<1))||(decide (m.outputs<1)))||(decide ((↑m.rows.length:Int)<1)) then(
 some 1) else(
 bd (
 z0g N m N 0) fun a=>
 Ex.on a (fun b=>
 some 0) some))
def ak(N:Nat)(s:(List Int))(f:Int→Option Bool):Nat→Int→Option (Ex (Unit) (Int))
 |0,_=>none
 |c+1,a=>
  bif decide (a<(↑s.length:Int)) then(
  gd (okI s a)<|
  bd (f (ix s a)) fun b=>
  bif b then(
  some (Ex.rt a)) else(
  gd (in64 (a+1))<|
  ak N s f c (a+1))) else(
  some (Ex.go ()))
def z0e(N:Nat)(s:(List Int))(f:Int→Option Bool):Option Int:=
 bd (
 ak N s f N 0) fun a=>
 Ex.on a (fun b=>
 some (-1)) some
def fu(N:Nat)(s:(List Int))(f:Int→Option Bool):Option Bool:=
 bd (z0e N s f) fun a=>
 some (decide (0≤a))
def z5m(N:Nat)(c:Int)(p0_:Int):Option Bool:=
 some ((decide (c<0))||(decide (p0_≤c)))
def z4x(N:Nat)(w_:(List Int))(inputs:Int):Option Int:=
 bif (decide (16<inputs))||(decide (256<(↑w_.length:Int))) then(
 some 3) else(
 bd (gop (true&&((decide (inputs<1))==false)) (fu N w_ (fun b=>z5m N b inputs))) fun a=>
 bif (decide (inputs<1))||(a.getD default) then(
 some 1) else(
 some 0))
def z1f(N:Nat)(l_:(List (List Int)))(inputs:Int):Nat→Int→Option (Ex (Unit) (Int))
 |0,_=>none
 |c+1,a=>
  bif decide (a<(↑l_.length:Int)) then(
  gd (okI l_ a)<|
  bd (z4x N (ix l_ a) inputs) fun b=>
  bif decide (b≠0) then(
  some (Ex.rt b)) else(
  gd (in64 (a+1))<|
  z1f N l_ inputs c (a+1))) else(
  some (Ex.go ()))
def z7i(N:Nat)(l_:(List (List Int)))(inputs:Int):Option Int:=
 bif (decide (16<inputs))||(decide (4096<(↑l_.length:Int))) then(
 some 3) else(
 bif decide (inputs<1) then(
 some 1) else(
 bd (
 z1f N l_ inputs N 0) fun a=>
 Ex.on a (fun b=>
 some 0) some))
def cmp_isNaN_int(N:Nat)(x:Int):Option Bool:=
 some (decide (x≠x))
def cmp_Compare_int(N:Nat)(x:Int)(y:Int):Option Int:=
 bd (cmp_isNaN_int N x) fun b=>
 bd (cmp_isNaN_int N y) fun a=>
 bif b then(
 bif a then(
 some 0) else(
 some (-1))) else(
 bif a then(
 some 1) else(
 bif decide (x<y) then(
 some (-1)) else(
 bif decide (y<x) then(
 some 1) else(
 some 0))))
def rf(N:Nat)(s1_:(List Int))(s2_:(List Int)):Nat→Int→Option (Ex (Unit) (Int))
 |0,_=>none
 |c+1,a=>
  bif decide (a<(↑s1_.length:Int)) then(
  gd (okI s1_ a)<|
  bif decide ((↑s2_.length:Int)≤a) then(
  some (Ex.rt 1)) else(
  gd (okI s2_ a)<|
  bd (cmp_Compare_int N (ix s1_ a) (ix s2_ a)) fun b=>
  bif decide (b≠0) then(
  some (Ex.rt b)) else(
  gd (in64 (a+1))<|
  rf N s1_ s2_ c (a+1)))) else(
  some (Ex.go ()))
def z1y(N:Nat)(s1_:(List Int))(s2_:(List Int)):Option Int:=
 bd (
 rf N s1_ s2_ N 0) fun a=>
 Ex.on a (fun b=>
 bif decide ((↑s1_.length:Int)<(↑s2_.length:Int)) then(
 some (-1)) else(
 some 0)) some
def z1r(N:Nat)(vals:(List Int)):Nat→Int→Option (Ex (Unit) (Int))
 |0,_=>none
 |b+1,a=>
  bif decide (a<(↑vals.length:Int)) then(
  gd (okI vals a)<|
  bif decide ((ix vals a)≠0) then(
  some (Ex.rt (ix vals a))) else(
  gd (in64 (a+1))<|
  z1r N vals b (a+1))) else(
  some (Ex.go ()))
def z8s(N:Nat)(vals:(List Int)):Option Int:=
 bd (
 z1r N vals N 0) fun a=>
 Ex.on a (fun b=>
 some 0) some
def z5n(N:Nat)(a:(List Int))(b:(List Int)):Option Int:=
 bd (cmp_Compare_int N (↑a.length:Int) (↑b.length:Int)) fun d=>
 bd (z1y N a b) fun e=>
 bd (z8s N ([d,e]:List Int)) fun c=>
 some c
def z1g(N:Nat)(l_:(List (List Int))):Nat→Int→Option (Ex (Unit) (Bool))
 |0,_=>none
 |c+1,a=>
  bif decide (a<(↑l_.length:Int)) then(
  gd (in64 (a-1))<|
  gd (okI l_ (a-1))<|
  gd (okI l_ a)<|
  bd (z5n N (ix l_ (a-1)) (ix l_ a)) fun b=>
  bif decide (0≤b) then(
  some (Ex.rt false)) else(
  gd (in64 (a+1))<|
  z1g N l_ c (a+1))) else(
  some (Ex.go ()))
def z7c(N:Nat)(l_:(List (List Int))):Option Bool:=
 bd (
 z1g N l_ N 1) fun a=>
 Ex.on a (fun b=>
 some true) some
def z1d(N:Nat)(l_:(List (List Int))):Nat→Int→Int→Option Int
 |0,_,_=>none
 |c+1,b,a=>
  bif decide (a<(↑l_.length:Int)) then(
  gd (okI l_ a)<|
  gd (in64 (b+(↑(ix l_ a).length:Int)))<|
  gd (in64 (a+1))<|
  z1d N l_ c (b+(↑(ix l_ a).length:Int)) (a+1)) else(
  some b)
def z7b(N:Nat)(l_:(List (List Int))):Option Int:=
 bd (
 z1d N l_ N 0 0) fun a=>
 some a
def z5g(N:Nat)(l_:(List (List Int)))(inputs:Int):Option Int:=
 bd (z7i N l_ inputs) fun b=>
 bif decide (b≠0) then(
 some b) else(
 bd (z7c N l_) fun c=>
 bif !c then(
 some 1) else(
 bd (z7b N l_) fun a=>
 bif decide (65536<a) then(
 some 3) else(
 some 0)))
def z4j(N:Nat)(m:Mach)(s:Int):Option Int:=
 bd (z0i N m) fun a=>
 bif decide (a≠0) then(
 some a) else(
 bif (decide (s<0))||(decide ((↑m.rows.length:Int)≤s)) then(
 some 1) else(
 some 0))
def z0y(N:Nat)(m:Mach)(w_:(List Int)):Nat→Int→Int→(List Int)→Option (Int×List Int)
 |0,_,_,_=>none
 |f+1,b,a,c=>
  bif decide (a<(↑w_.length:Int)) then(
  gd (okI w_ a)<|
  bd (z3i N) fun d=>
  bd (
  bif decide (b≠(-1)) then(
  gd (okI m.rows b)<|
  gd (okI (ix m.rows b) (ix w_ a))<|
  some ((ix (ix m.rows b) (ix w_ a)).to,(ix (ix m.rows b) (ix w_ a)).out)) else(
  some (d.to,d.out))) fun e=>
  gd (okI c a)<|
  gd (in64 (a+1))<|
  z0y N m w_ f e.1 (a+1) (up c a e.2)) else(
  some (b,c))
def z6q(N:Nat)(m:Mach)(s:Int)(w_:(List Int)):Option ((List Int)×Int):=
 gd (okM 8 (↑w_.length:Int))<|
 bd (
 z0y N m w_ N s 0 (mk (↑w_.length:Int) (0:Int))) fun a=>
 some (a.2,a.1)
def z4d(N:Nat)(m:Mach)(s:Int)(w_:(List Int)):Option ((List Int)×Int):=
 bd (z4j N m s) fun c=>
 bif decide (c≠0) then(
 some (([]:(List Int)),c)) else(
 bd (z4x N w_ m.inputs) fun a=>
 bif decide (a≠0) then(
 some (([]:(List Int)),a)) else(
 bd (z6q N m s w_) fun b=>
 some (b.1,0)))
def z0n(N:Nat)(b:(List Int)×Int)(c:(List Int)×Int):Nat→Int→Option (Ex (Unit) (Int))
 |0,_=>none
 |d+1,a=>
  bif decide (a<(↑b.1.length:Int)) then(
  gd (okI b.1 a)<|
  gd (okI c.1 a)<|
  bif decide ((ix b.1 a)≠(ix c.1 a)) then(
  some (Ex.rt a)) else(
  gd (in64 (a+1))<|
  z0n N b c d (a+1))) else(
  some (Ex.go ()))
def z3j(N:Nat)(m:Mach)(other:Mach)(w_:(List Int)):Option Int:=
 bd (z4d N m 0 w_) fun a=>
 bd (z4d N other 0 w_) fun b=>
 bd (
 z0n N a b N 0) fun c=>
 Ex.on c (fun d=>
 some (-1)) some
def cz(N:Nat)(m:Mach)(mutants:(List Mach)):Nat→Int→Option (Ex (Unit) (Sa×Int))
 |0,_=>none
 |c+1,a=>
  bif decide (a<(↑mutants.length:Int)) then(
  gd (okI mutants a)<|
  bd (z0i N (⟨(ix mutants a).inputs,(ix mutants a).outputs,(ix mutants a).rows⟩:Mach)) fun b=>
  bif decide (b≠0) then(
  some (Ex.rt ((⟨[]⟩:Sa),b))) else(
  bif decide (((ix mutants a).inputs)≠m.inputs) then(
  some (Ex.rt ((⟨[]⟩:Sa),5))) else(
  gd (in64 (a+1))<|
  cz N m mutants c (a+1)))) else(
  some (Ex.go ()))
def cu(N:Nat)(m:Mach)(mutants:(List Mach))(l_:(List (List Int)))(b:Int):Nat→Int→(List (List Int))→Option (List (List Int))
 |0,_,_=>none
 |d+1,a,c=>
  bif decide (a<(↑l_.length:Int)) then(
  gd (okI l_ a)<|
  gd (okI c b)<|
  bd (z3j N m (⟨(ix mutants b).inputs,(ix mutants b).outputs,(ix mutants b).rows⟩:Mach) (ix l_ a)) fun e=>
  gd (okI (ix c b) a)<|
  gd (in64 (a+1))<|
  cu N m mutants l_ b d (a+1) (up c b (up (ix c b) a e))) else(
  some c)
def ng(N:Nat)(m:Mach)(mutants:(List Mach))(l_:(List (List Int))):Nat→Int→(List (List Int))→Option (List (List Int))
 |0,_,_=>none
 |c+1,a,b=>
  bif decide (a<(↑mutants.length:Int)) then(
  bd (
  gd (okI mutants a)<|
  gd (okM 8 (↑l_.length:Int))<|
  gd (okI b a)<|
  cu N m mutants l_ a N 0 (up b a (mk (↑l_.length:Int) (0:Int)))) fun d=>
  gd (in64 (a+1))<|
  ng N m mutants l_ c (a+1) d) else(
  some b)
def bv(N:Nat)(m:Mach)(mutants:(List Mach))(l_:(List (List Int))):Option (Sa×Int):=
 bd (z0i N m) fun d=>
 bif decide (d≠0) then(
 some ((⟨[]⟩:Sa),d)) else(
 bif decide (4096<(↑mutants.length:Int)) then(
 some ((⟨[]⟩:Sa),3)) else(
 bd (
 cz N m mutants N 0) fun b=>
 Ex.on b (fun e=>
 bd (z5g N l_ m.inputs) fun a=>
 bif decide (a≠0) then(
 some ((⟨[]⟩:Sa),a)) else(
 gd (in64 ((↑mutants.length:Int)*(↑l_.length:Int)))<|
 bif decide (262144<((↑mutants.length:Int)*(↑l_.length:Int))) then(
 some ((⟨[]⟩:Sa),3)) else(
 gd (okM 24 (↑mutants.length:Int))<|
 bd (
 ng N m mutants l_ N 0 (mk (↑mutants.length:Int) ([]:List Int))) fun c=>
 some ((⟨c⟩:Sa),0)))) some))
def uo(N:Nat)(x:Sa):Nat→Int→Int→Option Int
 |0,_,_=>none
 |c+1,b,a=>
  bif decide (a<(↑x.fB.length:Int)) then(
  gd (okI x.fB a)<|
  gd (in64 (a+1))<|
  uo N x c (max b (↑(ix x.fB a).length:Int)) (a+1)) else(
  some b)
def uy(N:Nat)(x:Sa):Option Int:=
 bd (
 uo N x N 0 0) fun a=>
 some a
def pg(N:Nat)(x:Sa):Nat→Int→Int→Option Int
 |0,_,_=>none
 |c+1,b,a=>
  bif decide (a<(↑x.fB.length:Int)) then(
  gd (okI x.fB a)<|
  pg N x c (IntKind.i64.wrap (b+(↑(ix x.fB a).length:Int))) (IntKind.i64.wrap (a+1))) else(
  some b)
def dh(N:Nat)(x:Sa)(a:Int):Nat→Int→Option (Ex (Unit) (Ex (Unit) (Int)))
 |0,_=>none
 |c+1,b=>
  bif decide (b<(↑(ix x.fB a).length:Int)) then(
  bd (
  gd (okI (ix x.fB a) b)<|
  bd (
  bif decide ((ix (ix x.fB a) b)<(-1)) then(
  some (Ex.go ())) else(
  bif decide (256≤(ix (ix x.fB a) b)) then(
  some (Ex.go ())) else(
  some (Ex.rt (Ex.go ()))))) fun d=>
  Ex.on d (fun f=>
  some (Ex.rt (Ex.rt (Ex.rt 1)))) some) fun e=>
  Ex.on e (fun g=>
  dh N x a c (IntKind.i64.wrap (b+1))) some) else(
  some (Ex.go ()))
def di(N:Nat)(x:Sa)(d:Int):Nat→Int→Option (Ex (Unit) (Int))
 |0,_=>none
 |b+1,a=>
  bif decide (a<(↑x.fB.length:Int)) then(
  bd (
  gd (okI x.fB a)<|
  bif decide ((↑(ix x.fB a).length:Int)≠d) then(
  some (Ex.rt (Ex.rt 1))) else(
  dh N x a N 0)) fun c=>
  Ex.on c (fun e=>
  di N x d b (IntKind.i64.wrap (a+1))) some) else(
  some (Ex.go ()))
def ku(N:Nat)(x:Sa):Option Int:=
 bd (uy N x) fun c=>
 bd (
 pg N x N 0 0) fun a=>
 bif ((decide (4096<(↑x.fB.length:Int)))||(decide (4096<c)))||(decide (262144<a)) then(
 some 3) else(
 bd (
 di N x c N 0) fun b=>
 Ex.on b (fun d=>
 some 0) some)
def aj(N:Nat)(x:Sa)(is:Int→Option Bool):Nat→(List Int)→Int→Option (List Int)
 |0,_,_=>none
 |c+1,b,a=>
  bif decide (a<(↑x.fB.length:Int)) then(
  bd (
  bd (is a) fun d=>
  bif d then(
  gd (fits 8 b ([a]:List Int))<|
  some (b++([a]:List Int))) else(
  some b)) fun e=>
  gd (in64 (a+1))<|
  aj N x is c e (a+1)) else(
  some b)
def fo(N:Nat)(x:Sa)(is:Int→Option Bool):Option (List Int):=
 bd (
 aj N x is N ([]:List Int) 0) fun a=>
 some a
def p8(N:Nat)(x:Sa)(row:Int)(column:Int):Option Bool:=
 gd (okI x.fB row)<|
 gd (okI (ix x.fB row) column)<|
 some (decide ((ix (ix x.fB row) column)≠(-1)))
def uk(N:Nat)(x:Sa)(row:Int):Nat→(List Int)→Int→Option (List Int)
 |0,_,_=>none
 |c+1,b,a=>
  bif decide (a<(↑(ix x.fB row).length:Int)) then(
  bd (
  bd (p8 N x row a) fun d=>
  bif d then(
  gd (fits 8 b ([a]:List Int))<|
  some (b++([a]:List Int))) else(
  some b)) fun e=>
  gd (in64 (a+1))<|
  uk N x row c e (a+1)) else(
  some b)
def vk(N:Nat)(x:Sa)(row:Int):Option (List Int):=
 bd (
 gd (okI x.fB row)<|
 uk N x row N ([]:List Int) 0) fun a=>
 some a
def ui(N:Nat)(x:Sa)(row:Int):Option Bool:=
 bd (vk N x row) fun a=>
 some (decide (0<(↑a.length:Int)))
def nk(N:Nat)(b:(List Int)):Nat→Int→(List Int)→Option (List Int)
 |0,_,_=>none
 |d+1,a,c=>
  bif decide (a<(↑b.length:Int)) then(
  gd (okI b a)<|
  gd (okI c (ix b a))<|
  gd (in64 ((ix c (ix b a))+1))<|
  gd (okI c (ix b a))<|
  gd (in64 (a+1))<|
  nk N b d (a+1) (up c (ix b a) ((ix c (ix b a))+1))) else(
  some c)
def mg(N:Nat)(x:Sa)(rows:(List Int)):Nat→Int→(List Int)→Option (List Int)
 |0,_,_=>none
 |c+1,a,b=>
  bif decide (a<(↑rows.length:Int)) then(
  bd (
  gd (okI rows a)<|
  bd (vk N x (ix rows a)) fun d=>
  nk N d N 0 b) fun e=>
  gd (in64 (a+1))<|
  mg N x rows c (a+1) e) else(
  some b)
def z0u(N:Nat)(x:Sa)(rows:(List Int)):Option (List Int):=
 bd (uy N x) fun b=>
 gd (okM 8 b)<|
 bd (
 mg N x rows N 0 (mk b (0:Int))) fun a=>
 some a
def z0f(N:Nat)(x:(List Int)):Nat→Int→Int→Option Int
 |0,_,_=>none
 |c+1,b,a=>
  bif decide (a<(↑x.length:Int)) then(
  gd (okI x a)<|
  gd (in64 (a+1))<|
  z0f N x c (max b (ix x a)) (a+1)) else(
  some b)
def slices_Max_int(N:Nat)(x:(List Int)):Option Int:=
 bif decide ((↑x.length:Int)<1) then(
 none) else(
 gd (okI x 0)<|
 bd (
 z0f N x N (ix x 0) 1) fun a=>
 some a)
def lg(N:Nat)(s:(List Int))(v_:Int):Nat→Int→Option (Ex (Unit) (Int))
 |0,_=>none
 |b+1,a=>
  bif decide (a<(↑s.length:Int)) then(
  gd (okI s a)<|
  bif decide (v_=(ix s a)) then(
  some (Ex.rt a)) else(
  gd (in64 (a+1))<|
  lg N s v_ b (a+1))) else(
  some (Ex.go ()))
def slices_Index_int(N:Nat)(s:(List Int))(v_:Int):Option Int:=
 bd (
 lg N s v_ N 0) fun a=>
 Ex.on a (fun b=>
 some (-1)) some
def z3l(N:Nat)(l_:(List Int)):Option (Int×Bool):=
 bif decide ((↑l_.length:Int)=0) then(
 some (0,false)) else(
 bd (slices_Max_int N l_) fun a=>
 bd (slices_Index_int N l_ a) fun b=>
 some (b,(decide (0<a))))
def uz(N:Nat)(x:Sa)(is:Int→Option Bool):Nat→(List Int)→Int→Option (List Int)
 |0,_,_=>none
 |c+1,b,a=>
  bif decide (a<(↑x.fB.length:Int)) then(
  bd (
  bd (is a) fun d=>
  bif d then(
  gd (fits 8 b ([a]:List Int))<|
  some (b++([a]:List Int))) else(
  some b)) fun e=>
  gd (in64 (a+1))<|
  uz N x is c e (a+1)) else(
  some b)
def ib(N:Nat)(x:Sa)(is:Int→Option Bool):Option (List Int):=
 bd (
 uz N x is N ([]:List Int) 0) fun a=>
 some a
def df(N:Nat)(b:(List Int)):Nat→Int→(List Int)→Option (List Int)
 |0,_,_=>none
 |d+1,a,c=>
  bif decide (a<(↑b.length:Int)) then(
  gd (okI b a)<|
  gd (okI c (ix b a))<|
  gd (in64 ((ix c (ix b a))+1))<|
  gd (okI c (ix b a))<|
  gd (in64 (a+1))<|
  df N b d (a+1) (up c (ix b a) ((ix c (ix b a))+1))) else(
  some c)
def pz(N:Nat)(x:Sa)(rows:(List Int)):Nat→Int→(List Int)→Option (List Int)
 |0,_,_=>none
 |c+1,a,b=>
  bif decide (a<(↑rows.length:Int)) then(
  bd (
  gd (okI rows a)<|
  bd (vk N x (ix rows a)) fun d=>
  df N d N 0 b) fun e=>
  gd (in64 (a+1))<|
  pz N x rows c (a+1) e) else(
  some b)
def o5(N:Nat)(x:Sa)(rows:(List Int)):Option (List Int):=
 bd (uy N x) fun b=>
 gd (okM 8 b)<|
 bd (
 pz N x rows N 0 (mk b (0:Int))) fun a=>
 some a
def z2t(N:Nat)(i:Int)(p0_:Sa)(p1_:Int):Option Bool:=
 bd (p8 N p0_ i p1_) fun a=>
 some a
def dx(N:Nat)(del:Int→Option Bool):Nat→Int→Int→(List Int)→Option (Int×List Int)
 |0,_,_,_=>none
 |e+1,b,c,a=>
  bif decide (c<(↑a.length:Int)) then(
  bd (
  gd (okI a c)<|
  bd (del (ix a c)) fun f=>
  bif !f then(
  gd (okI a b)<|
  gd (in64 (b+1))<|
  some (b+1,(up a b (ix a c)))) else(
  some (b,a))) fun d=>
  gd (in64 (c+1))<|
  dx N del e d.1 (c+1) d.2) else(
  some (b,a))
def z0l(N:Nat)(s:List Int)(del:Int→Option Bool):Option (List Int):=
 bd (z0e N s del) fun b=>
 bif decide (b=(-1)) then(
 some s) else(
 bd (
 gd (in64 (b+1))<|
 dx N del N b (b+1) s) fun a=>
 gd (okS a.2 a.1 (↑a.2.length:Int))<|
 gd (okS (z4z a.2 a.1.toNat (List.replicate (a.2.length-a.1.toNat) (0:Int))) 0 a.1)<|
 some (cut (z4z a.2 a.1.toNat (List.replicate (a.2.length-a.1.toNat) (0:Int))) 0 a.1))
def slices_Sort_int(N:Nat)(x:List Int):Option (List Int):=
 gd (x.length<4611686018427387904) (some (z2f x))
def z10(N:Nat)(s:(List Int)):Option (List Int):=
 gd (okS s 0 (↑s.length:Int))<|
 some (cut s 0 (↑s.length:Int))
def z19(N:Nat)(s:List Int):Option (List Int):=
 gd (okS s 0 (↑s.length:Int))<|
 some (cut s 0 (↑s.length:Int))
def aa(N:Nat)(x:Sa):Nat→(List Int)→(List Int)→Option (List Int)
 |0,_,_=>none
 |d+1,c,b=>
  bd (o5 N x c) fun e=>
  bd (z3l N e) fun a=>
  bif !a.2 then(
  some b) else(
  gd (fits 8 b ([a.1]:List Int))<|
  bd (z0l N c (fun g=>z2t N g x a.1)) fun f=>
  aa N x d f (b++([a.1]:List Int)))
def uu(N:Nat)(x:Sa):Option ((List Int)×Int):=
 bd (ku N x) fun e=>
 bif decide (e≠0) then(
 some (([]:(List Int)),e)) else(
 bd (ib N x (fun f=>ui N x f)) fun b=>
 bd (
 aa N x N b ([]:List Int)) fun c=>
 bd (slices_Sort_int N c) fun d=>
 bd (z19 N d) fun a=>
 some (a,0))
def z3x(N:Nat)(x:Int):Option Int:=
 bd (
 bif decide (4294967296≤x) then(
 gd (okSh .u64 (32:Int))<|
 some (z2l x (32:Int),32)) else(
 some (x,0))) fun b=>
 bd (
 bif decide (65536≤b.1) then(
 gd (okSh .u64 (16:Int))<|
 gd (in64 (b.2+16))<|
 some (z2l b.1 (16:Int),b.2+16)) else(
 some (b.1,b.2))) fun c=>
 bd (
 bif decide (256≤c.1) then(
 gd (okSh .u64 (8:Int))<|
 gd (in64 (c.2+8))<|
 some (z2l c.1 (8:Int),c.2+8)) else(
 some (c.1,c.2))) fun a=>
 gd (okI zbr (IntKind.u8.wrap a.1))<|
 gd (in64 (ix zbr (IntKind.u8.wrap a.1)))<|
 gd (in64 (a.2+(ix zbr (IntKind.u8.wrap a.1))))<|
 some (a.2+(ix zbr (IntKind.u8.wrap a.1)))
def z3k(N:Nat)(x:Int):Option Int:=
 bd (z3x N x) fun a=>
 some a
def z2o(N:Nat)(x:Int):Option Bool:=
 some (decide (x≠x))
def xm(N:Nat)(x:Int)(y:Int):Option Bool:=
 bd (z2o N x) fun b=>
 bd (gop (true&&(b==true)) (z2o N y)) fun a=>
 some ((b&&(!(a.getD default)))||(decide (x<y)))
def ym(N:Nat)(a:Int):Nat→Int→(List Int)→Option (List Int)
 |0,_,_=>none
 |d+1,b,c=>
  gd ((true&&((decide (a<b))==true))=true→okI c b)<|
  gd ((true&&((decide (a<b))==true))=true→in64 (b-1))<|
  gd ((true&&((decide (a<b))==true))=true→okI c (b-1))<|
  bd (gop (true&&((decide (a<b))==true)) (xm N (ix c b) (ix c (b-1)))) fun e=>
  bif (decide (a<b))&&(e.getD default) then(
  gd (in64 (b-1))<|
  gd (in64 (b-1))<|
  gd (okI c (b-1))<|
  gd (okI c b)<|
  gd (okI c b)<|
  gd (okI c (b-1))<|
  gd (in64 (b-1))<|
  ym N a d (b-1) (up (up c b (ix c (b-1))) (b-1) (ix c b))) else(
  some c)
def yj(N:Nat)(a:Int)(b:Int):Nat→Int→(List Int)→Option (List Int)
 |0,_,_=>none
 |f+1,c,e=>
  bif decide (c<b) then(
  bd (
  ym N a N c e) fun d=>
  gd (in64 (c+1))<|
  yj N a b f (c+1) d) else(
  some e)
def ig(N:Nat)(data:List Int)(a:Int)(b:Int):Option (List Int):=
 gd (in64 (a+1))<|
 yj N a b N (a+1) data
def bf(N:Nat)(hi:Int)(first:Int):Nat→Int→(List Int)→Option (List Int)
 |0,_,_=>none
 |f+1,a,c=>
  gd (in64 ((2:Int)*a))<|
  gd (in64 (((2:Int)*a)+1))<|
  bif decide (hi≤(((2:Int)*a)+1)) then(
  some c) else(
  bd (
  gd (in64 ((((2:Int)*a)+1)+1))<|
  gd ((true&&((decide (((((2:Int)*a)+1)+1)<hi))==true))=true→in64 (first+(((2:Int)*a)+1)))<|
  gd ((true&&((decide (((((2:Int)*a)+1)+1)<hi))==true))=true→okI c (first+(((2:Int)*a)+1)))<|
  gd ((true&&((decide (((((2:Int)*a)+1)+1)<hi))==true))=true→in64 (first+(((2:Int)*a)+1)))<|
  gd ((true&&((decide (((((2:Int)*a)+1)+1)<hi))==true))=true→in64 ((first+(((2:Int)*a)+1))+1))<|
  gd ((true&&((decide (((((2:Int)*a)+1)+1)<hi))==true))=true→okI c ((first+(((2:Int)*a)+1))+1))<|
  bd (gop (true&&((decide (((((2:Int)*a)+1)+1)<hi))==true)) (xm N (ix c (first+(((2:Int)*a)+1))) (ix c ((first+(((2:Int)*a)+1))+1)))) fun d=>
  bif (decide (((((2:Int)*a)+1)+1)<hi))&&(d.getD default) then(
  gd (in64 ((((2:Int)*a)+1)+1))<|
  some ((((2:Int)*a)+1)+1)) else(
  some (((2:Int)*a)+1))) fun b=>
  gd (in64 (first+a))<|
  gd (okI c (first+a))<|
  gd (in64 (first+b))<|
  gd (okI c (first+b))<|
  bd (xm N (ix c (first+a)) (ix c (first+b))) fun e=>
  bif !e then(
  some c) else(
  gd (in64 (first+a))<|
  gd (in64 (first+b))<|
  gd (in64 (first+b))<|
  gd (okI c (first+b))<|
  gd (in64 (first+a))<|
  gd (okI c (first+a))<|
  gd (okI c (first+a))<|
  gd (okI c (first+b))<|
  bf N hi first f b (up (up c (first+a) (ix c (first+b))) (first+b) (ix c (first+a)))))
def au(N:Nat)(data:List Int)(lo:Int)(hi:Int)(first:Int):Option (List Int):=
 bf N hi first N lo data
def gz(N:Nat)(a:Int)(b:Int):Nat→Int→(List Int)→Option (List Int)
 |0,_,_=>none
 |f+1,c,d=>
  bif decide (0≤c) then(
  bd (au N d c (b-a) a) fun e=>
  gd (in64 (c-1))<|
  gz N a b f (c-1) e) else(
  some d)
def gy(N:Nat)(a:Int):Nat→Int→(List Int)→Option (List Int)
 |0,_,_=>none
 |d+1,b,c=>
  bif decide (0≤b) then(
  gd (in64 (a+b))<|
  gd (in64 (a+b))<|
  gd (okI c (a+b))<|
  gd (okI c a)<|
  gd (okI c a)<|
  gd (okI c (a+b))<|
  bd (au N (up (up c a (ix c (a+b))) (a+b) (ix c a)) 0 b a) fun e=>
  gd (in64 (b-1))<|
  gy N a d (b-1) e) else(
  some c)
def z02(N:Nat)(data:List Int)(a:Int)(b:Int):Option (List Int):=
 gd (in64 (b-a))<|
 bd (
 gd (in64 ((b-a)-1))<|
 gd (okQ ((b-a)-1) 2)<|
 gz N a b N (((b-a)-1)/2) data) fun c=>
 gd (in64 ((b-a)-1))<|
 gy N a N ((b-a)-1) c
def z16(N:Nat)(length:Int):Option Int:=
 bd (z3k N (IntKind.u64.wrap length)) fun a=>
 gd (okSh .u64 a)<|
 some (ah .u64 (1:Int) a)
def z1c(N:Nat)(r_:Int):Option (Int×Int):=
 gd (okSh .u64 (13:Int))<|
 gd (okB .u64 r_ (ah .u64 r_ (13:Int)))<|
 gd (okSh .u64 (7:Int))<|
 gd (okB .u64 (ae r_ (ah .u64 r_ (13:Int))) (z2l (ae r_ (ah .u64 r_ (13:Int))) (7:Int)))<|
 gd (okSh .u64 (17:Int))<|
 gd (okB .u64 (ae (ae r_ (ah .u64 r_ (13:Int))) (z2l (ae r_ (ah .u64 r_ (13:Int))) (7:Int))) (ah .u64 (ae (ae r_ (ah .u64 r_ (13:Int))) (z2l (ae r_ (ah .u64 r_ (13:Int))) (7:Int))) (17:Int)))<|
 some ((ae (ae (ae r_ (ah .u64 r_ (13:Int))) (z2l (ae r_ (ah .u64 r_ (13:Int))) (7:Int))) (ah .u64 (ae (ae r_ (ah .u64 r_ (13:Int))) (z2l (ae r_ (ah .u64 r_ (13:Int))) (7:Int))) (17:Int))),(ae (ae (ae r_ (ah .u64 r_ (13:Int))) (z2l (ae r_ (ah .u64 r_ (13:Int))) (7:Int))) (ah .u64 (ae (ae r_ (ah .u64 r_ (13:Int))) (z2l (ae r_ (ah .u64 r_ (13:Int))) (7:Int))) (17:Int))))
def yl(N:Nat)(a:Int)(b:Int)(g:Int):Nat→Int→(List Int)→Int→Option (List Int)
 |0,_,_,_=>none
 |h+1,d,c,i=>
  gd (okQ (b-a) 4)<|
  gd (in64 (((b-a)/4)*2))<|
  gd (in64 (a+(((b-a)/4)*2)))<|
  gd (in64 ((a+(((b-a)/4)*2))+1))<|
  bif decide (d≤((a+(((b-a)/4)*2))+1)) then(
  bd (z1c N i) fun e=>
  gd (okB .u64 e.1 (IntKind.u64.wrap (g-1)))<|
  gd (in64 (z6l e.1 (IntKind.u64.wrap (g-1))))<|
  bd (
  bif decide ((b-a)≤(z6l e.1 (IntKind.u64.wrap (g-1)))) then(
  gd (in64 ((z6l e.1 (IntKind.u64.wrap (g-1)))-(b-a)))<|
  some ((z6l e.1 (IntKind.u64.wrap (g-1)))-(b-a))) else(
  some (z6l e.1 (IntKind.u64.wrap (g-1))))) fun f=>
  gd (in64 (a+f))<|
  gd (in64 (a+f))<|
  gd (okI c (a+f))<|
  gd (okI c d)<|
  gd (okI c d)<|
  gd (okI c (a+f))<|
  gd (in64 (d+1))<|
  yl N a b g h (d+1) (up (up c d (ix c (a+f))) (a+f) (ix c d)) e.2) else(
  some c)
def iq(N:Nat)(data:List Int)(a:Int)(b:Int):Option (List Int):=
 gd (in64 (b-a))<|
 bif decide (8≤(b-a)) then(
 bd (z16 N (b-a)) fun c=>
 gd (okQ (b-a) 4)<|
 gd (in64 (((b-a)/4)*2))<|
 gd (in64 (a+(((b-a)/4)*2)))<|
 gd (in64 ((a+(((b-a)/4)*2))-1))<|
 yl N a b c N ((a+(((b-a)/4)*2))-1) data (IntKind.u64.wrap (b-a))) else(
 some data)
def nz(N:Nat)(data:(List Int))(a:Int)(b:Int)(swaps:Int):Option (Int×Int×Int):=
 gd (okI data b)<|
 gd (okI data a)<|
 bd (xm N (ix data b) (ix data a)) fun c=>
 bif c then(
 gd (in64 (swaps+1))<|
 some (b,a,(swaps+1))) else(
 some (a,b,swaps))
def su(N:Nat)(data:(List Int))(a:Int)(b:Int)(c:Int)(swaps:Int):Option (Int×Int):=
 bd (nz N data a b swaps) fun e=>
 bd (nz N data e.2.1 c e.2.2) fun f=>
 bd (nz N data e.1 f.1 f.2.2) fun d=>
 some (d.2.1,d.2.2)
def xn(N:Nat)(data:(List Int))(a:Int)(swaps:Int):Option (Int×Int):=
 gd (in64 (a-1))<|
 gd (in64 (a+1))<|
 bd (su N data (a-1) a (a+1) swaps) fun b=>
 some (b.1,b.2)
def rz(N:Nat)(data:(List Int))(a:Int)(b:Int):Option (Int×Int):=
 gd (in64 (b-a))<|
 gd (okQ (b-a) 4)<|
 gd (in64 (((b-a)/4)*1))<|
 gd (in64 (a+(((b-a)/4)*1)))<|
 gd (okQ (b-a) 4)<|
 gd (in64 (((b-a)/4)*2))<|
 gd (in64 (a+(((b-a)/4)*2)))<|
 gd (okQ (b-a) 4)<|
 gd (in64 (((b-a)/4)*3))<|
 gd (in64 (a+(((b-a)/4)*3)))<|
 bd (
 bif decide (8≤(b-a)) then(
 bd (
 bif decide (50≤(b-a)) then(
 bd (xn N data (a+(((b-a)/4)*1)) 0) fun e=>
 bd (xn N data (a+(((b-a)/4)*2)) e.2) fun f=>
 bd (xn N data (a+(((b-a)/4)*3)) f.2) fun g=>
 some (e.1,f.1,g.1,g.2)) else(
 some (a+(((b-a)/4)*1),a+(((b-a)/4)*2),a+(((b-a)/4)*3),0))) fun d=>
 bd (su N data d.1 d.2.1 d.2.2.1 d.2.2.2) fun h=>
 some (h.1,h.2)) else(
 some (a+(((b-a)/4)*2),0))) fun c=>
 bif decide (c.2=0) then(
 some (c.1,1)) else(
 bif decide (c.2=12) then(
 some (c.1,2)) else(
 some (c.1,0)))
def xc(N:Nat):Nat→Int→Int→(List Int)→Option (List Int)
 |0,_,_,_=>none
 |d+1,b,c,a=>
  bif decide (b<c) then(
  gd (okI a c)<|
  gd (okI a b)<|
  gd (okI a b)<|
  gd (okI a c)<|
  gd (in64 (b+1))<|
  gd (in64 (c-1))<|
  xc N d (b+1) (c-1) (up (up a b (ix a c)) c (ix a b))) else(
  some a)
def sj(N:Nat)(data:List Int)(a:Int)(b:Int):Option (List Int):=
 gd (in64 (b-1))<|
 xc N N a (b-1) data
def uj(N:Nat)(b:Int)(c:List Int):Nat→Int→Option Int
 |0,_=>none
 |d+1,a=>
  gd ((true&&((decide (a<b))==true))=true→okI c a)<|
  gd ((true&&((decide (a<b))==true))=true→in64 (a-1))<|
  gd ((true&&((decide (a<b))==true))=true→okI c (a-1))<|
  bd (gop (true&&((decide (a<b))==true)) (xm N (ix c a) (ix c (a-1)))) fun e=>
  bif (decide (a<b))&&(!(e.getD default)) then(
  gd (in64 (a+1))<|
  uj N b c d (a+1)) else(
  some a)
def um(N:Nat):Nat→Int→(List Int)→Option (List Int)
 |0,_,_=>none
 |c+1,a,b=>
  bif decide (1≤a) then(
  gd (okI b a)<|
  gd (in64 (a-1))<|
  gd (okI b (a-1))<|
  bd (xm N (ix b a) (ix b (a-1))) fun d=>
  bif !d then(
  some b) else(
  gd (in64 (a-1))<|
  gd (in64 (a-1))<|
  gd (okI b (a-1))<|
  gd (okI b a)<|
  gd (okI b a)<|
  gd (okI b (a-1))<|
  gd (in64 (a-1))<|
  um N c (a-1) (up (up b a (ix b (a-1))) (a-1) (ix b a)))) else(
  some b)
def uh(N:Nat)(b:Int)(d:Int):Nat→Int→(List Int)→Option (Ex (Int×List Int) (Ex (List Int) (Bool×List Int)))
 |0,_,_=>none
 |e+1,a,c=>
  bif decide (a<b) then(
  gd (okI c a)<|
  gd (in64 (a-1))<|
  gd (okI c (a-1))<|
  bd (xm N (ix c a) (ix c (a-1))) fun f=>
  bif !f then(
  some (Ex.go (d,c))) else(
  gd (in64 (a-1))<|
  gd (in64 (a-1))<|
  gd (okI c (a-1))<|
  gd (okI c a)<|
  gd (okI c a)<|
  gd (okI c (a-1))<|
  gd (in64 (a+1))<|
  uh N b d e (a+1) (up (up c a (ix c (a-1))) (a-1) (ix c a)))) else(
  some (Ex.go (d,c)))
def ul(N:Nat)(a:Int)(b:Int):Nat→Int→Int→(List Int)→Option (Ex (List Int) (Bool×List Int))
 |0,_,_,_=>none
 |i+1,j,f,d=>
  bif decide (f<5) then(
  bd (
  bd (
  uj N b d N j) fun c=>
  bif decide (c=b) then(
  some (Ex.rt (Ex.rt (true,d)))) else(
  gd (in64 (b-a))<|
  bif decide ((b-a)<50) then(
  some (Ex.rt (Ex.rt (false,d)))) else(
  gd (in64 (c-1))<|
  gd (in64 (c-1))<|
  gd (okI d (c-1))<|
  gd (okI d c)<|
  gd (okI d c)<|
  gd (okI d (c-1))<|
  bd (
  gd (in64 (c-a))<|
  bif decide (2≤(c-a)) then(
  gd (in64 (c-1))<|
  um N N (c-1) (up (up d c (ix d (c-1))) (c-1) (ix d c))) else(
  some (up (up d c (ix d (c-1))) (c-1) (ix d c)))) fun e=>
  gd (in64 (b-c))<|
  bif decide (2≤(b-c)) then(
  gd (in64 (c+1))<|
  uh N b c N (c+1) e) else(
  some (Ex.go (c,e)))))) fun h=>
  Ex.on h (fun g=>
  gd (in64 (f+1))<|
  ul N a b i g.1 (f+1) g.2) some) else(
  some (Ex.go d))
def dn(N:Nat)(data:List Int)(a:Int)(b:Int):Option (Bool×List Int):=
 gd (in64 (a+1))<|
 bd (
 ul N a b N (a+1) 0 data) fun c=>
 Ex.on c (fun d=>
 some (false,d)) some
def vo(N:Nat)(a:Int)(c:Int)(d:List Int):Nat→Int→Option Int
 |0,_=>none
 |e+1,b=>
  gd ((true&&((decide (b≤c))==true))=true→okI d a)<|
  gd ((true&&((decide (b≤c))==true))=true→okI d b)<|
  bd (gop (true&&((decide (b≤c))==true)) (xm N (ix d a) (ix d b))) fun f=>
  bif (decide (b≤c))&&(!(f.getD default)) then(
  gd (in64 (b+1))<|
  vo N a c d e (b+1)) else(
  some b)
def vw(N:Nat)(a:Int)(c:List Int)(d:Int):Nat→Int→Option Int
 |0,_=>none
 |e+1,b=>
  gd ((true&&((decide (d≤b))==true))=true→okI c a)<|
  gd ((true&&((decide (d≤b))==true))=true→okI c b)<|
  bd (gop (true&&((decide (d≤b))==true)) (xm N (ix c a) (ix c b))) fun f=>
  bif (decide (d≤b))&&(f.getD default) then(
  gd (in64 (b-1))<|
  vw N a c d e (b-1)) else(
  some b)
def vv(N:Nat)(a:Int):Nat→Int→Int→(List Int)→Option (Int×List Int)
 |0,_,_,_=>none
 |f+1,g,e,c=>
  bd (
  vo N a e c N g) fun d=>
  bd (
  vw N a c d N e) fun b=>
  bif decide (b<d) then(
  some (d,c)) else(
  gd (okI c b)<|
  gd (okI c d)<|
  gd (okI c d)<|
  gd (okI c b)<|
  gd (in64 (d+1))<|
  gd (in64 (b-1))<|
  vv N a f (d+1) (b-1) (up (up c d (ix c b)) b (ix c d)))
def av(N:Nat)(data:List Int)(a:Int)(b:Int)(pivot:Int):Option (Int×List Int):=
 gd (okI data pivot)<|
 gd (okI data a)<|
 gd (okI data a)<|
 gd (okI data pivot)<|
 gd (in64 (a+1))<|
 gd (in64 (b-1))<|
 bd (
 vv N a N (a+1) (b-1) (up (up data a (ix data pivot)) pivot (ix data a))) fun c=>
 some (c.1,c.2)
def gm(N:Nat)(data:List Int)(a:Int)(b:Int)(pivot:Int):Nat→Int→Option Int
 |0,_=>none
 |d+1,c=>
  gd ((true&&((decide (c≤(b-1)))==true))=true→okI (up (up data a (ix data pivot)) pivot (ix data a)) c)<|
  gd ((true&&((decide (c≤(b-1)))==true))=true→okI (up (up data a (ix data pivot)) pivot (ix data a)) a)<|
  bd (gop (true&&((decide (c≤(b-1)))==true)) (xm N (ix (up (up data a (ix data pivot)) pivot (ix data a)) c) (ix (up (up data a (ix data pivot)) pivot (ix data a)) a))) fun e=>
  bif (decide (c≤(b-1)))&&(e.getD default) then(
  gd (in64 (c+1))<|
  gm N data a b pivot d (c+1)) else(
  some c)
def xy(N:Nat)(data:List Int)(a:Int)(pivot:Int)(c:Int):Nat→Int→Option Int
 |0,_=>none
 |d+1,b=>
  gd ((true&&((decide (c≤b))==true))=true→okI (up (up data a (ix data pivot)) pivot (ix data a)) b)<|
  gd ((true&&((decide (c≤b))==true))=true→okI (up (up data a (ix data pivot)) pivot (ix data a)) a)<|
  bd (gop (true&&((decide (c≤b))==true)) (xm N (ix (up (up data a (ix data pivot)) pivot (ix data a)) b) (ix (up (up data a (ix data pivot)) pivot (ix data a)) a))) fun e=>
  bif (decide (c≤b))&&(!(e.getD default)) then(
  gd (in64 (b-1))<|
  xy N data a pivot c d (b-1)) else(
  some b)
def gq(N:Nat)(a:Int)(c:Int)(d:List Int):Nat→Int→Option Int
 |0,_=>none
 |e+1,b=>
  gd ((true&&((decide (b≤c))==true))=true→okI d b)<|
  gd ((true&&((decide (b≤c))==true))=true→okI d a)<|
  bd (gop (true&&((decide (b≤c))==true)) (xm N (ix d b) (ix d a))) fun f=>
  bif (decide (b≤c))&&(f.getD default) then(
  gd (in64 (b+1))<|
  gq N a c d e (b+1)) else(
  some b)
def gp(N:Nat)(a:Int)(c:List Int)(d:Int):Nat→Int→Option Int
 |0,_=>none
 |e+1,b=>
  gd ((true&&((decide (d≤b))==true))=true→okI c b)<|
  gd ((true&&((decide (d≤b))==true))=true→okI c a)<|
  bd (gop (true&&((decide (d≤b))==true)) (xm N (ix c b) (ix c a))) fun f=>
  bif (decide (d≤b))&&(!(f.getD default)) then(
  gd (in64 (b-1))<|
  gp N a c d e (b-1)) else(
  some b)
def xz(N:Nat)(a:Int):Nat→Int→Int→(List Int)→Option (Int×List Int)
 |0,_,_,_=>none
 |f+1,g,e,b=>
  bd (
  gq N a e b N g) fun c=>
  bd (
  gp N a b c N e) fun d=>
  bif decide (d<c) then(
  some (d,b)) else(
  gd (okI b d)<|
  gd (okI b c)<|
  gd (okI b c)<|
  gd (okI b d)<|
  gd (in64 (c+1))<|
  gd (in64 (d-1))<|
  xz N a f (c+1) (d-1) (up (up b c (ix b d)) d (ix b c)))
def l8(N:Nat)(data:List Int)(a:Int)(b:Int)(pivot:Int):Option (Int×Bool×List Int):=
 gd (okI data pivot)<|
 gd (okI data a)<|
 gd (okI data a)<|
 gd (okI data pivot)<|
 gd (in64 (a+1))<|
 gd (in64 (b-1))<|
 bd (
 gm N data a b pivot N (a+1)) fun e=>
 bd (
 xy N data a pivot e N (b-1)) fun d=>
 bif decide (d<e) then(
 gd (okI (up (up data a (ix data pivot)) pivot (ix data a)) a)<|
 gd (okI (up (up data a (ix data pivot)) pivot (ix data a)) d)<|
 gd (okI (up (up data a (ix data pivot)) pivot (ix data a)) d)<|
 gd (okI (up (up data a (ix data pivot)) pivot (ix data a)) a)<|
 some (d,true,(up (up (up (up data a (ix data pivot)) pivot (ix data a)) d (ix (up (up data a (ix data pivot)) pivot (ix data a)) a)) a (ix (up (up data a (ix data pivot)) pivot (ix data a)) d)))) else(
 gd (okI (up (up data a (ix data pivot)) pivot (ix data a)) d)<|
 gd (okI (up (up data a (ix data pivot)) pivot (ix data a)) e)<|
 gd (okI (up (up data a (ix data pivot)) pivot (ix data a)) e)<|
 gd (okI (up (up data a (ix data pivot)) pivot (ix data a)) d)<|
 gd (in64 (e+1))<|
 gd (in64 (d-1))<|
 bd (
 xz N a N (e+1) (d-1) (up (up (up (up data a (ix data pivot)) pivot (ix data a)) e (ix (up (up data a (ix data pivot)) pivot (ix data a)) d)) d (ix (up (up data a (ix data pivot)) pivot (ix data a)) e))) fun c=>
 gd (okI c.2 a)<|
 gd (okI c.2 c.1)<|
 gd (okI c.2 c.1)<|
 gd (okI c.2 a)<|
 some (c.1,false,(up (up c.2 c.1 (ix c.2 a)) a (ix c.2 c.1))))
def wy(N:Nat)(self:List Int→Int→Int→Int→Option (List Int)):Nat→Int→Int→Int→Bool→Bool→(List Int)→Option (List Int)
 |0,_,_,_,_,_,_=>none
 |o+1,b,c,m,p,v,n=>
  gd (in64 (c-b))<|
  bif decide ((c-b)≤12) then(
  bd (ig N n b c) fun q=>
  some q) else(
  bif decide (m=0) then(
  bd (z02 N n b c) fun r=>
  some r) else(
  bd (
  bif !p then(
  bd (iq N n b c) fun s=>
  gd (in64 (m-1))<|
  some (m-1,s)) else(
  some (m,n))) fun d=>
  bd (rz N d.2 b c) fun f=>
  bd (
  bif decide (f.2=2) then(
  bd (sj N d.2 b c) fun t=>
  gd (in64 (c-1))<|
  gd (in64 (f.1-b))<|
  gd (in64 ((c-1)-(f.1-b)))<|
  some ((c-1)-(f.1-b),1,t)) else(
  some (f.1,f.2,d.2))) fun e=>
  bd (
  bif (p&&v)&&(decide (e.2.1=1)) then(
  bd (dn N e.2.2 b c) fun h=>
  bif h.1 then(
  some (Ex.rt h.2)) else(
  some (Ex.go h.2))) else(
  some (Ex.go e.2.2))) fun u=>
  Ex.on u (fun g=>
  gd ((true&&((decide (0<b))==true))=true→in64 (b-1))<|
  gd ((true&&((decide (0<b))==true))=true→okI g (b-1))<|
  gd ((true&&((decide (0<b))==true))=true→okI g e.1)<|
  bd (gop (true&&((decide (0<b))==true)) (xm N (ix g (b-1)) (ix g e.1))) fun j=>
  bif (decide (0<b))&&(!(j.getD default)) then(
  bd (av N g b c e.1) fun i=>
  wy N self o i.1 c d.1 p v i.2) else(
  bd (l8 N g b c e.1) fun a=>
  gd (in64 (a.1-b))<|
  gd (in64 (c-a.1))<|
  gd (okQ (c-b) 8)<|
  bif decide ((a.1-b)<(c-a.1)) then(
  bd (self a.2.2 b a.1 d.1) fun k=>
  gd (in64 (a.1+1))<|
  wy N self o (a.1+1) c d.1 (decide (((c-b)/8)≤(a.1-b))) a.2.1 k) else(
  gd (in64 (a.1+1))<|
  bd (self a.2.2 (a.1+1) c d.1) fun l=>
  wy N self o b a.1 d.1 (decide (((c-b)/8)≤(c-a.1))) a.2.1 l))) some))
def xe(N:Nat):Nat→List Int→Int→Int→Int→Option (List Int)
 |0,_,_,_,_=>none
 |F+1,data,a,b,limit=>
  wy N (xe N F) N a b limit true true data
def z3g(N:Nat)(x:List Int):Option (List Int):=
 bd (z3k N (IntKind.u64.wrap (↑x.length:Int))) fun a=>
 bd (xe N N x 0 (↑x.length:Int) a) fun b=>
 some b
def ay(N:Nat)(s:List Int)(a:Int):Nat→Int→Int→(List Int)→Option (Int×List Int)
 |0,_,_,_=>none
 |f+1,d,b,c=>
  bif decide (b<(↑(s.length-a.toNat:Nat):Int)) then(
  bd (
  gd (okA c a (s.length-a.toNat) b)<|
  gd (in64 (b-1))<|
  gd (okA c a (s.length-a.toNat) (b-1))<|
  bif decide ((ix c (a+b))≠(ix c (a+(b-1)))) then(
  gd (okA c a (s.length-a.toNat) b)<|
  gd (okI c d)<|
  gd (in64 (d+1))<|
  some (d+1,(up c d (ix c (a+b))))) else(
  some (d,c))) fun e=>
  gd (in64 (b+1))<|
  ay N s a f e.1 (b+1) e.2) else(
  some (d,c))
def ik(N:Nat)(s:List Int):Nat→Int→Option (Ex (Unit) ((List Int)))
 |0,_=>none
 |c+1,b=>
  bif decide (b<(↑s.length:Int)) then(
  gd (okI s b)<|
  gd (in64 (b-1))<|
  gd (okI s (b-1))<|
  bif decide ((ix s b)=(ix s (b-1))) then(
  gd (okS s b (↑s.length:Int))<|
  bd (
  ay N s b N b 1 s) fun a=>
  gd (okS a.2 a.1 (↑a.2.length:Int))<|
  gd (okS (z4z a.2 a.1.toNat (List.replicate (a.2.length-a.1.toNat) (0:Int))) 0 a.1)<|
  some (Ex.rt (cut (z4z a.2 a.1.toNat (List.replicate (a.2.length-a.1.toNat) (0:Int))) 0 a.1))) else(
  gd (in64 (b+1))<|
  ik N s c (b+1))) else(
  some (Ex.go ()))
def z1n(N:Nat)(s:List Int):Option (List Int):=
 bif decide ((↑s.length:Int)<2) then(
 some s) else(
 bd (
 ik N s N 1) fun a=>
 Ex.on a (fun b=>
 some s) some)
def om(N:Nat)(b:(List Int)):Nat→Int→Int→Option Int
 |0,_,_=>none
 |d+1,c,a=>
  bif decide (a<(↑b.length:Int)) then(
  gd (okI b a)<|
  gd (okSh .u64 (ix b a))<|
  gd (okB .u64 c (ah .u64 (1:Int) (ix b a)))<|
  gd (in64 (a+1))<|
  om N b d (ior c (ah .u64 (1:Int) (ix b a))) (a+1)) else(
  some c)
def oh(N:Nat)(x:Sa)(b:(List Int)):Nat→(List Int)→Int→Option (List Int)
 |0,_,_=>none
 |e+1,c,a=>
  bif decide (a<(↑b.length:Int)) then(
  gd (okI b a)<|
  bd (
  bd (vk N x (ix b a)) fun f=>
  om N f N 0 0) fun d=>
  gd (fits 8 c ([d]:List Int))<|
  gd (in64 (a+1))<|
  oh N x b e (c++([d]:List Int)) (a+1)) else(
  some c)
def z09(N:Nat)(x:Sa):Option (List Int):=
 bd (
 bd (fo N x (fun d=>ui N x d)) fun a=>
 oh N x a N ([]:List Int) 0) fun e=>
 bd (z3g N e) fun b=>
 bd (z1n N b) fun c=>
 some c
def ww(N:Nat)(s:(List Int))(f:Int→Option Bool):Nat→Int→Option (Ex (Unit) (Int))
 |0,_=>none
 |c+1,a=>
  bif decide (a<(↑s.length:Int)) then(
  gd (okI s a)<|
  bd (f (ix s a)) fun b=>
  bif b then(
  some (Ex.rt a)) else(
  gd (in64 (a+1))<|
  ww N s f c (a+1))) else(
  some (Ex.go ()))
def z0b(N:Nat)(s:(List Int))(f:Int→Option Bool):Option Int:=
 bd (
 ww N s f N 0) fun a=>
 Ex.on a (fun b=>
 some (-1)) some
def o8(N:Nat)(s:(List Int))(f:Int→Option Bool):Option Bool:=
 bd (z0b N s f) fun a=>
 some (decide (0≤a))
def dz(N:Nat)(set:Int)(p0_:Int):Option Bool:=
 gd (okB .u64 set p0_)<|
 some (decide ((z6l set p0_)=0))
def mi(N:Nat)(self:Int→Int→Int→(List Int)→Int→Option (Int×Bool))(some_:Int)(left:Int)(p0_:(List Int))(p1_:Int):Nat→Int→Option (Ex (Unit) (Int×Bool))
 |0,_=>none
 |c+1,a=>
  gd (in64 (p1_-left))<|
  bif decide (a≤(p1_-left)) then(
  gd (okSh .u64 a)<|
  gd (okB .u64 some_ (ah .u64 (1:Int) a))<|
  gd (in64 (a+1))<|
  gd (in64 (left-1))<|
  bd (self (ior some_ (ah .u64 (1:Int) a)) (a+1) (left-1) p0_ p1_) fun b=>
  bif b.2 then(
  some (Ex.rt (b.1,true))) else(
  gd (in64 (a+1))<|
  mi N self some_ left p0_ p1_ c (a+1))) else(
  some (Ex.go ()))
def xq(N:Nat):Nat→Int→Int→Int→(List Int)→Int→Option (Int×Bool)
 |0,_,_,_,_,_=>none
 |F+1,some_,from_,left,p0_,p1_=>
  bif decide (left=0) then(
  bd (o8 N p0_ (fun b=>dz N b some_)) fun c=>
  some (some_,(!c))) else(
  bd (
  mi N (xq N F) some_ left p0_ p1_ N from_) fun a=>
  Ex.on a (fun d=>
  some (0,false)) some)
def l6(N:Nat)(d:Int)(c:Int×Bool):Nat→(List Int)→Int→Option (List Int)
 |0,_,_=>none
 |e+1,b,a=>
  bif decide (a<d) then(
  bd (
  gd (okSh .u64 a)<|
  gd (okB .u64 (z2l c.1 a) 1)<|
  bif decide ((z6l (z2l c.1 a) 1)=1) then(
  gd (fits 8 b ([a]:List Int))<|
  some (b++([a]:List Int))) else(
  some b)) fun f=>
  gd (in64 (a+1))<|
  l6 N d c e f (a+1)) else(
  some b)
def dm(N:Nat)(a:Int)(c:(List Int)):Nat→Int→Option (Ex (Unit) ((List Int)×Int))
 |0,_=>none
 |f+1,b=>
  bif decide (b<(a+1)) then(
  bd (xq N N 0 0 b c a) fun d=>
  bif d.2 then(
  bd (
  l6 N a d N ([]:List Int) 0) fun g=>
  bd (z10 N g) fun e=>
  some (Ex.rt (e,0))) else(
  gd (in64 (b+1))<|
  dm N a c f (b+1))) else(
  some (Ex.go ()))
def xw(N:Nat)(x:Sa):Option ((List Int)×Int):=
 bd (ku N x) fun d=>
 bif decide (d≠0) then(
 some (([]:(List Int)),d)) else(
 bd (uy N x) fun a=>
 bif decide (16<a) then(
 some (([]:(List Int)),3)) else(
 bd (z09 N x) fun b=>
 bd (
 gd (in64 (a+1))<|
 dm N a b N 0) fun c=>
 Ex.on c (fun e=>
 some (([]:(List Int)),0)) some))
def oo(N:Nat)(a:(List Int))(b:(List Int)):Nat→Int→Option (Ex (Unit) (Int))
 |0,_=>none
 |d+1,c=>
  bif decide (c<(↑a.length:Int)) then(
  gd (okI a c)<|
  gd (okI b c)<|
  bif decide ((ix a c)<(ix b c)) then(
  some (Ex.rt (-1))) else(
  gd (okI a c)<|
  gd (okI b c)<|
  bif decide ((ix b c)<(ix a c)) then(
  some (Ex.rt 1)) else(
  gd (in64 (c+1))<|
  oo N a b d (c+1)))) else(
  some (Ex.go ()))
def z15(N:Nat)(a:(List Int))(b:(List Int)):Option Int:=
 bif decide ((↑a.length:Int)≠(↑b.length:Int)) then(
 bif decide ((↑a.length:Int)<(↑b.length:Int)) then(
 some (-1)) else(
 some 1)) else(
 bd (
 oo N a b N 0) fun c=>
 Ex.on c (fun d=>
 some 0) some)
def sw(N:Nat)(a:(List (List Int)))(b:(List (List Int))):Nat→Int→Option (Ex (Unit) (Bool))
 |0,_=>none
 |e+1,c=>
  bif decide (c<(↑a.length:Int)) then(
  gd (okI a c)<|
  gd (okI b c)<|
  bd (z15 N (ix a c) (ix b c)) fun d=>
  bif decide (d≠0) then(
  some (Ex.rt false)) else(
  gd (in64 (c+1))<|
  sw N a b e (c+1))) else(
  some (Ex.go ()))
def z0s(N:Nat)(a:(List (List Int)))(b:(List (List Int))):Option Bool:=
 bif decide ((↑a.length:Int)≠(↑b.length:Int)) then(
 some false) else(
 bd (
 sw N a b N 0) fun c=>
 Ex.on c (fun d=>
 some true) some)
def u6(N:Nat)(a:(List Int))(b:(List Int)):Option Bool:=
 bd (z0s N ([a]:List (List Int)) ([b]:List (List Int))) fun c=>
 some (c&&(decide ((↑a.length:Int)=(↑a.length:Int))))
def z1w(N:Nat)(a:Sa)(b:Sa):Option Bool:=
 bd (z0s N a.fB b.fB) fun c=>
 some c
def z06(N:Nat)(x:Sa):Nat→Int→(List Bool)→Option (List Bool)
 |0,_,_=>none
 |c+1,a,b=>
  bif decide (a<(↑(mk (↑x.fB.length:Int) false).length:Int)) then(
  bd (vk N x a) fun d=>
  gd (okI b a)<|
  gd (in64 (a+1))<|
  z06 N x c (a+1) (up b a (decide (0<(↑d.length:Int))))) else(
  some b)
def z3w(N:Nat)(x:Sa):Option ((List Bool)×Int):=
 bd (ku N x) fun b=>
 bif decide (b≠0) then(
 some (([]:(List Bool)),b)) else(
 gd (okM 1 (↑x.fB.length:Int))<|
 bd (
 z06 N x N 0 (mk (↑x.fB.length:Int) false)) fun a=>
 some (a,0))
def z3z(N:Nat)(x:Sa):Option ((List Int)×Int):=
 bd (ku N x) fun c=>
 bif decide (c≠0) then(
 some (([]:(List Int)),c)) else(
 bd (fo N x (fun d=>ui N x d)) fun a=>
 bd (z0u N x a) fun b=>
 some (b,0))
def ru(N:Nat)(s:List Int)(a:Int):Nat→Int→Int→(List Int)→Option (Int×List Int)
 |0,_,_,_=>none
 |f+1,d,b,c=>
  bif decide (b<(↑(s.length-a.toNat:Nat):Int)) then(
  bd (
  gd (okA c a (s.length-a.toNat) b)<|
  gd (in64 (b-1))<|
  gd (okA c a (s.length-a.toNat) (b-1))<|
  bif decide ((ix c (a+b))≠(ix c (a+(b-1)))) then(
  gd (okA c a (s.length-a.toNat) b)<|
  gd (okI c d)<|
  gd (in64 (d+1))<|
  some (d+1,(up c d (ix c (a+b))))) else(
  some (d,c))) fun e=>
  gd (in64 (b+1))<|
  ru N s a f e.1 (b+1) e.2) else(
  some (d,c))
def rq(N:Nat)(s:List Int):Nat→Int→Option (Ex (Unit) ((List Int)))
 |0,_=>none
 |c+1,b=>
  bif decide (b<(↑s.length:Int)) then(
  gd (okI s b)<|
  gd (in64 (b-1))<|
  gd (okI s (b-1))<|
  bif decide ((ix s b)=(ix s (b-1))) then(
  gd (okS s b (↑s.length:Int))<|
  bd (
  ru N s b N b 1 s) fun a=>
  gd (okS a.2 a.1 (↑a.2.length:Int))<|
  gd (okS (z4z a.2 a.1.toNat (List.replicate (a.2.length-a.1.toNat) (0:Int))) 0 a.1)<|
  some (Ex.rt (cut (z4z a.2 a.1.toNat (List.replicate (a.2.length-a.1.toNat) (0:Int))) 0 a.1))) else(
  gd (in64 (b+1))<|
  rq N s c (b+1))) else(
  some (Ex.go ()))
def slices_Compact_int(N:Nat)(s:List Int):Option (List Int):=
 bif decide ((↑s.length:Int)<2) then(
 some s) else(
 bd (
 rq N s N 1) fun a=>
 Ex.on a (fun b=>
 some s) some)
def r9(N:Nat)(x:Sa):Nat→(List Int)→Int→Option (List Int)
 |0,_,_=>none
 |d+1,a,b=>
  bif decide (b<(↑x.fB.length:Int)) then(
  bd (
  bd (vk N x b) fun c=>
  bif decide ((↑c.length:Int)=1) then(
  gd (okI c 0)<|
  gd (fits 8 a ([(ix c 0)]:List Int))<|
  some (a++([(ix c 0)]:List Int))) else(
  some a)) fun e=>
  gd (in64 (b+1))<|
  r9 N x d e (b+1)) else(
  some a)
def z0t(N:Nat)(x:Sa):Option ((List Int)×Int):=
 bd (ku N x) fun e=>
 bif decide (e≠0) then(
 some (([]:(List Int)),e)) else(
 bd (
 r9 N x N ([]:List Int) 0) fun a=>
 bd (slices_Sort_int N a) fun b=>
 bd (slices_Compact_int N b) fun c=>
 bd (z10 N c) fun d=>
 some (d,0))
def z2s(N:Nat)(c:Int)(p0_:Sa)(p1_:Int):Option Bool:=
 bd (p8 N p0_ p1_ c) fun a=>
 some a
def z08(N:Nat)(choice:(List Int))(b:Int):Nat→Int→Option (Ex (Unit) (Bool×Int))
 |0,_=>none
 |c+1,a=>
  bif decide (a<(↑choice.length:Int)) then(
  gd (okI choice a)<|
  gd (((true&&(((decide ((ix choice a)<0))||(decide (b≤(ix choice a))))==false))&&((decide (0<a))==true))=true→in64 (a-1))<|
  gd (((true&&(((decide ((ix choice a)<0))||(decide (b≤(ix choice a))))==false))&&((decide (0<a))==true))=true→okI choice (a-1))<|
  bif ((decide ((ix choice a)<0))||(decide (b≤(ix choice a))))||((decide (0<a))&&(decide ((ix choice a)≤(ix choice (a-1))))) then(
  some (Ex.rt (false,1))) else(
  gd (in64 (a+1))<|
  z08 N choice b c (a+1))) else(
  some (Ex.go ()))
def z05(N:Nat)(x:Sa)(choice:(List Int))(b:(List Int)):Nat→Int→Option (Ex (Unit) (Bool×Int))
 |0,_=>none
 |d+1,a=>
  bif decide (a<(↑b.length:Int)) then(
  gd (okI b a)<|
  bd (fu N choice (fun e=>z2s N e x (ix b a))) fun c=>
  bif !c then(
  some (Ex.rt (false,0))) else(
  gd (in64 (a+1))<|
  z05 N x choice b d (a+1))) else(
  some (Ex.go ()))
def z1t(N:Nat)(x:Sa)(choice:(List Int)):Option (Bool×Int):=
 bd (ku N x) fun e=>
 bif decide (e≠0) then(
 some (false,e)) else(
 bd (uy N x) fun a=>
 bd (
 z08 N choice a N 0) fun b=>
 Ex.on b (fun f=>
 bd (
 bd (fo N x (fun g=>ui N x g)) fun c=>
 z05 N x choice c N 0) fun d=>
 Ex.on d (fun h=>
 some (true,0)) some) some)
def ll(N:Nat):Option Bool:=
 bd (bv N (⟨1,2,([([(⟨1,0⟩:Edge)]:List Edge),([(⟨0,1⟩:Edge)]:List Edge)]:List (List Edge))⟩:Mach) ([(⟨1,2,([([(⟨1,1⟩:Edge)]:List Edge),([(⟨0,1⟩:Edge)]:List Edge)]:List (List Edge))⟩:Mach),(⟨1,2,([([(⟨1,0⟩:Edge)]:List Edge),([(⟨0,0⟩:Edge)]:List Edge)]:List (List Edge))⟩:Mach),(⟨1,2,([([(⟨1,0⟩:Edge)]:List Edge),([(⟨1,1⟩:Edge)]:List Edge)]:List (List Edge))⟩:Mach)]:List Mach) ([([0]:List Int),([0,0]:List Int),([0,0,0]:List Int)]:List (List Int))) fun b=>
 bd (gop (true&&((decide (b.2≠0))==false)) (z1w N (⟨b.1.fB⟩:Sa) (⟨([([0,0,0]:List Int),([(-1),1,1]:List Int),([(-1),(-1),2]:List Int)]:List (List Int))⟩:Sa))) fun s=>
 bif (decide (b.2≠0))||(!(s.getD default)) then(
 some false) else(
 bd (z3w N (⟨b.1.fB⟩:Sa)) fun a=>
 bd (z3z N (⟨b.1.fB⟩:Sa)) fun d=>
 bd (z0t N (⟨b.1.fB⟩:Sa)) fun e=>
 bd (xw N (⟨b.1.fB⟩:Sa)) fun f=>
 bd (uu N (⟨b.1.fB⟩:Sa)) fun g=>
 gd ((true&&(((((((decide (a.2≠0))||(decide (d.2≠0)))||(decide (e.2≠0)))||(decide (f.2≠0)))||(decide (g.2≠0)))||(decide ((↑a.1.length:Int)≠3)))==false))=true→okI a.1 0)<|
 gd ((true&&((((((((decide (a.2≠0))||(decide (d.2≠0)))||(decide (e.2≠0)))||(decide (f.2≠0)))||(decide (g.2≠0)))||(decide ((↑a.1.length:Int)≠3)))||(!(ix a.1 0)))==false))=true→okI a.1 1)<|
 gd ((true&&(((((((((decide (a.2≠0))||(decide (d.2≠0)))||(decide (e.2≠0)))||(decide (f.2≠0)))||(decide (g.2≠0)))||(decide ((↑a.1.length:Int)≠3)))||(!(ix a.1 0)))||(!(ix a.1 1)))==false))=true→okI a.1 2)<|
 bd (gop (true&&((((((((((decide (a.2≠0))||(decide (d.2≠0)))||(decide (e.2≠0)))||(decide (f.2≠0)))||(decide (g.2≠0)))||(decide ((↑a.1.length:Int)≠3)))||(!(ix a.1 0)))||(!(ix a.1 1)))||(!(ix a.1 2)))==false)) (u6 N d.1 ([1,2,3]:List Int))) fun m=>
 bd (gop (true&&(((((((((((decide (a.2≠0))||(decide (d.2≠0)))||(decide (e.2≠0)))||(decide (f.2≠0)))||(decide (g.2≠0)))||(decide ((↑a.1.length:Int)≠3)))||(!(ix a.1 0)))||(!(ix a.1 1)))||(!(ix a.1 2)))||(!(m.getD default)))==false)) (u6 N e.1 ([2]:List Int))) fun o=>
 bd (gop (true&&((((((((((((decide (a.2≠0))||(decide (d.2≠0)))||(decide (e.2≠0)))||(decide (f.2≠0)))||(decide (g.2≠0)))||(decide ((↑a.1.length:Int)≠3)))||(!(ix a.1 0)))||(!(ix a.1 1)))||(!(ix a.1 2)))||(!(m.getD default)))||(!(o.getD default)))==false)) (u6 N f.1 ([2]:List Int))) fun q=>
 bd (gop (true&&(((((((((((((decide (a.2≠0))||(decide (d.2≠0)))||(decide (e.2≠0)))||(decide (f.2≠0)))||(decide (g.2≠0)))||(decide ((↑a.1.length:Int)≠3)))||(!(ix a.1 0)))||(!(ix a.1 1)))||(!(ix a.1 2)))||(!(m.getD default)))||(!(o.getD default)))||(!(q.getD default)))==false)) (u6 N g.1 ([2]:List Int))) fun t=>
 bif ((((((((((((decide (a.2≠0))||(decide (d.2≠0)))||(decide (e.2≠0)))||(decide (f.2≠0)))||(decide (g.2≠0)))||(decide ((↑a.1.length:Int)≠3)))||(!(ix a.1 0)))||(!(ix a.1 1)))||(!(ix a.1 2)))||(!(m.getD default)))||(!(o.getD default)))||(!(q.getD default)))||(!(t.getD default)) then(
 some false) else(
 bd (z1t N (⟨b.1.fB⟩:Sa) ([0,1]:List Int)) fun c=>
 bd (z1t N (⟨b.1.fB⟩:Sa) ([1,0]:List Int)) fun l=>
 bd (xw N (⟨([([0,0,(-1),(-1)]:List Int),([0,(-1),0,(-1)]:List Int),([0,(-1),(-1),(-1)]:List Int),([(-1),0,(-1),0]:List Int),([(-1),(-1),0,0]:List Int)]:List (List Int))⟩:Sa)) fun h=>
 bd (uu N (⟨([([0,0,(-1),(-1)]:List Int),([0,(-1),0,(-1)]:List Int),([0,(-1),(-1),(-1)]:List Int),([(-1),0,(-1),0]:List Int),([(-1),(-1),0,0]:List Int)]:List (List Int))⟩:Sa)) fun i=>
 bd (uu N (⟨([([(-1),0,0]:List Int),([0,0,(-1)]:List Int),([0,(-1),(-1)]:List Int),([(-1),(-1),0]:List Int)]:List (List Int))⟩:Sa)) fun j=>
 bd (z0t N (⟨([([(-1),0,0]:List Int),([0,0,(-1)]:List Int),([0,(-1),(-1)]:List Int),([(-1),(-1),0]:List Int)]:List (List Int))⟩:Sa)) fun k=>
 bd (gop (true&&((((((((decide (c.2=0))&&(decide (l.2=1)))&&(decide (h.2=0)))&&(decide (i.2=0)))&&(decide (j.2=0)))&&(decide (k.2=0)))&&(!c.1))==true)) (u6 N h.1 ([0,3]:List Int))) fun n=>
 bd (gop (true&&(((((((((decide (c.2=0))&&(decide (l.2=1)))&&(decide (h.2=0)))&&(decide (i.2=0)))&&(decide (j.2=0)))&&(decide (k.2=0)))&&(!c.1))&&(n.getD default))==true)) (u6 N i.1 ([0,3]:List Int))) fun p=>
 bd (gop (true&&((((((((((decide (c.2=0))&&(decide (l.2=1)))&&(decide (h.2=0)))&&(decide (i.2=0)))&&(decide (j.2=0)))&&(decide (k.2=0)))&&(!c.1))&&(n.getD default))&&(p.getD default))==true)) (u6 N j.1 ([0,2]:List Int))) fun r=>
 bd (gop (true&&(((((((((((decide (c.2=0))&&(decide (l.2=1)))&&(decide (h.2=0)))&&(decide (i.2=0)))&&(decide (j.2=0)))&&(decide (k.2=0)))&&(!c.1))&&(n.getD default))&&(p.getD default))&&(r.getD default))==true)) (u6 N k.1 ([0,2]:List Int))) fun u=>
 some (((((((((((decide (c.2=0))&&(decide (l.2=1)))&&(decide (h.2=0)))&&(decide (i.2=0)))&&(decide (j.2=0)))&&(decide (k.2=0)))&&(!c.1))&&(n.getD default))&&(p.getD default))&&(r.getD default))&&(u.getD default))))
def kg(N:Nat):Nat→Int→(List (List Edge))→(List Mach)→Option ((List (List Edge))×List Mach)
 |0,_,_,_=>none
 |d+1,a,c,b=>
  bif decide (a<(↑b.length:Int)) then(
  gd (okI b a)<|
  gd (in64 (a+1))<|
  kg N d (a+1) c (up b a (⟨16,1,c⟩:Mach))) else(
  some (c,b))
def gu(N:Nat):Nat→Int→(List Int)→Option (List Int)
 |0,_,_=>none
 |c+1,a,b=>
  bif decide (a<17) then(
  gd (okI b a)<|
  gd (in64 (a+1))<|
  gu N c (a+1) (up b a (-1))) else(
  some b)
def w9(N:Nat):Nat→Int→(List (List Int))→Option (List (List Int))
 |0,_,_=>none
 |d+1,a,b=>
  bif decide (a<17) then(
  gd (okM 8 17)<|
  bd (
  gu N N 0 (mk 17 (0:Int))) fun c=>
  gd (okI c a)<|
  gd (fits 24 b ([(up c a 255)]:List (List Int)))<|
  gd (in64 (a+1))<|
  w9 N d (a+1) (b++([(up c a 255)]:List (List Int)))) else(
  some b)
def wm(N:Nat)(b:List (List Int)):Nat→Int→(List (List Int))→Option (List (List Int))
 |0,_,_=>none
 |d+1,a,c=>
  bif decide (a<17) then(
  gd (okI b a)<|
  gd (okS (ix b a) 0 16)<|
  gd (fits 24 c ([(cut (ix b a) 0 16)]:List (List Int)))<|
  gd (in64 (a+1))<|
  wm N b d (a+1) (c++([(cut (ix b a) 0 16)]:List (List Int)))) else(
  some c)
def pq(N:Nat):Option Bool:=
 gd (okM 16 16)<|
 bd (lh N 16 2) fun q=>
 gd (okM 40 1025)<|
 bd (
 kg N N 0 ([(mk 16 (⟨(0:Int),(0:Int)⟩:Edge))]:List (List Edge)) (mk 1025 (⟨(0:Int),(0:Int),([]:List (List Edge))⟩:Mach))) fun k=>
 bd (bv N (⟨16,1,k.1⟩:Mach) k.2 q) fun v=>
 gd (okS k.2 0 1024)<|
 bd (bv N (⟨16,1,k.1⟩:Mach) (cut k.2 0 1024) q) fun f=>
 gd (okM 40 4097)<|
 bd (bv N (⟨16,1,k.1⟩:Mach) (mk 4097 (⟨(0:Int),(0:Int),([]:List (List Edge))⟩:Mach)) ([]:(List (List Int)))) fun r=>
 bd (uu N (⟨f.1.fB⟩:Sa)) fun n=>
 bif decide (v.2≠3) then(
 some false) else(
 bif decide (f.2≠0) then(
 some false) else(
 bif decide (r.2≠3) then(
 some false) else(
 bif decide (n.2≠0) then(
 some false) else(
 bif decide ((↑n.1.length:Int)≠0) then(
 some false) else(
 bif decide ((↑f.1.fB.length:Int)≠1024) then(
 some false) else(
 bd (ku N (⟨f.1.fB⟩:Sa)) fun s=>
 bif decide (s≠0) then(
 some false) else(
 gd (fits 24 ([]:List (List Int)) f.1.fB)<|
 gd (okI f.1.fB 0)<|
 gd (fits 24 (([]:List (List Int))++f.1.fB) ([(ix f.1.fB 0)]:List (List Int)))<|
 bd (ku N (⟨((([]:List (List Int))++f.1.fB)++([(ix f.1.fB 0)]:List (List Int)))⟩:Sa)) fun t=>
 bif decide (t≠3) then(
 some false) else(
 gd (okM 24 4096)<|
 bd (ku N (⟨(mk 4096 ([]:List Int))⟩:Sa)) fun c=>
 gd ((true&&((decide (c≠0))==false))=true→okM 24 4097)<|
 bd (gop (true&&((decide (c≠0))==false)) (ku N (⟨(mk 4097 ([]:List Int))⟩:Sa))) fun h=>
 gd ((true&&(((decide (c≠0))||(decide ((h.getD default)≠3)))==false))=true→okM 8 4096)<|
 bd (gop (true&&(((decide (c≠0))||(decide ((h.getD default)≠3)))==false)) (ku N (⟨([(mk 4096 (0:Int))]:List (List Int))⟩:Sa))) fun l=>
 gd ((true&&((((decide (c≠0))||(decide ((h.getD default)≠3)))||(decide ((l.getD default)≠0)))==false))=true→okM 8 4097)<|
 bd (gop (true&&((((decide (c≠0))||(decide ((h.getD default)≠3)))||(decide ((l.getD default)≠0)))==false)) (ku N (⟨([(mk 4097 (0:Int)),[]]:List (List Int))⟩:Sa))) fun u=>
 bif (((decide (c≠0))||(decide ((h.getD default)≠3)))||(decide ((l.getD default)≠0)))||(decide ((u.getD default)≠3)) then(
 some false) else(
 bd (xw N (⟨([([0,1,(-1)]:List Int),([0,1,(-1)]:List Int),([0,(-1),2]:List Int),([0,(-1),2]:List Int),([(-1),1,(-1)]:List Int),([(-1),(-1),2]:List Int)]:List (List Int))⟩:Sa)) fun d=>
 bd (uu N (⟨([([0,1,(-1)]:List Int),([0,1,(-1)]:List Int),([0,(-1),2]:List Int),([0,(-1),2]:List Int),([(-1),1,(-1)]:List Int),([(-1),(-1),2]:List Int)]:List (List Int))⟩:Sa)) fun e=>
 bd (
 w9 N N 0 ([]:List (List Int))) fun i=>
 bd (xw N (⟨i⟩:Sa)) fun g=>
 bd (uu N (⟨i⟩:Sa)) fun a=>
 bd (
 wm N i N 0 ([]:List (List Int))) fun o=>
 bd (xw N (⟨o⟩:Sa)) fun b=>
 bd (gop (true&&((((((decide (d.2=0))&&(decide (e.2=0)))&&(decide (g.2=3)))&&(decide (a.2=0)))&&(decide (b.2=0)))==true)) (u6 N d.1 ([1,2]:List Int))) fun j=>
 bd (gop (true&&(((((((decide (d.2=0))&&(decide (e.2=0)))&&(decide (g.2=3)))&&(decide (a.2=0)))&&(decide (b.2=0)))&&(j.getD default))==true)) (u6 N e.1 ([0,1,2]:List Int))) fun m=>
 bd (gop (true&&((((((((((decide (d.2=0))&&(decide (e.2=0)))&&(decide (g.2=3)))&&(decide (a.2=0)))&&(decide (b.2=0)))&&(j.getD default))&&(m.getD default))&&(decide ((↑a.1.length:Int)=17)))&&(decide ((↑b.1.length:Int)=16)))==true)) (ll N)) fun p=>
 some ((((((((((decide (d.2=0))&&(decide (e.2=0)))&&(decide (g.2=3)))&&(decide (a.2=0)))&&(decide (b.2=0)))&&(j.getD default))&&(m.getD default))&&(decide ((↑a.1.length:Int)=17)))&&(decide ((↑b.1.length:Int)=16)))&&(p.getD default)))))))))))
end GV
end Go.Proofs.Ytkhihcleegljhaa
