import Derived.Test.YtkkcidhcfkmbjaaGreatDoorShTypes
set_option linter.unusedVariables false
set_option linter.unusedSimpArgs false
set_option linter.unusedSectionVars false
namespace Go.Proofs.YtkkcidhcfkmbjaaGreatDoor
namespace GV
set_option maxRecDepth 100000
def ku(N:Nat)(x:MDat)(c:Int):Nat→(List Edge)→Int→Option (List Edge)
 |0,_,_=>none
 |e+1,d,b=>
  bif decide (b<((1:Int)+(x.ins%3))) then(
  bd (
  bd (
  gd (in64 (c*((1:Int)+(x.ins%3))))<|
  gd (in64 ((c*((1:Int)+(x.ins%3)))+b))<|
  bif decide (((c*((1:Int)+(x.ins%3)))+b)<(↑x.edges.length:Int)) then(
  gd (okI x.edges ((c*((1:Int)+(x.ins%3)))+b))<|
  gd (in64 (ix x.edges ((c*((1:Int)+(x.ins%3)))+b)))<|
  some (ix x.edges ((c*((1:Int)+(x.ins%3)))+b))) else(
  some 0)) fun a=>
  gd ((true&&(x.part==true))=true→okR a 4)<|
  bif x.part&&(decide ((a%4)=3)) then(
  gd (fits 16 d ([(⟨(-1),(-1)⟩:Edge)]:List Edge))<|
  some (d++([(⟨(-1),(-1)⟩:Edge)]:List Edge))) else(
  gd (okQ a 4)<|
  gd (okR (a/4) ((1:Int)+(x.states%6)))<|
  gd (okQ a 4)<|
  gd (okQ (a/4) ((1:Int)+(x.states%6)))<|
  gd (okR ((a/4)/((1:Int)+(x.states%6))) ((1:Int)+(x.outs%3)))<|
  gd (fits 16 d ([(⟨(a/4)%((1:Int)+(x.states%6)),((a/4)/((1:Int)+(x.states%6)))%((1:Int)+(x.outs%3))⟩:Edge)]:List Edge))<|
  some (d++([(⟨(a/4)%((1:Int)+(x.states%6)),((a/4)/((1:Int)+(x.states%6)))%((1:Int)+(x.outs%3))⟩:Edge)]:List Edge)))) fun f=>
  gd (in64 (b+1))<|
  ku N x c e f (b+1)) else(
  some d)
def uk(N:Nat)(x:MDat):Nat→Int→(List (List Edge))→Option (List (List Edge))
 |0,_,_=>none
 |d+1,a,b=>
  bif decide (a<((1:Int)+(x.states%6))) then(
  bd (
  ku N x a N ([]:List Edge) 0) fun c=>
  gd (fits 24 b ([c]:List (List Edge)))<|
  gd (in64 (a+1))<|
  uk N x d (a+1) (b++([c]:List (List Edge)))) else(
  some b)
def p8(N:Nat)(x:MDat):Option Mach:=
 gd (okR x.states 6)<|
 gd (in64 (x.states%6))<|
 gd (in64 ((1:Int)+(x.states%6)))<|
 gd (okR x.ins 3)<|
 gd (in64 (x.ins%3))<|
 gd (in64 ((1:Int)+(x.ins%3)))<|
 gd (okR x.outs 3)<|
 gd (in64 (x.outs%3))<|
 gd (in64 ((1:Int)+(x.outs%3)))<|
 bd (
 uk N x N 0 ([]:List (List Edge))) fun a=>
 some (⟨(1:Int)+(x.ins%3),(1:Int)+(x.outs%3),a⟩:Mach)
def qm(N:Nat)(s:(List Edge))(f:Edge→Option Bool):Nat→Int→Option (Ex (Unit) (Int))
 |0,_=>none
 |c+1,a=>
  bif decide (a<(↑s.length:Int)) then(
  gd (okI s a)<|
  bd (f (ix s a)) fun b=>
  bif b then(
  some (Ex.rt a)) else(
  gd (in64 (a+1))<|
  qm N s f c (a+1))) else(
  some (Ex.go ()))
def y5(N:Nat)(s:(List Edge))(f:Edge→Option Bool):Option Int:=
 bd (
 qm N s f N 0) fun a=>
 Ex.on a (fun b=>
 some (-1)) some
def uz(N:Nat)(s:(List Edge))(f:Edge→Option Bool):Option Bool:=
 bd (y5 N s f) fun a=>
 some (decide (0≤a))
def fe(N:Nat):Option Edge:=
 some (⟨(-1),(-1)⟩:Edge)
def z1r(N:Nat)(m:Mach)(x:Edge):Option Bool:=
 bd (fe N) fun a=>
 some ((decide (x.to=a.to∧x.out=a.out))||((((decide (0≤x.to))&&(decide (x.to<(↑m.rows.length:Int))))&&(decide (0≤x.out)))&&(decide (x.out<m.outputs))))
def z0b(N:Nat)(x:Edge)(p0_:Mach):Option Bool:=
 bd (z1r N p0_ x) fun a=>
 some (!a)
def wm(N:Nat)(m:Mach):Nat→Int→Option (Ex (Unit) (Int))
 |0,_=>none
 |b+1,a=>
  bif decide (a<(↑m.rows.length:Int)) then(
  gd (okI m.rows a)<|
  bd (gop (true&&((decide ((↑(ix m.rows a).length:Int)≠m.inputs))==false)) (uz N (ix m.rows a) (fun d=>z0b N d m))) fun c=>
  bif (decide ((↑(ix m.rows a).length:Int)≠m.inputs))||(c.getD default) then(
  some (Ex.rt 1)) else(
  gd (in64 (a+1))<|
  wm N m b (a+1))) else(
  some (Ex.go ()))
def xc(N:Nat)(m:Mach):Option Int:=
 bif ((decide (16<m.inputs))||(decide (16<m.outputs)))||(decide (64<(↑m.rows.length:Int))) then(
 some 3) else(
 bif ((decide (m.inputs<1))||(decide (m.outputs<1)))||(decide ((↑m.rows.length:Int)<1)) then(
 some 1) else(
 bd (
 wm N m N 0) fun a=>
 Ex.on a (fun b=>
 some 0) some))
def mq(N:Nat)(m:Mach):Option Mach:=
 some m
def yz(N:Nat)(σ:Type)(B:(Int×Int)→σ→Option (Bool×σ))(p0_:Mach)(e:Int):Nat→σ→Int→Option (Ex (σ) (σ))
 |0,_,_=>none
 |d+1,c,a=>
  bif decide (a<(↑p0_.rows.length:Int)) then(
  bd (B (e,a) c) fun b=>
  bif !b.1 then(
  some (Ex.rt b.2)) else(
  gd (in64 (a+1))<|
  yz N σ B p0_ e d b.2 (a+1))) else(
  some (Ex.go c))
def yx(N:Nat)(σ:Type)(B:(Int×Int)→σ→Option (Bool×σ))(p0_:Mach):Nat→σ→Int→Option σ
 |0,_,_=>none
 |e+1,d,a=>
  bif decide (a<(↑p0_.rows.length:Int)) then(
  bd (
  gd (in64 (a+1))<|
  yz N σ B p0_ a N d (a+1)) fun b=>
  Ex.on b (fun c=>
  gd (in64 (a+1))<|
  yx N σ B p0_ e c (a+1)) some) else(
  some d)
def mf(N:Nat)(p0_:Mach)(σ:Type)(B:(Int×Int)→σ→Option (Bool×σ))(a:σ):Option σ:=
 yx N σ B p0_ N a 0
def pz(N:Nat)(n:Int):Option (List Int):=
 bif decide (n<0) then(
 none) else(
 bd (
 gd (in64 ((0:Int)-0))<|
 gd (in64 (n-((0:Int)-0)))<|
 bif decide (0<(n-((0:Int)-0))) then(
 gd (okZ 8 (n-((0:Int)-0)))<|
 gd (okS (mk (n-((0:Int)-0)) (0:Int)) 0 0)<|
 some (cut (mk (n-((0:Int)-0)) (0:Int)) 0 0)) else(
 some ([]:List Int))) fun a=>
 some a)
def wy(N:Nat)(slices:(List (List Int))):Nat→Int→Int→Option Int
 |0,_,_=>none
 |c+1,b,a=>
  bif decide (a<(↑slices.length:Int)) then(
  gd (okI slices a)<|
  gd (in64 (b+(↑(ix slices a).length:Int)))<|
  bif decide ((b+(↑(ix slices a).length:Int))<0) then(
  none) else(
  gd (in64 (a+1))<|
  wy N slices c (b+(↑(ix slices a).length:Int)) (a+1))) else(
  some b)
def wz(N:Nat)(slices:(List (List Int))):Nat→Int→(List Int)→Option (List Int)
 |0,_,_=>none
 |c+1,a,b=>
  bif decide (a<(↑slices.length:Int)) then(
  gd (okI slices a)<|
  gd (fits 8 b (ix slices a))<|
  gd (in64 (a+1))<|
  wz N slices c (a+1) (b++(ix slices a))) else(
  some b)
def gq(N:Nat)(slices:(List (List Int))):Option (List Int):=
 bd (
 wy N slices N 0 0) fun c=>
 bd (pz N c) fun a=>
 bd (
 wz N slices N 0 a) fun b=>
 some b
def gy(N:Nat)(s:(List Int)):Option (List Int):=
 gd (okS s 0 (↑s.length:Int))<|
 some (cut s 0 (↑s.length:Int))
def u7(N:Nat)(m:Mach)(s:Int)(t:Int)(n:Int)(fC:(List (List Int))):Nat→Int→Option (List Int)
 |0,_=>none
 |c+1,a=>
  bif decide (a<(↑(ix m.rows s).length:Int)) then(
  gd (okI (ix m.rows s) a)<|
  gd (okI m.rows t)<|
  gd (okI (ix m.rows t) a)<|
  bif decide (((ix (ix m.rows s) a).out)≠((ix (ix m.rows t) a).out)) then(
  some ([a]:List Int)) else(
  gd ((true&&(((decide (1<n))&&(decide (((ix (ix m.rows s) a).to)≠(-1))))==true))=true→(0:Int)≤(ix (ix m.rows s) a).to∧(ix (ix m.rows s) a).to<(64:Nat))<|
  gd ((true&&(((decide (1<n))&&(decide (((ix (ix m.rows s) a).to)≠(-1))))==true))=true→(0:Int)≤(ix (ix m.rows t) a).to∧(ix (ix m.rows t) a).to<(64:Nat))<|
  gd ((true&&(((decide (1<n))&&(decide (((ix (ix m.rows s) a).to)≠(-1))))==true))=true→in64 (n-1))<|
  bif ((decide (1<n))&&(decide (((ix (ix m.rows s) a).to)≠(-1))))&&(decide ((↑(ix fC (i2 ((ix (ix m.rows s) a).to) ((ix (ix m.rows t) a).to))).length:Int)=(n-1))) then(
  gd ((0:Int)≤(ix (ix m.rows s) a).to∧(ix (ix m.rows s) a).to<(64:Nat))<|
  gd ((0:Int)≤(ix (ix m.rows t) a).to∧(ix (ix m.rows t) a).to<(64:Nat))<|
  bd (gq N ([([a]:List Int),(ix fC (i2 ((ix (ix m.rows s) a).to) ((ix (ix m.rows t) a).to)))]:List (List Int))) fun b=>
  some b) else(
  gd (in64 (a+1))<|
  u7 N m s t n fC c (a+1)))) else(
  some ([]:(List Int)))
def gu(N:Nat)(m:Mach)(s:Int)(t:Int)(n:Int)(fC:(List (List Int))):Option (List Int):=
 bd (
 gd (okI m.rows s)<|
 u7 N m s t n fC N 0) fun b=>
 bif decide ((↑b.length:Int)≠n) then(
 some ([]:(List Int))) else(
 bd (gy N b) fun a=>
 gd (0<a.length)<|
 some a)
def ma(N:Nat)(s:Int)(t:Int)(w_:(List Int))(fC:(List (List Int))):Option (List (List Int)):=
 gd ((0:Int)≤s∧s<(64:Nat))<|
 gd ((0:Int)≤t∧t<(64:Nat))<|
 gd (0<w_.length)<|
 gd ((0:Int)≤t∧t<(64:Nat))<|
 gd ((0:Int)≤s∧s<(64:Nat))<|
 gd (0<w_.length)<|
 some (up (up fC (i2 s t) w_) (i2 t s) w_)
def w9(N:Nat)(b:List Sa):Nat→Int→(List (List Int))→Option (List (List Int))
 |0,_,_=>none
 |d+1,a,c=>
  bif decide (a<(↑b.length:Int)) then(
  gd (okI b a)<|
  bd (ma N ((ix b a).fH) ((ix b a).fI) ((ix b a).fA) c) fun e=>
  gd (in64 (a+1))<|
  w9 N b d (a+1) e) else(
  some c)
def yc(N:Nat)(m:Mach):Nat→Int→(List (List Int))→Option (List (List Int))
 |0,_,_=>none
 |f+1,b,c=>
  bif decide (b<(max (↑m.rows.length:Int) 2)) then(
  bd (
  bd (mq N m) fun g=>
  bd (mf N g (List Sa) (fun a d=>
  gd ((0:Int)≤a.1∧a.1<(64:Nat))<|
  gd ((0:Int)≤a.2∧a.2<(64:Nat))<|
  bif !(ix c (i2 a.1 a.2)).isEmpty then(
  some (true,d)) else(
  bd (gu N m a.1 a.2 b c) fun e=>
  bif !e.isEmpty then(
  gd (fits 48 d ([(⟨a.1,a.2,e,false⟩:Sa)]:List Sa))<|
  some (true,(d++([(⟨a.1,a.2,e,false⟩:Sa)]:List Sa)))) else(
  some (true,d)))) ([]:List Sa)) fun h=>
  w9 N h N 0 c) fun i=>
  gd (in64 (b+1))<|
  yc N m f (b+1) i) else(
  some c)
def il(N:Nat)(m:Mach):Option (List (List Int)):=
 bd (
 yc N m N 1 ((List.replicate 4096 []):List (List Int))) fun a=>
 some a
def slices_Clone_int(N:Nat)(s:(List Int)):Option (List Int):=
 gd (fits 8 ([]:List Int) s)<|
 some (([]:List Int)++s)
def yo(N:Nat)(s:(List Sa)):Option (List Sa):=
 gd (okS s 0 (↑s.length:Int))<|
 some (cut s 0 (↑s.length:Int))
def tq(N:Nat)(m:Mach):Option ((List Sa)×Int):=
 bd (xc N m) fun i=>
 bif decide (i≠0) then(
 some (([]:(List Sa)),i)) else(
 bd (il N m) fun d=>
 bd (mq N m) fun e=>
 bd (mf N e (List Sa) (fun a c=>
 gd ((0:Int)≤a.1∧a.1<(64:Nat))<|
 gd ((0:Int)≤a.2∧a.2<(64:Nat))<|
 bd (slices_Clone_int N (ix d (i2 a.1 a.2))) fun f=>
 bd (gy N f) fun b=>
 gd (fits 48 c ([(⟨a.1,a.2,b,decide (0<(↑b.length:Int))⟩:Sa)]:List Sa))<|
 some (true,(c++([(⟨a.1,a.2,b,decide (0<(↑b.length:Int))⟩:Sa)]:List Sa)))) ([]:List Sa)) fun g=>
 bd (yo N g) fun h=>
 some (h,0))
def vo(N:Nat)(c:(List Sa)×Int):Nat→Int→Int→Option Int
 |0,_,_=>none
 |d+1,b,a=>
  bif decide (a<(↑c.1.length:Int)) then(
  gd (okI c.1 a)<|
  gd (in64 (a+1))<|
  vo N c d (max b (↑((ix c.1 a).fA).length:Int)) (a+1)) else(
  some b)
def oh(N:Nat)(m:Mach):Option (Int×Int):=
 bd (tq N m) fun b=>
 bd (
 vo N b N 0 0) fun a=>
 some (a,b.2)
def lv(N:Nat)(m:Mach):Option Mach:=
 some m
def uy(N:Nat)(m:Mach)(p:(List Int))(s:Int):Nat→Int→(Arr 16 (Int×Int))→Option (Arr 16 (Int×Int))
 |0,_,_=>none
 |c+1,a,b=>
  bif decide (a<(↑(ix m.rows s).length:Int)) then(
  bd (
  gd (okI (ix m.rows s) a)<|
  gd (okI b.1 a)<|
  bif decide (((ix (ix m.rows s) a).to)≠(-1)) then(
  gd (okI p ((ix (ix m.rows s) a).to))<|
  gd (okI (mh b a (((ix (ix m.rows s) a).out,(-1)):(Int×Int))).1 a)<|
  some (mh (mh b a (((ix (ix m.rows s) a).out,(-1)):(Int×Int))) a (((ix (mh b a (((ix (ix m.rows s) a).out,(-1)):(Int×Int))).1 a).1,(ix p ((ix (ix m.rows s) a).to))):(Int×Int)))) else(
  some (mh b a (((ix (ix m.rows s) a).out,(-1)):(Int×Int))))) fun d=>
  gd (in64 (a+1))<|
  uy N m p s c (a+1) d) else(
  some b)
def lm(N:Nat)(m:Mach)(p:(List Int))(s:Int):Option (Arr 16 (Int×Int)):=
 bd (
 gd (okI m.rows s)<|
 uy N m p s N 0 (z1i 16 (List.replicate 16 (((0:Int),(0:Int)):(Int×Int))))) fun a=>
 some a
def ut(N:Nat)(m:Mach)(p:(List Int)):Nat→Int→(List (Sb×Int))→(List Int)→Option (List Int)
 |0,_,_,_=>none
 |f+1,a,b,c=>
  bif decide (a<(↑p.length:Int)) then(
  gd (okI p a)<|
  bd (lm N m p a) fun d=>
  bd (
  bif !(mg b (⟨(ix p a),d⟩:Sb)) then(
  some (z3a b (⟨(ix p a),d⟩:Sb) (↑b.length:Int))) else(
  some b)) fun e=>
  gd (okI c a)<|
  gd (in64 (a+1))<|
  ut N m p f (a+1) e (up c a (z02 (0:Int) e (⟨(ix p a),d⟩:Sb)))) else(
  some c)
def o8(N:Nat)(m:Mach)(p:(List Int)):Option (List Int):=
 gd (okM 8 (↑p.length:Int))<|
 bd (
 ut N m p N 0 ([]:List (Sb×Int)) (mk (↑p.length:Int) (0:Int))) fun a=>
 some a
def ul(N:Nat)(s1_:(List Int))(s2_:(List Int)):Nat→Int→Option (Ex (Unit) (Bool))
 |0,_=>none
 |b+1,a=>
  bif decide (a<(↑s1_.length:Int)) then(
  gd (okI s1_ a)<|
  gd (okI s2_ a)<|
  bif decide ((ix s1_ a)≠(ix s2_ a)) then(
  some (Ex.rt false)) else(
  gd (in64 (a+1))<|
  ul N s1_ s2_ b (a+1))) else(
  some (Ex.go ()))
def slices_Equal_int(N:Nat)(s1_:(List Int))(s2_:(List Int)):Option Bool:=
 bif decide ((↑s1_.length:Int)≠(↑s2_.length:Int)) then(
 some false) else(
 bd (
 ul N s1_ s2_ N 0) fun a=>
 Ex.on a (fun b=>
 some true) some)
def y8(N:Nat)(σ:Type)(B:(List Int)→σ→Option (Bool×σ))(p0_:Mach):Nat→σ→(List Int)→Option σ
 |0,_,_=>none
 |d+1,e,b=>
  bd (B b e) fun a=>
  bif a.1 then(
  bd (o8 N p0_ b) fun c=>
  bd (slices_Equal_int N b c) fun f=>
  bif f then(
  some a.2) else(
  y8 N σ B p0_ d a.2 c)) else(
  some a.2)
def si(N:Nat)(p0_:Mach)(σ:Type)(B:(List Int)→σ→Option (Bool×σ))(a:σ):Option σ:=
 gd (okM 8 (↑p0_.rows.length:Int))<|
 y8 N σ B p0_ N a (mk (↑p0_.rows.length:Int) (0:Int))
def pq(N:Nat)(m:Mach):Option ((List Int)×Int×Int):=
 bd (xc N m) fun a=>
 bif decide (a≠0) then(
 some (([]:(List Int)),0,a)) else(
 bd (lv N m) fun d=>
 bd (si N d ((List Int)×Int) (fun e b=>
 gd (in64 (b.2+1))<|
 some (true,(e,b.2+1))) (([]:(List Int)),(-1))) fun c=>
 some (c.1,c.2,0))
def jq(N:Nat)(a:Int)(n:Int):Nat→Int→Int→Option Int
 |0,_,_=>none
 |d+1,b,c=>
  bif decide (c<n) then(
  gd (in64 (b*a))<|
  gd (in64 (c+1))<|
  jq N a n d (b*a) (c+1)) else(
  some b)
def bg(N:Nat)(a:Int)(n:Int):Option Int:=
 bd (
 jq N a n N 1 0) fun b=>
 some b
def jk(N:Nat)(s:(List Int))(f:Int→Option Bool):Nat→Int→Option (Ex (Unit) (Int))
 |0,_=>none
 |c+1,a=>
  bif decide (a<(↑s.length:Int)) then(
  gd (okI s a)<|
  bd (f (ix s a)) fun b=>
  bif b then(
  some (Ex.rt a)) else(
  gd (in64 (a+1))<|
  jk N s f c (a+1))) else(
  some (Ex.go ()))
def gm(N:Nat)(s:(List Int))(f:Int→Option Bool):Option Int:=
 bd (
 jk N s f N 0) fun a=>
 Ex.on a (fun b=>
 some (-1)) some
def ym(N:Nat)(s:(List Int))(f:Int→Option Bool):Option Bool:=
 bd (gm N s f) fun a=>
 some (decide (0≤a))
def z1s(N:Nat)(c:Int)(p0_:Int):Option Bool:=
 some ((decide (c<0))||(decide (p0_≤c)))
def eu(N:Nat)(w_:(List Int))(inputs:Int):Option Int:=
 bif (decide (16<inputs))||(decide (256<(↑w_.length:Int))) then(
 some 3) else(
 bd (gop (true&&((decide (inputs<1))==false)) (ym N w_ (fun b=>z1s N b inputs))) fun a=>
 bif (decide (inputs<1))||(a.getD default) then(
 some 1) else(
 some 0))
def ak(N:Nat)(m:Mach)(s:Int):Option Int:=
 bd (xc N m) fun a=>
 bif decide (a≠0) then(
 some a) else(
 bif (decide (s<0))||(decide ((↑m.rows.length:Int)≤s)) then(
 some 1) else(
 some 0))
def xg(N:Nat)(m:Mach)(w_:(List Int)):Nat→Int→Int→(List Int)→Option (Int×List Int)
 |0,_,_,_=>none
 |f+1,b,a,c=>
  bif decide (a<(↑w_.length:Int)) then(
  gd (okI w_ a)<|
  bd (fe N) fun d=>
  bd (
  bif decide (b≠(-1)) then(
  gd (okI m.rows b)<|
  gd (okI (ix m.rows b) (ix w_ a))<|
  some ((ix (ix m.rows b) (ix w_ a)).to,(ix (ix m.rows b) (ix w_ a)).out)) else(
  some (d.to,d.out))) fun e=>
  gd (okI c a)<|
  gd (in64 (a+1))<|
  xg N m w_ f e.1 (a+1) (up c a e.2)) else(
  some (b,c))
def z01(N:Nat)(m:Mach)(s:Int)(w_:(List Int)):Option ((List Int)×Int):=
 gd (okM 8 (↑w_.length:Int))<|
 bd (
 xg N m w_ N s 0 (mk (↑w_.length:Int) (0:Int))) fun a=>
 some (a.2,a.1)
def iy(N:Nat)(m:Mach)(s:Int)(w_:(List Int)):Option ((List Int)×Int):=
 bd (ak N m s) fun c=>
 bif decide (c≠0) then(
 some (([]:(List Int)),c)) else(
 bd (eu N w_ m.inputs) fun a=>
 bif decide (a≠0) then(
 some (([]:(List Int)),a)) else(
 bd (z01 N m s w_) fun b=>
 some (b.1,0)))
def jy(N:Nat)(s:(List (List Int)))(f:(List Int)→Option Bool):Nat→Int→Option (Ex (Unit) (Int))
 |0,_=>none
 |c+1,a=>
  bif decide (a<(↑s.length:Int)) then(
  gd (okI s a)<|
  bd (f (ix s a)) fun b=>
  bif b then(
  some (Ex.rt a)) else(
  gd (in64 (a+1))<|
  jy N s f c (a+1))) else(
  some (Ex.go ()))
def xk(N:Nat)(s:(List (List Int)))(f:(List Int)→Option Bool):Option Int:=
 bd (
 jy N s f N 0) fun a=>
 Ex.on a (fun b=>
 some (-1)) some
def lw(N:Nat)(out:(List Int))(p0_:(List (List Int)))(p1_:Int):Option Bool:=
 gd (okI p0_ p1_)<|
 bd (slices_Equal_int N out (ix p0_ p1_)) fun a=>
 some a
def u6(N:Nat)(l_:(List Int)):Nat→Int→(List (Int×Int))→(List Int)→Option (List Int)
 |0,_,_,_=>none
 |e+1,a,b,c=>
  bif decide (a<(↑l_.length:Int)) then(
  gd (okI l_ a)<|
  bd (
  bif !(mg b (ix l_ a)) then(
  some (z3a b (ix l_ a) (↑b.length:Int))) else(
  some b)) fun d=>
  gd (okI c a)<|
  gd (in64 (a+1))<|
  u6 N l_ e (a+1) d (up c a (z02 (0:Int) d (ix l_ a)))) else(
  some c)
def dh(N:Nat)(l_:(List Int)):Option (List Int):=
 gd (okM 8 (↑l_.length:Int))<|
 bd (
 u6 N l_ N 0 ([]:List (Int×Int)) (mk (↑l_.length:Int) (0:Int))) fun a=>
 some a
def z13(N:Nat)(l_:(List Int)):Option ((List Int)×Int):=
 bif decide (256<(↑l_.length:Int)) then(
 some (([]:(List Int)),3)) else(
 bd (dh N l_) fun a=>
 some (a,0))
def yh(N:Nat)(m:Mach)(w_:(List Int)):Nat→Int→(List (List Int))→(List Int)→Option (List Int)
 |0,_,_,_=>none
 |f+1,a,b,d=>
  bif decide (a<(↑m.rows.length:Int)) then(
  bd (iy N m a w_) fun c=>
  gd (okI b a)<|
  gd (in64 (a+1))<|
  gd (okS (up b a c.1) 0 (a+1))<|
  bd (xk N (cut (up b a c.1) 0 (a+1)) (fun g=>lw N g (up b a c.1) a)) fun e=>
  gd (okI d a)<|
  gd (in64 (a+1))<|
  yh N m w_ f (a+1) (up b a c.1) (up d a e)) else(
  some d)
def di(N:Nat)(m:Mach)(w_:(List Int)):Option ((List Int)×Int):=
 bd (xc N m) fun d=>
 bif decide (d≠0) then(
 some (([]:(List Int)),d)) else(
 bd (eu N w_ m.inputs) fun b=>
 bif decide (b≠0) then(
 some (([]:(List Int)),b)) else(
 gd (okM 24 (↑m.rows.length:Int))<|
 gd (okM 8 (↑m.rows.length:Int))<|
 bd (
 yh N m w_ N 0 (mk (↑m.rows.length:Int) ([]:List Int)) (mk (↑m.rows.length:Int) (0:Int))) fun c=>
 bd (z13 N c) fun a=>
 some (a.1,a.2)))
def vk(N:Nat)(p:(List Int)):Nat→Int→Int→Option (Ex (Unit) (Int))
 |0,_,_=>none
 |e+1,b,a=>
  bif decide (a<(↑p.length:Int)) then(
  bd (
  gd (okI p a)<|
  bif (decide ((ix p a)<0))||(decide (b<(ix p a))) then(
  some (Ex.rt (Ex.rt 1))) else(
  bif decide ((ix p a)=b) then(
  gd (in64 (b+1))<|
  some (Ex.go (b+1))) else(
  some (Ex.go b)))) fun c=>
  Ex.on c (fun d=>
  gd (in64 (a+1))<|
  vk N p e d (a+1)) some) else(
  some (Ex.go ()))
def oo(N:Nat)(p:(List Int)):Option Int:=
 bif decide (256<(↑p.length:Int)) then(
 some 3) else(
 bd (
 vk N p N 0 0) fun a=>
 Ex.on a (fun b=>
 some 0) some)
def um(N:Nat)(vals:(List Int)):Nat→Int→Option (Ex (Unit) (Int))
 |0,_=>none
 |b+1,a=>
  bif decide (a<(↑vals.length:Int)) then(
  gd (okI vals a)<|
  bif decide ((ix vals a)≠0) then(
  some (Ex.rt (ix vals a))) else(
  gd (in64 (a+1))<|
  um N vals b (a+1))) else(
  some (Ex.go ()))
def nu(N:Nat)(vals:(List Int)):Option Int:=
 bd (
 um N vals N 0) fun a=>
 Ex.on a (fun b=>
 some 0) some
def z04(N:Nat)(p:(List Int))(q:(List Int)):Option Int:=
 bd (oo N p) fun c=>
 bd (oo N q) fun d=>
 bd (nu N ([c,d]:List Int)) fun a=>
 bd (
 bif (decide (a=0))&&(decide ((↑p.length:Int)≠(↑q.length:Int))) then(
 some 16) else(
 some a)) fun b=>
 some b
def ji(N:Nat)(l_:(List (Int×Int))):Nat→Int→(List ((Int×Int)×Int))→(List Int)→Option (List Int)
 |0,_,_,_=>none
 |e+1,a,b,c=>
  bif decide (a<(↑l_.length:Int)) then(
  gd (okI l_ a)<|
  bd (
  bif !(mg b (((ix l_ a).1,(ix l_ a).2):(Int×Int))) then(
  some (z3a b (((ix l_ a).1,(ix l_ a).2):(Int×Int)) (↑b.length:Int))) else(
  some b)) fun d=>
  gd (okI c a)<|
  gd (in64 (a+1))<|
  ji N l_ e (a+1) d (up c a (z02 (0:Int) d (((ix l_ a).1,(ix l_ a).2):(Int×Int))))) else(
  some c)
def xz(N:Nat)(l_:(List (Int×Int))):Option (List Int):=
 gd (okM 8 (↑l_.length:Int))<|
 bd (
 ji N l_ N 0 ([]:List ((Int×Int)×Int)) (mk (↑l_.length:Int) (0:Int))) fun a=>
 some a
def yg(N:Nat)(p:(List Int))(q:(List Int)):Nat→Int→(List (Int×Int))→Option (List (Int×Int))
 |0,_,_=>none
 |c+1,a,b=>
  bif decide (a<(↑(mk (↑p.length:Int) (((0:Int),(0:Int)):(Int×Int))).length:Int)) then(
  gd (okI p a)<|
  gd (okI q a)<|
  gd (okI b a)<|
  gd (in64 (a+1))<|
  yg N p q c (a+1) (up b a (((ix p a),(ix q a)):(Int×Int)))) else(
  some b)
def ig(N:Nat)(p:(List Int))(q:(List Int)):Option ((List Int)×Int):=
 bd (z04 N p q) fun c=>
 bif decide (c≠0) then(
 some (([]:(List Int)),c)) else(
 gd (okM 16 (↑p.length:Int))<|
 bd (
 yg N p q N 0 (mk (↑p.length:Int) (((0:Int),(0:Int)):(Int×Int)))) fun a=>
 bd (xz N a) fun b=>
 some (b,0))
def jf(N:Nat)(a:(List Int))(b:(List Int)):Nat→Int→Option (Ex (Unit) (Int))
 |0,_=>none
 |d+1,c=>
  bif decide (c<(↑a.length:Int)) then(
  gd (okI a c)<|
  gd (okI b c)<|
  bif decide ((ix a c)<(ix b c)) then(
  some (Ex.rt (-1))) else(
  gd (okI a c)<|
  gd (okI b c)<|
  bif decide ((ix b c)<(ix a c)) then(
  some (Ex.rt 1)) else(
  gd (in64 (c+1))<|
  jf N a b d (c+1)))) else(
  some (Ex.go ()))
def xh(N:Nat)(a:(List Int))(b:(List Int)):Option Int:=
 bif decide ((↑a.length:Int)<(↑b.length:Int)) then(
 some (-1)) else(
 bif decide ((↑b.length:Int)<(↑a.length:Int)) then(
 some 1) else(
 bd (
 jf N a b N 0) fun c=>
 Ex.on c (fun d=>
 some 0) some))
def yl(N:Nat)(a:(List Int))(b:(List Int)):Option Bool:=
 bd (xh N a b) fun c=>
 some (decide (c=0))
def uf(N:Nat)(p:(List Int))(c:Int):Nat→Int→Int→Option Int
 |0,_,_=>none
 |d+1,b,a=>
  bif decide (0≤a) then(
  bd (
  gd (okI p a)<|
  gd (okI p c)<|
  bif decide ((ix p a)=(ix p c)) then(
  some a) else(
  some b)) fun e=>
  gd (in64 (a-1))<|
  uf N p c d e (a-1)) else(
  some b)
def jr(N:Nat)(p:(List Int))(b:Int):Nat→Int→Int→Option Int
 |0,_,_=>none
 |d+1,c,a=>
  bif decide (a<b) then(
  bd (
  gd (okI p a)<|
  gd (okI p b)<|
  bif decide ((ix p a)=(ix p b)) then(
  some 0) else(
  some c)) fun e=>
  gd (in64 (a+1))<|
  jr N p b d e (a+1)) else(
  some c)
def jo(N:Nat)(p:(List Int))(c:Int):Nat→Int→Int→Option Int
 |0,_,_=>none
 |e+1,b,a=>
  bif decide (a<c) then(
  bd (
  jr N p a N 1 0) fun d=>
  gd (in64 (b+d))<|
  gd (in64 (a+1))<|
  jo N p c e (b+d) (a+1)) else(
  some b)
def jv(N:Nat)(p:(List Int)):Nat→Int→Option (Ex (Unit) (Int))
 |0,_=>none
 |d+1,a=>
  bif decide (a<(↑p.length:Int)) then(
  bd (
  gd (in64 (a-1))<|
  uf N p a N a (a-1)) fun b=>
  bd (
  jo N p b N 0 0) fun c=>
  gd (okI p a)<|
  bif decide ((ix p a)≠c) then(
  some (Ex.rt 1)) else(
  gd (in64 (a+1))<|
  jv N p d (a+1))) else(
  some (Ex.go ()))
def xe(N:Nat)(p:(List Int)):Option Int:=
 bif decide (256<(↑p.length:Int)) then(
 some 3) else(
 bd (
 jv N p N 0) fun a=>
 Ex.on a (fun b=>
 some 0) some)
def mo(N:Nat):Option Bool:=some true
def je(N:Nat)(d:Mach)(e:Int×Int):Nat→(List Int)→Int→Int→Option (List Int)
 |0,_,_,_=>none
 |f+1,b,a,c=>
  bif decide (c<e.1) then(
  gd (okR a d.inputs)<|
  gd (fits 8 b ([a%d.inputs]:List Int))<|
  gd (okQ a d.inputs)<|
  gd (in64 (c+1))<|
  je N d e f (b++([a%d.inputs]:List Int)) (a/d.inputs) (c+1)) else(
  some b)
def qy(N:Nat)(f:Mach)(e:Int×Int):Nat→(List Int)→Int→Option (Ex ((List Int)) (Bool))
 |0,_,_=>none
 |g+1,b,a=>
  bd (bg N f.inputs e.1) fun h=>
  bif decide (a<h) then(
  bd (
  je N f e N ([]:List Int) a 0) fun i=>
  bd (di N (⟨f.inputs,f.outputs,f.rows⟩:Mach) i) fun c=>
  bd (ig N b c.1) fun d=>
  bif (decide (c.2≠0))||(decide (d.2≠0)) then(
  some (Ex.rt false)) else(
  gd (in64 (a+1))<|
  qy N f e g d.1 (a+1))) else(
  some (Ex.go b))
def qx(N:Nat)(g:Mach)(b:(List Sa)×Int):Nat→(List Int)→Int→Option (Ex ((List Int)) (Bool))
 |0,_,_=>none
 |f+1,c,a=>
  bif decide (a<(↑b.1.length:Int)) then(
  gd (okI b.1 a)<|
  bd (di N (⟨g.inputs,g.outputs,g.rows⟩:Mach) ((ix b.1 a).fA)) fun d=>
  bd (ig N c d.1) fun e=>
  bif (decide (d.2≠0))||(decide (e.2≠0)) then(
  some (Ex.rt false)) else(
  gd (in64 (a+1))<|
  qx N g b f e.1 (a+1))) else(
  some (Ex.go c))
def yw(N:Nat)(x:MDat):Option Bool:=
 bd (p8 N x) fun a=>
 bd (oh N (⟨a.inputs,a.outputs,a.rows⟩:Mach)) fun d=>
 bd (tq N (⟨a.inputs,a.outputs,a.rows⟩:Mach)) fun h=>
 bd (pq N (⟨a.inputs,a.outputs,a.rows⟩:Mach)) fun g=>
 bif ((((decide (d.2≠0))||(decide (h.2≠0)))||(decide (g.2.2≠0)))||(decide (d.1<0)))||(decide ((max (↑a.rows.length:Int) 2)≤d.1)) then(
 some false) else(
 gd (okM 8 (↑a.rows.length:Int))<|
 gd (okM 8 (↑a.rows.length:Int))<|
 bd (
 qy N a d N (mk (↑a.rows.length:Int) (0:Int)) 0) fun i=>
 Ex.on i (fun e=>
 bd (
 qx N a h N (mk (↑a.rows.length:Int) (0:Int)) 0) fun j=>
 Ex.on j (fun k=>
 bd (yl N e g.1) fun b=>
 bd (gop (true&&(b==true)) (yl N k g.1)) fun c=>
 bd (gop (true&&((b&&(c.getD default))==true)) (xe N e)) fun f=>
 bd (gop (true&&(((b&&(c.getD default))&&(decide ((f.getD default)=0)))==true)) (mo N)) fun l=>
 some (((b&&(c.getD default))&&(decide ((f.getD default)=0)))&&(l.getD default))) some) some)
end GV
end Go.Proofs.YtkkcidhcfkmbjaaGreatDoor
