import Derived.Test.YtnnobdkjgafdmaaShTypes
set_option linter.unusedVariables false
set_option linter.unusedSimpArgs false
set_option linter.unusedSectionVars false
namespace Go.Proofs.Ytnnobdkjgafdmaa
namespace GV
set_option maxRecDepth 100000
def uk(N:Nat)(m:Mach)(marked:(List (List Bool)))(s:Int)(t:Int):Nat→Int→Option (Ex (Unit) (Int))
 |0,_=>none
 |b+1,a=>
  bif decide (a<m.inputs) then(
  gd (okI m.rows s)<|
  gd (okI (ix m.rows s) a)<|
  gd (okI m.rows t)<|
  gd (okI (ix m.rows t) a)<|
  gd (((true&&((decide (((ix (ix m.rows s) a).out)≠((ix (ix m.rows t) a).out)))==false))&&(((decide (0≤((ix (ix m.rows s) a).to)))&&(decide (0≤((ix (ix m.rows t) a).to))))==true))=true→okI marked ((ix (ix m.rows s) a).to))<|
  gd (((true&&((decide (((ix (ix m.rows s) a).out)≠((ix (ix m.rows t) a).out)))==false))&&(((decide (0≤((ix (ix m.rows s) a).to)))&&(decide (0≤((ix (ix m.rows t) a).to))))==true))=true→okI (ix marked ((ix (ix m.rows s) a).to)) ((ix (ix m.rows t) a).to))<|
  bif (decide (((ix (ix m.rows s) a).out)≠((ix (ix m.rows t) a).out)))||(((decide (0≤((ix (ix m.rows s) a).to)))&&(decide (0≤((ix (ix m.rows t) a).to))))&&(ix (ix marked ((ix (ix m.rows s) a).to)) ((ix (ix m.rows t) a).to))) then(
  some (Ex.rt 1)) else(
  gd (in64 (a+1))<|
  uk N m marked s t b (a+1))) else(
  some (Ex.go ()))
def z0b(N:Nat)(m:Mach)(marked:(List (List Bool)))(s:Int)(t:Int):Option Int:=
 bd (
 uk N m marked s t N 0) fun a=>
 Ex.on a (fun b=>
 some 0) some
def yh(N:Nat)(m:Mach):Nat→(List (List Bool))→Int→Option (List (List Bool))
 |0,_,_=>none
 |c+1,a,b=>
  bif decide (b<(↑m.rows.length:Int)) then(
  gd (okM 1 (↑m.rows.length:Int))<|
  gd (fits 24 a [(mk (↑m.rows.length:Int) false)])<|
  gd (in64 (b+1))<|
  yh N m c (a++[(mk (↑m.rows.length:Int) false)]) (b+1)) else(
  some a)
def ym(N:Nat)(m:Mach)(d:List (List Bool))(b:Int):Nat→Int→(List (List Bool))→Option (List (List Bool))
 |0,_,_=>none
 |e+1,a,c=>
  bif decide (a<(↑m.rows.length:Int)) then(
  gd (okI c b)<|
  gd (okI d b)<|
  gd (okI (ix d b) a)<|
  bd (gop (true&&((ix (ix d b) a)==false)) (z0b N m d b a)) fun f=>
  gd (okI (ix c b) a)<|
  gd (in64 (a+1))<|
  ym N m d b e (a+1) (up c b (up (ix c b) a ((ix (ix d b) a)||(decide ((f.getD default)=1)))))) else(
  some c)
def vv(N:Nat)(m:Mach)(c:List (List Bool)):Nat→(List (List Bool))→Int→Option (List (List Bool))
 |0,_,_=>none
 |d+1,b,a=>
  bif decide (a<(↑m.rows.length:Int)) then(
  bd (
  gd (okM 1 (↑m.rows.length:Int))<|
  gd (fits 24 b [(mk (↑m.rows.length:Int) false)])<|
  ym N m c a N 0 (b++[(mk (↑m.rows.length:Int) false)])) fun e=>
  gd (in64 (a+1))<|
  vv N m c d e (a+1)) else(
  some b)
def yg(N:Nat)(m:Mach)(k:Int):Nat→(List (List Bool))→Int→Option (List (List Bool))
 |0,_,_=>none
 |c+1,b,a=>
  bif decide (a<k) then(
  bd (
  vv N m b N ([]:List (List Bool)) 0) fun d=>
  gd (in64 (a+1))<|
  yg N m k c d (a+1)) else(
  some b)
def av(N:Nat)(m:Mach)(k:Int):Option (List (List Bool)):=
 bd (
 yh N m N ([]:List (List Bool)) 0) fun a=>
 bd (
 yg N m k N a 0) fun b=>
 some b
def kz(N:Nat)(marked:(List (List Bool)))(c:List Int)(b:Int):Nat→Int→Int→Option Int
 |0,_,_=>none
 |e+1,d,a=>
  bif decide (a<b) then(
  bd (
  gd (okI marked b)<|
  gd (okI (ix marked b) a)<|
  bif !(ix (ix marked b) a) then(
  gd (okI c a)<|
  some (ix c a)) else(
  some d)) fun f=>
  gd (in64 (a+1))<|
  kz N marked c b e f (a+1)) else(
  some d)
def um(N:Nat)(marked:(List (List Bool))):Nat→(List Int)→Int→Int→Option (List Int)
 |0,_,_,_=>none
 |f+1,a,b,c=>
  bif decide (c<(↑marked.length:Int)) then(
  bd (
  kz N marked a c N (-1) 0) fun e=>
  bd (
  bif decide (e<0) then(
  gd (in64 (b+1))<|
  some (b+1,b)) else(
  some (b,e))) fun d=>
  gd (fits 8 a ([d.2]:List Int))<|
  gd (in64 (c+1))<|
  um N marked f (a++([d.2]:List Int)) d.1 (c+1)) else(
  some a)
def ma(N:Nat)(marked:(List (List Bool))):Option (List Int):=
 bd (
 um N marked N ([]:List Int) 0 0) fun a=>
 some a
def z13(N:Nat)(m:Mach)(k:Int):Option (List Int):=
 bd (av N m k) fun b=>
 bd (ma N b) fun a=>
 some a
def fo(N:Nat)(m:Mach):Option (List Int):=
 bd (z13 N m (↑m.rows.length:Int)) fun a=>
 some a
def z0t(N:Nat)(m:Mach)(s:Int)(i:Int):Option Edge:=
 bif decide (s<0) then(
 some (⟨(-1),(-1)⟩:Edge)) else(
 gd (okI m.rows s)<|
 gd (okI (ix m.rows s) i)<|
 some (⟨(ix (ix m.rows s) i).to,(ix (ix m.rows s) i).out⟩:Edge))
def w9(N:Nat)(m:Mach)(a:Int):Nat→Int→(List Bool)→Option (List Bool)
 |0,_,_=>none
 |d+1,b,c=>
  bif decide (b<m.inputs) then(
  bd (
  gd (okI m.rows a)<|
  gd (okI (ix m.rows a) b)<|
  gd (okI c a)<|
  bif (ix c a)&&(decide (0≤((ix (ix m.rows a) b).to))) then(
  gd (okI c ((ix (ix m.rows a) b).to))<|
  some (up c ((ix (ix m.rows a) b).to) true)) else(
  some c)) fun e=>
  gd (in64 (b+1))<|
  w9 N m a d (b+1) e) else(
  some c)
def wu(N:Nat)(m:Mach):Nat→Int→(List Bool)→Option (List Bool)
 |0,_,_=>none
 |c+1,a,b=>
  bif decide (a<(↑m.rows.length:Int)) then(
  bd (
  w9 N m a N 0 b) fun d=>
  gd (in64 (a+1))<|
  wu N m c (a+1) d) else(
  some b)
def yz(N:Nat)(m:Mach):Nat→Int→(List Bool)→Option (List Bool)
 |0,_,_=>none
 |c+1,a,b=>
  bif decide (a<(↑m.rows.length:Int)) then(
  bd (
  wu N m N 0 b) fun d=>
  gd (in64 (a+1))<|
  yz N m c (a+1) d) else(
  some b)
def oo(N:Nat)(m:Mach)(from_:Int):Option (List Bool):=
 gd (okM 1 (↑m.rows.length:Int))<|
 gd (okI (mk (↑m.rows.length:Int) false) from_)<|
 bd (
 yz N m N 0 (up (mk (↑m.rows.length:Int) false) from_ true)) fun a=>
 some a
def uf(N:Nat)(s:(List Edge))(f:Edge→Option Bool):Nat→Int→Option (Ex (Unit) (Int))
 |0,_=>none
 |c+1,a=>
  bif decide (a<(↑s.length:Int)) then(
  gd (okI s a)<|
  bd (f (ix s a)) fun b=>
  bif b then(
  some (Ex.rt a)) else(
  gd (in64 (a+1))<|
  uf N s f c (a+1))) else(
  some (Ex.go ()))
def tq(N:Nat)(s:(List Edge))(f:Edge→Option Bool):Option Int:=
 bd (
 uf N s f N 0) fun a=>
 Ex.on a (fun b=>
 some (-1)) some
def di(N:Nat)(s:(List Edge))(f:Edge→Option Bool):Option Bool:=
 bd (tq N s f) fun a=>
 some (decide (0≤a))
def z2i(N:Nat):Option Edge:=
 some (⟨(-1),(-1)⟩:Edge)
def z8k(N:Nat)(m:Mach)(x:Edge):Option Bool:=
 bd (z2i N) fun a=>
 some ((decide (x.to=a.to∧x.out=a.out))||((((decide (0≤x.to))&&(decide (x.to<(↑m.rows.length:Int))))&&(decide (0≤x.out)))&&(decide (x.out<m.outputs))))
def z5d(N:Nat)(x:Edge)(p0_:Mach):Option Bool:=
 bd (z8k N p0_ x) fun a=>
 some (!a)
def nz(N:Nat)(m:Mach):Nat→Int→Option (Ex (Unit) (Int))
 |0,_=>none
 |b+1,a=>
  bif decide (a<(↑m.rows.length:Int)) then(
  gd (okI m.rows a)<|
  bd (gop (true&&((decide ((↑(ix m.rows a).length:Int)≠m.inputs))==false)) (di N (ix m.rows a) (fun d=>z5d N d m))) fun c=>
  bif (decide ((↑(ix m.rows a).length:Int)≠m.inputs))||(c.getD default) then(
  some (Ex.rt 1)) else(
  gd (in64 (a+1))<|
  nz N m b (a+1))) else(
  some (Ex.go ()))
def sj(N:Nat)(m:Mach):Option Int:=
 bif ((decide (16<m.inputs))||(decide (16<m.outputs)))||(decide (64<(↑m.rows.length:Int))) then(
 some 3) else(
 bif ((decide (m.inputs<1))||(decide (m.outputs<1)))||(decide ((↑m.rows.length:Int)<1)) then(
 some 1) else(
 bd (
 nz N m N 0) fun a=>
 Ex.on a (fun b=>
 some 0) some))
def z6i(N:Nat)(m:Mach):Option (Mach×Mach×Mach):=
 some (m,m,m)
def z4k(N:Nat)(m:Mach):Option Mach:=
 some m
def bn(N:Nat)(σ:Type)(B:((Int×Int)×Edge)→σ→Option (Bool×σ))(p0_:Mach)(c:Int):Nat→σ→Int→Option (Ex (σ) (σ))
 |0,_,_=>none
 |e+1,d,a=>
  bif decide (a<(↑(ix p0_.rows c).length:Int)) then(
  gd (okI (ix p0_.rows c) a)<|
  bd (B (((c,a):(Int×Int)),(⟨(ix (ix p0_.rows c) a).to,(ix (ix p0_.rows c) a).out⟩:Edge)) d) fun b=>
  bif !b.1 then(
  some (Ex.rt b.2)) else(
  gd (in64 (a+1))<|
  bn N σ B p0_ c e b.2 (a+1))) else(
  some (Ex.go d))
def dx(N:Nat)(σ:Type)(B:((Int×Int)×Edge)→σ→Option (Bool×σ))(p0_:Mach):Nat→σ→Int→Option σ
 |0,_,_=>none
 |e+1,d,a=>
  bif decide (a<(↑p0_.rows.length:Int)) then(
  bd (
  gd (okI p0_.rows a)<|
  bn N σ B p0_ a N d 0) fun b=>
  Ex.on b (fun c=>
  gd (in64 (a+1))<|
  dx N σ B p0_ e c (a+1)) some) else(
  some d)
def z1l(N:Nat)(p0_:Mach)(σ:Type)(B:((Int×Int)×Edge)→σ→Option (Bool×σ))(s0:σ):Option σ:=
 dx N σ B p0_ N s0 0
def z1x(N:Nat)(s:(List (Int×Int))):Option (List (Int×Int)):=
 gd (okS s 0 (↑s.length:Int))<|
 some (cut s 0 (↑s.length:Int))
def z0o(N:Nat)(m:Mach):Option (List (Int×Int)):=
 bd (z4k N m) fun f=>
 bd (z1l N f (List (Int×Int)) (fun a b=>
 bd (z2i N) fun c=>
 bif decide (a.2.to=c.to∧a.2.out=c.out) then(
 gd (fits 16 b ([((a.1.1,a.1.2):(Int×Int))]:List (Int×Int)))<|
 some (true,(b++([((a.1.1,a.1.2):(Int×Int))]:List (Int×Int))))) else(
 some (true,b))) ([]:List (Int×Int))) fun d=>
 bd (z1x N d) fun e=>
 some e
def z16(N:Nat)(m:Mach):Option (Bool×Int):=
 bd (sj N m) fun b=>
 bif decide (b≠0) then(
 some (false,b)) else(
 bd (z0o N m) fun a=>
 some ((decide ((↑a.length:Int)=0)),0))
def z1b(N:Nat)(p0_:Mach):Option Bool:=
 bd (z16 N p0_) fun a=>
 some a.1
def xw(N:Nat)(self:Int→List Bool→Mach→Option (List Bool))(s:Int)(p1_:Mach):Nat→Int→(List Bool)→Option (List Bool)
 |0,_,_=>none
 |c+1,a,b=>
  bif decide (a<(↑(ix p1_.rows s).length:Int)) then(
  gd (okI (ix p1_.rows s) a)<|
  bd (self ((ix (ix p1_.rows s) a).to) b p1_) fun d=>
  gd (in64 (a+1))<|
  xw N self s p1_ c (a+1) d) else(
  some b)
def xe(N:Nat):Nat→Int→List Bool→Mach→Option (List Bool)
 |0,_,_,_=>none
 |F+1,s,p0_,p1_=>
  gd ((true&&((decide (s=(-1)))==false))=true→okI p0_ s)<|
  bif (decide (s=(-1)))||(ix p0_ s) then(
  some p0_) else(
  gd (okI p0_ s)<|
  gd (okI p1_.rows s)<|
  xw N (xe N F) s p1_ N 0 (up p0_ s true))
def gq(N:Nat)(s:(List Bool))(v_:Bool):Nat→Int→Option (Ex (Unit) (Int))
 |0,_=>none
 |b+1,a=>
  bif decide (a<(↑s.length:Int)) then(
  gd (okI s a)<|
  bif decide (v_=(ix s a)) then(
  some (Ex.rt a)) else(
  gd (in64 (a+1))<|
  gq N s v_ b (a+1))) else(
  some (Ex.go ()))
def z15(N:Nat)(s:(List Bool))(v_:Bool):Option Int:=
 bd (
 gq N s v_ N 0) fun a=>
 Ex.on a (fun b=>
 some (-1)) some
def lm(N:Nat)(s:(List Bool))(v_:Bool):Option Bool:=
 bd (z15 N s v_) fun a=>
 some (decide (0≤a))
def z0x(N:Nat)(m:Mach):Option (Bool×Int):=
 bd (sj N m) fun c=>
 bif decide (c≠0) then(
 some (false,c)) else(
 gd (okM 1 (↑m.rows.length:Int))<|
 bd (xe N N 0 (mk (↑m.rows.length:Int) false) m) fun a=>
 bd (lm N a false) fun b=>
 some ((!b),0))
def z18(N:Nat)(p0_:Mach):Option Bool:=
 bd (z0x N p0_) fun a=>
 some a.1
def z4m(N:Nat)(m:Mach):Option Mach:=
 some m
def dh(N:Nat)(m:Mach)(p:(List Int))(s:Int):Nat→Int→(Arr 16 (Int×Int))→Option (Arr 16 (Int×Int))
 |0,_,_=>none
 |c+1,a,b=>
  bif decide (a<(↑(ix m.rows s).length:Int)) then(
  bd (
  gd (okI (ix m.rows s) a)<|
  gd (okI b.1 a)<|
  bif decide (((ix (ix m.rows s) a).to)≠(-1)) then(
  gd (okI p ((ix (ix m.rows s) a).to))<|
  gd (okI (ah b a (((ix (ix m.rows s) a).out,(-1)):(Int×Int))).1 a)<|
  some (ah (ah b a (((ix (ix m.rows s) a).out,(-1)):(Int×Int))) a (((ix (ah b a (((ix (ix m.rows s) a).out,(-1)):(Int×Int))).1 a).1,(ix p ((ix (ix m.rows s) a).to))):(Int×Int)))) else(
  some (ah b a (((ix (ix m.rows s) a).out,(-1)):(Int×Int))))) fun d=>
  gd (in64 (a+1))<|
  dh N m p s c (a+1) d) else(
  some b)
def z4v(N:Nat)(m:Mach)(p:(List Int))(s:Int):Option (Arr 16 (Int×Int)):=
 bd (
 gd (okI m.rows s)<|
 dh N m p s N 0 (mr 16 (List.replicate 16 (((0:Int),(0:Int)):(Int×Int))))) fun a=>
 some a
def pu(N:Nat)(m:Mach)(p:(List Int)):Nat→Int→(List (Sd×Int))→(List Int)→Option (List Int)
 |0,_,_,_=>none
 |f+1,a,b,c=>
  bif decide (a<(↑p.length:Int)) then(
  gd (okI p a)<|
  bd (z4v N m p a) fun d=>
  bd (
  bif !(z4l b (⟨(ix p a),d⟩:Sd)) then(
  some (z5m b (⟨(ix p a),d⟩:Sd) (↑b.length:Int))) else(
  some b)) fun e=>
  gd (okI c a)<|
  gd (in64 (a+1))<|
  pu N m p f (a+1) e (up c a (z3s (0:Int) e (⟨(ix p a),d⟩:Sd)))) else(
  some c)
def z2f(N:Nat)(m:Mach)(p:(List Int)):Option (List Int):=
 gd (okM 8 (↑p.length:Int))<|
 bd (
 pu N m p N 0 ([]:List (Sd×Int)) (mk (↑p.length:Int) (0:Int))) fun a=>
 some a
def bi(N:Nat)(s1_:(List Int))(s2_:(List Int)):Nat→Int→Option (Ex (Unit) (Bool))
 |0,_=>none
 |b+1,a=>
  bif decide (a<(↑s1_.length:Int)) then(
  gd (okI s1_ a)<|
  gd (okI s2_ a)<|
  bif decide ((ix s1_ a)≠(ix s2_ a)) then(
  some (Ex.rt false)) else(
  gd (in64 (a+1))<|
  bi N s1_ s2_ b (a+1))) else(
  some (Ex.go ()))
def slices_Equal_int(N:Nat)(s1_:(List Int))(s2_:(List Int)):Option Bool:=
 bif decide ((↑s1_.length:Int)≠(↑s2_.length:Int)) then(
 some false) else(
 bd (
 bi N s1_ s2_ N 0) fun a=>
 Ex.on a (fun b=>
 some true) some)
def tu(N:Nat)(σ:Type)(B:(List Int)→σ→Option (Bool×σ))(p0_:Mach):Nat→σ→(List Int)→Option σ
 |0,_,_=>none
 |d+1,e,b=>
  bd (B b e) fun a=>
  bif a.1 then(
  bd (z2f N p0_ b) fun c=>
  bd (slices_Equal_int N b c) fun f=>
  bif f then(
  some a.2) else(
  tu N σ B p0_ d a.2 c)) else(
  some a.2)
def z3j(N:Nat)(p0_:Mach)(σ:Type)(B:(List Int)→σ→Option (Bool×σ))(s0:σ):Option σ:=
 gd (okM 8 (↑p0_.rows.length:Int))<|
 tu N σ B p0_ N s0 (mk (↑p0_.rows.length:Int) (0:Int))
def z2e(N:Nat)(m:Mach):Option ((List Int)×Int×Int):=
 bd (sj N m) fun a=>
 bif decide (a≠0) then(
 some (([]:(List Int)),0,a)) else(
 bd (z4m N m) fun d=>
 bd (z3j N d ((List Int)×Int) (fun e b=>
 gd (in64 (b.2+1))<|
 some (true,(e,b.2+1))) (([]:(List Int)),(-1))) fun c=>
 some (c.1,c.2,0))
def ny(N:Nat)(x:(List Int)):Nat→Int→Int→Option Int
 |0,_,_=>none
 |c+1,b,a=>
  bif decide (a<(↑x.length:Int)) then(
  gd (okI x a)<|
  gd (in64 (a+1))<|
  ny N x c (max b (ix x a)) (a+1)) else(
  some b)
def slices_Max_int(N:Nat)(x:(List Int)):Option Int:=
 bif decide ((↑x.length:Int)<1) then(
 none) else(
 gd (okI x 0)<|
 bd (
 ny N x N (ix x 0) 1) fun a=>
 some a)
def z1e(N:Nat)(p0_:Mach):Option Bool:=
 bd (z2e N p0_) fun a=>
 bd (slices_Max_int N a.1) fun b=>
 gd (in64 ((↑a.1.length:Int)-1))<|
 some (decide (b=((↑a.1.length:Int)-1)))
def z1q(N:Nat)(m:Mach):Option Int:=
 bd (sj N m) fun e=>
 bif decide (e≠0) then(
 some e) else(
 bd (z6i N m) fun a=>
 bd (z1b N a.1) fun b=>
 bif !b then(
 some 9) else(
 bd (z18 N a.2.1) fun c=>
 bif !c then(
 some 11) else(
 bd (z1e N a.2.2) fun d=>
 bif !d then(
 some 12) else(
 some 0))))
def z0h(N:Nat)(m:Mach):Option Int:=
 bd (z1q N m) fun a=>
 bif decide (a≠0) then(
 some a) else(
 bif decide (6<(↑m.rows.length:Int)) then(
 some 3) else(
 some 0))
def bu(N:Nat)(n:Int):Nat→Int→(Arr 6 Int)→Option (Arr 6 Int)
 |0,_,_=>none
 |c+1,a,b=>
  bif decide (a<n) then(
  gd (okSh .u16 (8:Int))<|
  gd (okSh .u16 n)<|
  gd (okB .u16 (su .u16 (IntKind.u16.wrap a) (8:Int)) (IntKind.u16.wrap ((su .u16 (1:Int) n)-1)))<|
  gd (okI b.1 a)<|
  gd (in64 (a+1))<|
  bu N n c (a+1) (ah b a (ior (su .u16 (IntKind.u16.wrap a) (8:Int)) (IntKind.u16.wrap ((su .u16 (1:Int) n)-1))))) else(
  some b)
def z4u(N:Nat)(n:Int):Option (Arr 6 Int):=
 bd (
 bu N n N 0 (mr 6 (List.replicate 6 (0:Int)))) fun a=>
 some a
def mi(N:Nat)(counts:Int):Nat→Int→(Arr 6 Int)→Option (Arr 6 Int)
 |0,_,_=>none
 |d+1,b,a=>
  bif decide (b<6) then(
  bd (
  gd (okSh .u16 b)<|
  gd (okB .u16 (p9 counts b) 1)<|
  bif decide ((z0j (p9 counts b) 1)=0) then(
  gd (okI a.1 b)<|
  some (ah a b 0)) else(
  some a)) fun c=>
  gd (in64 (b+1))<|
  mi N counts d (b+1) c) else(
  some a)
def z0w(N:Nat)(v_:(Arr 6 Int))(counts:Int):Option (Arr 6 Int):=
 bd (
 mi N counts N 0 v_) fun a=>
 some a
def om(N:Nat)(x:Int):Option Int:=
 gd (okSh .u16 (8:Int))<|
 gd (okI strT1 (p9 x (8:Int)))<|
 gd (okB .u16 x 255)<|
 gd (okI strT1 (z0j x 255))<|
 gd (in64 (IntKind.u8.wrap ((ix strT1 (p9 x (8:Int)))+(ix strT1 (z0j x 255)))))<|
 some (IntKind.u8.wrap ((ix strT1 (p9 x (8:Int)))+(ix strT1 (z0j x 255))))
def iq(N:Nat)(v_:(Arr 6 Int))(counts:Int):Nat→Int→Option (Ex (Unit) (Bool))
 |0,_=>none
 |c+1,a=>
  bif decide (a<6) then(
  gd (okSh .u16 a)<|
  gd (okB .u16 (p9 counts a) 1)<|
  gd ((true&&((decide ((z0j (p9 counts a) 1)=1))==true))=true→okI v_.1 a)<|
  gd ((true&&((decide ((z0j (p9 counts a) 1)=1))==true))=true→okB .u16 (ix v_.1 a) 255)<|
  bd (gop (true&&((decide ((z0j (p9 counts a) 1)=1))==true)) (om N (z0j (ix v_.1 a) 255))) fun b=>
  bif (decide ((z0j (p9 counts a) 1)=1))&&(decide (1<(b.getD default))) then(
  some (Ex.rt false)) else(
  gd (in64 (a+1))<|
  iq N v_ counts c (a+1))) else(
  some (Ex.go ()))
def z19(N:Nat)(v_:(Arr 6 Int))(counts:Int):Option Bool:=
 bd (
 iq N v_ counts N 0) fun a=>
 Ex.on a (fun b=>
 some true) some
def z0y(N:Nat)(s:(List Int)):Option (List Int):=
 gd (okS s 0 (↑s.length:Int))<|
 some (cut s 0 (↑s.length:Int))
def rf(N:Nat)(m:Mach)(v_:(Arr 6 Int))(i:Int)(counts:Int)(b:Int)(d:(Arr 6 Int)):Nat→Int→Int→Option (Ex (Int) (Ex ((Arr 6 Int)) ((Arr 6 Int)×Bool)))
 |0,_,_=>none
 |e+1,c,a=>
  bif decide (a<(↑m.rows.length:Int)) then(
  bd (
  gd (okI m.rows a)<|
  gd (okI (ix m.rows a) i)<|
  gd (okI v_.1 b)<|
  gd (okSh .u16 a)<|
  gd (okB .u16 (p9 (ix v_.1 b) a) 1)<|
  bif (decide ((z0j (p9 (ix v_.1 b) a) 1)=0))||(decide (((ix (ix m.rows a) i).out)≠((ix (ix m.rows (p9 (ix v_.1 b) (8:Int))) i).out))) then(
  some (Ex.go c)) else(
  gd ((true&&((decide (((ix (ix m.rows a) i).to)=((ix (ix m.rows (p9 (ix v_.1 b) (8:Int))) i).to)))==true))=true→okI v_.1 b)<|
  gd ((true&&((decide (((ix (ix m.rows a) i).to)=((ix (ix m.rows (p9 (ix v_.1 b) (8:Int))) i).to)))==true))=true→okSh .u16 (8:Int))<|
  gd ((true&&((decide (((ix (ix m.rows a) i).to)=((ix (ix m.rows (p9 (ix v_.1 b) (8:Int))) i).to)))==true))=true→in64 (p9 (ix v_.1 b) (8:Int)))<|
  gd ((true&&(((decide (((ix (ix m.rows a) i).to)=((ix (ix m.rows (p9 (ix v_.1 b) (8:Int))) i).to)))&&(decide (a≠(p9 (ix v_.1 b) (8:Int)))))==true))=true→okSh .u16 b)<|
  gd ((true&&(((decide (((ix (ix m.rows a) i).to)=((ix (ix m.rows (p9 (ix v_.1 b) (8:Int))) i).to)))&&(decide (a≠(p9 (ix v_.1 b) (8:Int)))))==true))=true→okB .u16 (p9 counts b) 1)<|
  bif ((decide (((ix (ix m.rows a) i).to)=((ix (ix m.rows (p9 (ix v_.1 b) (8:Int))) i).to)))&&(decide (a≠(p9 (ix v_.1 b) (8:Int)))))&&(decide ((z0j (p9 counts b) 1)=1)) then(
  some (Ex.rt (Ex.rt (Ex.rt (d,false))))) else(
  gd (okSh .u16 ((ix (ix m.rows a) i).to))<|
  gd (okB .u16 c (su .u16 (1:Int) ((ix (ix m.rows a) i).to)))<|
  some (Ex.go (ior c (su .u16 (1:Int) ((ix (ix m.rows a) i).to))))))) fun f=>
  Ex.on f (fun g=>
  gd (in64 (a+1))<|
  rf N m v_ i counts b d e g (a+1)) some) else(
  some (Ex.go c))
def r9(N:Nat)(m:Mach)(v_:(Arr 6 Int))(i:Int)(counts:Int):Nat→Int→(Arr 6 Int)→Option (Ex ((Arr 6 Int)) ((Arr 6 Int)×Bool))
 |0,_,_=>none
 |d+1,a,b=>
  bif decide (a<(↑m.rows.length:Int)) then(
  gd (okI v_.1 a)<|
  gd (okSh .u16 (8:Int))<|
  gd (okI m.rows (p9 (ix v_.1 a) (8:Int)))<|
  gd (okI (ix m.rows (p9 (ix v_.1 a) (8:Int))) i)<|
  bd (
  rf N m v_ i counts a b N 0 0) fun e=>
  Ex.on e (fun c=>
  gd (okSh .u16 (8:Int))<|
  gd (okB .u16 (su .u16 (IntKind.u16.wrap ((ix (ix m.rows (p9 (ix v_.1 a) (8:Int))) i).to)) (8:Int)) c)<|
  gd (okI b.1 a)<|
  gd (in64 (a+1))<|
  r9 N m v_ i counts d (a+1) (ah b a (ior (su .u16 (IntKind.u16.wrap ((ix (ix m.rows (p9 (ix v_.1 a) (8:Int))) i).to)) (8:Int)) c))) some) else(
  some (Ex.go b))
def z11(N:Nat)(m:Mach)(v_:(Arr 6 Int))(i:Int)(counts:Int):Option ((Arr 6 Int)×Bool):=
 bd (
 r9 N m v_ i counts N 0 v_) fun a=>
 Ex.on a (fun b=>
 some (b,true)) some
def ae(N:Nat)(counts:Int)(b:List Sb):Nat→Int→Option (Ex (Unit) (Ex (Unit) ((List Int)×Int)))
 |0,_=>none
 |c+1,a=>
  bif decide (a<(↑b.length:Int)) then(
  gd (okI b a)<|
  bd (z19 N ((ix b a).fE) counts) fun d=>
  bif d then(
  bd (z0y N ((ix b a).fP)) fun e=>
  some (Ex.rt (Ex.rt (e,0)))) else(
  gd (in64 (a+1))<|
  ae N counts b c (a+1))) else(
  some (Ex.go ()))
def dm(N:Nat)(m:Mach)(counts:Int)(most:Int)(i:List Sb)(j:Int)(e:Int):Nat→Int→(List ((Arr 6 Int)×Bool))→(List Sb)→Option (List ((Arr 6 Int)×Bool)×List Sb)
 |0,_,_,_=>none
 |k+1,a,b,c=>
  bif decide (a<m.inputs) then(
  bd (
  bd (z11 N m ((ix i e).fE) a counts) fun g=>
  bd (z0w N g.1 counts) fun d=>
  bif (g.2&&(!(z3s false b d)))&&(decide (j<most)) then(
  bd (z0y N ((ix i e).fP)) fun f=>
  gd (fits 8 f ([a]:List Int))<|
  gd (fits 40 c ([(⟨d,(f++([a]:List Int))⟩:Sb)]:List Sb))<|
  some ((z5m b d true),(c++([(⟨d,(f++([a]:List Int))⟩:Sb)]:List Sb)))) else(
  some (b,c))) fun h=>
  gd (in64 (a+1))<|
  dm N m counts most i j e k (a+1) h.1 h.2) else(
  some (b,c))
def xz(N:Nat)(m:Mach)(counts:Int)(most:Int)(b:List Sb)(f:Int):Nat→(List Sb)→Int→(List ((Arr 6 Int)×Bool))→Option (List Sb×List ((Arr 6 Int)×Bool))
 |0,_,_,_=>none
 |g+1,c,a,d=>
  bif decide (a<(↑b.length:Int)) then(
  bd (
  gd (okI b a)<|
  dm N m counts most b f a N 0 d c) fun e=>
  gd (in64 (a+1))<|
  xz N m counts most b f g e.2 (a+1) e.1) else(
  some (c,d))
def af(N:Nat)(m:Mach)(counts:Int)(most:Int):Nat→(List Sb)→Int→(List ((Arr 6 Int)×Bool))→Option (Ex (Unit) ((List Int)×Int))
 |0,_,_,_=>none
 |d+1,a,b,e=>
  bif decide (0<(↑a.length:Int)) then(
  bd (
  ae N counts a N 0) fun f=>
  Ex.on f (fun g=>
  bd (
  xz N m counts most a b N ([]:List Sb) 0 e) fun c=>
  gd (in64 (b+1))<|
  af N m counts most d c.1 (b+1) c.2) some) else(
  some (Ex.go ()))
def z1y(N:Nat)(m:Mach)(counts:Int)(most:Int):Option ((List Int)×Int):=
 bd (z4u N (↑m.rows.length:Int)) fun b=>
 bd (z0w N b counts) fun a=>
 gd (okI ([(⟨a,[]⟩:Sb)]:List Sb) 0)<|
 bd (
 af N m counts most N ([(⟨a,[]⟩:Sb)]:List Sb) 0 (z5m ([]:List ((Arr 6 Int)×Bool)) ((ix ([(⟨a,[]⟩:Sb)]:List Sb) 0).fE) true)) fun c=>
 Ex.on c (fun d=>
 some (([]:(List Int)),7)) some
def z04(N:Nat)(m:Mach)(s:Int)(most:Int):Option ((List Int)×Int):=
 bd (z0h N m) fun b=>
 bif decide (b≠0) then(
 some (([]:(List Int)),b)) else(
 bif (((decide (s<0))||(decide ((↑m.rows.length:Int)≤s)))||(decide (most<0)))||(decide (256<most)) then(
 some (([]:(List Int)),1)) else(
 gd (okSh .u16 s)<|
 bd (z1y N m (su .u16 (1:Int) s) most) fun a=>
 some (a.1,a.2)))
def aa(N:Nat)(m:Mach)(most:Int):Option ((List Int)×Int):=
 bd (z0h N m) fun b=>
 bif decide (b≠0) then(
 some (([]:(List Int)),b)) else(
 bif (decide (most<0))||(decide (256<most)) then(
 some (([]:(List Int)),1)) else(
 gd (okSh .u16 (↑m.rows.length:Int))<|
 bd (z1y N m (IntKind.u16.wrap ((su .u16 (1:Int) (↑m.rows.length:Int))-1)) most) fun a=>
 some (a.1,a.2)))
def pg(N:Nat)(m:Mach)(w_:(List Int)):Nat→Int→(List Int)→Int→Option (List Int)
 |0,_,_,_=>none
 |d+1,e,b,a=>
  bif decide (a<(↑w_.length:Int)) then(
  gd (okI w_ a)<|
  bd (z0t N m e (ix w_ a)) fun c=>
  gd (fits 8 b ([c.out]:List Int))<|
  gd (in64 (a+1))<|
  pg N m w_ d c.to (b++([c.out]:List Int)) (a+1)) else(
  some b)
def si(N:Nat)(m:Mach)(s:Int)(w_:(List Int)):Option (List Int):=
 bd (
 pg N m w_ N s ([]:List Int) 0) fun a=>
 some a
def wh(N:Nat)(a:(List Int))(b:(List Int)):Nat→Int→Option (Ex (Unit) (Int))
 |0,_=>none
 |d+1,c=>
  bif decide (c<(↑a.length:Int)) then(
  gd (okI a c)<|
  gd (okI b c)<|
  bif decide ((ix a c)<(ix b c)) then(
  some (Ex.rt (-1))) else(
  gd (okI a c)<|
  gd (okI b c)<|
  bif decide ((ix b c)<(ix a c)) then(
  some (Ex.rt 1)) else(
  gd (in64 (c+1))<|
  wh N a b d (c+1)))) else(
  some (Ex.go ()))
def rz(N:Nat)(a:(List Int))(b:(List Int)):Option Int:=
 bif decide ((↑a.length:Int)≠(↑b.length:Int)) then(
 bif decide ((↑a.length:Int)<(↑b.length:Int)) then(
 some (-1)) else(
 some 1)) else(
 bd (
 wh N a b N 0) fun c=>
 Ex.on c (fun d=>
 some 0) some)
def bg(N:Nat)(a:(List (List Int)))(b:(List (List Int))):Nat→Int→Option (Ex (Unit) (Bool))
 |0,_=>none
 |e+1,c=>
  bif decide (c<(↑a.length:Int)) then(
  gd (okI a c)<|
  gd (okI b c)<|
  bd (rz N (ix a c) (ix b c)) fun d=>
  bif decide (d≠0) then(
  some (Ex.rt false)) else(
  gd (in64 (c+1))<|
  bg N a b e (c+1))) else(
  some (Ex.go ()))
def aj(N:Nat)(a:(List (List Int)))(b:(List (List Int))):Option Bool:=
 bif decide ((↑a.length:Int)≠(↑b.length:Int)) then(
 some false) else(
 bd (
 bg N a b N 0) fun c=>
 Ex.on c (fun d=>
 some true) some)
def ay(N:Nat)(m:Mach)(w_:(List Int))(a:Int)(b:Int):Option Bool:=
 bd (si N m a w_) fun d=>
 bd (si N m b w_) fun e=>
 bd (aj N ([d]:List (List Int)) ([e]:List (List Int))) fun c=>
 some (!c)
def wm(N:Nat)(m:Mach)(w_:(List Int))(s:Int):Nat→Int→Option (Ex (Unit) (Bool))
 |0,_=>none
 |b+1,a=>
  bif decide (a<(↑m.rows.length:Int)) then(
  bd (gop (true&&((decide (a≠s))==true)) (ay N m w_ s a)) fun c=>
  bif (decide (a≠s))&&(!(c.getD default)) then(
  some (Ex.rt false)) else(
  gd (in64 (a+1))<|
  wm N m w_ s b (a+1))) else(
  some (Ex.go ()))
def dz(N:Nat)(m:Mach)(w_:(List Int))(s:Int):Option Bool:=
 bd (
 wm N m w_ s N 0) fun a=>
 Ex.on a (fun b=>
 some true) some
def y5(N:Nat)(m:Mach)(w_:(List Int)):Nat→Int→Option (Ex (Unit) (Bool))
 |0,_=>none
 |b+1,a=>
  bif decide (a<(↑m.rows.length:Int)) then(
  bd (dz N m w_ a) fun c=>
  bif !c then(
  some (Ex.rt false)) else(
  gd (in64 (a+1))<|
  y5 N m w_ b (a+1))) else(
  some (Ex.go ()))
def ax(N:Nat)(m:Mach)(w_:(List Int)):Option Bool:=
 bd (
 y5 N m w_ N 0) fun a=>
 Ex.on a (fun b=>
 some true) some
def z0m(N:Nat)(a:(List Int))(b:(List Int)):Option Bool:=
 bd (aj N ([a]:List (List Int)) ([b]:List (List Int))) fun c=>
 some (c&&(decide ((↑a.length:Int)=(↑a.length:Int))))
def z2n(N:Nat):Option Mach:=
 some (⟨2,2,([([(⟨1,0⟩:Edge),(⟨0,0⟩:Edge)]:List Edge),([(⟨2,0⟩:Edge),(⟨1,1⟩:Edge)]:List Edge),([(⟨0,1⟩:Edge),(⟨2,0⟩:Edge)]:List Edge)]:List (List Edge))⟩:Mach)
def mh(N:Nat)(l_:(Arr 64 Int))(block:Int)(h_:Int):Option Bool:=
 bd (om N block) fun a=>
 gd ((true&&((decide (a<2))==false))=true→okI l_.1 block)<|
 gd (((true&&((decide (a<2))==false))&&((decide (0<(ix l_.1 block)))==true))=true→okI l_.1 block)<|
 some ((decide (a<2))||((decide (0<(ix l_.1 block)))&&(decide ((ix l_.1 block)<h_))))
def sw(N:Nat)(m:Mach)(block:Int)(i:Int):Nat→Int→(Arr 16 Int)→Option (Ex ((Arr 16 Int)) ((Arr 16 Int)×Bool))
 |0,_,_=>none
 |c+1,a,b=>
  bif decide (a<(↑m.rows.length:Int)) then(
  bd (
  gd (okSh .u16 a)<|
  gd (okB .u16 (p9 block a) 1)<|
  bif decide ((z0j (p9 block a) 1)=0) then(
  some (Ex.go b)) else(
  gd (okI m.rows a)<|
  gd (okI (ix m.rows a) i)<|
  gd (okI b.1 ((ix (ix m.rows a) i).out))<|
  gd (okSh .u16 ((ix (ix m.rows a) i).to))<|
  gd (okB .u16 (p9 (ix b.1 ((ix (ix m.rows a) i).out)) ((ix (ix m.rows a) i).to)) 1)<|
  bif decide ((z0j (p9 (ix b.1 ((ix (ix m.rows a) i).out)) ((ix (ix m.rows a) i).to)) 1)=1) then(
  some (Ex.rt (Ex.rt (b,false)))) else(
  gd (okI b.1 ((ix (ix m.rows a) i).out))<|
  gd (okSh .u16 ((ix (ix m.rows a) i).to))<|
  gd (okB .u16 (ix b.1 ((ix (ix m.rows a) i).out)) (su .u16 (1:Int) ((ix (ix m.rows a) i).to)))<|
  gd (okI b.1 ((ix (ix m.rows a) i).out))<|
  some (Ex.go (ah b ((ix (ix m.rows a) i).out) (ior (ix b.1 ((ix (ix m.rows a) i).out)) (su .u16 (1:Int) ((ix (ix m.rows a) i).to)))))))) fun d=>
  Ex.on d (fun e=>
  gd (in64 (a+1))<|
  sw N m block i c (a+1) e) some) else(
  some (Ex.go b))
def z4i(N:Nat)(m:Mach)(block:Int)(i:Int):Option ((Arr 16 Int)×Bool):=
 bd (
 sw N m block i N 0 (mr 16 (List.replicate 16 (0:Int)))) fun a=>
 Ex.on a (fun b=>
 some (b,true)) some
def u6(N:Nat)(l_:(Arr 64 Int))(h_:Int)(c:(Arr 16 Int)×Bool):Nat→Bool→Int→Option Bool
 |0,_,_=>none
 |d+1,b,a=>
  bif decide (a<16) then(
  gd (okI c.1.1 a)<|
  bd (gop (true&&(b==true)) (mh N l_ (ix c.1.1 a) h_)) fun e=>
  gd (in64 (a+1))<|
  u6 N l_ h_ c d (b&&(e.getD default)) (a+1)) else(
  some b)
def mg(N:Nat)(l_:(Arr 64 Int))(m:Mach)(block:Int)(i:Int)(h_:Int):Option Bool:=
 bd (z4i N m block i) fun b=>
 bd (
 u6 N l_ h_ b N b.2 0) fun a=>
 some a
def o9(N:Nat)(m:Mach)(d:Int)(e:(Arr 64 Int))(f:Bool)(a:Int)(b:(Arr 64 Int)):Nat→Int→Option (Bool×(Arr 64 Int))
 |0,_=>none
 |g+1,c=>
  bif decide (c<m.inputs) then(
  bd (mg N e m a c d) fun h=>
  bif h then(
  gd (okI b.1 a)<|
  some (true,(ah b a d))) else(
  gd (in64 (c+1))<|
  o9 N m d e f a b g (c+1))) else(
  some (f,b))
def yc(N:Nat)(m:Mach)(b:Int)(c:(Arr 64 Int)):Nat→Bool→Int→(Arr 64 Int)→Option (Bool×(Arr 64 Int))
 |0,_,_,_=>none
 |g+1,d,a,e=>
  bif decide (a<(su .u16 (1:Int) (↑m.rows.length:Int))) then(
  bd (
  bd (mh N c a b) fun h=>
  bif h then(
  some (d,e)) else(
  o9 N m b c d a e N 0)) fun f=>
  yc N m b c g f.1 (IntKind.u16.wrap (a+1)) f.2) else(
  some (d,e))
def nu(N:Nat)(m:Mach):Nat→Int→Bool→(Arr 64 Int)→Option (Arr 64 Int)
 |0,_,_,_=>none
 |d+1,a,e,b=>
  bif e then(
  bd (
  gd (okSh .u16 (↑m.rows.length:Int))<|
  yc N m a b N false 0 b) fun c=>
  gd (in64 (a+1))<|
  nu N m d (a+1) c.1 c.2) else(
  some b)
def z2s(N:Nat)(m:Mach):Option (Arr 64 Int):=
 bd (
 nu N m N 1 true (mr 64 (List.replicate 64 (0:Int)))) fun a=>
 some a
def xn(N:Nat)(p1_:Mach):Nat→Int→(List Int)→Option (List Int)
 |0,_,_=>none
 |c+1,a,b=>
  bif decide (a<(↑(mk p1_.outputs (0:Int)).length:Int)) then(
  gd (okI b a)<|
  gd (in64 (a+1))<|
  xn N p1_ c (a+1) (up b a (-1))) else(
  some b)
def xq(N:Nat)(now:(List Int)):Nat→Int→Int→Option Int
 |0,_,_=>none
 |c+1,b,a=>
  bif decide (a<(↑now.length:Int)) then(
  gd (okI now a)<|
  gd (okSh .u16 (ix now a))<|
  gd (okB .u16 b (su .u16 (1:Int) (ix now a)))<|
  gd (in64 (a+1))<|
  xq N now c (ior b (su .u16 (1:Int) (ix now a))) (a+1)) else(
  some b)
def og(N:Nat)(p1_:Mach)(p2_:(Arr 64 Int))(b:Int):Nat→Int→Option Int
 |0,_=>none
 |c+1,a=>
  gd (okI p2_.1 b)<|
  bd (mg N p2_ p1_ b a (ix p2_.1 b)) fun d=>
  bif !d then(
  gd (in64 (a+1))<|
  og N p1_ p2_ b c (a+1)) else(
  some a)
def vz(N:Nat)(now:(List Int))(from_:(List Int))(p1_:Mach)(b:Int)(e:Int):Nat→(List Int)→(List Int)→Int→Option (List Int×List Int)
 |0,_,_,_=>none
 |g+1,c,d,a=>
  bif decide (a<(↑now.length:Int)) then(
  bd (
  gd (okI now a)<|
  gd (okI p1_.rows (ix now a))<|
  gd (okI (ix p1_.rows (ix now a)) b)<|
  bif decide (((ix (ix p1_.rows (ix now a)) b).out)=e) then(
  gd (okI p1_.rows (ix now a))<|
  gd (okI (ix p1_.rows (ix now a)) b)<|
  gd (fits 8 c ([(ix (ix p1_.rows (ix now a)) b).to]:List Int))<|
  gd (okI from_ a)<|
  gd (fits 8 d ([(ix from_ a)]:List Int))<|
  some ((c++([(ix (ix p1_.rows (ix now a)) b).to]:List Int)),(d++([(ix from_ a)]:List Int)))) else(
  some (c,d))) fun f=>
  gd (in64 (a+1))<|
  vz N now from_ p1_ b e g f.1 f.2 (a+1)) else(
  some (c,d))
def xm(N:Nat)(self:(List Int)→(List Int)→List Sa→Mach→(Arr 64 Int)→Option (Int×List Sa))(now:(List Int))(from_:(List Int))(p0_:List Sa)(p1_:Mach)(p2_:(Arr 64 Int))(f:List Int)(c:Int):Nat→Int→(List Sa)→Option (List Sa)
 |0,_,_=>none
 |g+1,a,d=>
  bif decide (a<(↑((up (p0_++[(⟨(-1),(-1),f⟩:Sa)]) (↑p0_.length:Int) (⟨c,(ix (p0_++[(⟨(-1),(-1),f⟩:Sa)]) (↑p0_.length:Int)).fD,(ix (p0_++[(⟨(-1),(-1),f⟩:Sa)]) (↑p0_.length:Int)).fC⟩:Sa)).getD p0_.length default).fC.length:Int)) then(
  bd (
  bd (
  vz N now from_ p1_ c a N ([]:List Int) ([]:List Int) 0) fun e=>
  bif decide (0<(↑e.1.length:Int)) then(
  bd (self e.1 e.2 d p1_ p2_) fun b=>
  gd (okI (b.2.getD p0_.length default).fC a)<|
  some (b.2.set p0_.length (⟨(b.2.getD p0_.length default).fB,(b.2.getD p0_.length default).fD,up (b.2.getD p0_.length default).fC a b.1⟩:Sa))) else(
  some d)) fun h=>
  gd (in64 (a+1))<|
  xm N self now from_ p0_ p1_ p2_ f c g (a+1) h) else(
  some d)
def gu(N:Nat):Nat→(List Int)→(List Int)→List Sa→Mach→(Arr 64 Int)→Option (Int×List Sa)
 |0,_,_,_,_,_=>none
 |F+1,now,from_,p0_,p1_,p2_=>
  gd (okM 8 p1_.outputs)<|
  bd (
  xn N p1_ N 0 (mk p1_.outputs (0:Int))) fun a=>
  gd (fits 40 p0_ [(⟨(-1),(-1),a⟩:Sa)])<|
  bif decide ((↑now.length:Int)=1) then(
  gd (okI from_ 0)<|
  gd (okI (p0_++[(⟨(-1),(-1),a⟩:Sa)]) (↑p0_.length:Int))<|
  some ((↑p0_.length:Int),(up (p0_++[(⟨(-1),(-1),a⟩:Sa)]) (↑p0_.length:Int) (⟨(ix (p0_++[(⟨(-1),(-1),a⟩:Sa)]) (↑p0_.length:Int)).fB,(ix from_ 0),(ix (p0_++[(⟨(-1),(-1),a⟩:Sa)]) (↑p0_.length:Int)).fC⟩:Sa)))) else(
  bd (
  xq N now N 0 0) fun d=>
  bd (
  og N p1_ p2_ d N 0) fun b=>
  gd (okI (p0_++[(⟨(-1),(-1),a⟩:Sa)]) (↑p0_.length:Int))<|
  bd (
  xm N (gu N F) now from_ p0_ p1_ p2_ a b N 0 (up (p0_++[(⟨(-1),(-1),a⟩:Sa)]) (↑p0_.length:Int) (⟨b,(ix (p0_++[(⟨(-1),(-1),a⟩:Sa)]) (↑p0_.length:Int)).fD,(ix (p0_++[(⟨(-1),(-1),a⟩:Sa)]) (↑p0_.length:Int)).fC⟩:Sa))) fun c=>
  some ((↑p0_.length:Int),c))
def il(N:Nat)(s:(List Sa)):Option (List Sa):=
 gd (okS s 0 (↑s.length:Int))<|
 some (cut s 0 (↑s.length:Int))
def bq(N:Nat)(m:Mach):Nat→(List Int)→Int→Option (List Int)
 |0,_,_=>none
 |c+1,b,a=>
  bif decide (a<(↑m.rows.length:Int)) then(
  gd (fits 8 b ([a]:List Int))<|
  gd (in64 (a+1))<|
  bq N m c (b++([a]:List Int)) (a+1)) else(
  some b)
def z1d(N:Nat)(m:Mach):Option (Sc×Int):=
 bd (z0h N m) fun f=>
 bif decide (f≠0) then(
 some ((⟨[]⟩:Sc),f)) else(
 bd (z2s N m) fun a=>
 gd (okSh .u16 (↑m.rows.length:Int))<|
 bd (mh N a (IntKind.u16.wrap ((su .u16 (1:Int) (↑m.rows.length:Int))-1)) 64) fun d=>
 bif !d then(
 some ((⟨[]⟩:Sc),7)) else(
 bd (
 bq N m N ([]:List Int) 0) fun b=>
 bd (gu N N b b ([]:List Sa) m a) fun e=>
 bd (il N e.2) fun c=>
 some ((⟨c⟩:Sc),0)))
def z1i(N:Nat)(input:Int)(next:(List Int)):Option Sa:=
 some (⟨input,(-1),next⟩:Sa)
def z0q(N:Nat)(s:Int):Option Sa:=
 some (⟨(-1),s,([(-1),(-1)]:List Int)⟩:Sa)
def z0r(N:Nat)(t:Sc)(outputs:(List Int)):Nat→Int→Int→Option (Ex (Int) (Int×Int))
 |0,_,_=>none
 |c+1,b,a=>
  bif decide (a<(↑outputs.length:Int)) then(
  gd (okI outputs a)<|
  gd (okI t.fA b)<|
  bif decide (((ix t.fA b).fB)=(-1)) then(
  some (Ex.rt (0,16))) else(
  gd ((true&&(((decide ((ix outputs a)<0))||(decide ((↑((ix t.fA b).fC).length:Int)≤(ix outputs a))))==false))=true→okI ((ix t.fA b).fC) (ix outputs a))<|
  gd ((true&&((((decide ((ix outputs a)<0))||(decide ((↑((ix t.fA b).fC).length:Int)≤(ix outputs a))))||(decide ((ix ((ix t.fA b).fC) (ix outputs a))<0)))==false))=true→okI ((ix t.fA b).fC) (ix outputs a))<|
  bif (((decide ((ix outputs a)<0))||(decide ((↑((ix t.fA b).fC).length:Int)≤(ix outputs a))))||(decide ((ix ((ix t.fA b).fC) (ix outputs a))<0)))||(decide ((↑t.fA.length:Int)≤(ix ((ix t.fA b).fC) (ix outputs a)))) then(
  some (Ex.rt (0,7))) else(
  gd (okI ((ix t.fA b).fC) (ix outputs a))<|
  gd (in64 (a+1))<|
  z0r N t outputs c (ix ((ix t.fA b).fC) (ix outputs a)) (a+1)))) else(
  some (Ex.go b))
def z2g(N:Nat)(t:Sc)(outputs:(List Int)):Option (Int×Int):=
 bif decide ((↑t.fA.length:Int)=0) then(
 some (0,4)) else(
 bd (
 z0r N t outputs N 0 0) fun b=>
 Ex.on b (fun a=>
 gd (okI t.fA a)<|
 bif decide (((ix t.fA a).fB)=(-1)) then(
 some (((ix t.fA a).fD),0)) else(
 some (0,16))) some)
def rq(N:Nat)(a:Sc)(b:Sc):Nat→Int→Option (Ex (Unit) (Bool))
 |0,_=>none
 |d+1,c=>
  bif decide (c<(↑a.fA.length:Int)) then(
  gd (okI a.fA c)<|
  gd (okI b.fA c)<|
  gd ((true&&((decide (((ix a.fA c).fB)≠((ix b.fA c).fB)))==false))=true→okI a.fA c)<|
  gd ((true&&((decide (((ix a.fA c).fB)≠((ix b.fA c).fB)))==false))=true→okI b.fA c)<|
  gd ((true&&(((decide (((ix a.fA c).fB)≠((ix b.fA c).fB)))||(decide (((ix a.fA c).fD)≠((ix b.fA c).fD))))==false))=true→okI a.fA c)<|
  gd ((true&&(((decide (((ix a.fA c).fB)≠((ix b.fA c).fB)))||(decide (((ix a.fA c).fD)≠((ix b.fA c).fD))))==false))=true→okI b.fA c)<|
  bd (gop (true&&(((decide (((ix a.fA c).fB)≠((ix b.fA c).fB)))||(decide (((ix a.fA c).fD)≠((ix b.fA c).fD))))==false)) (aj N ([(ix a.fA c).fC]:List (List Int)) ([(ix b.fA c).fC]:List (List Int)))) fun e=>
  bif ((decide (((ix a.fA c).fB)≠((ix b.fA c).fB)))||(decide (((ix a.fA c).fD)≠((ix b.fA c).fD))))||(!(e.getD default)) then(
  some (Ex.rt false)) else(
  gd (in64 (c+1))<|
  rq N a b d (c+1))) else(
  some (Ex.go ()))
def z3t(N:Nat)(a:Sc)(b:Sc):Option Bool:=
 bif decide ((↑a.fA.length:Int)≠(↑b.fA.length:Int)) then(
 some false) else(
 bd (
 rq N a b N 0) fun c=>
 Ex.on c (fun d=>
 some true) some)
def z1p(N:Nat)(t:Sc)(a:Int):Nat→Int→(List Int)→Option (Ex (List Int) (Ex (List Int) (Int)))
 |0,_,_=>none
 |d+1,b,c=>
  bif decide (b<(↑((ix t.fA a).fC).length:Int)) then(
  bd (
  gd (okI ((ix t.fA a).fC) b)<|
  bif decide ((ix ((ix t.fA a).fC) b)=(-1)) then(
  some (Ex.go c)) else(
  bif (decide ((ix ((ix t.fA a).fC) b)≤a))||(decide ((↑t.fA.length:Int)≤(ix ((ix t.fA a).fC) b))) then(
  some (Ex.rt (Ex.rt (Ex.rt 0)))) else(
  gd (okI c a)<|
  gd (okI c (ix ((ix t.fA a).fC) b))<|
  gd (in64 ((ix c (ix ((ix t.fA a).fC) b))+1))<|
  gd (okI c a)<|
  some (Ex.go (up c a (max (ix c a) ((ix c (ix ((ix t.fA a).fC) b))+1))))))) fun e=>
  Ex.on e (fun f=>
  gd (in64 (b+1))<|
  z1p N t a d (b+1) f) some) else(
  some (Ex.go c))
def z1k(N:Nat)(t:Sc):Nat→Int→(List Int)→Option (Ex (List Int) (Int))
 |0,_,_=>none
 |c+1,a,b=>
  bif decide (0≤a) then(
  bd (
  gd (okI t.fA a)<|
  z1p N t a N 0 b) fun d=>
  Ex.on d (fun e=>
  gd (in64 (a-1))<|
  z1k N t c (a-1) e) some) else(
  some (Ex.go b))
def z8h(N:Nat)(t:Sc):Option Int:=
 gd (okM 8 (↑t.fA.length:Int))<|
 bd (
 gd (in64 ((↑t.fA.length:Int)-1))<|
 z1k N t N ((↑t.fA.length:Int)-1) (mk (↑t.fA.length:Int) (0:Int))) fun b=>
 Ex.on b (fun a=>
 bif decide ((↑a.length:Int)=0) then(
 some 0) else(
 gd (okI a 0)<|
 some (ix a 0))) some
def z0d(N:Nat):Option Bool:=
 bd (z2n N) fun b=>
 bd (z04 N (⟨b.inputs,b.outputs,b.rows⟩:Mach) 2 3) fun e=>
 bd (z04 N (⟨b.inputs,b.outputs,b.rows⟩:Mach) 0 3) fun f=>
 bd (z04 N (⟨b.inputs,b.outputs,b.rows⟩:Mach) 0 1) fun n=>
 bd (aa N (⟨b.inputs,b.outputs,b.rows⟩:Mach) 3) fun g=>
 bd (aa N (⟨b.inputs,b.outputs,b.rows⟩:Mach) 1) fun o=>
 bd (gop (true&&((((((decide (e.2≠0))||(decide (f.2≠0)))||(decide (n.2≠7)))||(decide (g.2≠0)))||(decide (o.2≠7)))==false)) (z0m N e.1 ([0]:List Int))) fun r=>
 bd (gop (true&&(((((((decide (e.2≠0))||(decide (f.2≠0)))||(decide (n.2≠7)))||(decide (g.2≠0)))||(decide (o.2≠7)))||(!(r.getD default)))==false)) (z0m N f.1 ([0,0]:List Int))) fun p=>
 bd (gop (true&&((((((((decide (e.2≠0))||(decide (f.2≠0)))||(decide (n.2≠7)))||(decide (g.2≠0)))||(decide (o.2≠7)))||(!(r.getD default)))||(!(p.getD default)))==false)) (z0m N g.1 ([0,0]:List Int))) fun s=>
 bif (((((((decide (e.2≠0))||(decide (f.2≠0)))||(decide (n.2≠7)))||(decide (g.2≠0)))||(decide (o.2≠7)))||(!(r.getD default)))||(!(p.getD default)))||(!(s.getD default)) then(
 some false) else(
 bd (z1d N (⟨b.inputs,b.outputs,b.rows⟩:Mach)) fun a=>
 bd (z1i N 0 ([1,4]:List Int)) fun h=>
 bd (z1i N 0 ([2,3]:List Int)) fun i=>
 bd (z0q N 0) fun j=>
 bd (z0q N 1) fun k=>
 bd (z0q N 2) fun l=>
 bd (z2g N (⟨a.1.fA⟩:Sc) ([0,1]:List Int)) fun c=>
 bd (z2g N (⟨a.1.fA⟩:Sc) ([1]:List Int)) fun d=>
 bd (z2g N (⟨a.1.fA⟩:Sc) ([0]:List Int)) fun m=>
 bd (gop (true&&(((((decide (a.2=0))&&(decide (c.2=0)))&&(decide (d.2=0)))&&(decide (m.2=16)))==true)) (z3t N (⟨a.1.fA⟩:Sc) (⟨([(⟨h.fB,h.fD,h.fC⟩:Sa),(⟨i.fB,i.fD,i.fC⟩:Sa),(⟨j.fB,j.fD,j.fC⟩:Sa),(⟨k.fB,k.fD,k.fC⟩:Sa),(⟨l.fB,l.fD,l.fC⟩:Sa)]:List Sa)⟩:Sc))) fun q=>
 bd (gop (true&&((((((decide (a.2=0))&&(decide (c.2=0)))&&(decide (d.2=0)))&&(decide (m.2=16)))&&(q.getD default))==true)) (z8h N (⟨a.1.fA⟩:Sc))) fun t=>
 some ((((((((decide (a.2=0))&&(decide (c.2=0)))&&(decide (d.2=0)))&&(decide (m.2=16)))&&(q.getD default))&&(decide ((t.getD default)=2)))&&(decide (c.1=1)))&&(decide (d.1=2))))
def yf(N:Nat)(s:(List Int))(f:Int→Option Bool):Nat→Int→Option (Ex (Unit) (Int))
 |0,_=>none
 |c+1,a=>
  bif decide (a<(↑s.length:Int)) then(
  gd (okI s a)<|
  bd (f (ix s a)) fun b=>
  bif b then(
  some (Ex.rt a)) else(
  gd (in64 (a+1))<|
  yf N s f c (a+1))) else(
  some (Ex.go ()))
def lc(N:Nat)(s:(List Int))(f:Int→Option Bool):Option Int:=
 bd (
 yf N s f N 0) fun a=>
 Ex.on a (fun b=>
 some (-1)) some
def ig(N:Nat)(s:(List Int))(f:Int→Option Bool):Option Bool:=
 bd (lc N s f) fun a=>
 some (decide (0≤a))
def z7g(N:Nat)(k:Int):Option Bool:=
 some (decide (k≠(-1)))
def z3e(N:Nat)(m:Mach)(n:Sa):Option Bool:=
 bif decide ((↑n.fC.length:Int)≠m.outputs) then(
 some false) else(
 bif decide (n.fB=(-1)) then(
 bd (ig N n.fC (fun b=>z7g N b)) fun a=>
 some (((!a)&&(decide (0≤n.fD)))&&(decide (n.fD<(↑m.rows.length:Int))))) else(
 some (((decide (0≤n.fB))&&(decide (n.fB<m.inputs)))&&(decide (n.fD=(-1))))))
def z1j(N:Nat)(s:(List Int)):Option (List Int):=
 some s
def gy(N:Nat)(σ:Type)(B:(Int×Int)→σ→Option (Bool×σ))(p0_:(List Int)):Nat→σ→Int→Option σ
 |0,_,_=>none
 |d+1,c,b=>
  bif decide (0≤b) then(
  gd (okI p0_ b)<|
  bd (B (b,(ix p0_ b)) c) fun a=>
  bif !a.1 then(
  some a.2) else(
  gd (in64 (b-1))<|
  gy N σ B p0_ d a.2 (b-1))) else(
  some c)
def fe(N:Nat)(p0_:(List Int))(σ:Type)(B:(Int×Int)→σ→Option (Bool×σ))(s0:σ):Option σ:=
 gd (in64 ((↑p0_.length:Int)-1))<|
 gy N σ B p0_ N s0 ((↑p0_.length:Int)-1)
def l8(N:Nat)(m:Mach)(l_:(List Sa)):Nat→Int→(List Int)→Option (Ex (List Int) (Bool))
 |0,_,_=>none
 |e+1,b,a=>
  bif decide (b<(↑l_.length:Int)) then(
  gd (okI l_ b)<|
  gd ((true&&((decide ((↑a.length:Int)=0))==false))=true→in64 ((↑a.length:Int)-1))<|
  gd ((true&&((decide ((↑a.length:Int)=0))==false))=true→okI a ((↑a.length:Int)-1))<|
  bd (gop (true&&(((decide ((↑a.length:Int)=0))||(decide ((ix a ((↑a.length:Int)-1))≠b)))==false)) (z3e N m (⟨(ix l_ b).fB,(ix l_ b).fD,(ix l_ b).fC⟩:Sa))) fun f=>
  bif ((decide ((↑a.length:Int)=0))||(decide ((ix a ((↑a.length:Int)-1))≠b)))||(!(f.getD default)) then(
  some (Ex.rt false)) else(
  gd (in64 ((↑a.length:Int)-1))<|
  gd (okS a 0 ((↑a.length:Int)-1))<|
  bd (z1j N ((ix l_ b).fC)) fun g=>
  bd (fe N g (List Int) (fun c d=>
  bif decide (c.2≠(-1)) then(
  gd (fits 8 d ([c.2]:List Int))<|
  some (true,(d++([c.2]:List Int)))) else(
  some (true,d))) (cut a 0 ((↑a.length:Int)-1))) fun h=>
  gd (in64 (b+1))<|
  l8 N m l_ e (b+1) h)) else(
  some (Ex.go a))
def z6c(N:Nat)(m:Mach)(l_:(List Sa)):Option Bool:=
 bd (
 l8 N m l_ N 0 ([0]:List Int)) fun a=>
 Ex.on a (fun b=>
 some (decide ((↑b.length:Int)=0))) some
def z2c(N:Nat)(m:Mach)(t:Sc):Nat→Int→Int→Option Int
 |0,_,_=>none
 |c+1,b,a=>
  gd ((true&&((decide (a≠(-1)))==true))=true→okI t.fA a)<|
  bif (decide (a≠(-1)))&&(decide (((ix t.fA a).fB)≠(-1))) then(
  gd (okI m.rows b)<|
  gd (okI t.fA a)<|
  gd (okI (ix m.rows b) ((ix t.fA a).fB))<|
  gd (okI t.fA a)<|
  gd (okI ((ix t.fA a).fC) ((ix (ix m.rows b) ((ix t.fA a).fB)).out))<|
  z2c N m t c ((ix (ix m.rows b) ((ix t.fA a).fB)).to) (ix ((ix t.fA a).fC) ((ix (ix m.rows b) ((ix t.fA a).fB)).out))) else(
  some a)
def z2a(N:Nat)(m:Mach)(t:Sc):Nat→Int→Option (Ex (Unit) (Int))
 |0,_=>none
 |c+1,a=>
  bif decide (a<(↑m.rows.length:Int)) then(
  bd (
  z2c N m t N a 0) fun b=>
  gd ((true&&((decide (b=(-1)))==false))=true→okI t.fA b)<|
  bif (decide (b=(-1)))||(decide (((ix t.fA b).fD)≠a)) then(
  some (Ex.rt 19)) else(
  gd (in64 (a+1))<|
  z2a N m t c (a+1))) else(
  some (Ex.go ()))
def z0f(N:Nat)(m:Mach)(t:Sc):Option Int:=
 bd (z0h N m) fun a=>
 bif decide (a≠0) then(
 some a) else(
 bd (gop (true&&((decide (1024<(↑t.fA.length:Int)))==false)) (z6c N m t.fA)) fun b=>
 bif (decide (1024<(↑t.fA.length:Int)))||(!(b.getD default)) then(
 some 4) else(
 bd (
 z2a N m t N 0) fun c=>
 Ex.on c (fun d=>
 some 0) some))
def gp(N:Nat)(m:Mach):Nat→Int→Option (Ex (Unit) (Int))
 |0,_=>none
 |b+1,a=>
  bif decide (a<(↑m.rows.length:Int)) then(
  gd (okI m.rows a)<|
  bif decide (4<(↑(ix m.rows a).length:Int)) then(
  some (Ex.rt 1)) else(
  gd (in64 (a+1))<|
  gp N m b (a+1))) else(
  some (Ex.go ()))
def z08(N:Nat)(m:Mach):Option Int:=
 bif decide (8<(↑m.rows.length:Int)) then(
 some 1) else(
 bd (
 gp N m N 0) fun a=>
 Ex.on a (fun b=>
 some 0) some)
def wz(N:Nat)(m:Mach)(b:Int):Nat→Int→Option (Ex (Unit) (Ex (Unit) (Int)))
 |0,_=>none
 |c+1,a=>
  bif decide (a<m.inputs) then(
  bd (
  gd (okI m.rows b)<|
  gd (okI (ix m.rows b) a)<|
  bif (decide (((ix (ix m.rows b) a).to)=(-1)))&&(decide (((ix (ix m.rows b) a).out)=(-1))) then(
  some (Ex.go ())) else(
  bif (((decide (((ix (ix m.rows b) a).to)<0))||(decide ((↑m.rows.length:Int)≤((ix (ix m.rows b) a).to))))||(decide (((ix (ix m.rows b) a).out)<0)))||(decide (m.outputs≤((ix (ix m.rows b) a).out))) then(
  some (Ex.rt (Ex.rt (Ex.rt 1)))) else(
  some (Ex.go ())))) fun d=>
  Ex.on d (fun e=>
  gd (in64 (a+1))<|
  wz N m b c (a+1)) some) else(
  some (Ex.go ()))
def uj(N:Nat)(m:Mach):Nat→Int→Option (Ex (Unit) (Int))
 |0,_=>none
 |b+1,a=>
  bif decide (a<(↑m.rows.length:Int)) then(
  bd (
  gd (okI m.rows a)<|
  bif decide ((↑(ix m.rows a).length:Int)≠m.inputs) then(
  some (Ex.rt (Ex.rt 1))) else(
  wz N m a N 0)) fun c=>
  Ex.on c (fun d=>
  gd (in64 (a+1))<|
  uj N m b (a+1)) some) else(
  some (Ex.go ()))
def z0a(N:Nat)(m:Mach):Option Int:=
 bif ((decide (16<m.inputs))||(decide (16<m.outputs)))||(decide (64<(↑m.rows.length:Int))) then(
 some 3) else(
 bif ((decide (m.inputs<1))||(decide (m.outputs<1)))||(decide ((↑m.rows.length:Int)=0)) then(
 some 1) else(
 bd (
 uj N m N 0) fun a=>
 Ex.on a (fun b=>
 some 0) some))
def ww(N:Nat)(m:Mach)(b:Int):Nat→Int→Int→Option Int
 |0,_,_=>none
 |d+1,c,a=>
  bif decide (a<m.inputs) then(
  bd (
  gd (okI m.rows b)<|
  gd (okI (ix m.rows b) a)<|
  bif decide (0≤((ix (ix m.rows b) a).to)) then(
  gd (in64 (c+1))<|
  some (c+1)) else(
  some c)) fun e=>
  gd (in64 (a+1))<|
  ww N m b d e (a+1)) else(
  some c)
def xc(N:Nat)(m:Mach):Nat→Int→Int→Option Int
 |0,_,_=>none
 |d+1,b,a=>
  bif decide (a<(↑m.rows.length:Int)) then(
  bd (
  ww N m a N b 0) fun c=>
  gd (in64 (a+1))<|
  xc N m d c (a+1)) else(
  some b)
def ru(N:Nat)(m:Mach):Option Int:=
 bd (
 xc N m N 0 0) fun a=>
 some a
def iw(N:Nat)(m:Mach):Option Bool:=
 bd (ru N m) fun a=>
 gd (in64 ((↑m.rows.length:Int)*m.inputs))<|
 some (decide (a=((↑m.rows.length:Int)*m.inputs)))
def ul(N:Nat)(b:(List Bool)):Nat→Int→Option (Ex (Unit) (Bool))
 |0,_=>none
 |c+1,a=>
  bif decide (a<(↑b.length:Int)) then(
  gd (okI b a)<|
  bif !(ix b a) then(
  some (Ex.rt false)) else(
  gd (in64 (a+1))<|
  ul N b c (a+1))) else(
  some (Ex.go ()))
def ak(N:Nat)(m:Mach):Option Bool:=
 bd (oo N m 0) fun b=>
 bd (
 ul N b N 0) fun a=>
 Ex.on a (fun c=>
 some true) some
def yl(N:Nat)(a:(List Int))(c:Int):Nat→Int→Option (Ex (Unit) (Ex (Unit) (Int)))
 |0,_=>none
 |d+1,b=>
  bif decide (b<c) then(
  gd (okI a c)<|
  gd (okI a b)<|
  bif decide ((ix a c)=(ix a b)) then(
  some (Ex.rt (Ex.rt 12))) else(
  gd (in64 (b+1))<|
  yl N a c d (b+1))) else(
  some (Ex.go ()))
def yj(N:Nat)(b:(List Int)):Nat→Int→Option (Ex (Unit) (Int))
 |0,_=>none
 |c+1,a=>
  bif decide (a<(↑b.length:Int)) then(
  bd (
  yl N b a N 0) fun d=>
  Ex.on d (fun e=>
  gd (in64 (a+1))<|
  yj N b c (a+1)) some) else(
  some (Ex.go ()))
def lg(N:Nat)(m:Mach):Option Int:=
 bd (z0a N m) fun e=>
 bif decide (e≠0) then(
 some e) else(
 bd (iw N m) fun a=>
 bif !a then(
 some 9) else(
 bd (ak N m) fun b=>
 bif !b then(
 some 11) else(
 bd (fo N m) fun c=>
 bd (
 yj N c N 0) fun d=>
 Ex.on d (fun f=>
 some 0) some)))
def z09(N:Nat)(m:Mach):Option Int:=
 bd (lg N m) fun a=>
 bif decide (a≠0) then(
 some a) else(
 bif decide (6<(↑m.rows.length:Int)) then(
 some 3) else(
 some 0))
def ib(N:Nat)(m:Mach)(s:Int)(most:Int):Option Bool:=
 bd (z08 N m) fun j=>
 bif (decide (j≠0))||((decide (4<most))&&(decide (most≤256))) then(
 some true) else(
 bd (z09 N m) fun a=>
 bd (z04 N m s most) fun b=>
 bd (aa N m most) fun c=>
 bd (z1d N m) fun d=>
 bd (z0f N m (⟨([]:(List Sa))⟩:Sc)) fun e=>
 bif decide (a≠0) then(
 gd ((true&&(((((decide (b.2=a))&&(decide (c.2=a)))&&(decide (d.2=a)))&&(decide (e=a)))==true))=true→in64 ((↑b.1.length:Int)+(↑c.1.length:Int)))<|
 gd ((true&&(((((decide (b.2=a))&&(decide (c.2=a)))&&(decide (d.2=a)))&&(decide (e=a)))==true))=true→in64 (((↑b.1.length:Int)+(↑c.1.length:Int))+(↑d.1.fA.length:Int)))<|
 bd (gop (true&&((((((decide (b.2=a))&&(decide (c.2=a)))&&(decide (d.2=a)))&&(decide (e=a)))&&(decide ((((↑b.1.length:Int)+(↑c.1.length:Int))+(↑d.1.fA.length:Int))=0)))==true)) (z0d N)) fun g=>
 some ((((((decide (b.2=a))&&(decide (c.2=a)))&&(decide (d.2=a)))&&(decide (e=a)))&&(decide ((((↑b.1.length:Int)+(↑c.1.length:Int))+(↑d.1.fA.length:Int))=0)))&&(g.getD default))) else(
 bif (decide (e≠4))||((decide (d.2≠0))&&(decide (d.2≠7))) then(
 some false) else(
 bif (decide (((decide (most<0))||(decide (256<most)))≠(decide (c.2=1))))||(decide (((((decide (most<0))||(decide (256<most)))||(decide (s<0)))||(decide ((↑m.rows.length:Int)≤s)))≠(decide (b.2=1)))) then(
 some false) else(
 bd (gop (true&&((decide (b.2=0))==true)) (dz N m b.1 s)) fun f=>
 bd (gop ((true&&(((decide (b.2=0))&&(!(f.getD default)))==false))&&((decide (c.2=0))==true)) (ax N m c.1)) fun h=>
 bif ((decide (b.2=0))&&(!(f.getD default)))||((decide (c.2=0))&&(!(h.getD default))) then(
 some false) else(
 bd (gop (true&&((((decide (b.2=0))||(decide ((↑b.1.length:Int)=0)))&&((decide (c.2=0))||(decide ((↑c.1.length:Int)=0))))==true)) (z0d N)) fun i=>
 some ((((decide (b.2=0))||(decide ((↑b.1.length:Int)=0)))&&((decide (c.2=0))||(decide ((↑c.1.length:Int)=0))))&&(i.getD default)))))))
end GV
end Go.Proofs.Ytnnobdkjgafdmaa
