import Derived.Test.YtkkcidhcfkmbjaaGreatDoorShTypes
set_option linter.unusedVariables false
set_option linter.unusedSimpArgs false
set_option linter.unusedSectionVars false
namespace Go.Proofs.YtkkcidhcfkmbjaaGreatDoor
namespace GV
set_option maxRecDepth 100000
def wh(N:Nat)(x:MDat)(c:Int):Nat→(List Edge)→Int→Option (List Edge)
 |0,_,_=>none
 |e+1,d,b=>
  bif decide (b<((1:Int)+(x.ins%3))) then(
  bd (
  bd (
  gd (in64 (c*((1:Int)+(x.ins%3))))<|
  gd (in64 ((c*((1:Int)+(x.ins%3)))+b))<|
  bif decide (((c*((1:Int)+(x.ins%3)))+b)<(↑x.edges.length:Int)) then(
  gd (okI x.edges ((c*((1:Int)+(x.ins%3)))+b))<|
  gd (in64 (ix x.edges ((c*((1:Int)+(x.ins%3)))+b)))<|
  some (ix x.edges ((c*((1:Int)+(x.ins%3)))+b))) else(
  some 0)) fun a=>
  gd ((true&&(x.part==true))=true→okR a 4)<|
  bif x.part&&(decide ((a%4)=3)) then(
  gd (fits 16 d ([(⟨(-1),(-1)⟩:Edge)]:List Edge))<|
  some (d++([(⟨(-1),(-1)⟩:Edge)]:List Edge))) else(
  gd (okQ a 4)<|
  gd (okR (a/4) ((1:Int)+(x.states%6)))<|
  gd (okQ a 4)<|
  gd (okQ (a/4) ((1:Int)+(x.states%6)))<|
  gd (okR ((a/4)/((1:Int)+(x.states%6))) ((1:Int)+(x.outs%3)))<|
  gd (fits 16 d ([(⟨(a/4)%((1:Int)+(x.states%6)),((a/4)/((1:Int)+(x.states%6)))%((1:Int)+(x.outs%3))⟩:Edge)]:List Edge))<|
  some (d++([(⟨(a/4)%((1:Int)+(x.states%6)),((a/4)/((1:Int)+(x.states%6)))%((1:Int)+(x.outs%3))⟩:Edge)]:List Edge)))) fun f=>
  gd (in64 (b+1))<|
  wh N x c e f (b+1)) else(
  some d)
def wz(N:Nat)(x:MDat):Nat→Int→(List (List Edge))→Option (List (List Edge))
 |0,_,_=>none
 |d+1,a,b=>
  bif decide (a<((1:Int)+(x.states%6))) then(
  bd (
  wh N x a N ([]:List Edge) 0) fun c=>
  gd (fits 24 b ([c]:List (List Edge)))<|
  gd (in64 (a+1))<|
  wz N x d (a+1) (b++([c]:List (List Edge)))) else(
  some b)
def ny(N:Nat)(x:MDat):Option Mach:=
 gd (okR x.states 6)<|
 gd (in64 (x.states%6))<|
 gd (in64 ((1:Int)+(x.states%6)))<|
 gd (okR x.ins 3)<|
 gd (in64 (x.ins%3))<|
 gd (in64 ((1:Int)+(x.ins%3)))<|
 gd (okR x.outs 3)<|
 gd (in64 (x.outs%3))<|
 gd (in64 ((1:Int)+(x.outs%3)))<|
 bd (
 wz N x N 0 ([]:List (List Edge))) fun a=>
 some (⟨(1:Int)+(x.ins%3),(1:Int)+(x.outs%3),a⟩:Mach)
def iw(N:Nat)(x:Sc):Option Sb:=
 bd (ny N x.fD) fun a=>
 gd (okR x.fA 3)<|
 gd (okI ([([109]:List UInt8),([76,97,109,112,95,50]:List UInt8),([97,98,99,100,101,102,103,104,105,106,107,108,109,110,111,112]:List UInt8)]:List (List UInt8)) (x.fA%3))<|
 gd (3≠(0:Int))<|
 gd (okR (IntKind.u8.wrap (Int.tdiv x.fA 3)) 3)<|
 gd (okI ([([([97]:List UInt8),([98]:List UInt8),([99]:List UInt8)]:List (List UInt8)),([([112,114,101,115,115]:List UInt8),([116,105,99,107]:List UInt8),([115,48]:List UInt8)]:List (List UInt8)),([([69,110,100]:List UInt8),([120]:List UInt8),([73,110,112,117,116,115]:List UInt8)]:List (List UInt8))]:List (List (List UInt8))) ((IntKind.u8.wrap (Int.tdiv x.fA 3))%3))<|
 gd (9≠(0:Int))<|
 gd (okR (IntKind.u8.wrap (Int.tdiv x.fA 9)) 3)<|
 gd (okI ([([([120]:List UInt8),([121]:List UInt8),([122]:List UInt8)]:List (List UInt8)),([([97]:List UInt8),([111,110]:List UInt8),([111,102,102]:List UInt8)]:List (List UInt8)),([([111,49]:List UInt8),([111,49,48]:List UInt8),([111]:List UInt8)]:List (List UInt8))]:List (List (List UInt8))) ((IntKind.u8.wrap (Int.tdiv x.fA 9))%3))<|
 gd (27≠(0:Int))<|
 gd (okR (IntKind.u8.wrap (Int.tdiv x.fA 27)) 3)<|
 gd (okI ([([([115,48]:List UInt8),([115,49]:List UInt8),([115,50]:List UInt8),([115,51]:List UInt8),([115,52]:List UInt8),([115,53]:List UInt8)]:List (List UInt8)),([([97]:List UInt8),([98]:List UInt8),([99]:List UInt8),([120]:List UInt8),([121]:List UInt8),([122]:List UInt8)]:List (List UInt8)),([([105,100,108,101]:List UInt8),([73,100,108,101]:List UInt8),([73,68,76,69]:List UInt8),([105,95]:List UInt8),([105,95,95]:List UInt8),([105,48]:List UInt8)]:List (List UInt8))]:List (List (List UInt8))) ((IntKind.u8.wrap (Int.tdiv x.fA 27))%3))<|
 gd (okS (ix ([([([97]:List UInt8),([98]:List UInt8),([99]:List UInt8)]:List (List UInt8)),([([112,114,101,115,115]:List UInt8),([116,105,99,107]:List UInt8),([115,48]:List UInt8)]:List (List UInt8)),([([69,110,100]:List UInt8),([120]:List UInt8),([73,110,112,117,116,115]:List UInt8)]:List (List UInt8))]:List (List (List UInt8))) ((IntKind.u8.wrap (Int.tdiv x.fA 3))%3)) 0 a.inputs)<|
 gd (fits 16 ([]:List (List UInt8)) (cut (ix ([([([97]:List UInt8),([98]:List UInt8),([99]:List UInt8)]:List (List UInt8)),([([112,114,101,115,115]:List UInt8),([116,105,99,107]:List UInt8),([115,48]:List UInt8)]:List (List UInt8)),([([69,110,100]:List UInt8),([120]:List UInt8),([73,110,112,117,116,115]:List UInt8)]:List (List UInt8))]:List (List (List UInt8))) ((IntKind.u8.wrap (Int.tdiv x.fA 3))%3)) 0 a.inputs))<|
 gd (okS (ix ([([([120]:List UInt8),([121]:List UInt8),([122]:List UInt8)]:List (List UInt8)),([([97]:List UInt8),([111,110]:List UInt8),([111,102,102]:List UInt8)]:List (List UInt8)),([([111,49]:List UInt8),([111,49,48]:List UInt8),([111]:List UInt8)]:List (List UInt8))]:List (List (List UInt8))) ((IntKind.u8.wrap (Int.tdiv x.fA 9))%3)) 0 a.outputs)<|
 gd (fits 16 ([]:List (List UInt8)) (cut (ix ([([([120]:List UInt8),([121]:List UInt8),([122]:List UInt8)]:List (List UInt8)),([([97]:List UInt8),([111,110]:List UInt8),([111,102,102]:List UInt8)]:List (List UInt8)),([([111,49]:List UInt8),([111,49,48]:List UInt8),([111]:List UInt8)]:List (List UInt8))]:List (List (List UInt8))) ((IntKind.u8.wrap (Int.tdiv x.fA 9))%3)) 0 a.outputs))<|
 gd (okS (ix ([([([115,48]:List UInt8),([115,49]:List UInt8),([115,50]:List UInt8),([115,51]:List UInt8),([115,52]:List UInt8),([115,53]:List UInt8)]:List (List UInt8)),([([97]:List UInt8),([98]:List UInt8),([99]:List UInt8),([120]:List UInt8),([121]:List UInt8),([122]:List UInt8)]:List (List UInt8)),([([105,100,108,101]:List UInt8),([73,100,108,101]:List UInt8),([73,68,76,69]:List UInt8),([105,95]:List UInt8),([105,95,95]:List UInt8),([105,48]:List UInt8)]:List (List UInt8))]:List (List (List UInt8))) ((IntKind.u8.wrap (Int.tdiv x.fA 27))%3)) 0 (↑a.rows.length:Int))<|
 gd (fits 16 ([]:List (List UInt8)) (cut (ix ([([([115,48]:List UInt8),([115,49]:List UInt8),([115,50]:List UInt8),([115,51]:List UInt8),([115,52]:List UInt8),([115,53]:List UInt8)]:List (List UInt8)),([([97]:List UInt8),([98]:List UInt8),([99]:List UInt8),([120]:List UInt8),([121]:List UInt8),([122]:List UInt8)]:List (List UInt8)),([([105,100,108,101]:List UInt8),([73,100,108,101]:List UInt8),([73,68,76,69]:List UInt8),([105,95]:List UInt8),([105,95,95]:List UInt8),([105,48]:List UInt8)]:List (List UInt8))]:List (List (List UInt8))) ((IntKind.u8.wrap (Int.tdiv x.fA 27))%3)) 0 (↑a.rows.length:Int)))<|
 some (⟨(ix ([([109]:List UInt8),([76,97,109,112,95,50]:List UInt8),([97,98,99,100,101,102,103,104,105,106,107,108,109,110,111,112]:List UInt8)]:List (List UInt8)) (x.fA%3)),(⟨a.inputs,a.outputs,a.rows⟩:Mach),(([]:List (List UInt8))++(cut (ix ([([([97]:List UInt8),([98]:List UInt8),([99]:List UInt8)]:List (List UInt8)),([([112,114,101,115,115]:List UInt8),([116,105,99,107]:List UInt8),([115,48]:List UInt8)]:List (List UInt8)),([([69,110,100]:List UInt8),([120]:List UInt8),([73,110,112,117,116,115]:List UInt8)]:List (List UInt8))]:List (List (List UInt8))) ((IntKind.u8.wrap (Int.tdiv x.fA 3))%3)) 0 a.inputs)),(([]:List (List UInt8))++(cut (ix ([([([120]:List UInt8),([121]:List UInt8),([122]:List UInt8)]:List (List UInt8)),([([97]:List UInt8),([111,110]:List UInt8),([111,102,102]:List UInt8)]:List (List UInt8)),([([111,49]:List UInt8),([111,49,48]:List UInt8),([111]:List UInt8)]:List (List UInt8))]:List (List (List UInt8))) ((IntKind.u8.wrap (Int.tdiv x.fA 9))%3)) 0 a.outputs)),(([]:List (List UInt8))++(cut (ix ([([([115,48]:List UInt8),([115,49]:List UInt8),([115,50]:List UInt8),([115,51]:List UInt8),([115,52]:List UInt8),([115,53]:List UInt8)]:List (List UInt8)),([([97]:List UInt8),([98]:List UInt8),([99]:List UInt8),([120]:List UInt8),([121]:List UInt8),([122]:List UInt8)]:List (List UInt8)),([([105,100,108,101]:List UInt8),([73,100,108,101]:List UInt8),([73,68,76,69]:List UInt8),([105,95]:List UInt8),([105,95,95]:List UInt8),([105,48]:List UInt8)]:List (List UInt8))]:List (List (List UInt8))) ((IntKind.u8.wrap (Int.tdiv x.fA 27))%3)) 0 (↑a.rows.length:Int)))⟩:Sb)
def vg(N:Nat)(x:WDat)(inputs:Int):Nat→(List Int)→Int→Option (List Int)
 |0,_,_=>none
 |c+1,b,a=>
  bif (decide (a<(↑x.syms.length:Int)))&&(decide (a<12)) then(
  gd (okI x.syms a)<|
  gd (in64 (ix x.syms a))<|
  gd (okR (ix x.syms a) inputs)<|
  gd (fits 8 b ([(ix x.syms a)%inputs]:List Int))<|
  gd (in64 (a+1))<|
  vg N x inputs c (b++([(ix x.syms a)%inputs]:List Int)) (a+1)) else(
  some b)
def mf(N:Nat)(x:WDat)(inputs:Int):Option (List Int):=
 bd (
 vg N x inputs N ([]:List Int) 0) fun a=>
 some a
def jr(N:Nat)(s:(List Edge))(f:Edge→Option Bool):Nat→Int→Option (Ex (Unit) (Int))
 |0,_=>none
 |c+1,a=>
  bif decide (a<(↑s.length:Int)) then(
  gd (okI s a)<|
  bd (f (ix s a)) fun b=>
  bif b then(
  some (Ex.rt a)) else(
  gd (in64 (a+1))<|
  jr N s f c (a+1))) else(
  some (Ex.go ()))
def xx(N:Nat)(s:(List Edge))(f:Edge→Option Bool):Option Int:=
 bd (
 jr N s f N 0) fun a=>
 Ex.on a (fun b=>
 some (-1)) some
def yt(N:Nat)(s:(List Edge))(f:Edge→Option Bool):Option Bool:=
 bd (xx N s f) fun a=>
 some (decide (0≤a))
def z1o(N:Nat):Option Edge:=
 some (⟨(-1),(-1)⟩:Edge)
def z5l(N:Nat)(m:Mach)(x:Edge):Option Bool:=
 bd (z1o N) fun a=>
 some ((decide (x.to=a.to∧x.out=a.out))||((((decide (0≤x.to))&&(decide (x.to<(↑m.rows.length:Int))))&&(decide (0≤x.out)))&&(decide (x.out<m.outputs))))
def z2z(N:Nat)(x:Edge)(p0_:Mach):Option Bool:=
 bd (z5l N p0_ x) fun a=>
 some (!a)
def xc(N:Nat)(m:Mach):Nat→Int→Option (Ex (Unit) (Int))
 |0,_=>none
 |b+1,a=>
  bif decide (a<(↑m.rows.length:Int)) then(
  gd (okI m.rows a)<|
  bd (gop (true&&((decide ((↑(ix m.rows a).length:Int)≠m.inputs))==false)) (yt N (ix m.rows a) (fun d=>z2z N d m))) fun c=>
  bif (decide ((↑(ix m.rows a).length:Int)≠m.inputs))||(c.getD default) then(
  some (Ex.rt 1)) else(
  gd (in64 (a+1))<|
  xc N m b (a+1))) else(
  some (Ex.go ()))
def ow(N:Nat)(m:Mach):Option Int:=
 bif ((decide (16<m.inputs))||(decide (16<m.outputs)))||(decide (64<(↑m.rows.length:Int))) then(
 some 3) else(
 bif ((decide (m.inputs<1))||(decide (m.outputs<1)))||(decide ((↑m.rows.length:Int)<1)) then(
 some 1) else(
 bd (
 xc N m N 0) fun a=>
 Ex.on a (fun b=>
 some 0) some))
def kg(N:Nat)(s:(List (List UInt8)))(f:(List UInt8)→Option Bool):Nat→Int→Option (Ex (Unit) (Int))
 |0,_=>none
 |c+1,a=>
  bif decide (a<(↑s.length:Int)) then(
  gd (okI s a)<|
  bd (f (ix s a)) fun b=>
  bif b then(
  some (Ex.rt a)) else(
  gd (in64 (a+1))<|
  kg N s f c (a+1))) else(
  some (Ex.go ()))
def eu(N:Nat)(s:(List (List UInt8)))(f:(List UInt8)→Option Bool):Option Int:=
 bd (
 kg N s f N 0) fun a=>
 Ex.on a (fun b=>
 some (-1)) some
def uw(N:Nat)(s:(List (List UInt8)))(f:(List UInt8)→Option Bool):Option Bool:=
 bd (eu N s f) fun a=>
 some (decide (0≤a))
def lv(N:Nat)(c:Int):Option Bool:=
 some (((decide (97≤c))&&(decide (c≤122)))||((decide (65≤c))&&(decide (c≤90))))
def z3a(N:Nat)(c:Int):Option Bool:=
 some ((decide (48≤c))&&(decide (c≤57)))
def z0v(N:Nat)(c:Int):Option Bool:=
 bd (lv N c) fun b=>
 bd (gop (true&&(b==false)) (z3a N c)) fun a=>
 some ((b||(a.getD default))||(decide (c=95)))
def bn(N:Nat)(s:(List UInt8)):Nat→Int→Option Int
 |0,_=>none
 |c+1,a=>
  bif decide (a<(↑s.length:Int)) then(
  gd (okI s a)<|
  bd (z0v N (at8 s a)) fun b=>
  bif !b then(
  some a) else(
  gd (in64 (a+1))<|
  bn N s c (a+1))) else(
  some a)
def z08(N:Nat)(s:(List UInt8)):Option (List UInt8):=
 bd (
 bn N s N 0) fun a=>
 gd (okS s 0 a)<|
 some (su s 0 a)
def z2e(N:Nat)(w_:(List UInt8)):Option (Int×Int):=
 gd (okI w_ 0)<|
 bd (lv N (at8 w_ 0)) fun a=>
 bif a then(
 bif decide ((↑w_.length:Int)≤16) then(
 some (1,0)) else(
 some (0,10))) else(
 bif decide (w_=([48]:List UInt8)) then(
 some (2,0)) else(
 gd (okI w_ 0)<|
 bif (decide ((at8 w_ 0)=48))||(decide (9<(↑w_.length:Int))) then(
 some (0,4)) else(
 none)))
def vw(N:Nat)(s:(List UInt8))(prefix_:(List UInt8)):Option Bool:=
 gd ((true&&((decide ((↑prefix_.length:Int)≤(↑s.length:Int)))==true))=true→okS s 0 (↑prefix_.length:Int))<|
 some ((decide ((↑prefix_.length:Int)≤(↑s.length:Int)))&&(decide ((su s 0 (↑prefix_.length:Int))=prefix_)))
def strings_HasPrefix(N:Nat)(s:(List UInt8))(prefix_:(List UInt8)):Option Bool:=
 bd (vw N s prefix_) fun a=>
 some a
def yc(N:Nat)(s:(List UInt8))(c:Int):Option Int:=
 some (idxB s c)
def strings_IndexByte(N:Nat)(s:(List UInt8))(c:Int):Option Int:=
 bd (yc N s c) fun a=>
 some a
def yu(N:Nat)(s:(List UInt8)):Nat→Int→Option (Ex (Unit) ((List UInt8)))
 |0,_=>none
 |c+1,a=>
  bif decide (a<5) then(
  gd (okI zal.1 a)<|
  bd (strings_HasPrefix N s (ix zal.1 a)) fun b=>
  bif b then(
  some (Ex.rt (ix zal.1 a))) else(
  gd (in64 (a+1))<|
  yu N s c (a+1))) else(
  some (Ex.go ()))
def z03(N:Nat)(s:(List UInt8)):Option (List UInt8):=
 bd (
 yu N s N 0) fun b=>
 Ex.on b (fun c=>
 gd ((true&&((decide (s≠([]:List UInt8)))==true))=true→okI s 0)<|
 bd (gop (true&&((decide (s≠([]:List UInt8)))==true)) (strings_IndexByte N ([33,36,37,38,40,41,42,43,44,45,46,47,58,59,60,61,62,63,64,91,93,94,123,124,125,126]:List UInt8) (at8 s 0))) fun a=>
 bif (decide (s≠([]:List UInt8)))&&(decide (0≤(a.getD default))) then(
 gd (okS s 0 1)<|
 some (su s 0 1)) else(
 some ([]:List UInt8))) some
def xu(N:Nat)(s:(List UInt8)):Option (Sa×Int):=
 bd (z08 N s) fun c=>
 bif decide (c≠([]:List UInt8)) then(
 bd (z2e N c) fun a=>
 some ((⟨a.1,c,0,0⟩:Sa),a.2)) else(
 bd (z03 N s) fun b=>
 bif decide (b=([]:List UInt8)) then(
 some ((⟨0,([]:List UInt8),0,0⟩:Sa),4)) else(
 some ((⟨3,b,0,0⟩:Sa),0)))
def z1l(N:Nat)(t:Sa):Option Int:=
 bif decide (t.fH=([]:List UInt8)) then(
 some 1) else(
 bd (xu N t.fH) fun a=>
 bif ((decide (a.2≠0))||(decide (a.1.fH≠t.fH)))||(decide (a.1.fI≠t.fI)) then(
 some 1) else(
 some 0))
def z15(N:Nat)(s:(List UInt8)):Option Bool:=
 bd (z1l N (⟨1,s,0,0⟩:Sa)) fun a=>
 some (decide (a=0))
def lq(N:Nat):Option (List (List UInt8)):=
 some ([([109,97,99,104,105,110,101]:List UInt8),([105,110,112,117,116,115]:List UInt8),([111,117,116,112,117,116,115]:List UInt8),([115,116,97,116,101,115]:List UInt8),([101,110,100]:List UInt8)]:List (List UInt8))
def jf(N:Nat)(s:(List (List UInt8)))(v_:(List UInt8)):Nat→Int→Option (Ex (Unit) (Int))
 |0,_=>none
 |b+1,a=>
  bif decide (a<(↑s.length:Int)) then(
  gd (okI s a)<|
  bif decide (v_=(ix s a)) then(
  some (Ex.rt a)) else(
  gd (in64 (a+1))<|
  jf N s v_ b (a+1))) else(
  some (Ex.go ()))
def slices_Index_string(N:Nat)(s:(List (List UInt8)))(v_:(List UInt8)):Option Int:=
 bd (
 jf N s v_ N 0) fun a=>
 Ex.on a (fun b=>
 some (-1)) some
def slices_Contains_string(N:Nat)(s:(List (List UInt8)))(v_:(List UInt8)):Option Bool:=
 bd (slices_Index_string N s v_) fun a=>
 some (decide (0≤a))
def z1k(N:Nat)(s:(List UInt8)):Option Bool:=
 bd (z15 N s) fun a=>
 bd (gop (true&&((!a)==false)) (lq N)) fun b=>
 bd (gop (true&&((!a)==false)) (slices_Contains_string N (b.getD default) s)) fun c=>
 some ((!a)||(c.getD default))
def fq(N:Nat)(s:(List (List UInt8))):Option (List (List UInt8)):=
 some s
def xy(N:Nat)(σ:Type)(B:(List UInt8)→σ→Option (Bool×σ))(p0_:(List (List UInt8))):Nat→σ→Int→Option σ
 |0,_,_=>none
 |d+1,c,b=>
  bif decide (b<(↑p0_.length:Int)) then(
  gd (okI p0_ b)<|
  bd (B (ix p0_ b) c) fun a=>
  bif !a.1 then(
  some a.2) else(
  gd (in64 (b+1))<|
  xy N σ B p0_ d a.2 (b+1))) else(
  some c)
def z02(N:Nat)(p0_:(List (List UInt8)))(σ:Type)(B:(List UInt8)→σ→Option (Bool×σ))(a:σ):Option σ:=
 xy N σ B p0_ N a 0
def z3p(N:Nat)(x:Int):Option Int:=
 bd (
 bif decide (4294967296≤x) then(
 gd (okSh .u64 (32:Int))<|
 some (zdj x (32:Int),32)) else(
 some (x,0))) fun b=>
 bd (
 bif decide (65536≤b.1) then(
 gd (okSh .u64 (16:Int))<|
 gd (in64 (b.2+16))<|
 some (zdj b.1 (16:Int),b.2+16)) else(
 some (b.1,b.2))) fun c=>
 bd (
 bif decide (256≤c.1) then(
 gd (okSh .u64 (8:Int))<|
 gd (in64 (c.2+8))<|
 some (zdj c.1 (8:Int),c.2+8)) else(
 some (c.1,c.2))) fun a=>
 gd (okI zc5 (IntKind.u8.wrap a.1))<|
 gd (in64 (ix zc5 (IntKind.u8.wrap a.1)))<|
 gd (in64 (a.2+(ix zc5 (IntKind.u8.wrap a.1))))<|
 some (a.2+(ix zc5 (IntKind.u8.wrap a.1)))
def z5g(N:Nat)(x:Int):Option Int:=
 bd (z3p N x) fun a=>
 some a
def cmp_isNaN_string(N:Nat)(x:(List UInt8)):Option Bool:=
 some (decide (x≠x))
def cmp_Less_string(N:Nat)(x:(List UInt8))(y:(List UInt8)):Option Bool:=
 bd (cmp_isNaN_string N x) fun b=>
 bd (gop (true&&(b==true)) (cmp_isNaN_string N y)) fun a=>
 some ((b&&(!(a.getD default)))||(ltS x y))
def uj(N:Nat)(a:Int):Nat→Int→(List (List UInt8))→Option (List (List UInt8))
 |0,_,_=>none
 |d+1,b,c=>
  gd ((true&&((decide (a<b))==true))=true→okI c b)<|
  gd ((true&&((decide (a<b))==true))=true→in64 (b-1))<|
  gd ((true&&((decide (a<b))==true))=true→okI c (b-1))<|
  bd (gop (true&&((decide (a<b))==true)) (cmp_Less_string N (ix c b) (ix c (b-1)))) fun e=>
  bif (decide (a<b))&&(e.getD default) then(
  gd (in64 (b-1))<|
  gd (in64 (b-1))<|
  gd (okI c (b-1))<|
  gd (okI c b)<|
  gd (okI c b)<|
  gd (okI c (b-1))<|
  gd (in64 (b-1))<|
  uj N a d (b-1) (up (up c b (ix c (b-1))) (b-1) (ix c b))) else(
  some c)
def ui(N:Nat)(a:Int)(b:Int):Nat→Int→(List (List UInt8))→Option (List (List UInt8))
 |0,_,_=>none
 |f+1,c,e=>
  bif decide (c<b) then(
  bd (
  uj N a N c e) fun d=>
  gd (in64 (c+1))<|
  ui N a b f (c+1) d) else(
  some e)
def bu(N:Nat)(data:List (List UInt8))(a:Int)(b:Int):Option (List (List UInt8)):=
 gd (in64 (a+1))<|
 ui N a b N (a+1) data
def xg(N:Nat)(data:List (List UInt8))(a:Int)(b:Int):Nat→Option (List (List UInt8))
 |0=>none
 |d+1=>
  gd (in64 (b-a))<|
  bif decide ((b-a)≤12) then(
  bd (bu N data a b) fun c=>
  some c) else(
  none)
def ah(N:Nat)(data:List (List UInt8))(a:Int)(b:Int)(limit:Int):Option (List (List UInt8)):=
 xg N data a b N 
def slices_Sort_string(N:Nat)(x:List (List UInt8)):Option (List (List UInt8)):=
 bd (z5g N (IntKind.u64.wrap (↑x.length:Int))) fun a=>
 bd (ah N x 0 (↑x.length:Int) a) fun b=>
 some b
def sw(N:Nat)(s:List (List UInt8))(seq_0_:(List (List UInt8))):Option (List (List UInt8)):=
 bd (z02 N seq_0_ (List (List UInt8)) (fun a b=>
 gd (fits 16 b ([a]:List (List UInt8)))<|
 some (true,(b++([a]:List (List UInt8))))) s) fun c=>
 some c
def lg(N:Nat)(seq_0_:(List (List UInt8))):Option (List (List UInt8)):=
 bd (sw N ([]:List (List UInt8)) seq_0_) fun a=>
 some a
def bi(N:Nat)(s:List (List UInt8))(a:Int):Nat→Int→Int→(List (List UInt8))→Option (Int×List (List UInt8))
 |0,_,_,_=>none
 |f+1,d,b,c=>
  bif decide (b<(↑(s.length-a.toNat:Nat):Int)) then(
  bd (
  gd (okA c a (s.length-a.toNat) b)<|
  gd (in64 (b-1))<|
  gd (okA c a (s.length-a.toNat) (b-1))<|
  bif decide ((ix c (a+b))≠(ix c (a+(b-1)))) then(
  gd (okA c a (s.length-a.toNat) b)<|
  gd (okI c d)<|
  gd (in64 (d+1))<|
  some (d+1,(up c d (ix c (a+b))))) else(
  some (d,c))) fun e=>
  gd (in64 (b+1))<|
  bi N s a f e.1 (b+1) e.2) else(
  some (d,c))
def gz(N:Nat)(s:List (List UInt8)):Nat→Int→Option (Ex (Unit) ((List (List UInt8))))
 |0,_=>none
 |c+1,b=>
  bif decide (b<(↑s.length:Int)) then(
  gd (okI s b)<|
  gd (in64 (b-1))<|
  gd (okI s (b-1))<|
  bif decide ((ix s b)=(ix s (b-1))) then(
  gd (okS s b (↑s.length:Int))<|
  bd (
  bi N s b N b 1 s) fun a=>
  gd (okS a.2 a.1 (↑a.2.length:Int))<|
  gd (okS (z1i a.2 a.1.toNat (List.replicate (a.2.length-a.1.toNat) ([]:List UInt8))) 0 a.1)<|
  some (Ex.rt (cut (z1i a.2 a.1.toNat (List.replicate (a.2.length-a.1.toNat) ([]:List UInt8))) 0 a.1))) else(
  gd (in64 (b+1))<|
  gz N s c (b+1))) else(
  some (Ex.go ()))
def slices_Compact_string(N:Nat)(s:List (List UInt8)):Option (List (List UInt8)):=
 bif decide ((↑s.length:Int)<2) then(
 some s) else(
 bd (
 gz N s N 1) fun a=>
 Ex.on a (fun b=>
 some s) some)
def di(N:Nat)(seq_0_:(List (List UInt8))):Option (List (List UInt8)):=
 bd (lg N seq_0_) fun b=>
 bd (slices_Sort_string N b) fun a=>
 some a
def dh(N:Nat)(x:Sb):Nat→Int→Option (Ex (Unit) (Int))
 |0,_=>none
 |b+1,a=>
  bif decide (a<(↑([([x.fA]:List (List UInt8)),x.fG,x.fF,x.fC]:List (List (List UInt8))).length:Int)) then(
  gd (okI ([([x.fA]:List (List UInt8)),x.fG,x.fF,x.fC]:List (List (List UInt8))) a)<|
  bd (uw N (ix ([([x.fA]:List (List UInt8)),x.fG,x.fF,x.fC]:List (List (List UInt8))) a) (fun d=>z1k N d)) fun c=>
  bif c then(
  some (Ex.rt 10)) else(
  gd (in64 (a+1))<|
  dh N x b (a+1))) else(
  some (Ex.go ()))
def pq(N:Nat)(x:Sb):Nat→Int→Option (Ex (Unit) (Int))
 |0,_=>none
 |b+1,a=>
  bif decide (a<(↑([([x.fA]:List (List UInt8)),x.fG,x.fF,x.fC]:List (List (List UInt8))).length:Int)) then(
  gd (okI ([([x.fA]:List (List UInt8)),x.fG,x.fF,x.fC]:List (List (List UInt8))) a)<|
  bd (fq N (ix ([([x.fA]:List (List UInt8)),x.fG,x.fF,x.fC]:List (List (List UInt8))) a)) fun c=>
  bd (di N c) fun d=>
  bd (slices_Compact_string N d) fun e=>
  bif decide ((↑e.length:Int)<(↑(ix ([([x.fA]:List (List UInt8)),x.fG,x.fF,x.fC]:List (List (List UInt8))) a).length:Int)) then(
  some (Ex.rt 8)) else(
  gd (in64 (a+1))<|
  pq N x b (a+1))) else(
  some (Ex.go ()))
def z01(N:Nat)(x:Sb):Option Int:=
 bd (ow N x.fD) fun a=>
 bif decide (a≠0) then(
 some a) else(
 bif ((decide ((↑x.fG.length:Int)≠x.fD.inputs))||(decide ((↑x.fF.length:Int)≠x.fD.outputs)))||(decide ((↑x.fC.length:Int)≠(↑x.fD.rows.length:Int))) then(
 some 16) else(
 bd (
 dh N x N 0) fun b=>
 Ex.on b (fun d=>
 bd (
 pq N x N 0) fun c=>
 Ex.on c (fun e=>
 some 0) some) some))
def strings_Join(N:Nat)(l:List (List UInt8))(s:List UInt8):Option (List UInt8):=
 gd (l.length≤z0m∧(qz l s).length≤z0m) (some (qz l s))
def tq(N:Nat)(x:Sb)(b:Int):Nat→Int→(List UInt8)→Option (List UInt8)
 |0,_,_=>none
 |d+1,a,c=>
  bif decide (a<(↑(ix x.fD.rows b).length:Int)) then(
  bd (
  gd (okI (ix x.fD.rows b) a)<|
  bif decide (((ix (ix x.fD.rows b) a).to)≠(-1)) then(
  gd (okI x.fC b)<|
  gd (okI x.fG a)<|
  gd (okI x.fF ((ix (ix x.fD.rows b) a).out))<|
  gd (okI x.fC ((ix (ix x.fD.rows b) a).to))<|
  gd (([(ix x.fC b),(ix x.fG a),([47]:List UInt8),(ix x.fF ((ix (ix x.fD.rows b) a).out)),([45,62]:List UInt8),(ix x.fC ((ix (ix x.fD.rows b) a).to))]:List (List UInt8)).length≤z0m∧c.length+(qz ([(ix x.fC b),(ix x.fG a),([47]:List UInt8),(ix x.fF ((ix (ix x.fD.rows b) a).out)),([45,62]:List UInt8),(ix x.fC ((ix (ix x.fD.rows b) a).to))]:List (List UInt8)) [32]).length+2≤z0m)<|
  some (c++(qz ([(ix x.fC b),(ix x.fG a),([47]:List UInt8),(ix x.fF ((ix (ix x.fD.rows b) a).out)),([45,62]:List UInt8),(ix x.fC ((ix (ix x.fD.rows b) a).to))]:List (List UInt8)) [32]++[59,10]))) else(
  some c)) fun e=>
  gd (in64 (a+1))<|
  tq N x b d (a+1) e) else(
  some c)
def mq(N:Nat)(x:Sb):Nat→Int→(List UInt8)→Option (List UInt8)
 |0,_,_=>none
 |c+1,a,b=>
  bif decide (a<(↑x.fD.rows.length:Int)) then(
  bd (
  gd (okI x.fD.rows a)<|
  tq N x a N 0 b) fun d=>
  gd (in64 (a+1))<|
  mq N x c (a+1) d) else(
  some b)
def z2p(N:Nat)(x:Sb):Option ((List UInt8)×Int):=
 bd (z01 N x) fun e=>
 bif decide (e≠0) then(
 some (([]:List UInt8),e)) else(
 gd (([([109,97,99,104,105,110,101]:List UInt8),x.fA]:List (List UInt8)).length≤z0m∧([]:List UInt8).length+(qz ([([109,97,99,104,105,110,101]:List UInt8),x.fA]:List (List UInt8)) [32]).length+2≤z0m)<|
 bd (strings_Join N x.fG ([44,32]:List UInt8)) fun b=>
 gd (([([105,110,112,117,116,115]:List UInt8),b]:List (List UInt8)).length≤z0m∧(([]:List UInt8)++(qz ([([109,97,99,104,105,110,101]:List UInt8),x.fA]:List (List UInt8)) [32]++[59,10])).length+(qz ([([105,110,112,117,116,115]:List UInt8),b]:List (List UInt8)) [32]).length+2≤z0m)<|
 bd (strings_Join N x.fF ([44,32]:List UInt8)) fun c=>
 gd (([([111,117,116,112,117,116,115]:List UInt8),c]:List (List UInt8)).length≤z0m∧((([]:List UInt8)++(qz ([([109,97,99,104,105,110,101]:List UInt8),x.fA]:List (List UInt8)) [32]++[59,10]))++(qz ([([105,110,112,117,116,115]:List UInt8),b]:List (List UInt8)) [32]++[59,10])).length+(qz ([([111,117,116,112,117,116,115]:List UInt8),c]:List (List UInt8)) [32]).length+2≤z0m)<|
 bd (strings_Join N x.fC ([44,32]:List UInt8)) fun d=>
 gd (([([115,116,97,116,101,115]:List UInt8),d]:List (List UInt8)).length≤z0m∧(((([]:List UInt8)++(qz ([([109,97,99,104,105,110,101]:List UInt8),x.fA]:List (List UInt8)) [32]++[59,10]))++(qz ([([105,110,112,117,116,115]:List UInt8),b]:List (List UInt8)) [32]++[59,10]))++(qz ([([111,117,116,112,117,116,115]:List UInt8),c]:List (List UInt8)) [32]++[59,10])).length+(qz ([([115,116,97,116,101,115]:List UInt8),d]:List (List UInt8)) [32]).length+2≤z0m)<|
 bd (
 mq N x N 0 ((((([]:List UInt8)++(qz ([([109,97,99,104,105,110,101]:List UInt8),x.fA]:List (List UInt8)) [32]++[59,10]))++(qz ([([105,110,112,117,116,115]:List UInt8),b]:List (List UInt8)) [32]++[59,10]))++(qz ([([111,117,116,112,117,116,115]:List UInt8),c]:List (List UInt8)) [32]++[59,10]))++(qz ([([115,116,97,116,101,115]:List UInt8),d]:List (List UInt8)) [32]++[59,10]))) fun a=>
 gd (([([101,110,100]:List UInt8)]:List (List UInt8)).length≤z0m∧a.length+(qz ([([101,110,100]:List UInt8)]:List (List UInt8)) [32]).length+2≤z0m)<|
 bif decide (65536<(↑(a++(qz ([([101,110,100]:List UInt8)]:List (List UInt8)) [32]++[59,10])).length:Int)) then(
 some (([]:List UInt8),3)) else(
 gd (0<(a++(qz ([([101,110,100]:List UInt8)]:List (List UInt8)) [32]++[59,10])).length∧(a++(qz ([([101,110,100]:List UInt8)]:List (List UInt8)) [32]++[59,10])).length≤z0m)<|
 some ((a++(qz ([([101,110,100]:List UInt8)]:List (List UInt8)) [32]++[59,10])),0)))
def gy(N:Nat)(s:(List UInt8)):Nat→Int→Option (Ex (Int) (Int))
 |0,_=>none
 |d+1,a=>
  bif decide (a<(↑s.length:Int)) then(
  gd (okI s a)<|
  bd (
  bif decide ((at8 s a)=32) then(
  some (decide ((at8 s a)=32))) else(
  bif decide ((at8 s a)=9) then(
  some (decide ((at8 s a)=9))) else(
  bif decide ((at8 s a)=13) then(
  some (decide ((at8 s a)=13))) else(
  some (decide ((at8 s a)=10)))))) fun c=>
  bif c then(
  gd (in64 (a+1))<|
  gy N s d (a+1)) else(
  bif decide ((at8 s a)=35) then(
  gd (okS s a (↑s.length:Int))<|
  bd (strings_IndexByte N (su s a (↑s.length:Int)) 10) fun b=>
  bif decide (b<0) then(
  some (Ex.rt (↑s.length:Int))) else(
  gd (in64 (a+b))<|
  gy N s d (a+b))) else(
  some (Ex.rt a)))) else(
  some (Ex.go a))
def z3j(N:Nat)(s:(List UInt8)):Option Int:=
 bd (
 gy N s N 0) fun a=>
 Ex.on a (fun b=>
 some b) some
def strings_Count(N:Nat)(s:(List UInt8))(substr:(List UInt8)):Option Int:=
 bif decide ((↑substr.length:Int)=0) then(
 none) else(
 bif decide ((↑substr.length:Int)=1) then(
 gd (okI substr 0)<|
 some (cntB s (at8 substr 0))) else(
 none))
def jc(N:Nat)(s:(List UInt8))(c:Int):Nat→Int→Option (Ex (Unit) (Int))
 |0,_=>none
 |b+1,a=>
  bif decide (0≤a) then(
  gd (okI s a)<|
  bif decide ((at8 s a)=c) then(
  some (Ex.rt a)) else(
  gd (in64 (a-1))<|
  jc N s c b (a-1))) else(
  some (Ex.go ()))
def vo(N:Nat)(s:(List UInt8))(c:Int):Option Int:=
 bd (
 gd (in64 ((↑s.length:Int)-1))<|
 jc N s c N ((↑s.length:Int)-1)) fun a=>
 Ex.on a (fun b=>
 some (-1)) some
def strings_LastIndexByte(N:Nat)(s:(List UInt8))(c:Int):Option Int:=
 bd (vo N s c) fun a=>
 some a
def z19(N:Nat)(t:(List UInt8))(p0_:Int)(p1_:Int):Option (Int×Int):=
 bd (strings_Count N t ([10]:List UInt8)) fun c=>
 gd (in64 (p0_+c))<|
 bd (
 bd (strings_LastIndexByte N t 10) fun a=>
 bif decide (0≤a) then(
 gd (in64 (a+1))<|
 gd (okS t (a+1) (↑t.length:Int))<|
 some ((su t (a+1) (↑t.length:Int)),1)) else(
 some (t,p1_))) fun b=>
 gd (in64 (b.2+(↑b.1.length:Int)))<|
 some ((p0_+c),(b.2+(↑b.1.length:Int)))
def nk(N:Nat)(s:(List Sa)):Option (List Sa):=
 gd (okS s 0 (↑s.length:Int))<|
 some (cut s 0 (↑s.length:Int))
def xq(N:Nat)(s:(List UInt8)):Nat→(List Sa)→Int→Int→Int→Option ((List Sa)×Int×Int×Int)
 |0,_,_,_,_=>none
 |g+1,f,a,h,i=>
  gd (okS s a (↑s.length:Int))<|
  bd (z3j N (su s a (↑s.length:Int))) fun b=>
  gd (in64 (a+b))<|
  gd (okS s a (a+b))<|
  bd (z19 N (su s a (a+b)) h i) fun d=>
  gd (in64 (a+b))<|
  bif decide ((a+b)=(↑s.length:Int)) then(
  bd (nk N f) fun j=>
  some (j,0,0,0)) else(
  gd (okS s (a+b) (↑s.length:Int))<|
  bd (xu N (su s (a+b) (↑s.length:Int))) fun c=>
  bif decide (c.2≠0) then(
  some (([]:(List Sa)),d.1,d.2,c.2)) else(
  gd (fits 40 f ([(⟨c.1.fI,c.1.fH,d.1,d.2⟩:Sa)]:List Sa))<|
  bd (z19 N c.1.fH d.1 d.2) fun e=>
  gd (in64 ((a+b)+(↑c.1.fH.length:Int)))<|
  xq N s g (f++([(⟨c.1.fI,c.1.fH,d.1,d.2⟩:Sa)]:List Sa)) ((a+b)+(↑c.1.fH.length:Int)) e.1 e.2))
def z4l(N:Nat)(s:(List UInt8)):Option ((List Sa)×Int×Int×Int):=
 bif decide (65536<(↑s.length:Int)) then(
 some (([]:(List Sa)),0,0,3)) else(
 xq N s N ([]:List Sa) 0 1 1)
def dm(N:Nat)(r__0_:(List Sa))(r__1_:Int)(r__2_:(List UInt8))(r__3_:Int)(r__4_:Int)(r__5_:List (List Edge))(r__6_:(List (List UInt8)))(r__7_:(List (List UInt8)))(r__8_:(List (List UInt8))):Option (Sa×Int):=
 bif decide (r__1_=(↑r__0_.length:Int)) then(
 none) else(
 gd (in64 (r__1_+1))<|
 gd (in64 ((r__1_+1)-1))<|
 gd (okI r__0_ ((r__1_+1)-1))<|
 some ((⟨(ix r__0_ ((r__1_+1)-1)).fI,(ix r__0_ ((r__1_+1)-1)).fH,(ix r__0_ ((r__1_+1)-1)).fM,(ix r__0_ ((r__1_+1)-1)).fJ⟩:Sa),(r__1_+1)))
def ut(N:Nat)(text:(List UInt8))(r__0_:(List Sa))(r__1_:Int)(r__2_:(List UInt8))(r__3_:Int)(r__4_:Int)(r__5_:List (List Edge))(r__6_:(List (List UInt8)))(r__7_:(List (List UInt8)))(r__8_:(List (List UInt8))):Option Int:=
 bd (dm N r__0_ r__1_ r__2_ r__3_ r__4_ r__5_ r__6_ r__7_ r__8_) fun a=>
 bif decide (a.1.fH≠text) then(
 none) else(
 some a.2)
def dw(N:Nat)(r__0_:(List Sa))(r__1_:Int)(r__2_:(List UInt8))(r__3_:Int)(r__4_:Int)(r__5_:List (List Edge))(r__6_:(List (List UInt8)))(r__7_:(List (List UInt8)))(r__8_:(List (List UInt8))):Option ((List UInt8)×Int):=
 bd (dm N r__0_ r__1_ r__2_ r__3_ r__4_ r__5_ r__6_ r__7_ r__8_) fun a=>
 bif decide (a.1.fI≠1) then(
 none) else(
 bd (lq N) fun b=>
 bd (slices_Contains_string N b a.1.fH) fun c=>
 bif c then(
 none) else(
 some (a.1.fH,a.2)))
def aa(N:Nat)(r__0_:(List Sa))(r__1_:Int)(r__2_:(List UInt8))(r__3_:Int)(r__4_:Int)(r__5_:List (List Edge))(r__6_:(List (List UInt8)))(r__7_:(List (List UInt8)))(r__8_:(List (List UInt8))):Option (Int×(List UInt8)):=
 bd (ut N ([109,97,99,104,105,110,101]:List UInt8) r__0_ r__1_ r__2_ r__3_ r__4_ r__5_ r__6_ r__7_ r__8_) fun c=>
 bd (dw N r__0_ c r__2_ r__3_ r__4_ r__5_ r__6_ r__7_ r__8_) fun a=>
 bd (ut N ([59]:List UInt8) r__0_ a.2 a.1 r__3_ r__4_ r__5_ r__6_ r__7_ r__8_) fun b=>
 some (b,a.1)
def iq(N:Nat)(s:(List (List UInt8))):Option (List (List UInt8)):=
 gd (okS s 0 (↑s.length:Int))<|
 some (cut s 0 (↑s.length:Int))
def xn(N:Nat)(most:Int)(r__0_:(List Sa))(r__2_:(List UInt8))(r__3_:Int)(r__4_:Int)(r__5_:List (List Edge))(r__6_:(List (List UInt8)))(r__7_:(List (List UInt8)))(r__8_:(List (List UInt8))):Nat→(List (List UInt8))→Int→Option ((List (List UInt8))×Int)
 |0,_,_=>none
 |g+1,a,d=>
  bd (dw N r__0_ d r__2_ r__3_ r__4_ r__5_ r__6_ r__7_ r__8_) fun b=>
  bd (slices_Contains_string N a b.1) fun e=>
  bif e then(
  none) else(
  bif decide ((↑a.length:Int)=most) then(
  none) else(
  gd (fits 16 a ([b.1]:List (List UInt8)))<|
  bd (dm N r__0_ b.2 r__2_ r__3_ r__4_ r__5_ r__6_ r__7_ r__8_) fun c=>
  bif decide (c.1.fH=([59]:List UInt8)) then(
  bd (iq N (a++([b.1]:List (List UInt8)))) fun f=>
  some (f,c.2)) else(
  bif decide (c.1.fH≠([44]:List UInt8)) then(
  none) else(
  xn N most r__0_ r__2_ r__3_ r__4_ r__5_ r__6_ r__7_ r__8_ g (a++([b.1]:List (List UInt8))) c.2))))
def yg(N:Nat)(word:(List UInt8))(most:Int)(r__0_:(List Sa))(r__1_:Int)(r__2_:(List UInt8))(r__3_:Int)(r__4_:Int)(r__5_:List (List Edge))(r__6_:(List (List UInt8)))(r__7_:(List (List UInt8)))(r__8_:(List (List UInt8))):Option ((List (List UInt8))×Int):=
 bd (ut N word r__0_ r__1_ r__2_ r__3_ r__4_ r__5_ r__6_ r__7_ r__8_) fun a=>
 xn N most r__0_ r__2_ r__3_ r__4_ r__5_ r__6_ r__7_ r__8_ N ([]:List (List UInt8)) a
def z5c(N:Nat)(x y:Int):Option (Int×Int):=
 gd ((0≤x∧x<18446744073709551616)∧0≤y∧y<18446744073709551616) (some (x*y/18446744073709551616,x*y%18446744073709551616))
def xe(N:Nat):Nat→Int→(List Edge)→Option (List Edge)
 |0,_,_=>none
 |c+1,a,b=>
  bif decide (a<(↑b.length:Int)) then(
  gd (okS b a (↑b.length:Int))<|
  gd (okS b 0 a)<|
  gd (in64 (a+(↑(min (a.toNat-0) (b.length-a.toNat)):Int)))<|
  xe N c (a+(↑(min (a.toNat-0) (b.length-a.toNat)):Int)) (z1i b a.toNat ((b.drop 0).take (min (a.toNat-0) (b.length-a.toNat))))) else(
  some b)
def o7(N:Nat)(x:(List Edge))(count:Int):Option (List Edge):=
 bif decide (count<0) then(
 none) else(
 bd (z5c N (IntKind.u64.wrap (↑x.length:Int)) (IntKind.u64.wrap count)) fun a=>
 bif (decide (0<a.1))||(decide (9223372036854775807<a.2)) then(
 none) else(
 gd (in64 a.2)<|
 gd (okM 16 a.2)<|
 bd (
 xe N N (↑(min x.length (mk a.2 (⟨(0:Int),(0:Int)⟩:Edge)).length):Int) (z1i (mk a.2 (⟨(0:Int),(0:Int)⟩:Edge)) 0 (x.take (min x.length (mk a.2 (⟨(0:Int),(0:Int)⟩:Edge)).length)))) fun b=>
 some b))
def uy(N:Nat)(d:(List (List UInt8))×Int)(e:(List (List UInt8))×Int)(b:(List (List UInt8))×Int):Nat→Int→(List (List Edge))→Option (Int×Int×Int×List (List Edge)×(List (List UInt8))×(List (List UInt8))×(List (List UInt8)))
 |0,_,_=>none
 |f+1,a,c=>
  bif decide (a<(↑(mk (↑b.1.length:Int) ([]:List Edge)).length:Int)) then(
  bd (o7 N ([(⟨(-1),(-1)⟩:Edge)]:List Edge) (↑d.1.length:Int)) fun g=>
  gd (okI c a)<|
  gd (in64 (a+1))<|
  uy N d e b f (a+1) (up c a g)) else(
  some (b.2,(↑d.1.length:Int),(↑e.1.length:Int),c,d.1,e.1,b.1))
def ay(N:Nat)(r__0_:(List Sa))(r__1_:Int)(r__2_:(List UInt8))(r__3_:Int)(r__4_:Int)(r__5_:List (List Edge))(r__6_:(List (List UInt8)))(r__7_:(List (List UInt8)))(r__8_:(List (List UInt8))):Option (Int×Int×Int×List (List Edge)×(List (List UInt8))×(List (List UInt8))×(List (List UInt8))):=
 bd (yg N ([105,110,112,117,116,115]:List UInt8) 16 r__0_ r__1_ r__2_ r__3_ r__4_ r__5_ r__6_ r__7_ r__8_) fun b=>
 bd (yg N ([111,117,116,112,117,116,115]:List UInt8) 16 r__0_ b.2 r__2_ r__3_ r__4_ r__5_ b.1 r__7_ r__8_) fun c=>
 bd (yg N ([115,116,97,116,101,115]:List UInt8) 64 r__0_ c.2 r__2_ r__3_ r__4_ r__5_ b.1 c.1 r__8_) fun a=>
 gd (okM 24 (↑a.1.length:Int))<|
 uy N b c a N 0 (mk (↑a.1.length:Int) ([]:List Edge))
def cu(N:Nat)(l_:(List (List UInt8)))(r__0_:(List Sa))(r__1_:Int)(r__2_:(List UInt8))(r__3_:Int)(r__4_:Int)(r__5_:List (List Edge))(r__6_:(List (List UInt8)))(r__7_:(List (List UInt8)))(r__8_:(List (List UInt8))):Option (Int×Int):=
 bd (dw N r__0_ r__1_ r__2_ r__3_ r__4_ r__5_ r__6_ r__7_ r__8_) fun a=>
 bd (slices_Index_string N l_ a.1) fun b=>
 bif decide (b<0) then(
 none) else(
 some (b,a.2))
def jq(N:Nat)(r__0_:(List Sa))(r__2_:(List UInt8))(r__3_:Int)(r__4_:Int)(r__6_:(List (List UInt8)))(r__7_:(List (List UInt8)))(r__8_:(List (List UInt8))):Nat→Int→(List (List Edge))→Option (Int×List (List Edge))
 |0,_,_=>none
 |j+1,d,b=>
  gd ((true&&((decide (d=(↑r__0_.length:Int)))==false))=true→okI r__0_ d)<|
  bif (decide (d=(↑r__0_.length:Int)))||(decide ((ix r__0_ d).fH≠([101,110,100]:List UInt8))) then(
  bd (cu N r__8_ r__0_ d r__2_ r__3_ r__4_ b r__6_ r__7_ r__8_) fun a=>
  bd (cu N r__6_ r__0_ a.2 r__2_ r__3_ r__4_ b r__6_ r__7_ r__8_) fun c=>
  bd (ut N ([47]:List UInt8) r__0_ c.2 r__2_ r__3_ r__4_ b r__6_ r__7_ r__8_) fun h=>
  bd (cu N r__7_ r__0_ h r__2_ r__3_ r__4_ b r__6_ r__7_ r__8_) fun e=>
  bd (ut N ([45,62]:List UInt8) r__0_ e.2 r__2_ r__3_ r__4_ b r__6_ r__7_ r__8_) fun i=>
  bd (cu N r__8_ r__0_ i r__2_ r__3_ r__4_ b r__6_ r__7_ r__8_) fun f=>
  bd (ut N ([59]:List UInt8) r__0_ f.2 r__2_ r__3_ r__4_ b r__6_ r__7_ r__8_) fun g=>
  gd (okI b a.1)<|
  gd (okI (ix b a.1) c.1)<|
  bif decide (((ix (ix b a.1) c.1).to)≠(-1)) then(
  none) else(
  gd (okI b a.1)<|
  gd (okI (ix b a.1) c.1)<|
  jq N r__0_ r__2_ r__3_ r__4_ r__6_ r__7_ r__8_ j g (up b a.1 (up (ix b a.1) c.1 (⟨f.1,e.1⟩:Edge))))) else(
  some (d,b))
def ik(N:Nat)(r__0_:(List Sa))(r__1_:Int)(r__2_:(List UInt8))(r__3_:Int)(r__4_:Int)(r__5_:List (List Edge))(r__6_:(List (List UInt8)))(r__7_:(List (List UInt8)))(r__8_:(List (List UInt8))):Option (Int×List (List Edge)):=
 jq N r__0_ r__2_ r__3_ r__4_ r__6_ r__7_ r__8_ N r__1_ r__5_
def fe(N:Nat)(r__0_:(List Sa))(r__1_:Int)(r__2_:(List UInt8))(r__3_:Int)(r__4_:Int)(r__5_:List (List Edge))(r__6_:(List (List UInt8)))(r__7_:(List (List UInt8)))(r__8_:(List (List UInt8))):Option Int:=
 bd (ut N ([101,110,100]:List UInt8) r__0_ r__1_ r__2_ r__3_ r__4_ r__5_ r__6_ r__7_ r__8_) fun b=>
 bd (ut N ([59]:List UInt8) r__0_ b r__2_ r__3_ r__4_ r__5_ r__6_ r__7_ r__8_) fun a=>
 bif decide (a<(↑r__0_.length:Int)) then(
 none) else(
 some a)
def z1v(N:Nat)(s:(List UInt8)):Option (Sb×Int×Int×Int):=
 bd (z4l N s) fun d=>
 bif decide (d.2.2.2≠0) then(
 none) else(
 bd (aa N d.1 0 ([]:List UInt8) 0 0 ([]:List (List Edge)) [] [] []) fun b=>
 bd (ay N d.1 b.1 b.2 0 0 ([]:List (List Edge)) [] [] []) fun a=>
 bd (ik N d.1 a.1 b.2 a.2.1 a.2.2.1 a.2.2.2.1 a.2.2.2.2.1 a.2.2.2.2.2.1 a.2.2.2.2.2.2) fun c=>
 bd (fe N d.1 c.1 b.2 a.2.1 a.2.2.1 c.2 a.2.2.2.2.1 a.2.2.2.2.2.1 a.2.2.2.2.2.2) fun e=>
 some ((⟨b.2,(⟨a.2.1,a.2.2.1,c.2⟩:Mach),a.2.2.2.2.1,a.2.2.2.2.2.1,a.2.2.2.2.2.2⟩:Sb),0,0,0))
def ug(N:Nat)(s:(List Int))(f:Int→Option Bool):Nat→Int→Option (Ex (Unit) (Int))
 |0,_=>none
 |c+1,a=>
  bif decide (a<(↑s.length:Int)) then(
  gd (okI s a)<|
  bd (f (ix s a)) fun b=>
  bif b then(
  some (Ex.rt a)) else(
  gd (in64 (a+1))<|
  ug N s f c (a+1))) else(
  some (Ex.go ()))
def oo(N:Nat)(s:(List Int))(f:Int→Option Bool):Option Int:=
 bd (
 ug N s f N 0) fun a=>
 Ex.on a (fun b=>
 some (-1)) some
def yf(N:Nat)(s:(List Int))(f:Int→Option Bool):Option Bool:=
 bd (oo N s f) fun a=>
 some (decide (0≤a))
def z5j(N:Nat)(c:Int)(p0_:Int):Option Bool:=
 some ((decide (c<0))||(decide (p0_≤c)))
def z1x(N:Nat)(w_:(List Int))(inputs:Int):Option Int:=
 bif (decide (16<inputs))||(decide (256<(↑w_.length:Int))) then(
 some 3) else(
 bd (gop (true&&((decide (inputs<1))==false)) (yf N w_ (fun b=>z5j N b inputs))) fun a=>
 bif (decide (inputs<1))||(a.getD default) then(
 some 1) else(
 some 0))
def dx(N:Nat)(l_:(List Int))(names:(List (List UInt8))):Nat→Int→(List (List UInt8))→Option (List (List UInt8))
 |0,_,_=>none
 |c+1,a,b=>
  bif decide (a<(↑l_.length:Int)) then(
  bd (
  gd (okI l_ a)<|
  gd (okI b a)<|
  bif decide ((ix l_ a)≠(-1)) then(
  gd (okI names (ix l_ a))<|
  gd (okI (up b a ([33]:List UInt8)) a)<|
  some (up (up b a ([33]:List UInt8)) a (ix names (ix l_ a)))) else(
  some (up b a ([33]:List UInt8)))) fun d=>
  gd (in64 (a+1))<|
  dx N l_ names c (a+1) d) else(
  some b)
def z1w(N:Nat)(l_:(List Int))(names:(List (List UInt8))):Option (List UInt8):=
 bif decide ((↑l_.length:Int)=0) then(
 some ([45]:List UInt8)) else(
 gd (okM 16 (↑l_.length:Int))<|
 bd (
 dx N l_ names N 0 (mk (↑l_.length:Int) ([]:List UInt8))) fun b=>
 bd (strings_Join N b ([32]:List UInt8)) fun a=>
 some a)
def lm(N:Nat)(x:Sb)(w_:(List Int)):Option ((List UInt8)×Int):=
 bd (z01 N x) fun c=>
 bif decide (c≠0) then(
 some (([]:List UInt8),c)) else(
 bd (z1x N w_ x.fD.inputs) fun a=>
 bif decide (a≠0) then(
 some (([]:List UInt8),a)) else(
 bd (z1w N w_ x.fG) fun b=>
 some (b,0)))
def pu(N:Nat)(s:(List UInt8))(substr:(List UInt8)):Option Int:=
 bif (decide ((↑substr.length:Int)=0))||(decide (substr=s)) then(
 some 0) else(
 bif decide ((↑substr.length:Int)=1) then(
 gd (okI substr 0)<|
 bd (yc N s (at8 substr 0)) fun a=>
 some a) else(
 none))
def strings_Index(N:Nat)(s:(List UInt8))(substr:(List UInt8)):Option Int:=
 bd (pu N s substr) fun a=>
 some a
def vk(N:Nat)(s:(List UInt8))(sep:(List UInt8))(sepSave:Int)(f:Int):Nat→(List UInt8)→Int→(List (List UInt8))→Option ((List UInt8)×Int×List (List UInt8))
 |0,_,_,_=>none
 |e+1,a,b,d=>
  bif decide (b<((min f ((↑s.length:Int)+1))-1)) then(
  bd (strings_Index N a sep) fun c=>
  bif decide (c<0) then(
  some (a,b,d)) else(
  gd (in64 (c+sepSave))<|
  gd (okS a 0 (c+sepSave))<|
  gd (okI d b)<|
  gd (in64 (c+(↑sep.length:Int)))<|
  gd (okS a (c+(↑sep.length:Int)) (↑a.length:Int))<|
  gd (in64 (b+1))<|
  vk N s sep sepSave f e (su a (c+(↑sep.length:Int)) (↑a.length:Int)) (b+1) (up d b (su a 0 (c+sepSave))))) else(
  some (a,b,d))
def strings_genSplit(N:Nat)(s:(List UInt8))(sep:(List UInt8))(sepSave:Int)(n:Int):Option (List (List UInt8)):=
 bif decide (n=0) then(
 some ([]:(List (List UInt8)))) else(
 bif decide (sep=([]:List UInt8)) then(
 none) else(
 bd (
 bif decide (n<0) then(
 bd (strings_Count N s sep) fun c=>
 gd (in64 (c+1))<|
 some (c+1)) else(
 some n)) fun b=>
 gd (in64 ((↑s.length:Int)+1))<|
 gd (okM 16 (min b ((↑s.length:Int)+1)))<|
 gd (in64 ((min b ((↑s.length:Int)+1))-1))<|
 bd (
 vk N s sep sepSave b N s 0 (mk (min b ((↑s.length:Int)+1)) ([]:List UInt8))) fun a=>
 gd (okI a.2.2 a.2.1)<|
 gd (in64 (a.2.1+1))<|
 gd (okS (up a.2.2 a.2.1 a.1) 0 (a.2.1+1))<|
 some (cut (up a.2.2 a.2.1 a.1) 0 (a.2.1+1))))
def strings_Split(N:Nat)(s:(List UInt8))(sep:(List UInt8)):Option (List (List UInt8)):=
 bd (strings_genSplit N s sep 0 (-1)) fun a=>
 some a
def z2j(N:Nat)(n:(List UInt8)):Option Bool:=
 bd (z15 N n) fun a=>
 some (!a)
def yz(N:Nat)(l_:(List (List UInt8))):Nat→Int→(List ((List UInt8)×Int))→Option (List ((List UInt8)×Int))
 |0,_,_=>none
 |c+1,a,b=>
  bif decide (a<(↑l_.length:Int)) then(
  gd (okI l_ a)<|
  gd (in64 (a+1))<|
  yz N l_ c (a+1) (z7r b (ix l_ a) a)) else(
  some b)
def z0w(N:Nat)(l_:(List (List UInt8))):Option (List ((List UInt8)×Int)):=
 bd (
 yz N l_ N 0 ([]:List ((List UInt8)×Int))) fun a=>
 some a
def oh(N:Nat)(b:(List (List UInt8)))(c:(List ((List UInt8)×Int))):Nat→Int→(List Int)→Option (Ex (List Int) ((List Int)×Int))
 |0,_,_=>none
 |e+1,a,d=>
  bif decide (a<(↑b.length:Int)) then(
  gd (okI b a)<|
  bif !(z7a c (ix b a)) then(
  some (Ex.rt (([]:(List Int)),7))) else(
  gd (okI d a)<|
  gd (in64 (a+1))<|
  oh N b c e (a+1) (up d a (z6j (0:Int) c (ix b a))))) else(
  some (Ex.go d))
def z2y(N:Nat)(x:Sb)(s:(List UInt8)):Option ((List Int)×Int):=
 bd (z01 N x) fun f=>
 bif decide (f≠0) then(
 some (([]:(List Int)),f)) else(
 bif decide (65536<(↑s.length:Int)) then(
 some (([]:(List Int)),3)) else(
 bif decide (s=([45]:List UInt8)) then(
 some (([]:(List Int)),0)) else(
 bd (strings_Split N s ([32]:List UInt8)) fun a=>
 bd (uw N a (fun g=>z2j N g)) fun c=>
 bif c then(
 some (([]:(List Int)),4)) else(
 bd (z0w N x.fG) fun d=>
 gd (okM 8 (↑a.length:Int))<|
 bd (
 oh N a d N 0 (mk (↑a.length:Int) (0:Int))) fun e=>
 Ex.on e (fun b=>
 bif decide (256<(↑b.length:Int)) then(
 some (([]:(List Int)),3)) else(
 some (b,0))) some))))
def z0s(N:Nat)(m:Mach)(s:Int):Option Int:=
 bd (ow N m) fun a=>
 bif decide (a≠0) then(
 some a) else(
 bif (decide (s<0))||(decide ((↑m.rows.length:Int)≤s)) then(
 some 1) else(
 some 0))
def dz(N:Nat)(m:Mach)(w_:(List Int)):Nat→Int→Int→(List Int)→Option (Int×List Int)
 |0,_,_,_=>none
 |f+1,b,a,c=>
  bif decide (a<(↑w_.length:Int)) then(
  gd (okI w_ a)<|
  bd (z1o N) fun d=>
  bd (
  bif decide (b≠(-1)) then(
  gd (okI m.rows b)<|
  gd (okI (ix m.rows b) (ix w_ a))<|
  some ((ix (ix m.rows b) (ix w_ a)).to,(ix (ix m.rows b) (ix w_ a)).out)) else(
  some (d.to,d.out))) fun e=>
  gd (okI c a)<|
  gd (in64 (a+1))<|
  dz N m w_ f e.1 (a+1) (up c a e.2)) else(
  some (b,c))
def z2c(N:Nat)(m:Mach)(s:Int)(w_:(List Int)):Option ((List Int)×Int):=
 gd (okM 8 (↑w_.length:Int))<|
 bd (
 dz N m w_ N s 0 (mk (↑w_.length:Int) (0:Int))) fun a=>
 some (a.2,a.1)
def ry(N:Nat)(m:Mach)(s:Int)(w_:(List Int)):Option ((List Int)×Int):=
 bd (z0s N m s) fun c=>
 bif decide (c≠0) then(
 some (([]:(List Int)),c)) else(
 bd (z1x N w_ m.inputs) fun a=>
 bif decide (a≠0) then(
 some (([]:(List Int)),a)) else(
 bd (z2c N m s w_) fun b=>
 some (b.1,0)))
def z1p(N:Nat)(c:Int)(p0_:Sb):Option Bool:=
 some ((decide (c<(-1)))||(decide (p0_.fD.outputs≤c)))
def z0i(N:Nat)(x:Sb)(out:(List Int)):Option ((List UInt8)×Int):=
 bd (z01 N x) fun c=>
 bif decide (c≠0) then(
 some (([]:List UInt8),c)) else(
 bif decide (256<(↑out.length:Int)) then(
 some (([]:List UInt8),3)) else(
 bd (yf N out (fun d=>z1p N d x)) fun a=>
 bif a then(
 some (([]:List UInt8),1)) else(
 bd (z1w N out x.fF) fun b=>
 some (b,0))))
def ig(N:Nat)(m:Mach)(s:Int)(i:Int):Option Edge:=
 bif decide (s<0) then(
 some (⟨(-1),(-1)⟩:Edge)) else(
 gd (okI m.rows s)<|
 gd (okI (ix m.rows s) i)<|
 some (⟨(ix (ix m.rows s) i).to,(ix (ix m.rows s) i).out⟩:Edge))
def yl(N:Nat)(m:Mach)(w_:(List Int)):Nat→Int→(List Int)→Int→Option (List Int)
 |0,_,_,_=>none
 |d+1,e,b,a=>
  bif decide (a<(↑w_.length:Int)) then(
  gd (okI w_ a)<|
  bd (ig N m e (ix w_ a)) fun c=>
  gd (fits 8 b ([c.out]:List Int))<|
  gd (in64 (a+1))<|
  yl N m w_ d c.to (b++([c.out]:List Int)) (a+1)) else(
  some b)
def pz(N:Nat)(m:Mach)(s:Int)(w_:(List Int)):Option (List Int):=
 bd (
 yl N m w_ N s ([]:List Int) 0) fun a=>
 some a
def uo(N:Nat)(l_:(List Int))(names:(List (List UInt8))):Nat→(List UInt8)→Int→Option (List UInt8)
 |0,_,_=>none
 |e+1,c,a=>
  bif decide (a<(↑l_.length:Int)) then(
  bd (
  bd (
  bif decide (0<a) then(
  gd (in64 (↑c.length+ ↑([32]:List UInt8).length))<|
  some (c++([32]:List UInt8))) else(
  some c)) fun b=>
  gd (okI l_ a)<|
  bif decide ((ix l_ a)<0) then(
  gd (in64 (↑b.length+ ↑([33]:List UInt8).length))<|
  some (b++([33]:List UInt8))) else(
  gd (okI l_ a)<|
  gd (okI names (ix l_ a))<|
  gd (in64 (↑b.length+ ↑(ix names (ix l_ a)).length))<|
  some (b++(ix names (ix l_ a))))) fun d=>
  gd (in64 (a+1))<|
  uo N l_ names e d (a+1)) else(
  some c)
def gm(N:Nat)(l_:(List Int))(names:(List (List UInt8))):Option (List UInt8):=
 bd (
 uo N l_ names N ([]:List UInt8) 0) fun a=>
 bif decide (a=([]:List UInt8)) then(
 some ([45]:List UInt8)) else(
 some a)
def z07(N:Nat):Option Bool:=some true
def ak(N:Nat)(x:Sc)(y:WDat):Option Bool:=
 bd (iw N x) fun a=>
 bd (mf N y a.fD.inputs) fun f=>
 bd (z2p N (⟨a.fA,(⟨a.fD.inputs,a.fD.outputs,a.fD.rows⟩:Mach),a.fG,a.fF,a.fC⟩:Sb)) fun g=>
 bd (z1v N g.1) fun b=>
 bd (lm N (⟨a.fA,(⟨a.fD.inputs,a.fD.outputs,a.fD.rows⟩:Mach),a.fG,a.fF,a.fC⟩:Sb) f) fun h=>
 bd (z2y N (⟨b.1.fA,(⟨b.1.fD.inputs,b.1.fD.outputs,b.1.fD.rows⟩:Mach),b.1.fG,b.1.fF,b.1.fC⟩:Sb) h.1) fun i=>
 bif (((decide (g.2≠0))||(decide (b.2.2.2≠0)))||(decide (h.2≠0)))||(decide (i.2≠0)) then(
 some false) else(
 bd (ry N (⟨b.1.fD.inputs,b.1.fD.outputs,b.1.fD.rows⟩:Mach) 0 i.1) fun d=>
 bd (z0i N (⟨b.1.fA,(⟨b.1.fD.inputs,b.1.fD.outputs,b.1.fD.rows⟩:Mach),b.1.fG,b.1.fF,b.1.fC⟩:Sb) d.1) fun c=>
 bd (gop (true&&(((decide (d.2=0))&&(decide (c.2=0)))==true)) (pz N (⟨a.fD.inputs,a.fD.outputs,a.fD.rows⟩:Mach) 0 f)) fun j=>
 bd (gop (true&&(((decide (d.2=0))&&(decide (c.2=0)))==true)) (gm N (j.getD default) a.fF)) fun e=>
 bd (gop (true&&((((decide (d.2=0))&&(decide (c.2=0)))&&(decide (c.1=(e.getD default))))==true)) (z07 N)) fun k=>
 some ((((decide (d.2=0))&&(decide (c.2=0)))&&(decide (c.1=(e.getD default))))&&(k.getD default)))
end GV
end Go.Proofs.YtkkcidhcfkmbjaaGreatDoor
