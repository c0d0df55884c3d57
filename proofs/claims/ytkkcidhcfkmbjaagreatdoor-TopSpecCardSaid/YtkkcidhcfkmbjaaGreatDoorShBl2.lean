
import Derived.Test.YtkkcidhcfkmbjaaGreatDoorShAb
import Derived.Laws.DeepStrings4
import Derived.Laws.Concat
import Derived.Laws.Cover1
import Derived.Laws.Externs
import Derived.Lib.Bytealg
import Derived.Test.YtkkcidhcfkmbjaaGreatDoorAiLive
import Derived.Test.YtkkcidhcfkmbjaaGreatDoorAiLay
set_option linter.unusedVariables false
set_option linter.unusedSimpArgs false
set_option linter.unusedSectionVars false
namespace Go.Proofs.YtkkcidhcfkmbjaaGreatDoor
namespace GV
def ltS:List UInt8→List UInt8→Bool
 |_,[]=>false
 | [],_::_=>true
 |a::l,b::m=>if a<b then true else if a=b then ltS l m else false
theorem zmu: ∀ (a b:List UInt8),Op.bytesLess a b=ltS a b
 | [],[]=>rfl
 |_::_,[]=>rfl
 | [],_::_=>rfl
 |a::l,b::m=>by
  show (decide (a<b)||(a==b&&Op.bytesLess l m))=ltS (a::l) (b::m)
  unfold ltS
  rw [zmu l m]
  by_cases h:a<b
  ·simp [h]
  ·by_cases h':a=b<;>simp [h,h']
def su(X:List UInt8)(lo hi:Int):List UInt8:=(X.take hi.toNat).drop lo.toNat
def at8(X:List UInt8)(i:Int):Int:=((ix X i).toNat:Int)
theorem zlg:CellsOf ql (fun x=>[zb x]):=⟨fun _=>rfl,fun R cs x=>Iff.rfl⟩
section a
variable {P : Program} {ρ : Option Nat} {l : Nat → Value} {R : RH} {O : List Frag} {dst : Option Tmp} {ty : TypeId} {pos : String} {after : Array Go.Edge} {g : Option (Nat × Bool)}
variable {t t' : TypeId} {x y : Operand} {X Y : List UInt8}
theorem zex(X:List UInt8):(ByteArray.mk X.toArray).toList=X:=by rw [ByteArray.toList_eq]
theorem zae{w:World}{op:BinOp}{v:Value}(b:ev l x=zb X)(c:ev l y=zb Y)
 (a:(binOp op t (zb X) (zb Y)).run P w= .ok v w):(execOp (ev l) (⟨dst,.binOp op t x y t',ty,pos,after,g⟩:Oper)).run P w= .ok (.value v) w:=by
 have d:(eqGuard op t x y (zb X) (zb Y)).run P w= .ok () w:=by cases op<;>rfl
 simp only [execOp,b,c,Sem.run_bind,d,Result.andThen_ok,a]
 rfl
theorem z0d(a:ev l x=zb X)(b:ev l y=zb Y):Val P ρ ⟨dst,.binOp .eql t x y t',ty,pos,after,g⟩ l R O (.bool (decide (X=Y))):=by
 intro A w _;rw [qi (by intro c h;cases h)]
 refine zae a b ?_
 unfold zb
 rw [binOp_string_eql,zex,zex]
 show Result.ok (Value.bool (X==Y)) w=_
 congr 2
 rw [Bool.eq_iff_iff];simp
theorem z3f(a:ev l x=zb X)(b:ev l y=zb Y):Val P ρ ⟨dst,.binOp .neq t x y t',ty,pos,after,g⟩ l R O (.bool (decide (X≠Y))):=by
 intro A w _;rw [qi (by intro c h;cases h)]
 refine zae a b ?_
 unfold zb
 rw [binOp_string_neq,zex,zex]
 show Result.ok (Value.bool (X !=Y)) w=_
 congr 2
 rw [Bool.eq_iff_iff];simp
theorem zn8(a:ev l x=zb X)(b:ev l y=zb Y):Val P ρ ⟨dst,.binOp .lss t x y t',ty,pos,after,g⟩ l R O (.bool (ltS X Y)):=by
 intro A w _;rw [qi (by intro c h;cases h)]
 refine zae a b ?_
 unfold zb
 rw [binOp_string_lss,zex,zex,zmu];rfl
theorem za4(a:ev l x=zb X)(b:ev l y=zb Y)(h:in64 (X.length+Y.length)):Val P ρ ⟨dst,.binOp .add t x y t',ty,pos,after,g⟩ l R O (zb (X++Y)):=by
 intro A w _;rw [qi (by intro c h;cases h)]
 refine zae a b ?_
 unfold zb
 rw [binOp_string_add,run_string_add_sum w _ _ (by have:=h.2;simp [ByteArray.size];omega),ByteArray.mk_append_mk]
theorem bz{at':Array TypeId}(a:at'[0]? =some t)(b:P.underlying t=some .string)(d:ev l x=zb X):
 Val P ρ ⟨dst,.call ⟨.builtin .len,#[x],at'⟩,ty,pos,after,g⟩ l R O (.int .i64 X.length):=by
 intro A w _;rw [qi (by intro c h;cases h)]
 have e:(ByteArray.mk X.toArray).size=X.length:=rfl
 simp [execOp,resolve,invoke,builtin,Builtin.len_,a,underlying,b,d,goInt,zb,e]
theorem z0x{k:IntKind}{i:Int}(a:P.underlying t=some .string)(b:ev l x=zb X)(d:ev l y= .int k i)(h:okI X i):
 Val P ρ ⟨dst,.index t x y,ty,pos,after,g⟩ l R O (.int .u8 (at8 X i)):=by
 intro A w _;rw [qi (by intro c h;cases h)]
 have e:0≤i∧i<((ByteArray.mk X.toArray).size:Int):=h
 simp only [execOp,b,d,zb,Sem.run_bind,run_index_string _ _ _ _ _ a,dif_pos e,Result.andThen_ok]
 have hi:i.toNat<X.length:=by have:=h.1;have:=h.2;omega
 have:(ByteArray.mk X.toArray)[i.toNat]'(by have:=h.1;have:=h.2;simp [ByteArray.size];omega)=ix X i:=by
  unfold ix
  rw [List.getD_eq_getElem?_getD,List.getElem?_eq_getElem hi]
  rfl
 rw [this];rfl
theorem zia{w:World}{lo hi:Option Value}{a b:Int}(d:P.underlying t=some .string)(f:lo=none∧a=0∨ ∃ k,lo=some (.int k a))(g:hi=none∧b=X.length∨ ∃ k,hi=some (.int k b))(h:okS X a b):
 (Instr.slice t (zb X) lo hi none).run P w= .ok (zb (su X a b)) w:=by
 have c:(ByteArray.mk X.toArray).size=X.length:=by simp [ByteArray.size]
 have e: ∀ m n:Nat,Value.string ((ByteArray.mk X.toArray).extract m n)=zb ((X.take n).drop m):=fun m n=>by
  unfold zb;rw [ByteArray.extract_mk];simp [List.drop_take]
 obtain⟨i,j,l⟩:=h
 unfold su
 rcases f with⟨rfl,rfl⟩|⟨k,rfl⟩<;>rcases g with⟨rfl,rfl⟩|⟨k',rfl⟩
 ·unfold zb;rw [run_slice_string_all _ _ _ d,e,c];rfl
 ·unfold zb;rw [run_slice_string_h _ _ _ d k' b (by omega) (by rw [c];omega),e];rfl
 ·unfold zb;rw [run_slice_string_l _ _ _ d k a (by omega) (by rw [c];omega),e,c];rfl
 ·unfold zb;rw [run_slice_string_if _ _ _ _ _ _ _ d,if_pos (by rw [c];omega),if_pos (by omega),e];rfl
theorem l7{lo hi:Option Operand}{a b:Int}(d:P.underlying t=some .string)(f:ev l x=zb X)(i:lo=none∧a=0∨ ∃ k,lo.map (ev l)=some (.int k a))(j:hi=none∧b=X.length∨ ∃ k,hi.map (ev l)=some (.int k b))(h:okS X a b):
 Val P ρ ⟨dst,.slice t x lo hi none,ty,pos,after,g⟩ l R O (zb (su X a b)):=by
 intro A w _;rw [qi (by intro c h;cases h)]
 have:=zia (P:=P) (w:=w) (lo:=lo.map (ev l)) (hi:=hi.map (ev l)) d (i.imp (fun⟨e,h⟩=>⟨by rw [e];rfl,h⟩) id) (j.imp (fun⟨e,h⟩=>⟨by rw [e];rfl,h⟩) id) h
 have m:(underlying t:Sem TypeDesc).run P w= .ok .string w:=by simp [underlying,d]
 have n:(Instr.sliceAt t (zb X) (lo.map (ev l)) (hi.map (ev l)) none).run P w= .ok (zb (su X a b)) w:=by
  unfold Instr.sliceAt
  simp only [Sem.run_bind,m,Result.andThen_ok,this]
 simp only [execOp,Sem.run_bind,f,Option.map_none,n,Result.andThen_ok]
 rfl
def zme(P:Program)(f:FuncId)(ps:Array Value)(v:Value):Prop:= ∀ w,(callFunc f ps).run P w= .ok (.value v) w
theorem zjw{f:FuncId}{args:List Operand}{at':Array TypeId}{vs:List Value}{v:Value}(h:zme P f vs.toArray v)(a:args.map (ev l)=vs):
 Val P ρ ⟨dst,.call ⟨.value (.func f),args.toArray,at'⟩,ty,pos,after,g⟩ l R O v:=by
 intro A w _;rw [qi (by intro c h;cases h)]
 have e: #[]++vs.toArray++ #[]=vs.toArray:=by simp
 have b:ev l (.func f)= .func (.func f) #[] #[]:=rfl
 have ha':args.toArray.map (ev l)=vs.toArray:=by rw [←a];simp
 simp only [execOp,resolve,b,ha',Deferred.ofValue,Sem.run_bind,Sem.run_pure,Result.andThen_ok,invoke,e]
 exact h w
theorem zii {f : FuncId} {fn : Func} {c : Int} (a : P.funcs[f]? = some fn) (hname : (fn.name == "runtime.NumGoroutine") = false) (b : fn.body.isNone = true) (d : Extern.findNext fn = none) (e : Extern.find fn = some Extern.BytealgIndexByte.indexByte) :
 zme P f #[zb X,.int .u8 c] (.int .i64 (Lib.indexByte X c.toNat.toUInt8)):=by
 intro w
 rw [run_callFunc_extern a hname b d e]
 unfold zb
 rw [run_indexByte_string,Lib.firstIdx_eq];rfl
theorem zir {f : FuncId} {fn : Func} {c : Int} (a : P.funcs[f]? = some fn) (hname : (fn.name == "runtime.NumGoroutine") = false) (b : fn.body.isNone = true) (d : Extern.findNext fn = none) (e : Extern.find fn = some Extern.BytealgCount.count) :
 zme P f #[zb X,.int .u8 c] (.int .i64 (Lib.countByte X c.toNat.toUInt8)):=by
 intro w
 rw [run_callFunc_extern a hname b d e]
 unfold zb
 rw [Lib.run_countString];rfl
theorem zga{n i:Nat}{X:Arr n (List UInt8)}{kk:IntKind}{t e:TypeId}{x y:Operand}(b:P.underlying t=some (.array n e))(d: ∀ w,(sizeOf e).run P w= .ok 1 w)(f: ∀ w,(isAgg e).run P w= .ok false w)(j:ev l x= .agg (z9w (fun x:List UInt8=>[zb x]) X).toArray)(k:ev l y= .int kk i)(hi:i<n):
 Val P ρ ⟨dst,.index t x y,ty,pos,after,g⟩ l R O (zb (X.1.getD i default)):=by
 intro A w _;rw [qi (by intro c h;cases h)]
 have a:=zr8 (cl:=fun x:List UInt8=>[zb x]) (X:=X) (i:=i) (sz:=1) (fun _=>rfl) hi
 have o:=zkz (cl:=fun x:List UInt8=>[zb x]) (sz:=1) (fun _=>rfl) X
 have m:(z9w (fun x:List UInt8=>[zb x]) X)[i]? =some (zb (X.1.getD i default)):=by
  rw [Nat.mul_one] at a
  have:=congrArg (·[0]?) a
  simpa [List.getElem?_take,List.getElem?_drop] using this
 simp [execOp,j,k,Instr.index,asIntOf,underlying,b,part,d,f,m]
 exact fun h=>absurd hi (Nat.not_lt.2 h)
def zal:Arr 5 (List UInt8):=⟨[[45,62],[60,61],[62,61],[33,61],[58,61]],rfl⟩
theorem zcr{b:ByteArray}{x:List Nat}(h:x=b.data.toList.map (·.toNat)):Value.string b=zb (x.map UInt8.ofNat):=by
 subst h
 unfold zb
 obtain⟨⟨l⟩⟩:=b
 simp [List.map_map,Function.comp_def]
theorem zoz{T:Ty (Arr 5 (List UInt8))}(i:CellsOf T (z9w fun x=>[zb x]))(j:T.size=5)(k:AI.GR AI.Cc R):PRep T R (.pointer (some ⟨1,0,none⟩)) zal:=by
 obtain⟨c,ty,fr,l,a⟩:=k 1 _ (by simp [AI.Cc];rfl)
 have a:=a fun _=>none
 obtain⟨m,n,b,d,a⟩:=AI.VRs_cons.1 a
 obtain⟨o,p,rfl,e,a⟩:=AI.VRs_cons.1 a
 obtain⟨q,r,rfl,f,a⟩:=AI.VRs_cons.1 a
 obtain⟨s,t,rfl,g,a⟩:=AI.VRs_cons.1 a
 obtain⟨u,v,rfl,h,a⟩:=AI.VRs_cons.1 a
 rw [AI.VRs_nil.1 a] at b
 rw [AI.VR] at d e f g h
 obtain⟨w,rfl,d⟩:=d
 obtain⟨y,rfl,e⟩:=e
 obtain⟨z,rfl,f⟩:=f
 obtain⟨A,rfl,g⟩:=g
 obtain⟨B,rfl,h⟩:=h
 rw [zcr d,zcr e,zcr f,zcr g,zcr h] at b
 refine⟨1,0,c,ty,fr,rfl,l,(i.iff _ _ _).2 ?_⟩
 have:cellsAt c 0 T.size=c.toList:=by rw [j];simp [cellsAt,b]
 rw [this,b];rfl
def idxB(X:List UInt8)(c:Int):Int:=Lib.indexByte X c.toNat.toUInt8
def cntB(X:List UInt8)(c:Int):Int:=(Lib.countByte X c.toNat.toUInt8:Nat)
end a
end GV
end Go.Proofs.YtkkcidhcfkmbjaaGreatDoor

namespace Go.Proofs.YtkkcidhcfkmbjaaGreatDoor
namespace GV
open Go.Shelf
theorem zha{R:RH}{A:List Frag}{w w':World}(h:Holds R A w)(b:RowKit.Below w.heap.size w w'):Holds R A w':=by
 have key: ∀ k o,w.heap[k]? =some o→w'.heap[k]? =some o:=fun k o a=>by
  rw [b.block k (Array.getElem?_eq_some_iff.1 a).1];exact a
 exact⟨fun k o a=>key k o (h.ro k o a),fun f c k o a=>⟨key k o (h.own f c k o a).1,(h.own f c k o a).2⟩,h.sep,⟨b.os.trans h.os.1,fun k o _ _=>trivial⟩,b.output.trans h.out⟩
def qz:List (List UInt8)→List UInt8→List UInt8
 | [],_=>[]
 | [x],_=>x
 |x::y::r,s=>x++(s++qz (y::r) s)
theorem zcg: ∀ (X:List (List UInt8)) (s:List UInt8),Lib.join X s=qz X s
 | [],_=>rfl
 | [x],s=>Lib.join_one x s
 |x::y::r,s=>by
  rw [qz,←zcg (y::r) s,Lib.join_cons,Lib.join_cons]
  simp [Lib.joinTail,List.append_assoc]
def z0m:Nat:=140737488355328
theorem zcd{R:RH}{l:List (List UInt8)}{s:List UInt8}{a:Value}{b:Bool}(f:VRep (tSl b ql) R a l)(q:l.length≤z0m∧(qz l s).length≤z0m):
 CallP Tryz.prog 80 #[a,zb s] R (fun v R'=>v=zb (qz l s)):=by
 obtain⟨p,n,rfl,r,F,t⟩:=xh.1 (uk f)
 obtain⟨u,z⟩:=q
 intro A w g
 have d:(l.map fun x=>ByteArray.mk x.toArray).map (·.data.toList)=l:=by
  rw [List.map_map]
  conv=>rhs;rw [←List.map_id l]
  refine List.map_congr_left fun x _=>?_
  simp
 have hsep:(ByteArray.mk s.toArray).data.toList=s:=by simp
 rcases t with rfl|⟨b,off,c,ty,fr,rfl,B,C⟩
 ·exact Calls.mono (Any.strings_Join_none Tryz.lays156 Tryz.extra156 p n ⟨s.toArray⟩ w) fun e w' ⟨h,D⟩=>⟨_,h,R,RH.le.refl _,D▸g,rfl⟩
 ·have hblk:=g.ro _ _ B
  have:=Any.strings_Join Tryz.lays156 Tryz.extra156 b off n (l.map fun x=>ByteArray.mk x.toArray) ⟨s.toArray⟩ w (fun j y m=>by
   rw [List.getElem?_map,Option.map_eq_some_iff] at m
   obtain⟨x,E,rfl⟩:=m
   have o:cellsAt c (off+j*1) 1=[zb x]:=C j x E
   unfold cellsAt at o
   have i:=congrArg (·[0]?) o
   simp only [List.getElem?_take,List.getElem?_drop] at i
   simp at i
   simp [World.cell?,hblk]
   exact i) (Array.getElem?_eq_some_iff.1 hblk).1 (by rw [List.length_map];exact u) (by rw [List.length_map];exact r) (by
    rw [d,hsep,zcg];exact z)
  rw [List.length_map,d,hsep,zcg] at this
  exact Calls.mono this fun e w' ⟨h,k⟩=>⟨_,h,R,RH.le.refl _,zha g k,rfl⟩
end GV
end Go.Proofs.YtkkcidhcfkmbjaaGreatDoor

namespace Go.Proofs.YtkkcidhcfkmbjaaGreatDoor
namespace GV
open Go.Shelf
def byC(X:List UInt8):List Value:=X.map fun b=>Value.int .u8 b.toNat
theorem zah(X:List UInt8):(byC X).length=X.length:=by simp [byC]
theorem zka(X Y:List UInt8):byC (X++Y)=byC X++byC Y:=by simp [byC]
theorem zbx(X:List UInt8): ∀ v∈byC X,v.oneCell'=true:=fun v a=>by
 unfold byC at a
 obtain⟨b,_,rfl⟩:=List.mem_map.1 a
 rfl
def BRep(e:TypeId)(f:Frag)(v:Value)(X:List UInt8):Prop:=
 (v= .slice none 0 0∧X=[]∧f=emp)∨
 ∃ b cs cap,v= .slice (some ⟨b,0,none⟩) X.length cap∧f=box b cs e∧X.length≤cap∧cap≤cs.length∧(∀ c∈cs,c.oneCell'=true)∧cs.take X.length=byC X
section bld
variable {P : Program} {ρ : Option Nat} {l : Nat → Value} {R : RH} {O : List Frag} {dst : Option Tmp} {ty : TypeId} {pos : String} {after : Array Go.Edge} {g : Option (Nat × Bool)}
theorem zdw(S:List UInt8)(w:World):(Builtin.firstCells 1 S.length (zb S)).run P w= .ok (byC S).toArray w:=by
 simp [Builtin.firstCells,zb,byC]
variable {z : Int} {bytes : Nat} {t t2 e : TypeId} {i : TypeInfo} {zv : Value} {w : World} {S : List UInt8}
theorem zdt(g:P.underlying t=some (.slice e))(a:P.underlying t2=some .string)(hi:P.info? e=some i)(b:i.zero=some zv)(h:i.size=1)(c:i.bytes=bytes)
 {s:Value} {base:Option Addr} {n cap:Nat} {olds:List Value} (d:s= .slice base n cap) (hold: ∀ w',w'.heap=w.heap→(Builtin.firstCells 1 n s).run P w'= .ok olds.toArray w')
 {m:Nat} {news:List Value} (j:m=S.length) (hnew: ∀ w',(Builtin.firstCells 1 m (zb S)).run P w'= .ok news.toArray w')
 (k:cap<n+m) (l:n+m≤9223372036854775807) (hfit:(n+m)*bytes≤140737488355328):
 (Builtin.append_ #[t,t2] ty #[s,zb S]).run P w= .ok (.slice (some ⟨w.heap.size,0,none⟩) (n+m) (grownCap w (n+m) cap e))
  (w.drew.alloc (.cells (olds.toArray++news.toArray++Builtin.zeroCells zv.cells (grownCap w (n+m) cap e-(n+m))) e)):=by
 subst d
 have o: ¬(n+m≤cap):=by omega
 have h63': ¬(9223372036854775807<((n:Int)+(m:Int))):=by omega
 have h48': ¬(281474976710656<Builtin.nextslicecap (n+m) cap*i.bytes):=by rw [c];exact zd5 k hfit
 subst j
 have p:(ByteArray.mk S.toArray).size=S.length:=by simp [ByteArray.size]
 unfold zb at*
 have q:=hnew w.drew
 have f:=hold w.drew rfl
 simp [Builtin.append_,run_underlying g,run_underlying a,sizeOf,typeInfo,zeroValue,hi,b,h,p,Builtin.lenOf,o,h63',h48',Question.forced,q,f,newRow,grownCap]
 congr 2
 apply Array.ext'
 simp [List.append_assoc]
theorem zdh(d:P.underlying t=some (.slice e))(c:P.underlying t2=some .string)(hi:P.info? e=some i)(f:i.size=1)
 {b off n cap:Nat} {m:Nat} {news:List Value} (g:m=S.length) (hnew:(Builtin.firstCells 1 m (zb S)).run P w= .ok news.toArray w)
 (h:n+m≤cap) {w':World} (a:(storeCells ⟨b,off+n*1,none⟩ news 0).run P w= .ok () w'):
 (Builtin.append_ #[t,t2] ty #[.slice (some ⟨b,off,none⟩) n cap,zb S]).run P w= .ok (.slice (some ⟨b,off,none⟩) (n+m) cap) w':=by
 subst g
 have j:(ByteArray.mk S.toArray).size=S.length:=by simp [ByteArray.size]
 unfold zb at*
 rw [Nat.mul_one] at a
 simp [Builtin.append_,run_underlying d,run_underlying c,sizeOf,typeInfo,hi,f,j,Builtin.lenOf,h,hnew,addr_add,a]
theorem zce{t t2:TypeId}{x y:Operand}{v u r:Value}{w w':World}(a:ev l x=v)(b:ev l y=u)(h:(Builtin.append_ #[t,t2] ty #[v,u]).run P w= .ok r w'):
 (execOp (ev l) (⟨dst,.call ⟨.builtin .append,#[x,y],#[t,t2]⟩,ty,pos,after,g⟩:Oper)).run P w= .ok (.value r) w':=by
 have c:(#[x,y]:Array Operand).map (ev l)= #[v,u]:=by simp [a,b]
 simp only [execOp,resolve,c,Sem.run_bind,Sem.run_pure,Result.andThen_ok,invoke,builtin,h]
theorem zlx{z:Int}{bytes:Nat}{t t2 e:TypeId}{x y:Operand}{v:Value}{X S:List UInt8}{i:Nat}{f:Frag}
 (B:P.underlying t=some (.slice e)) (j:P.underlying t2=some .string) (H:ZeroOk P e (jh .u8) z bytes) (n:bytes=1) (C:ev l x=v) (D:ev l y=zb S) (o:O[i]? =some f) (I:BRep e f v X)
 (J:S≠[]) (hb:X.length+S.length≤140737488355328):
 Eff P ρ ⟨dst,.call ⟨.builtin .append,#[x,y],#[t,t2]⟩,ty,pos,after,g⟩ l R O (fun v' R' O'=>R'=R∧ ∃ f',O'=O.set i f'∧BRep e f' v' (X++S)):=by
 intro A w p;rw [qi (by intro c h;cases h)]
 obtain⟨inf,zv,E,K,F,L,M⟩:=H.info
 have hilt:i<O.length:=(List.getElem?_eq_some_iff.1 o).1
 have hO':(O++A)[i]? =some f:=by rw [List.getElem?_append_left hilt];exact o
 have hpos:0<S.length:=List.length_pos_iff.2 J
 have grow: ∀ {base:Option Addr} {cap:Nat},v= .slice base X.length cap→(∀ w',w'.heap=w.heap→(Builtin.firstCells 1 X.length v).run P w'= .ok (byC X).toArray w')→cap<X.length+S.length→
  Out P (fun v' w'=> ∃ R' O',R.le R'∧Holds R' (O'++A) w'∧R'=R∧ ∃ f',O'=O.set i f'∧BRep e f' v' (X++S)) ((execOp (ev l) (⟨dst,.call ⟨.builtin .append,#[x,y],#[t,t2]⟩,ty,pos,after,g⟩:Oper)).run P w):=by
  intro base cap q hold N
  rw [zce C D (zdt B j E K F L q hold rfl (fun w'=>zdw S w') N (by omega) (by subst n;omega))]
  have hcap:=grownCap_ge w (X.length+S.length) cap e
  obtain⟨r,d⟩:=za8 (M R) (grownCap w (X.length+S.length) cap e-(X.length+S.length))
  have d:(Builtin.zeroCells zv.cells (grownCap w (X.length+S.length) cap e-(X.length+S.length))).toList.length=grownCap w (X.length+S.length) cap e-(X.length+S.length):=by rw [d];exact Nat.mul_one _
  have s:=holds_alloc (z6n p) (.cells ((byC X++byC S)++(Builtin.zeroCells zv.cells (grownCap w (X.length+S.length) cap e-(X.length+S.length))).toList).toArray e (0,0))
  refine⟨R,O.set i (box w.heap.size ((byC X++byC S)++(Builtin.zeroCells zv.cells (grownCap w (X.length+S.length) cap e-(X.length+S.length))).toList) e),RH.le.refl _,?_,rfl,_,rfl,.inr ⟨_,_,_,by rw [List.length_append],rfl,by rw [List.length_append];exact hcap,?_,?_,?_⟩⟩
  ·have Q:Holds R (single w.heap.size (.cells ((byC X++byC S)++(Builtin.zeroCells zv.cells (grownCap w (X.length+S.length) cap e-(X.length+S.length))).toList).toArray e (0,0))::(O++A)) (w.drew.alloc (.cells ((byC X).toArray++(byC S).toArray++Builtin.zeroCells zv.cells (grownCap w (X.length+S.length) cap e-(X.length+S.length))) e (0,0))):=by
    have T:((byC X).toArray++(byC S).toArray++Builtin.zeroCells zv.cells (grownCap w (X.length+S.length) cap e-(X.length+S.length)))=((byC X++byC S)++(Builtin.zeroCells zv.cells (grownCap w (X.length+S.length) cap e-(X.length+S.length))).toList).toArray:=by
     apply Array.ext';simp
    rw [T]
    exact s
   have u:(single w.heap.size (.cells ((byC X++byC S)++(Builtin.zeroCells zv.cells (grownCap w (X.length+S.length) cap e-(X.length+S.length))).toList).toArray e (0,0))::(O++A)).Perm
    (f::(O.set i (box w.heap.size ((byC X++byC S)++(Builtin.zeroCells zv.cells (grownCap w (X.length+S.length) cap e-(X.length+S.length))).toList) e)++A)):=by
    have U:=(fw O i f o).append_right A
    have G:=(fw (O.set i (box w.heap.size ((byC X++byC S)++(Builtin.zeroCells zv.cells (grownCap w (X.length+S.length) cap e-(X.length+S.length))).toList) e)) i _ (by rw [List.getElem?_set_self hilt])).append_right A
    rw [List.eraseIdx_set_eq] at G
    exact(U.cons _).trans ((List.Perm.swap f _ _).trans (G.symm.cons f))
   exact holds_drop (u6 Q u)
  ·simp only [List.length_append,zah,d];omega
  ·intro c a
   rcases List.mem_append.1 a with a|a
   ·rcases List.mem_append.1 a with a|a
    ·exact zbx _ _ a
    ·exact zbx _ _ a
   ·exact r c a
  ·rw [zka,List.take_left' (by simp [zah])]
 rcases I with⟨rfl,rfl,rfl⟩|⟨b,cs,cap,rfl,rfl,a,V,k,m⟩
 ·exact grow (base:=none) (cap:=0) rfl (fun w' _=>rfl) (by simpa using hpos)
 ·have hblk:w.heap[b]? =some (.cells cs.toArray e (0,0)):=oq p hO' (single_same _ _)
  by_cases hroom:X.length+S.length≤cap
  ·obtain⟨w',W,Y,Z,h5,h6⟩:=run_storeCells (P:=P) (byC S) cs (0+X.length*1) 0 w hblk (by rw [zah];omega) (zbx S)
   rw [zce C D (zdh B j E F rfl (zdw S w) hroom W)]
   have hset:=z2t p hO' Y Z h5 h6
   rw [List.set_append_left _ _ hilt] at hset
   refine⟨R,_,RH.le.refl _,hset,rfl,_,rfl,.inr ⟨b,_,cap,by rw [List.length_append],rfl,by rw [List.length_append];exact hroom,?_,?_,?_⟩⟩
   ·simp only [over,List.length_append,List.length_take,List.length_drop,zah];omega
   ·intro c hc'
    unfold over at hc'
    rcases List.mem_append.1 hc' with hc'|hc'
    ·rcases List.mem_append.1 hc' with hc'|hc'
     ·exact k _ (List.mem_of_mem_take hc')
     ·exact zbx _ _ hc'
    ·exact k _ (List.mem_of_mem_drop hc')
   ·unfold over
    rw [zka,show 0+X.length*1+0=X.length from by omega,m,List.take_left' (by simp [zah])]
  ·refine grow (base:=some ⟨b,0,none⟩) (cap:=cap) rfl (fun w' hw'=>?_) (by omega)
   simp only [Builtin.firstCells]
   have hb':w'.heap[b]? =some (.cells cs.toArray e (0,0)):=by rw [hw'];exact hblk
   rw [run_loadCells hb' (by rw [List.size_toArray];omega)]
   simp [cellsAt,m]
end bld
end GV
end Go.Proofs.YtkkcidhcfkmbjaaGreatDoor

namespace Go.Proofs.YtkkcidhcfkmbjaaGreatDoor
namespace GV
open _root_.Go.Proofs.Tryz
open Go.Shelf
namespace BLD
theorem n240:Go.Proofs.Lays.n240 prog Tryz.lays156_ren:=by
 have L:=Tryz.lays156
 exact {mixed:=L.mixed,f240:=L.f240,f276:=L.f276,t0:=L.t0,a0:=L.a0,z0:=L.z0,v0:=L.v0,t4:=L.t4,a4:=L.a4,z4:=L.z4,v4:=L.v4,t9:=L.t9,a9:=L.a9,z9:=L.z9,v9:=L.v9,t20:=L.t20,a20:=L.a20,z20:=L.z20,v20:=L.v20,t70:=L.t70,a70:=L.a70,z70:=L.z70,v70:=L.v70,t72:=L.t72,a72:=L.a72,z72:=L.z72,v72:=L.v72,t164:=L.t164,a164:=L.a164,z164:=L.z164,v164:=L.v164}
theorem fd1:FieldOk prog 144 1 1:=by
 obtain⟨i,hi,a⟩: ∃ i,prog.info? 65=some i∧i.size=1:=j5 (by kernel_rfl)
 exact u7 underlying144 rfl rfl hi (by rw [a];rfl)
theorem zpc: ∀ w,(isAgg 65).run prog w= .ok false w:=fun w=>by kernel_rfl
theorem zu5: ∀ w,(sizeOf 65).run prog w= .ok 1 w:=fun w=>by kernel_rfl
theorem zo5:ZeroOk prog 5 (jh .u8) 0 1:=by
 obtain⟨i,zv,hi,a,c,d,f⟩:=z11 (P:=prog) (e:=5) (zv:=(.int .u8 0)) (k:=1) (b:=1) (by kernel_rfl)
 exact⟨i,zv,hi,a,c,d,fun R=>by subst f;exact rfl⟩
theorem zt5:Enters prog 148:=enters_of func148 rfl (by kernel_rfl)
theorem en79:Enters prog 79:=enters_of func79 rfl (by kernel_rfl)
theorem en80:Enters prog 80:=enters_of func80 rfl (by kernel_rfl)
theorem check{R:RH}{b:Nat}{p u:Value}(c:p= .pointer none∨p= .pointer (some ⟨b,0,none⟩)):
 CallG prog 148 #[.pointer (some ⟨b,0,none⟩)] R [box b [p,u] 144] (fun v R' O'=>v= .tuple #[]∧R'=R∧O'=[box b [.pointer (some ⟨b,0,none⟩),u] 144]):=by
 intro A w a
 have hblk:w.heap[b]? =some (.cells [p,u].toArray 144 (0,0)):=(a.own _ (List.mem_cons_self ..) b _ (single_same _ _)).1
 rcases c with rfl|rfl
 ·refine Calls.mono (Any.Builder_copyCheck_fresh n240 Tryz.extra156.toX72 b w (by simp [World.cell?,hblk]) (by simp [World.shape?,hblk];rfl) (by simp [World.frozen?,hblk])) ?_
  rintro e w' ⟨rfl,rfl⟩
  refine⟨_,rfl,R,_,RH.le.refl _,z2w (w':=w.setCell ⟨b,0,none⟩ (.pointer (some ⟨b,0,none⟩))) (o':= .cells [.pointer (some ⟨b,0,none⟩),u].toArray 144 (0,0)) a ?_ (fun k d=>?_) rfl rfl,rfl,rfl,rfl⟩
  ·obtain⟨f,g⟩:=Array.getElem?_eq_some_iff.1 hblk
   show (w.heap.modify b _)[b]? =_
   rw [Array.getElem?_eq_getElem (by rw [Array.size_modify];exact f),Array.getElem_modify_self,g]
   simp
  ·show (w.heap.modify b _)[k]? =_
   rw [Array.getElem?_modify,if_neg (fun e=>d e.symm)]
 ·refine Calls.mono (Any.Builder_copyCheck_used n240 Tryz.extra156.toX72 b w (by simp [World.cell?,hblk])) ?_
  rintro e w' ⟨rfl,rfl⟩
  exact⟨_,rfl,R,_,RH.le.refl _,a,rfl,rfl,rfl⟩
theorem zoo{P:Program}{ρ:Option Nat}{n d:Nat}{ops:Array Oper}{Q:Po}{rest:List Oper}{l:Nat→Value}{D:List Nat}{R:RH}{O:List Frag}{ty:TypeId}{pos:String}{after:Array Go.Edge}
 {z:Int} {t c e:TypeId} {x y:Operand} {v:Value} {X S:List UInt8} {i:Nat} {f:Frag} (g:Nat.blt d n=true)
 (j:P.underlying t=some (.slice e)) (a:P.underlying c=some .string) (k:ZeroOk P e (jh .u8) z 1) (m:ev l x=v) (o:ev l y=zb S) (b:O[i]? =some f) (p:BRep e f v X)
 (q:S≠[]) (r:X.length+S.length≤140737488355328) (s: ∀ v' f',BRep e f' v' (X++S)→wo P ρ n ops Q rest (upd l d v') D R (O.set i f')):
 wo P ρ n ops Q (⟨some d,.call ⟨.builtin .append,#[x,y],#[t,c]⟩,ty,pos,after,none⟩::rest) l D R O:=
 z0n g (zlx j a k rfl m o b p q r) fun v' R' O' _ ⟨u,f',b,h⟩=>by subst u;subst b;exact s v' f' h
theorem BRep.cell{e:TypeId}{f:Frag}{v:Value}{X:List UInt8}(h:BRep e f v X):v.oneCell'=true:=by
 rcases h with⟨rfl,_⟩|⟨b,cs,cap,rfl,_⟩<;>rfl
theorem write{R:RH}{b:Nat}{p u:Value}{g:Frag}{X S:List UInt8}(d:p= .pointer none∨p= .pointer (some ⟨b,0,none⟩))(e:BRep 5 g u X)(f:S≠[])(h:X.length+S.length≤140737488355328):
 CallG prog 79 #[.pointer (some ⟨b,0,none⟩),zb S] R [box b [p,u] 144,g]
  (fun v R' O'=> ∃ u' g',O'=[box b [.pointer (some ⟨b,0,none⟩),u'] 144,g']∧BRep 5 g' u' (X++S)):=by
 refine ku (args:=[.pointer (some ⟨b,0,none⟩),zb S]) func79 rfl rfl fun A=>?_
 refine zy ?_
 refine qd ?_
 refine ze (.int .i64 0) ?_
 refine ze .nilIface ?_
 refine z8 ?_
 refine zy ?_
 refine qd ?_
 refine za (.pointer (some ⟨b,0,none⟩)) ?_
 refine zhu (Oc:=[box b [p,u] 144]) (Or:=[g]++A) rfl zt5 rfl (List.Perm.refl _) (check d) fun l m j k a=>?_
 obtain⟨rfl,rfl,rfl⟩:=a
 refine z8 ?_
 refine zy ?_
 refine qd ?_
 refine za (.pointer (some ⟨b,0,none⟩)) ?_
 refine za (.pointer (some ⟨b,0,none⟩)) ?_
 refine zn (qp rfl) ?_
 refine zn (zo fd1 rfl) ?_
 refine zn (qg (i:=0) zpc rfl rfl rfl) ?_
 refine za (zb S) ?_
 refine zoo (i:=1) rfl underlying65 underlying9 zo5 rfl rfl rfl e f h fun u' g' hg'=>?_
 refine zn (qp rfl) ?_
 refine zn (zo fd1 rfl) ?_
 refine jb (i:=0) (vs:=[u']) zu5 rfl rfl (by rcases hg' with⟨rfl,_⟩|⟨b,cs,cap,rfl,_⟩<;>rfl) rfl rfl rfl (by intro v c;simp at c;subst c;exact BRep.cell hg') ?_
 refine z8 ?_
 refine zy ?_
 refine qd ?_
 refine za (zb S) ?_
 refine zn (bz rfl underlying9 rfl) ?_
 refine ze (.int .i64 S.length) ?_
 refine ze .nilIface ?_
 refine z8 ?_
 refine qb ?_
 refine uq (D:=[]) (J:=[]) (O':=[box b [.pointer (some ⟨b,0,none⟩),u'] 144,g']) (rs:=[.tmp 4,.tmp 5]) (vs:=[.int .i64 S.length,.nilIface]) (RH.le.refl _) (List.Perm.refl _) rfl ⟨rfl,rfl,trivial⟩ ?_
 exact⟨u',g',rfl,hg'⟩
section vals
variable {P : Program} {ρ : Option Nat} {l : Nat → Value} {R : RH} {O : List Frag} {dst : Option Tmp} {ty : TypeId} {pos : String} {after : Array Go.Edge} {g0 : Option (Nat × Bool)}
theorem zgw{at':Array TypeId}{t e:TypeId}{x:Operand}{p:Option Addr}{n c:Nat}(a:at'[0]? =some t)(b:P.underlying t=some (.slice e))(d:ev l x= .slice p n c):
 Val P ρ ⟨dst,.call ⟨.builtin .len,#[x],at'⟩,ty,pos,after,g0⟩ l R O (.int .i64 n):=by
 intro A w _;rw [qi (by intro c h;cases h)]
 simp [execOp,resolve,invoke,builtin,Builtin.len_,a,underlying,b,d,goInt]
theorem zdq{at':Array TypeId}{x:Operand}{a:Addr}{n c:Nat}(b:c≠0)(d:ev l x= .slice (some a) n c):
 Val P ρ ⟨dst,.call ⟨.builtin .unsafeSliceData,#[x],at'⟩,ty,pos,after,g0⟩ l R O (.pointer (some a)):=by
 intro A w _;rw [qi (by intro c h;cases h)]
 have e:(#[x]:Array Operand).map (ev l)= #[.slice (some a) n c]:=by simp [d]
 simp only [execOp,resolve,e,Sem.run_bind,Sem.run_pure,Result.andThen_ok,invoke,builtin,Lib.run_unsafeSliceData_row w at' ty a n c b]
def zns(w:World)(h:Array Obj):World:= {w with heap:=h}
theorem zaq{a b e:TypeId}{x y:Operand}{X:List UInt8}{i gb:Nat}{cs:List Value}(z:P.underlying a=some (.pointer e))(d:P.cellsOf e=1)(B:ev l x= .pointer (some ⟨gb,0,none⟩))(C:ev l y= .int .i64 X.length)
 (r:O[i]? =some (box gb cs e)) (s:X≠[]) (D:X.length≤cs.length) (hlim:X.length≤140737488355328) (f:cs.take X.length=byC X):
 Eff P ρ ⟨dst,.call ⟨.builtin .unsafeString,#[x,y],#[a,b]⟩,ty,pos,after,g0⟩ l R O (fun v R' O'=>R'=R∧v=zb X∧ ∃ o',O'=O.set i (single gb o')):=by
 intro A w t;rw [qi (by intro c h;cases h)]
 have hilt:i<O.length:=(List.getElem?_eq_some_iff.1 r).1
 have hO':(O++A)[i]? =some (box gb cs e):=by rw [List.getElem?_append_left hilt];exact r
 have hblk:w.heap[gb]? =some (.cells cs.toArray e (0,0)):=oq t hO' (single_same _ _)
 have E:(#[x,y]:Array Operand).map (ev l)= #[.pointer (some ⟨gb,0,none⟩),.int .i64 X.length]:=by simp [B,C]
 have hrun:=Lib.run_unsafeString_row (P:=P) w a b ty e z d gb cs.length (by simp [World.shape?,hblk]) X s D (by omega) (fun j x u=>by
  have g:j<X.length:=(List.getElem?_eq_some_iff.1 u).1
  have m:=congrArg (·[j]?) f
  simp only [byC,List.getElem?_map,u,Option.map_some] at m
  rw [List.getElem?_take,if_pos g] at m
  rw [addr_add,Nat.zero_add,cell_of_block hblk]
  simpa using m)
 have n:(execOp (ev l) (⟨dst,.call ⟨.builtin .unsafeString,#[x,y],#[a,b]⟩,ty,pos,after,g0⟩:Oper)).run P w= .ok (.value (zb X)) (w.freeze ⟨gb,0,none⟩ X.length):=by
  simp only [execOp,resolve,E,Sem.run_bind,Sem.run_pure,Result.andThen_ok,invoke,builtin,hrun]
  rfl
 rw [n]
 have o:=(Array.getElem?_eq_some_iff.1 hblk).1
 have G:X.length≠0:=fun e=>s (List.length_eq_zero_iff.1 e)
 have p: ∃ F:Obj→Obj,(w.freeze ⟨gb,0,none⟩ X.length)=zns w (w.heap.modify gb F):=⟨_,if_neg G⟩
 obtain⟨F,H⟩:=p
 rw [H]
 have q:gb<(zns w (w.heap.modify gb F)).heap.size:=by
  show gb<(w.heap.modify gb _).size
  rw [Array.size_modify];exact o
 have hset:=z2t (w':=zns w (w.heap.modify gb F)) t hO' (Array.getElem?_eq_getElem q) (fun k I=>by
  show (w.heap.modify gb _)[k]? =_
  rw [Array.getElem?_modify,if_neg (fun e=>I e.symm)]) rfl rfl
 rw [List.set_append_left _ _ hilt] at hset
 exact⟨R,_,RH.le.refl _,hset,rfl,rfl,_,rfl⟩
end vals
theorem cells5:prog.cellsOf 5=1:=by kernel_rfl
theorem len{R:RH}{b:Nat}{p u:Value}{g:Frag}{X:List UInt8}(a:BRep 5 g u X):
 CallG prog 81 #[.pointer (some ⟨b,0,none⟩)] R [box b [p,u] 144,g] (fun v R' O'=>v= .int .i64 X.length∧O'=[box b [p,u] 144,g]):=by
 obtain⟨q,c,rfl⟩: ∃ q c,u= .slice q X.length c:=by
  rcases a with⟨rfl,rfl,_⟩|⟨b,cs,cap,rfl,_⟩
  ·exact⟨_,_,rfl⟩
  ·exact⟨_,_,rfl⟩
 refine ku (args:=[.pointer (some ⟨b,0,none⟩)]) func81 rfl rfl fun A=>?_
 refine zy ?_
 refine qd ?_
 refine ze (.int .i64 0) ?_
 refine z8 ?_
 refine zy ?_
 refine qd ?_
 refine za (.pointer (some ⟨b,0,none⟩)) ?_
 refine zn (qp rfl) ?_
 refine zn (zo fd1 rfl) ?_
 refine zn (qg (i:=0) zpc rfl rfl rfl) ?_
 refine zn (zgw rfl underlying65 rfl) ?_
 refine ze (.int .i64 X.length) ?_
 refine z8 ?_
 refine qb ?_
 refine uq (D:=[]) (J:=[]) (O':=[box b [p,_] 144,g]) (rs:=[.tmp 2]) (vs:=[.int .i64 X.length]) (RH.le.refl _) (List.Perm.refl _) rfl ⟨rfl,trivial⟩ ?_
 exact⟨rfl,rfl⟩
theorem str{R:RH}{b:Nat}{p u:Value}{g:Frag}{X:List UInt8}(f:BRep 5 g u X)(a:X≠[])(hlim:X.length≤140737488355328):
 CallG prog 82 #[.pointer (some ⟨b,0,none⟩)] R [box b [p,u] 144,g] (fun v R' O'=>v=zb X∧O'=[]):=by
 rcases f with⟨_,h,_⟩|⟨gb,cs,cap,rfl,rfl,m,n,o,j⟩
 ·exact absurd h a
 have k:cap≠0:=fun e=>by
  have:=List.length_pos_iff.2 a
  omega
 refine ku (args:=[.pointer (some ⟨b,0,none⟩)]) func82 rfl rfl fun A=>?_
 refine zy ?_
 refine qd ?_
 refine ze (zb []) ?_
 refine z8 ?_
 refine zy ?_
 refine z4w 10 Tryz.lays156.mixed (by kernel_rfl) (by kernel_rfl) ?_
 refine bq (v:= .pointer (some ⟨b,0,none⟩)) (zi rfl) ?_
 refine bq (v:= .pointer (some ⟨b,0,none⟩)) (qp rfl) ?_
 refine bq (v:= .pointer (some ⟨b,1,none⟩)) (zo fd1 rfl) ?_
 refine bq (v:= .slice (some ⟨gb,0,none⟩) X.length cap) (qg (i:=0) zpc rfl rfl rfl) ?_
 refine bq (v:= .pointer (some ⟨gb,0,none⟩)) (zdq k rfl) ?_
 refine bq (v:= .pointer (some ⟨b,0,none⟩)) (zi rfl) ?_
 refine bq (v:= .pointer (some ⟨b,0,none⟩)) (qp rfl) ?_
 refine bq (v:= .pointer (some ⟨b,1,none⟩)) (zo fd1 rfl) ?_
 refine bq (v:= .slice (some ⟨gb,0,none⟩) X.length cap) (qg (i:=0) zpc rfl rfl rfl) ?_
 refine bq (v:= .int .i64 X.length) (zgw rfl underlying65 rfl) ?_
 intro q c
 refine z0n rfl (zaq (i:=1) underlying230 cells5 rfl rfl rfl a (by omega) hlim j) fun v r O2 l d=>?_
 obtain⟨rfl,rfl,o',rfl⟩:=d
 refine ze (zb X) ?_
 refine z8 ?_
 refine qb ?_
 refine uq (D:=[]) (J:=[box b [p,.slice (some ⟨gb,0,none⟩) X.length cap] 144,single gb o']) (O':=[]) (rs:=[.tmp 2]) (vs:=[zb X]) c (List.Perm.refl _) rfl ⟨rfl,trivial⟩ ?_
 exact⟨rfl,rfl⟩
end BLD
def BldR(R:RH)(f:Frag)(v:Value)(X:List UInt8):Prop:=
 ∃ b p u g,v= .pointer (some ⟨b,0,none⟩)∧(p= .pointer none∨p= .pointer (some ⟨b,0,none⟩))∧BRep 5 g u X∧f=lu (box b [p,u] 144) g∧Apart (box b [p,u] 144) g
theorem BldR.mono{R R':RH}{f:Frag}{v:Value}{X:List UInt8}(h:BldR R f v X)(_:RH.le R R'):BldR R' f v X:=h
theorem zjf{x g:Frag}(a:Apart x g):minus (lu x g) x=g:=by
 funext k
 unfold minus lu
 rcases a k with h|h
 ·simp [h]
 ·cases hx:x k with
  |none=>simp
  |some o=>simp [h]
theorem z98{P:Program}{f:FuncId}{args:Array Value}{R:RH}{x g:Frag}{post post':Value→RH→List Frag→Prop}(j:Apart x g)(h:CallG P f args R [x,g] post)
 (k: ∀ v R' O',post v R' O'→post' v R' O'∨ ∃ x' g',O'=[x',g']∧(Apart x' g'→post' v R' [lu x' g'])):CallG P f args R [lu x g] post':=by
 intro A w l
 have d:=z7j (f:=x) l z8i
 rw [zjf j] at d
 refine Calls.mono (h A w d) fun e w' ⟨v,i,R',O',a,hh',b⟩=>?_
 rcases k _ _ _ b with c|⟨x',g',rfl,c⟩
 ·exact⟨v,i,R',O',a,hh',c⟩
 ·exact⟨v,i,R',_,a,z6t hh',c (zhg hh')⟩
theorem z2x{R:RH}{L:List (List UInt8)}{a c:Value}{f:Frag}{X:List UInt8}{t:Bool}(d:VRep (tSl t ql) R a L)(e:BldR R f c X)
 (l:L.length≤z0m∧X.length+(qz L [32]).length+2≤z0m):
 CallG prog 78 #[a,c] R [f] (fun v R' O'=> ∃ f',v= .tuple #[]∧O'=[f']∧BldR R' f' c (X++(qz L [32]++[59,10]))):=by
 obtain⟨b,p,u,g,rfl,m,n,rfl,o⟩:=e
 have s:z0m=140737488355328:=rfl
 obtain⟨q,w⟩:=l
 refine z98 (post:=fun v R' O'=>v= .tuple #[]∧ ∃ u' g',O'=[box b [.pointer (some ⟨b,0,none⟩),u'] 144,g']∧BRep 5 g' u' (X++(qz L [32]++[59,10]))) o ?_ ?_
 ·refine ku (args:=[a,.pointer (some ⟨b,0,none⟩)]) func78 rfl rfl fun A=>?_
  refine qd ?_
  refine za a ?_
  refine qm rfl BLD.en80 rfl (zcd d ⟨q,by omega⟩) fun x y h i=>?_
  obtain rfl:=i
  refine zn (za4 (Y:=[59,10]) rfl rfl ⟨by simp;omega,by simp;omega⟩) ?_
  refine zhu (Oc:=[box b [p,u] 144,g]) (Or:=A) rfl BLD.en79 rfl (List.Perm.refl _) (BLD.write m n (by simp) (by simp;omega)) fun z B r j k=>?_
  obtain⟨u',g',rfl,hg'⟩:=k
  refine z8 ?_
  show z4g _ _ _ _ _ .ret _ [] _ _
  refine uq (D:=[]) (J:=[]) (O':=[box b [.pointer (some ⟨b,0,none⟩),u'] 144,g']) (rs:=[]) (vs:=[]) (h.trans j) (List.Perm.refl _) rfl trivial ?_
  exact⟨rfl,u',g',rfl,hg'⟩
 ·rintro v R' O' ⟨rfl,u',g',rfl,hg'⟩
  exact .inr ⟨_,_,rfl,fun ha'=>⟨_,rfl,rfl,b,_,u',g',rfl,.inr rfl,hg',rfl,ha'⟩⟩
theorem zkv{R:RH}{a:Value}{f:Frag}{X:List UInt8}(c:BldR R f a X):CallG prog 81 #[a] R [f] (fun v R' O'=>v= .int .i64 X.length∧O'=[f]):=by
 obtain⟨b,p,u,g,rfl,h,d,rfl,e⟩:=c
 refine z98 e (BLD.len d) ?_
 rintro v R' O' ⟨rfl,rfl⟩
 exact .inr ⟨_,_,rfl,fun _=>⟨rfl,rfl⟩⟩
theorem zkm{R:RH}{a:Value}{f:Frag}{X:List UInt8}(c:BldR R f a X)(d:0<X.length∧X.length≤z0m):CallG prog 82 #[a] R [f] (fun v R' O'=>v=zb X∧O'=[]):=by
 obtain⟨b,p,u,g,rfl,i,e,rfl,h⟩:=c
 refine z98 h (BLD.str e (List.length_pos_iff.1 d.1) d.2) ?_
 rintro v R' O' ⟨rfl,rfl⟩
 exact .inl ⟨rfl,rfl⟩
theorem zg8{n d:Nat}{ops:Array Oper}{Q:Po}{rest:List Oper}{l:Nat→Value}{D:List Nat}{R:RH}{O:List Frag}{ty:TypeId}{pos:String}{after:Array Go.Edge}{ρ:Option Nat}(a:Nat.blt d n=true)
 (c: ∀ w,∃ z,(zeroValue 144).run prog w= .ok z w∧z.cells=([.pointer none,.slice none 0 0]:List Value).toArray) (e: ∀ v f,BldR R f v []→wo prog ρ n ops Q rest (upd l d v) D R (f::O)):
 wo prog ρ n ops Q (⟨some d,.alloc 144,ty,pos,after,none⟩::rest) l D R O:=
 x9 a c fun b=>e _ _ ⟨b,_,_,emp,rfl,.inl rfl,.inl ⟨rfl,rfl,rfl⟩,by
  funext k
  unfold lu emp
  cases box b [.pointer none,.slice none 0 0] 144 k<;>rfl,fun k=> .inr rfl⟩
end GV
end Go.Proofs.YtkkcidhcfkmbjaaGreatDoor
