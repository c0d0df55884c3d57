
import Derived.Test.YtkhihcleegljhaaShMap
import Derived.Shelf.Sort.Plain
import Derived.Shelf.Slices.In.SortNone
import Derived.Shelf.Bits.Mul64
import Derived.Laws.CopyRow
import Derived.Laws.IdiomCopy
import Derived.Laws.StructEq
import Derived.ChangeKeysEq
import Derived.WideKeyRuns
set_option linter.unusedVariables false
set_option linter.unusedSimpArgs false
set_option linter.unusedSectionVars false
namespace Go.Proofs.Ytkhihcleegljhaa
namespace GV
/-! ### The plain form-/
def zg3(x:Int):List Int→List Int
 | []=>[x]
 |y::l=>if x≤y then x::y::l else y::zg3 x l
def z2f:List Int→List Int
 | []=>[]
 |x::l=>zg3 x (z2f l)
theorem zc4(x:Int)(l:List Int):(zg3 x l).Perm (x::l):=by
 induction l with
 |nil=>exact .refl _
 |cons y l ih=>
  unfold zg3
  split
  ·exact .refl _
  ·exact((ih.cons y).trans (.swap x y l))
theorem zbe(l:List Int):(z2f l).Perm l:=by
 induction l with
 |nil=>exact .refl _
 |cons x l ih=>exact(zc4 x _).trans (ih.cons x)
theorem zdh{x:Int}{l:List Int}(h:l.Pairwise (· ≤ ·)):(zg3 x l).Pairwise (· ≤ ·):=by
 induction l with
 |nil=>exact List.pairwise_singleton _ _
 |cons y l ih=>
  obtain⟨b,c⟩:=List.pairwise_cons.1 h
  unfold zg3
  split
  ·rename_i hx
   refine List.pairwise_cons.2 ⟨fun z a=>?_,h⟩
   rcases List.mem_cons.1 a with rfl|a
   ·exact hx
   ·exact Int.le_trans hx (b z a)
  ·rename_i hx
   refine List.pairwise_cons.2 ⟨fun z a=>?_,ih c⟩
   rcases List.mem_cons.1 ((zc4 x l).mem_iff.1 a) with rfl|a
   ·omega
   ·exact b z a
theorem zd8(l:List Int):(z2f l).Pairwise (· ≤ ·):=by
 induction l with
 |nil=>exact .nil
 |cons x l ih=>exact zdh ih
theorem z7g: ∀ {l l':List Int},l.Perm l'→l.Pairwise (· ≤ ·)→l'.Pairwise (· ≤ ·)→l=l'
 | [],l',c,_,_=>(List.nil_perm.1 c).symm
 |x::l,l',c,h,h'=>by
  cases l' with
  |nil=>exact absurd c.symm (by simp)
  |cons y l'=>
   obtain⟨f,g⟩:=List.pairwise_cons.1 h
   obtain⟨i,j⟩:=List.pairwise_cons.1 h'
   have d:x=y:=by
    have a:x∈y::l':=c.mem_iff.1 (List.mem_cons_self ..)
    have b:y∈x::l:=c.mem_iff.2 (List.mem_cons_self ..)
    rcases List.mem_cons.1 a with e|a
    ·exact e
    ·rcases List.mem_cons.1 b with e|b
     ·exact e.symm
     ·have:=i x a;have:=f y b;omega
   subst d
   rw [z7g ((List.perm_cons x).1 c) g j]
theorem zar(l:List Int):(l.mergeSort fun x y=>decide (x≤y))=z2f l:=by
 refine z7g ((List.mergeSort_perm l _).trans (zbe l).symm) ?_ (zd8 l)
 have:=List.pairwise_mergeSort (le:=fun(x y:Int)=>decide (x≤y)) (fun a b c d e=>by simp at*;omega) (fun a b=>by simp;omega) l
 exact this.imp fun h=>by simpa using h
theorem z6n(l:List Int):(z2f l).length=l.length:=(zbe l).length_eq
/-! ### New blocks behind all-/
theorem holds_grow{R:RH}{O:List Frag}{w:World}{os:Array Obj}(h:Holds R O w):Holds R O (Go.Sort.grow w os):=by
 have up: ∀ (k:Nat) (o:Obj),w.heap[k]? =some o→(Go.Sort.grow w os).heap[k]? =some o:=by
  intro k o a
  have b:=(Array.getElem?_eq_some_iff.1 a).1
  show (w.heap++os)[k]? =some o
  rw [Array.getElem?_append_left b];exact a
 exact⟨fun k o a=>up k o (h.ro k o a),fun f c k o a=>⟨up k o (h.own f c k o a).1,(h.own f c k o a).2⟩,h.sep,⟨h.os.1,fun _ _ _ _=>trivial⟩,h.out⟩
theorem zc0(pre cs:List Value)(d:List Int)(h:d.length≤cs.length):
 (Go.Sort.putCells (Value.int .i64) pre.length d.toArray (pre++cs).toArray).toList=pre++(d.map (Value.int .i64)++cs.drop d.length):=by
 apply List.ext_getElem?
 intro k
 unfold Go.Sort.putCells
 rw [Array.getElem?_toList,Array.getElem?_mapIdx]
 simp only [List.size_toArray,List.getElem?_toArray]
 by_cases h1:k<pre.length
 ·rw [List.getElem?_append_left h1,List.getElem?_append_left h1]
  rw [List.getElem?_eq_getElem h1]
  simp only [Option.map_some]
  rw [if_neg (by omega)]
 ·rw [List.getElem?_append_right (by omega),List.getElem?_append_right (by omega)]
  by_cases h2:k<pre.length+d.length
  ·rw [List.getElem?_append_left (by rw [List.length_map];omega),List.getElem?_map]
   have b:k-pre.length<cs.length:=by omega
   have a:k-pre.length<d.length:=by omega
   rw [List.getElem?_eq_getElem b,List.getElem?_eq_getElem a]
   simp only [Option.map_some]
   rw [if_pos (by omega)]
   simp [a]
  ·rw [List.getElem?_append_right (by rw [List.length_map];omega),List.getElem?_drop,List.length_map]
   rw [show d.length+(k-pre.length-d.length)=k-pre.length by omega]
   cases cs[k-pre.length]? with
   |none=>rfl
   |some v=>
    simp only [Option.map_some]
    rw [if_neg (by omega)]
theorem zeo{P:Program}{ρ:Shelf.Ren}(Ly:Go.Proofs.Lays.n189 P ρ){R:RH}{f:Frag}{v:Value}{X:List Int}(h:ORep (zm .i64) R f v X)(s:0<X.length∧X.length<4611686018427387904):
 CallG P (ρ.f 189) #[v] R [f] (fun u R' O'=> ∃ g,u= .tuple #[]∧O'=[g]∧ORep (zm .i64) R' g v (z2f X)):=by
 rcases h with⟨rfl,rfl,rfl⟩|⟨b,pre,cs,cap,bt,rfl,rfl,z,m,c,o⟩
 ·simp at s
 intro A w t
 have hcl':cap≤cs.length:=by simpa [zm] using m
 have hblk:w.heap[b]? =some (.cells (pre++cs).toArray bt (0,0)):=z2y t (i:=0) rfl (xk _ _)
 have p:b<w.heap.size:=(Array.getElem?_eq_some_iff.1 hblk).1
 have hcell: ∀ j (l:j<X.length),cs[j]? =some (.int .i64 X[j]):=by
  intro j l
  have:=o j X[j] (List.getElem?_eq_getElem l)
  have d:j<cs.length:=by omega
  simp only [zm,Nat.mul_one] at this
  rw [List.getElem?_eq_getElem d]
  have e:(cs.drop j).take 1=[cs[j]]:=by rw [List.drop_eq_getElem_cons d];rfl
  rw [e] at this
  simpa using this
 have B:Go.Sort.Holds (Value.int .i64) w b pre.length X.toArray:=by
  intro j l
  have hj':j<X.length:=by simpa using l
  refine⟨?_,z8f hblk⟩
  rw [cell_of_block hblk]
  simp only [List.getElem?_toArray]
  rw [List.getElem?_append_right (by omega),Nat.add_sub_cancel_left,hcell j hj']
  simp [hj']
 refine Calls.mono (Any.slices_Sort_int Ly b pre.length cap X w B p s.2) ?_
 rintro e w' ⟨rfl,n,os,rfl⟩
 rw [zar]
 have q:(z2f X).length≤cs.length:=by rw [z6n];omega
 have hnew:(Go.Sort.putRow (Value.int .i64) (Go.Sort.ahead w n) b pre.length (z2f X).toArray).heap[b]? =some (.cells (pre++((z2f X).map (Value.int .i64)++cs.drop (z2f X).length)).toArray bt (0,0)):=by
  simp only [Go.Sort.putRow,Go.Sort.mapBlock,Go.Sort.ahead,Array.getElem?_modify,hblk,if_true,Option.map_some,Go.Sort.onCells]
  rw [←zc0 pre cs (z2f X) q,Array.toArray_toList]
 have hother: ∀ k,k≠b→(Go.Sort.putRow (Value.int .i64) (Go.Sort.ahead w n) b pre.length (z2f X).toArray).heap[k]? =w.heap[k]? :=by
  intro k C
  simp [Go.Sort.putRow,Go.Sort.mapBlock,Go.Sort.ahead,Array.getElem?_modify,Ne.symm C]
 have D:=z7x (i:=0) t rfl hnew hother rfl rfl trivial
 refine⟨_,rfl,R,[single b (.cells (pre++((z2f X).map (Value.int .i64)++cs.drop (z2f X).length)).toArray bt (0,0))],RH.le.refl _,holds_grow D,_,rfl,rfl,.inr ⟨b,pre,(z2f X).map (Value.int .i64)++cs.drop (z2f X).length,cap,bt,by rw [z6n],rfl,by rw [z6n];exact z,?_,?_,?_⟩⟩
 ·simp only [zm,Nat.mul_one,List.length_append,List.length_map,List.length_drop];omega
 ·intro x a
  rcases List.mem_append.1 a with a|a
  ·exact c x (List.mem_append.2 (.inl a))
  ·rcases List.mem_append.1 a with a|a
   ·obtain⟨y,_,rfl⟩:=List.mem_map.1 a;rfl
   ·exact c x (List.mem_append.2 (.inr (List.mem_of_mem_drop a)))
 ·intro i x hi
  have r:=(List.getElem?_eq_some_iff.1 hi).1
  simp only [zm,Nat.mul_one]
  have:((z2f X).map (Value.int .i64)++cs.drop (z2f X).length)[i]? =some (.int .i64 x):=by
   rw [List.getElem?_append_left (by rw [List.length_map];exact r),List.getElem?_map,hi];rfl
  obtain⟨E,F⟩:=List.getElem?_eq_some_iff.1 this
  rw [List.drop_eq_getElem_cons E,F];rfl
end GV
end Go.Proofs.Ytkhihcleegljhaa

namespace Go.Proofs.Ytkhihcleegljhaa
namespace GV
theorem ze2{P:Program}{ρ:Shelf.Ren}(Ly:Go.Proofs.Lays.n189 P ρ){R:RH}{f:Frag}{v:Value}{X:List Int}(h:ORep (zm .i64) R f v X)(b:X.length<4611686018427387904):
 CallG P (ρ.f 189) #[v] R [f] (fun u R' O'=> ∃ g,u= .tuple #[]∧O'=[g]∧ORep (zm .i64) R' g v (z2f X)):=by
 by_cases hl:0<X.length
 ·exact zeo Ly h ⟨hl,b⟩
 ·have c:X=[]:=List.length_eq_zero_iff.1 (by omega)
  subst c
  intro A w d
  obtain⟨p,i,j⟩:=z2d h
  have hv':v= .slice p 0 (capOf v):=i
  have a:=Any.slices_Sort_int_none Ly p (capOf v) w
  rw [←hv'] at a
  refine Calls.mono a ?_
  rintro e w' ⟨rfl,rfl⟩
  exact⟨_,rfl,R,[f],RH.le.refl _,d,f,rfl,rfl,h⟩
end GV
end Go.Proofs.Ytkhihcleegljhaa

namespace Go.Proofs.Ytkhihcleegljhaa
namespace GV
def z5u(sz:Nat)(v:Value)(lo hi:Nat):Value:=
 match v with
 | .slice p _ c=> .slice (if c=lo then p else p.map (·.add (lo*sz))) (hi-lo) (c-lo)
 |v=>v
def z4z{α:Type}(X:List α)(lo:Nat)(Y:List α):List α:=X.take lo++Y++X.drop (lo+Y.length)
theorem za6{α:Type}{X Y:List α}{lo:Nat}(h:lo+Y.length≤X.length):(z4z X lo Y).length=X.length:=by
 simp only [z4z,List.length_append,List.length_take,List.length_drop];omega
section c
variable {P : Program} {ρ : Option Nat} {l : Nat → Value} {R : RH} {O : List Frag} {ty : TypeId} {pos : String} {after : Array Go.Edge} {dst : Option Tmp} {g : Option (Nat × Bool)}
variable {α : Type} {T : Ty α} {X Y : List α} {v u : Value} {x y : Operand} {f : Frag} {t e : TypeId}
theorem z7f{lo hi:Nat}{xlo xhi:Option Operand}(d:SlOk P t e T)(j:ev l x=v)(m:ORep T R f v X)
 (a:xlo.map (ev l)=none∧lo=0∨ ∃ k,xlo.map (ev l)=some (.int k lo)) (b:xhi.map (ev l)=none∧hi=X.length∧(none:Option Operand)=none∨ ∃ k,xhi.map (ev l)=some (.int k hi)) (n:lo≤hi) (o:hi≤X.length):
 Val P ρ ⟨dst,.slice t x xlo xhi none,ty,pos,after,g⟩ l R O (z5u T.size v lo hi):=by
 obtain⟨p,i,q⟩:=z2d m
 intro A w r
 rw [je (by intro c h;cases h)]
 have:=z7l (P:=P) (dst:=dst) (ty:=ty) (pos:=pos) (after:=after) (g:=g) (w:=w) (xmx:=none) (mx:=capOf v) d.u d.e.size (j.trans i) a b (.inl ⟨rfl,rfl⟩) n (by omega) (Nat.le_refl _) (fun _=>by omega)
 rw [this,i]
 rfl
theorem take1{cs:List Value}{i:Nat}(h:i<cs.length):(cs.drop i).take 1=[cs[i]]:=by rw [List.drop_eq_getElem_cons h];rfl
theorem zfz{b:Nat}{pre cs ys:List Value}{cap lo:Nat}{bt:TypeId}(g:T.size=1)(m:X.length≤cap)(n:cap≤cs.length)(e: ∀ v∈pre++cs,v.oneCell'=true)(h: ∀ (i:Nat) (hi:i<cs.length) x,X[i]? =some x→T.rep R [cs[i]] x)
 (hfit:lo+Y.length≤X.length) (o:ys.length=Y.length) (p: ∀ (i:Nat) (hi:i<ys.length) y,Y[i]? =some y→T.rep R [ys[i]] y) (r: ∀ v∈ys,v.oneCell'=true):
 ORep T R (box b (pre++over cs lo ys) bt) (.slice (some ⟨b,pre.length,none⟩) X.length cap) (z4z X lo Y):=by
 have k:(over cs lo ys).length=cs.length:=by
  simp only [over,List.length_append,List.length_take,List.length_drop];omega
 refine .inr ⟨b,pre,over cs lo ys,cap,bt,by rw [za6 hfit],rfl,by rw [za6 hfit];exact m,by rw [g,k];omega,fun q a=>?_,fun i x d=>?_⟩
 ·rcases List.mem_append.1 a with a|a
  ·exact e q (List.mem_append.2 (.inl a))
  ·simp only [over,List.mem_append] at a
   rcases a with(a|a)|a
   ·exact e q (List.mem_append.2 (.inr (List.mem_of_mem_take a)))
   ·exact r q a
   ·exact e q (List.mem_append.2 (.inr (List.mem_of_mem_drop a)))
 ·have hi:i<X.length:=by have:=(List.getElem?_eq_some_iff.1 d).1;rwa [za6 hfit] at this
  have j:i<(over cs lo ys).length:=by omega
  rw [g,Nat.mul_one,take1 j]
  unfold z4z at d
  have key: ∀ (z:Value),(over cs lo ys)[i]? =some z→T.rep R [z] x→T.rep R [(over cs lo ys)[i]] x:=fun z l s=>by
   rw [List.getElem?_eq_getElem j] at l
   rw [Option.some.inj l];exact s
  by_cases ha:i<lo
  ·have c:i<cs.length:=by omega
   refine key cs[i] ?_ (h i c x ?_)
   ·unfold over;rw [List.append_assoc,List.getElem?_append_left (by rw [List.length_take];omega),List.getElem?_take,if_pos ha,List.getElem?_eq_getElem c]
   ·rw [List.append_assoc,List.getElem?_append_left (by rw [List.length_take];omega),List.getElem?_take,if_pos ha] at d;exact d
  ·by_cases hb:i<lo+Y.length
   ·have f:i-lo<ys.length:=by omega
    refine key ys[i-lo] ?_ (p (i-lo) f x ?_)
    ·unfold over
     rw [List.append_assoc,List.getElem?_append_right (by rw [List.length_take];omega),List.length_take,Nat.min_eq_left (by omega),List.getElem?_append_left f,List.getElem?_eq_getElem f]
    ·rw [List.append_assoc,List.getElem?_append_right (by rw [List.length_take];omega),List.length_take,Nat.min_eq_left (by omega),List.getElem?_append_left (by omega)] at d;exact d
   ·have c:i<cs.length:=by omega
    refine key cs[i] ?_ (h i c x ?_)
    ·unfold over
     rw [List.getElem?_append_right (by rw [List.length_append,List.length_take];omega),List.length_append,List.length_take,Nat.min_eq_left (by omega),List.getElem?_drop,o,show lo+Y.length+(i-(lo+Y.length))=i by omega,List.getElem?_eq_getElem c]
    ·rw [List.getElem?_append_right (by rw [List.length_append,List.length_take];omega),List.length_append,List.length_take,Nat.min_eq_left (by omega),List.getElem?_drop,show lo+Y.length+(i-(lo+Y.length))=i by omega] at d;exact d
end c
end GV
end Go.Proofs.Ytkhihcleegljhaa

namespace Go.Proofs.Ytkhihcleegljhaa
namespace GV
def mkV(ag:Bool)(cs:List Value):Value:=if ag then .agg cs.toArray else cs.headD undef
structure KTy (P:Program) (t:TypeId) (m sz:Nat) (ag:Bool) (K:List Value→Prop):Prop where
 cells:P.cellsOf t=sz
 info: ∃ i,P.info? t=some i
 len: ∀ cs,K cs→cs.length=sz
 isAgg: ∀ w,(isAgg t).run P w= .ok ag w
 one:ag=false→sz=1
 eq: ∀ d (w:World) cs cs',m≤d→K cs→K cs'→ ∃ r:Bool,(Op.equalIn d t (mkV ag cs) (mkV ag cs')).run P w= .ok r w∧(r=true↔cs=cs')
 chk: ∀ d (w:World) em cs,m≤d→K cs→(Instr.checkKey em d t (mkV ag cs)).run P w= .ok () w
section
variable {P : Program} {t e : TypeId} {m m' sz n : Nat} {ag : Bool} {K : List Value → Prop}
theorem KTy.mono(h:KTy P t m sz ag K)(b:m≤m'):KTy P t m' sz ag K:=
 {h with eq:=fun d w cs cs' a=>h.eq d w cs cs' (by omega),chk:=fun d w em cs a=>h.chk d w em cs (by omega)}
theorem KTy.part(h:KTy P t m sz ag K)(w:World){pre cs post:List Value}(b:K cs):(part t (pre++cs++post).toArray pre.length).run P w= .ok (mkV ag cs) w:=by
 obtain⟨i,hi⟩:=h.info
 have a:=h.len cs b
 unfold Go.part
 rw [Sem.run_bind,h.isAgg w,Result.andThen_ok]
 cases ag
 ·have c:=h.one rfl
  match cs,a with
  | [v],_=>
   simp only [Bool.false_eq_true,if_false]
   have:(pre++[v]++post).toArray[pre.length]? =some v:=by simp
   rw [this];rfl
  | [],a=>simp at a;omega
  |_::_::_,a=>simp at a;omega
 ·simp only [if_true,Sem.run_bind,run_sizeOf w hi,h.cells,Result.andThen_ok,Sem.run_pure]
  have:(pre++cs++post).toArray.extract pre.length (pre.length+sz)=cs.toArray:=by
   apply Array.toList_inj.1
   rw [Array.toList_extract]
   simp only [List.extract_eq_take_drop,List.append_assoc,List.drop_left,List.take_append_of_le_length (Nat.le_of_eq (show pre.length+sz-pre.length=cs.length by omega)),List.take_of_length_le (show cs.length≤pre.length+sz-pre.length by omega)]
  rw [this];rfl
/-! ### Arrays-/
/-! ### Structs-/
inductive KFld (P:Program) (m:Nat):Nat→List Field→(List Value→Prop)→Prop
 |nil {off:Nat}:KFld P m off [] (fun cs=>cs=[])
 | cons {off sz : Nat} {f : Field} {fs : List Field} {ag : Bool} {K K' : List Value → Prop} : f.name ≠ "_" → f.offset = off → KTy P f.type m sz ag K → KFld P m (off + sz) fs K' → KFld P m off (f :: fs) (fun cs => ∃ a b, K a ∧ K' b ∧ cs = a ++ b)
theorem KFld.len{off:Nat}{fs:List Field}{K:List Value→Prop}(h:KFld P m off fs K): ∃ k,∀ cs,K cs→cs.length=k:=by
 induction h with
 |nil=>exact⟨0,fun cs e=>by subst e;rfl⟩
 |cons i j c l ih=>
  obtain⟨k,d⟩:=ih
  exact⟨_,by rintro cs ⟨a,b,f,g,rfl⟩;rw [List.length_append,c.len a f,d b g]⟩
end
/-! ### Finding-/
section
variable {P : Program} {kt : TypeId} {m sz : Nat} {K : List Value → Prop} {κ : Type} [DecidableEq κ] {ke : κ → Value} {cl : κ → List Value}
end
end GV
end Go.Proofs.Ytkhihcleegljhaa

namespace Go.Proofs.Ytkhihcleegljhaa
namespace GV
abbrev Arr (n:Nat) (α:Type):= {l:List α//l.length=n}
instance {n:Nat} {α:Type} [Inhabited α]:Inhabited (Arr n α):=⟨⟨List.replicate n default,List.length_replicate⟩⟩
structure CellsOf {α:Type} (T:Ty α) (cl:α→List Value):Prop where
 len: ∀ x,(cl x).length=T.size
 iff: ∀ R cs x,T.rep R cs x↔cs=cl x
/-! ### A box that holds an array:as a slice that can't grow-/
section a
variable {P : Program} {ρ : Option Nat} {n : Nat} {ops : Array Oper} {Q : Po} {rest : List Oper} {l : Nat → Value} {D : List Nat} {R : RH} {O : List Frag} {ty : TypeId} {pos : String} {after : Array Go.Edge} {d : Nat} {dst : Option Tmp} {g : Option (Nat × Bool)}
variable {α β : Type} {T : Ty α} {B : Ty β} {X : List α} {v u w : Value} {x y ix' : Operand} {f F : Frag} {i j o b m sz : Nat} {t s e : TypeId} {k : IntKind}
end a
end GV
end Go.Proofs.Ytkhihcleegljhaa

namespace Go.Proofs.Ytkhihcleegljhaa
namespace GV
section w
variable {P : Program} {ρ : Option Nat} {n : Nat} {ops : Array Oper} {Q : Po} {rest : List Oper} {l : Nat → Value} {D : List Nat} {R : RH} {O : List Frag} {ty : TypeId} {pos : String} {after : Array Go.Edge} {d : Nat} {dst : Option Tmp} {g : Option (Nat × Bool)}
variable {α : Type} [Inhabited α] {x y : Operand} {i j o b m sz k off : Nat} {t e bt : TypeId} {X : Arr m α} {cl : α → List Value} {vs : List Value} {v : Value}
/-! ### Structs out of parts of any size-/
inductive FillOk (place:Nat→Option (Nat×Nat)):Nat→List (Nat×Value)→List Value→Prop
 |nil {off:Nat}:FillOk place off [] []
 |last {off i:Nat} {v:Value} {c:List Value}:v.cells=c.toArray→place i=some (off,c.length)→FillOk place off [(i,v)] c
 |cons {off i:Nat} {v:Value} {ps:List (Nat×Value)} {c out:List Value}:v.cells=c.toArray→place i=some (off,c.length)→FillOk place (off+c.length) ps out→FillOk place off ((i,v)::ps) (c++out)
end w
/-! ### Loops that are gone through so many times-/
section u
variable {P : Program} {ρ : Option Nat} {n : Nat} {Q : Po} {l : Nat → Value} {D : List Nat} {R : RH} {O : List Frag} {c : Code}
end u
section mm
variable {P : Program} {ρ : Option Nat} {l : Nat → Value} {R : RH} {O : List Frag} {ty : TypeId} {pos : String} {after : Array Go.Edge} {dst : Option Tmp} {g : Option (Nat × Bool)} {k : IntKind} {a b : Int} {x y : Operand} {at' : Array TypeId} {t : TypeId} {d : TypeDesc}
theorem zdw(j:at'[0]? =some t)(m:P.underlying t=some d)(f:ev l x= .int k a)(i:ev l y= .int k b):Val P ρ ⟨dst,.call ⟨.builtin .max,#[x,y],at'⟩,ty,pos,after,g⟩ l R O (.int k (max a b)):=by
 intro A w _;rw [je (by intro c h;cases h)]
 have e:(if b>a then b else a)=max a b:=by rw [Int.max_def];split<;>split<;>omega
 simp [execOp,resolve,invoke,builtin,Builtin.max_,Builtin.max2,f,i,e]
end mm
section p
variable {P : Program} {ρ : Option Nat} {l : Nat → Value} {R : RH} {O : List Frag} {ty : TypeId} {pos : String} {after : Array Go.Edge} {dst : Option Tmp} {g : Option (Nat × Bool)}
variable {α β : Type} [Inhabited α] {T : Ty α} {B : Ty β} {X : List α} {v u w : Value} {x y : Operand} {F : Frag} {i o : Nat} {t : TypeId} {se : α → β → α}
end p
end GV
end Go.Proofs.Ytkhihcleegljhaa

namespace Go.Proofs.Ytkhihcleegljhaa
namespace GV
/-! ### A box that only is read,of which the value is known-/
def zbz(v:Value):Ty Unit where
 size:=v.cells.size
 agg:=true
 rep _ cs _:=v= .agg cs.toArray∧ ∀ c∈cs,c.oneCell'=true
 len:=by rintro R cs x ⟨rfl,_⟩;simp [Value.cells]
 mono _ h:=h
 one h:=by cases h
 cell h:=h.2
theorem zhw{R:RH}{v w:Value}{x:Unit}(h:VRep (zbz v) R w x):w=v:=by
 obtain⟨cs,⟨rfl,_⟩,rfl⟩:=h;rfl
theorem zm6{α:Type}{T:Ty α}{R:RH}{v:Value}{y:α}(a:T.agg=true)(b:VRep T R v y):VRep (zbz v) R v ():=by
 obtain⟨cs,c,rfl⟩:=b
 have e:T.mk' cs= .agg cs.toArray:=by unfold Ty.mk';rw [a];rfl
 exact⟨cs,⟨e,T.cell c⟩,e⟩
theorem zhh{α:Type}{T:Ty α}{R:RH}{v u:Value}{y:α}(f:T.agg=true)(g:PRep (zbz v) R u ())(h:VRep T R v y):PRep T R u y:=by
 obtain⟨cs,a,rfl⟩:=h
 have e:T.mk' cs= .agg cs.toArray:=by unfold Ty.mk';rw [f];rfl
 obtain⟨b,off,c,ty,fr,i,j,d,_⟩:=g
 have k:(zbz (T.mk' cs)).size=T.size:=by rw [←T.len a,e];simp [zbz,Value.cells]
 refine⟨b,off,c,ty,fr,i,j,?_⟩
 rw [k,e] at d
 have:cs=yh c off T.size:=by simpa using d
 rw [←this];exact a
theorem uf{α:Type}{P:Program}{ρ:Option Nat}{l:Nat→Value}{R:RH}{O:List Frag}{dst:Option Tmp}{ty:TypeId}{pos:String}{after:Array Go.Edge}{g:Option (Nat×Bool)}{T:Ty α}{t:TypeId}{x:Operand}{u v:Value}{y:α}
 (a:TyOk P t T) (b:T.agg=true) (c:ev l x=u) (d:PRep (zbz v) R u ()) (f:VRep T R v y):Val P ρ ⟨dst,.load t x,ty,pos,after,g⟩ l R O v:=by
 have i:(zbz v).size=T.size:=by
  obtain⟨cs,j,rfl⟩:=f
  have e:T.mk' cs= .agg cs.toArray:=by unfold Ty.mk';rw [b];rfl
  rw [←T.len j,e];simp [zbz,Value.cells]
 have ht':TyOk P t (zbz v):=⟨fun w=>by rw [a.agg w,b];rfl,fun w=>by rw [a.size w,i]⟩
 obtain⟨w,k,h⟩:=z7z (ρ:=ρ) (O:=O) ht' c d
 obtain rfl:=zhw k
 exact h _ _ _ _ _
theorem bg{α:Type}{P:Program}{ρ:Option Nat}{n:Nat}{ops:Array Oper}{Q:Po}{rest:List Oper}{l:Nat→Value}{D:List Nat}{R:RH}{O:List Frag}{ty:TypeId}{pos:String}{after:Array Go.Edge}{d:Nat}{T:Ty α}{e:TypeId}{x:Operand}{v:Value}{y:α}(g:Nat.blt d n=true)(h:ev l x=v)(b:T.agg=true)(c:VRep T R v y)
 (i: ∀ u R',RH.le R R'→PRep (zbz v) R' u ()→PRep T R' u y→wo P ρ n ops Q rest (upd l d u) D R' O):wo P ρ n ops Q (⟨some d,.box e x,ty,pos,after,none⟩::rest) l D R O:=
 z94 g h (zm6 b c) fun u R' a f=>i u R' a f (zhh b f (c.mono a))
/-! ### A part of a box that is an array of values of one cell-/
def AG{α:Type}[Inhabited α](T:Ty α)(R:RH)(n:Nat)(g:Nat→Value)(X:List α):Prop:=X.length=n∧ ∀ k,k<n→VRep T R (g k) (X.getD k default)∧(g k).oneCell'=true
theorem AG.mono{α:Type}[Inhabited α]{T:Ty α}{R R':RH}{n:Nat}{g:Nat→Value}{X:List α}(h:AG T R n g X)(a:RH.le R R'):AG T R' n g X:=⟨h.1,fun k b=>⟨(h.2 k b).1.mono a,(h.2 k b).2⟩⟩
section g
variable {P : Program} {ρ : Option Nat} {n : Nat} {ops : Array Oper} {Q : Po} {rest : List Oper} {l : Nat → Value} {D : List Nat} {R : RH} {O : List Frag} {ty : TypeId} {pos : String} {after : Array Go.Edge} {dst : Option Tmp} {g0 : Option (Nat × Bool)}
theorem ed{x:Operand}{b o:Nat}(a:ev l x= .pointer (some ⟨b,o,none⟩)):Val P ρ ⟨dst,.nilCheck x,ty,pos,after,g0⟩ l R O (.pointer (some ⟨b,o,none⟩)):=by
 intro A w d;rw [je (by intro c h;cases h)]
 simp [execOp,a]
end g
/-! ### A slice that keeps its capacity;a new slice that only is read-/
section c
variable {P : Program} {ρ : Option Nat} {n : Nat} {ops : Array Oper} {Q : Po} {rest : List Oper} {l : Nat → Value} {D : List Nat} {R : RH} {O : List Frag} {ty : TypeId} {pos : String} {after : Array Go.Edge} {dst : Option Tmp} {g : Option (Nat × Bool)}
theorem z9l{α:Type}{T:Ty α}{z:α}{t e:TypeId}{bytes:Nat}{x y:Operand}{m:Nat}{k k':IntKind}(a:P.underlying t=some (.slice e))(b:ZeroOk P e T z bytes)(c:ev l x= .int k m)(d:ev l y= .int k' m)
 (i:bytes*m≤281474976710656) (j:m≤9223372036854775807):Eff P ρ ⟨dst,.makeSlice t x y,ty,pos,after,g⟩ l R O fun v R' O'=>O'=O∧phR (tSl true T) (List.replicate m z) v R':=
 Eff.frzT ((z9n a b c d (Nat.le_refl _) i j).mono fun v R' O' _ ⟨n,hcap,f,o,h⟩=>by subst n;exact⟨by rw [hcap,List.length_replicate],f,o,h⟩)
end c
end GV
end Go.Proofs.Ytkhihcleegljhaa

namespace Go.Proofs.Ytkhihcleegljhaa
namespace GV
def EV(P:Program)(ρ:Option Nat)(o:Oper)(l:Nat→Value)(R:RH)(O:List Frag)(φ:Value→RH→Prop):Prop:= ∃ v,φ v R∧Val P ρ o l R O v
theorem z2k{l:Nat→Value}{a:Operand}{az:List Operand}{v:Value}{vs:List Value}(h:ev l a=v)(k:az.map (ev l)=vs):(a::az).map (ev l)=v::vs:=by rw [List.map_cons,h,k]
section ev
variable {P : Program} {ρ : Option Nat} {l : Nat → Value} {R : RH} {O : List Frag} {dst : Option Tmp} {ty : TypeId} {pos : String} {after : Array Go.Edge} {g : Option (Nat × Bool)}
theorem qp{o:Oper}{v:Value}(h:Val P ρ o l R O v):EV P ρ o l R O (phX v):=⟨v,rfl,h⟩
theorem zds{o:Oper}{α:Type}{T:Ty α}{x:α}{a:Value}(h:EV P ρ o l R O (phR T x))(b: ∀ R v,VRep T R v x→v=a):Val P ρ o l R O a:=by
 obtain⟨v,c,d⟩:=h
 rwa [b _ _ c] at d
theorem z0r{o:Oper}{k:IntKind}{x:Int}(h:EV P ρ o l R O (phR (zm k) x)):Val P ρ o l R O (.int k x):=zds h fun _ _ h=>q9.1 h
theorem zcn{o:Oper}{x:Bool}(h:EV P ρ o l R O (phR z2r x)):Val P ρ o l R O (.bool x):=zds h fun _ _ h=>ai.1 h
theorem nu{α:Type}{T:Ty α}{t:TypeId}{x:Operand}{v:Value}{y:α}(a:TyOk P t T)(b:ev l x=v)(c:PRep T R v y):EV P ρ ⟨dst,.load t x,ty,pos,after,g⟩ l R O (phR T y):=
 let⟨u,d,e⟩:=z7z a b c
 ⟨u,d,e _ _ _ _ _⟩
theorem z1k{α β:Type}{A:Ty α}{B:Ty β}{s:TypeId}{x:Operand}{f o:Nat}{v:Value}{y:α}{pr:α→β}(a:FieldOk P s f o)(hpart:Part A o B pr)(b:ev l x=v)(c:PRep A R v y):
 EV P ρ ⟨dst,.fieldAddr s x f,ty,pos,after,g⟩ l R O (phP B (pr y)):=
 let⟨u,d,e⟩:=z8q a hpart b c
 ⟨u,d,e _ _ _ _ _⟩
theorem z11{α:Type}[Inhabited α]{T:Ty α}{t e:TypeId}{x ix:Operand}{v:Value}{X:List α}{k:IntKind}{i:Nat}(a:SlOk P t e T)(b:ev l x=v)(c:VRep (yx T) R v X)(hi:ev l ix= .int k i)(d:i<X.length):
 EV P ρ ⟨dst,.indexAddr t x ix,ty,pos,after,g⟩ l R O (phP T (X.getD i default)):=
 let⟨u,f,h⟩:=z8p a b c hi (getD_some d)
 ⟨u,f,h _ _ _ _ _⟩
theorem z7w{α:Type}{T:Ty α}{t e:TypeId}{x ix:Operand}{v:Value}{X:List α}{k:IntKind}{i:Nat}{f:Frag}(a:SlOk P t e T)(c:ev l x=v)(d:ORep T R f v X)(hi:ev l ix= .int k i)(h:i<X.length):
 EV P ρ ⟨dst,.indexAddr t x ix,ty,pos,after,g⟩ l R O (fun u _=>wu T v X u i):=
 let⟨b,off,j,m⟩:=z8m (O:=O) a c d hi h
 ⟨_,⟨b,off,j,rfl⟩,m _ _ _ _ _⟩
theorem z98{α:Type}[Inhabited α]{T:Ty α}{t:TypeId}{x:Operand}{f:Frag}{v u:Value}{X:List α}{i j:Nat}(a:TyOk P t T)(c:ORep T R f v X)(d:O[j]? =some f)(e:ev l x=u)(h:wu T v X u i)(k:i<X.length):
 EV P ρ ⟨dst,.load t x,ty,pos,after,g⟩ l R O (phR T (X.getD i default)):=by
 obtain⟨b,off,m,rfl⟩:=h
 obtain⟨y,hy',n⟩:=z9w (ρ:=ρ) (P:=P) a c m d e (getD_some k)
 exact⟨y,hy',n _ _ _ _ _⟩
section nest
variable {α : Type} {t : Bool} {T : Ty α} {F : Frag} {v : Value} {Vs : List Value} {X : List (List α)}
end nest
section part
variable {α β : Type} {T : Ty α} {B : Ty β} {X : List α} {v u : Value} {x : Operand} {f : Frag} {i j o fld : Nat} {s t : TypeId} {pr : α → β}
end part
end ev
/-! ### In the text's order-/
section wo
variable {P : Program} {ρ : Option Nat} {n : Nat} {Q : Po} {l : Nat → Value} {D : List Nat} {R : RH} {O : List Frag} {ops : Array Oper} {rest : List Oper} {op : Op} {ty : TypeId} {pos : String} {after : Array Go.Edge} {d : Nat} {φ : Value → RH → Prop}
theorem zgy(a:Nat.blt d n=true)(h:EV P ρ ⟨some d,op,ty,pos,after,none⟩ l R O φ)(b: ∀ v,φ v R→wo P ρ n ops Q rest (upd l d v) D R O):wo P ρ n ops Q (⟨some d,op,ty,pos,after,none⟩::rest) l D R O:=
 let⟨v,c,e⟩:=h
 jo a e (b v c)
theorem zc1{a:Act}{j s:Nat}(d:Fr n l D a)(c:tu ops j=some s)(f:l s=undef):yielded ops a.tmps j=none:=by
 unfold yielded
 unfold tu at c
 rw [c]
 have b:=d.get s
 rw [f,Array.getD_eq_getD_getElem?] at b
 simp only [Option.bind_some]
 cases h:a.tmps[s]? with
 |none=>rfl
 |some v=>
  rw [h] at b
  have e:v=undef:=b
  rw [e];rfl
theorem zjm{j s:Nat}{want:Bool}(c:tu ops j=some s)(e:Nat.blt s n=true)(f:l s=undef)(g:Nat.blt d n=true)(i:wo P ρ n ops Q rest (upd l d undef) D R O):
 wo P ρ n ops Q (⟨some d,op,ty,pos,after,some (j,want)⟩::rest) l D R O:=by
 intro a w b k
 have m:=zc1 b c f
 have h:=i _ w (b.put (d:=some d) (fun t o=>by cases o;simpa using g) undef) k
 simp only [wlo]
 rw [if_neg (by simp [Region.wanted,m])]
 exact⟨fun _ _=>trivial,h⟩
theorem zkx{j s:Nat}{want Gj Bj:Bool}(b:tu ops j=some s)(a:Nat.blt s n=true)(c:Nat.blt d n=true)(e:phG Gj (phX (.bool Bj)) (l s) R)
 (hyes:Gj=true→Bj=want→Eff P ρ ⟨some d,op,ty,pos,after,none⟩ l R O fun v R' O'=>O'=O∧φ v R') (f: ∀ v R',RH.le R R'→phG (Gj&&(Bj==want)) φ v R'→wo P ρ n ops Q rest (upd l d v) D R' O):
 wo P ρ n ops Q (⟨some d,op,ty,pos,after,some (j,want)⟩::rest) l D R O:=by
 cases Gj with
 |false=>exact zjm b a (e.2 rfl) c (f _ _ (RH.le.refl _) ⟨fun h=>by(cases h),fun _=>rfl⟩)
 |true=>
  by_cases i:Bj=want
  ·subst i
   refine zjo b a (e.1 rfl) (z1x c (hyes rfl rfl) fun v R' g h=>f v R' g ⟨fun _=>h,fun h=>by simp at h⟩)
  ·have hb':(Bj==want)=false:=by simpa using i
   exact zji b a (e.1 rfl) hb' c (f _ _ (RH.le.refl _) (by rw [hb'];exact⟨fun h=>by simp at h,fun _=>rfl⟩))
theorem zde{j s:Nat}{want Gj Bj:Bool}(b:tu ops j=some s)(a:Nat.blt s n=true)(c:Nat.blt d n=true)(e:phG Gj (phX (.bool Bj)) (l s) R)
 (hyes:Gj=true→Bj=want→EV P ρ ⟨some d,op,ty,pos,after,none⟩ l R O φ) (f: ∀ v,phG (Gj&&(Bj==want)) φ v R→wo P ρ n ops Q rest (upd l d v) D R O):
 wo P ρ n ops Q (⟨some d,op,ty,pos,after,some (j,want)⟩::rest) l D R O:=by
 cases Gj with
 |false=>exact zjm b a (e.2 rfl) c (f _ ⟨fun h=>by(cases h),fun _=>rfl⟩)
 |true=>
  by_cases g:Bj=want
  ·subst g
   obtain⟨v,i,k⟩:=hyes rfl rfl
   exact zjo b a (e.1 rfl) (jo c k (f v ⟨fun _=>i,fun h=>by simp at h⟩))
  ·have hb':(Bj==want)=false:=by simpa using g
   exact zji b a (e.1 rfl) hb' c (f _ (by rw [hb'];exact⟨fun h=>by simp at h,fun _=>rfl⟩))
theorem ja{j s:Nat}{want Bj:Bool}(b:tu ops j=some s)(a:Nat.blt s n=true)(c:Nat.blt d n=true)(e:l s= .bool Bj)
 (hyes:Bj=want→EV P ρ ⟨some d,op,ty,pos,after,none⟩ l R O φ) (f: ∀ v,phG (true&&(Bj==want)) φ v R→wo P ρ n ops Q rest (upd l d v) D R O):
 wo P ρ n ops Q (⟨some d,op,ty,pos,after,some (j,want)⟩::rest) l D R O:=zde b a c (jl e) (fun _=>hyes) f
theorem bz{j s:Nat}{want Bj:Bool}(b:tu ops j=some s)(a:Nat.blt s n=true)(c:Nat.blt d n=true)(e:l s= .bool Bj)
 (hyes:Bj=want→Eff P ρ ⟨some d,op,ty,pos,after,none⟩ l R O fun v R' O'=>O'=O∧φ v R') (f: ∀ v R',RH.le R R'→phG (true&&(Bj==want)) φ v R'→wo P ρ n ops Q rest (upd l d v) D R' O):
 wo P ρ n ops Q (⟨some d,op,ty,pos,after,some (j,want)⟩::rest) l D R O:=zkx b a c (jl e) (fun _=>hyes) f
end wo
end GV
end Go.Proofs.Ytkhihcleegljhaa

namespace Go.Proofs.Ytkhihcleegljhaa
namespace GV
def zet:Op→Option (List Operand)
 | .move x| .assign x| .load _ x| .nilCheck x| .unOp _ _ x| .convert _ _ x| .fieldAddr _ x _| .field _ x _| .extract x _=>some [x]
 | .pick c a b=>some [c,a,b]
 | .binOp _ _ x y _| .indexAddr _ x y| .index _ x y| .lookup _ x y _=>some [x,y]
 | .build _ ps=>some (ps.toList.map (·.2))
 | .makeFunc _ fs cs=>some (fs.toList++cs.toList)
 | .slice _ x lo hi mx=>some (x::(lo.toList++(hi.toList++mx.toList)))
 | .call c=>match c.callee with
  | .builtin _=>some c.args.toList
  |_=>none
 |_=>none
theorem za0{ρ1 ρ2:Operand→Value}{x:Option Operand}(h: ∀ y∈x.toList,ρ1 y=ρ2 y):x.map ρ1=x.map ρ2:=by
 cases x with
 |none=>rfl
 |some y=>simp [h y (by simp)]
theorem z9z{ρ1 ρ2:Operand→Value}{xs:Array Operand}(h: ∀ y∈xs.toList,ρ1 y=ρ2 y):xs.map ρ1=xs.map ρ2:=by
 apply Array.ext'
 rw [Array.toList_map,Array.toList_map]
 exact List.map_congr_left h
theorem zfv{ρ1 ρ2:Operand→Value}{xs:Array (Nat×Operand)}(h: ∀ y∈xs.toList.map (·.2),ρ1 y=ρ2 y):(xs.map fun(i,x)=>(i,ρ1 x))=xs.map fun(i,x)=>(i,ρ2 x):=by
 apply Array.ext'
 rw [Array.toList_map,Array.toList_map]
 refine List.map_congr_left fun p a=>?_
 obtain⟨i,x⟩:=p
 have:=h x (List.mem_map.2 ⟨(i,x),a,rfl⟩)
 simp only [this]
theorem zen{o:Oper}{xs:List Operand}{ρ1 ρ2:Operand→Value}(h:zet o.op=some xs)(a: ∀ x∈xs,ρ1 x=ρ2 x):execOp ρ1 o=execOp ρ2 o:=by
 obtain⟨dst,op,ty,pos,after,g⟩:=o
 dsimp only at h
 cases op<;>simp only [zet,Option.some.injEq,reduceCtorEq] at h
 case call c=>
  obtain⟨cal,args,at'⟩:=c
  cases cal<;>simp only [Option.some.injEq,reduceCtorEq] at h
  subst h
  simp only [execOp,resolve,z9z a]
 case build t ps=>subst h;simp only [execOp,zfv a]
 case makeFunc f fs cs=>
  subst h
  simp only [execOp,z9z (xs:=fs) (fun y b=>a y (List.mem_append_left _ b)),z9z (xs:=cs) (fun y b=>a y (List.mem_append_right _ b))]
 case slice t x lo hi mx=>
  subst h
  simp only [execOp,a x (List.mem_cons_self ..),za0 (x:=lo) (fun y b=>a y (by simp [b])),za0 (x:=hi) (fun y b=>a y (by simp [b])),za0 (x:=mx) (fun y b=>a y (by simp [b]))]
 all_goals subst h;simp only [List.mem_cons,List.not_mem_nil,or_false,forall_eq_or_imp,forall_eq] at a;simp only [execOp,a]
theorem zcs{op:Op}{xs:List Operand}(h:zet op=some xs): ∀ c,op≠ .defer c:=by
 intro c e;subst e;simp [zet] at h
theorem zek{R R':RH}{O:List Frag}{w:World}(h:Holds R' O w)(a:R.le R'):Holds R O w:=by
 refine⟨fun k o b=>h.ro k o (a.blk k o b),fun f c k o b=>⟨(h.own f c k o b).1,?_⟩,h.sep,by rw [←a.os];exact h.os,by rw [←a.out];exact h.out⟩
 cases e:R.blk k with
 |none=>rfl
 |some o'=>
  have:=a.blk k o' e
  rw [(h.own f c k o b).2] at this;cases this
theorem zg2{P:Program}{ρ:Option Nat}{o:Oper}{l l':Nat→Value}{R R':RH}{O:List Frag}{v:Value}{xs:List Operand}(h:Val P ρ o l R O v)(c:zet o.op=some xs)(e: ∀ s,.tmp s∈xs→l' s=l s)(a:R.le R'):Val P ρ o l' R' O v:=by
 intro A w f
 have d:=h A w (zek f a)
 have g:=zcs c
 rw [je g] at d⊢
 rw [zen c (ρ2:=ev l) fun x b=>?_]
 ·exact d
 ·cases x with
  |tmp s=>exact e s b
  |_=>rfl
def wv(P:Program)(ρ:Option Nat)(R:RH)(O:List Frag):List Oper→(Nat→Value)→((Nat→Value)→Prop)→Prop
 | [],l,K=>K l
 |o::r,l,K=> ∃ d v,o.dst=some d∧Val P ρ o l R O v∧wv P ρ R O r (upd l d v) K
section wv
variable {P : Program} {ρ : Option Nat} {n : Nat} {Q : Po} {l : Nat → Value} {D : List Nat} {R : RH} {O : List Frag} {rest : List Oper} {op : Op} {ty : TypeId} {pos : String} {after : Array Go.Edge} {d : Nat} {φ : Value → RH → Prop} {K : (Nat → Value) → Prop} {g : Option (Nat × Bool)}
theorem oq{v:Value}(h:Val P ρ ⟨some d,op,ty,pos,after,g⟩ l R O v)(a:wv P ρ R O rest (upd l d v) K):wv P ρ R O (⟨some d,op,ty,pos,after,g⟩::rest) l K:=⟨d,v,rfl,h,a⟩
theorem zbx(h:EV P ρ ⟨some d,op,ty,pos,after,g⟩ l R O φ)(a: ∀ v,φ v R→wv P ρ R O rest (upd l d v) K):wv P ρ R O (⟨some d,op,ty,pos,after,g⟩::rest) l K:=
 let⟨v,b,c⟩:=h
 ⟨d,v,rfl,c,a v b⟩
def zhz(gs:List Oper)(s:Nat):Option Nat:=gs.findIdx? fun o=>o.dst==some s
def clV(gs:List Oper):Bool:=gs.zipIdx.all fun(o,i)=>o.guard.isNone&&(match zet o.op with
 |none=>false
 |some xs=>xs.all fun x=>match x with
  | .tmp s=>(match zhz gs s with|none=>true|some j=>Nat.blt j i&&o.after.toList.any fun e=>Nat.beq e.on j&&Region.binds .any e)
  |_=>true)
def zaz(l:Nat→Value):List (Nat×Value)→Nat→Value
 | []=>l
 |(d,v)::r=>zaz (upd l d v) r
theorem zcy{s d:Nat}{v:Value}(h:s≠d):upd l d v s=l s:=by
 unfold upd
 have:Nat.beq s d=false:=by
  cases hb:Nat.beq s d
  ·rfl
  ·exact absurd (Nat.eq_of_beq_eq_true hb) h
 rw [this];rfl
theorem zfb{d:Nat}{v:Value}:upd l d v d=v:=by unfold upd;simp
theorem z9c{s:Nat}: ∀ {acc:List (Nat×Value)} {l:Nat→Value},s∉acc.map (·.1)→zaz l acc s=l s
 | [],_,_=>rfl
 |(d,v)::r,l,h=>by
  simp only [List.map_cons,List.mem_cons,not_or] at h
  rw [zaz,z9c h.2,zcy h.1]
theorem zcm{s:Nat}{v:Value}: ∀ {acc:List (Nat×Value)} {l:Nat→Value} {j:Nat},acc[j]? =some (s,v)→(acc.map (·.1)).Nodup→zaz l acc s=v
 | [],_,_,h,_=>by simp at h
 |(d,u)::r,l,0,h,a=>by
  simp only [List.getElem?_cons_zero,Option.some.injEq,Prod.mk.injEq] at h
  obtain⟨rfl,rfl⟩:=h
  simp only [List.map_cons,List.nodup_cons] at a
  rw [zaz,z9c a.1,zfb]
 |(d,u)::r,l,j+1,h,a=>by
  simp only [List.map_cons,List.nodup_cons] at a
  rw [zaz]
  exact zcm (j:=j) (by simpa using h) a.2
theorem zdi{s:Nat}: ∀ {acc:List (Nat×Value)},s∉acc.map (·.1)→z1h l acc s=l s
 | [],_=>rfl
 |(d,v)::r,h=>by
  simp only [List.map_cons,List.mem_cons,not_or] at h
  rw [z1h,zcy h.1,zdi h.2]
theorem zfi{s:Nat}{v:Value}: ∀ {acc:List (Nat×Value)} {j:Nat},acc[j]? =some (s,v)→(acc.map (·.1)).Nodup→z1h l acc s=v
 | [],_,h,_=>by simp at h
 |(d,u)::r,0,h,a=>by
  simp only [List.getElem?_cons_zero,Option.some.injEq,Prod.mk.injEq] at h
  obtain⟨rfl,rfl⟩:=h
  rw [z1h,zfb]
 |(d,u)::r,j+1,h,a=>by
  simp only [List.map_cons,List.nodup_cons] at a
  have h':r[j]? =some (s,v):=by simpa using h
  have b:s∈r.map (·.1):=List.mem_map.2 ⟨_,List.mem_of_getElem? h',rfl⟩
  rw [z1h,zcy (fun e=>a.1 (by rw [←e];exact b))]
  exact zfi h' a.2
theorem zib{acc:List (Nat×Value)}(a:(acc.map (·.1)).Nodup):zaz l acc=z1h l acc:=by
 funext s
 by_cases h:s∈acc.map (·.1)
 ·obtain⟨⟨d,v⟩,b,rfl⟩:=List.mem_map.1 h
  obtain⟨j,c,e⟩:=List.mem_iff_getElem.1 b
  have h':acc[j]? =some (d,v):=by rw [List.getElem?_eq_getElem c,e]
  rw [zcm h' a,zfi h' a]
 ·rw [z9c h,zdi h]
def zbq(gs:List Oper)(vs:List Value):List (Nat×Value):=(gs.zip vs).map fun p=>(p.1.dst.getD 0,p.2)
theorem zfa: ∀ {os:List Oper} {l:Nat→Value},wv P ρ R O os l K→ ∃ vs:List Value,vs.length=os.length∧(∀ o∈os,o.dst.isSome=true)∧
 (∀ (i:Nat) o v,os[i]? =some o→vs[i]? =some v→Val P ρ o (zaz l ((zbq os vs).take i)) R O v)∧K (zaz l (zbq os vs))
 | [],l,h=>⟨[],rfl,fun o c=>by simp at c,fun i o v h=>by simp at h,h⟩
 |o::r,l,⟨d,v,a,e,f⟩=>by
  obtain⟨vs,g,j,k,m⟩:=zfa f
  refine⟨v::vs,by simp [g],fun o' ho'=>?_,fun i o' u hi b=>?_,?_⟩
  ·rcases List.mem_cons.1 ho' with rfl|ho'
   ·rw [a];rfl
   ·exact j o' ho'
  ·cases i with
   |zero=>
    simp only [List.getElem?_cons_zero,Option.some.injEq] at hi b
    subst hi;subst b
    exact e
   |succ i=>
    have:=k i o' u (by simpa using hi) (by simpa using b)
    simpa [zbq,zaz,a] using this
  ·simpa [zbq,zaz,a] using m
theorem zdn{gs:List Oper}{φs:List (Value→RH→Prop)}{l:Nat→Value}{R:RH}: ∀ {es:List Go.Edge},zfx gs φs l R es→ ∀ e∈es,Region.binds .any e=true→ ∀ d,yf gs e.on=some d→phi φs e.on (l d) R
 | [],_,e,a,_,_,_=>by simp at a
 |e'::es,h,e,a,b,d,c=>by
  rcases List.mem_cons.1 a with rfl|a
  ·have:=h.1
   rw [c] at this
   exact this b
  ·exact zdn h.2 e a b d c
theorem zf9{gs:List Oper}{al:List NewBox}{φs:List (Value→RH→Prop)}{l0:Nat→Value}{R0:RH}: ∀ {os:List Oper} {k:Nat},
 (∀ (i:Nat) (o:Oper),os[i]? =some o→ ∀ l R,RH.le R0 R→Agree gs l0 l→zfx gs φs l R o.after.toList→GStep P ρ gs al φs O (k+i) o l R)→zer P ρ gs al φs l0 R0 O k os
 | [],_,_=>trivial
 |o::os,k,h=>⟨h 0 o rfl,zf9 fun i o' hi=>by have:=h (i+1) o' (by simpa using hi);rwa [show k+(i+1)=k+1+i from by omega] at this⟩
theorem zf4{φs:List (Value→RH→Prop)}{R:RH}: ∀ {os:List Oper} {vs:List Value} {k:Nat} {K:List (Nat×Value)→Prop},vs.length=os.length→(∀ (i:Nat) v,vs[i]? =some v→phi φs (k+i)=phX v)→K (zbq os vs)→zeq φs R K k os
 | [],vs,k,K,a,_,h=>by
  have:vs=[]:=List.length_eq_zero_iff.1 a
  subst this;exact h
 |o::os,[],k,K,a,_,_=>by simp at a
 |o::os,v::vs,k,K,a,b,h=>fun u c=>by
  rw [show k=k+0 from rfl,b 0 v rfl] at c
  obtain rfl:u=v:=c
  exact zf4 (vs:=vs) (by simpa using a) (fun i w hi=>by have:=b (i+1) w (by simpa using hi);rwa [show k+(i+1)=k+1+i from by omega] at this) h
theorem z5k{id:Nat}{os:List Oper}(m:Nat)(V:P.follows .mixedOrders=true)(c:z7q (os.take m) [] n (os.drop m)=true)(r:clV (os.take m)=true)
 (h:wv P ρ R O (os.take m) l fun l'=> ∀ R',RH.le R R'→wo P ρ n os.toArray Q (os.drop m) l' D R' O):wg P ρ n (.region id os.toArray true) Q l D R O:=by
 obtain⟨vs,C,M,N,S⟩:=zfa h
 have f:=(z5a c).2.1
 generalize hg:os.take m=gs at C M N S f r c
 have hacc:(zbq gs vs).map (·.1)=z6v gs:=by
  unfold zbq z6v
  rw [List.map_map]
  have: ∀ (gs:List Oper) (vs:List Value),vs.length=gs.length→(∀ o∈gs,o.dst.isSome=true)→(gs.zip vs).map ((fun x:Nat×Value=>x.1)∘fun p=>(p.1.dst.getD 0,p.2))=gs.filterMap (·.dst):=by
   intro gs
   induction gs with
   |nil=>intro vs _ _;simp
   |cons o gs ih=>
    intro vs T A
    cases vs with
    |nil=>simp at T
    |cons v vs=>
     obtain⟨d,E⟩:=Option.isSome_iff_exists.1 (A o (List.mem_cons_self ..))
     simp only [List.zip_cons_cons,List.map_cons,List.filterMap_cons,E,Function.comp_apply,Option.getD_some]
     rw [ih vs (by simpa using T) (fun o' ho'=>A o' (List.mem_cons_of_mem _ ho'))]
  exact this gs vs C M
 have hphi: ∀ (i:Nat) v,vs[i]? =some v→phi (vs.map phX) i=phX v:=fun i v hi=>by
  unfold phi
  rw [List.getD_eq_getElem?_getD,List.getElem?_map,hi];rfl
 have hmono:z9s (vs.map phX):=fun k v R R' a q=>by
  unfold phi at q⊢
  rw [List.getD_eq_getElem?_getD,List.getElem?_map] at q⊢
  cases e:vs[k]? with
  |none=>trivial
  |some u=>rw [e] at q;exact q
 have haget: ∀ (i:Nat) o v,gs[i]? =some o→vs[i]? =some v→ ∀ d,o.dst=some d→(zbq gs vs)[i]? =some (d,v):=fun i o v hi B d E=>by
  unfold zbq
  rw [List.getElem?_map,List.getElem?_zip_eq_some (z:=(o,v))|>.2 ⟨hi,B⟩]
  simp [E]
 refine bu (m:=m) [] (vs.map phX) V (by rw [hg];exact c) hmono (by
  rw [hg]
  refine zf9 fun i o hi l' R' a F hdep=>?_
  rw [Nat.zero_add]
  have W:i<gs.length:=(List.getElem?_eq_some_iff.1 hi).1
  obtain⟨v,B⟩: ∃ v,vs[i]? =some v:=⟨vs[i]'(by omega),List.getElem?_eq_getElem (by omega)⟩
  have g:=List.all_eq_true.1 r (o,i) (List.mem_iff_getElem?.2 ⟨i,by rw [List.getElem?_zipIdx,hi];simp⟩)
  simp only [Bool.and_eq_true] at g
  obtain⟨G,g⟩:=g
  refine zi (Option.isNone_iff_eq_none.1 G) rfl (hphi i v B) (zf ?_)
  cases hx:zet o.op with
  |none=>rw [hx] at g;exact absurd g Bool.false_ne_true
  |some xs=>
   rw [hx] at g
   refine zg2 (N i o v hi B) hx (fun s A=>?_) a
   have b:=List.all_eq_true.1 g (.tmp s) A
   dsimp only at b
   have t:((zbq gs vs).take i).map (·.1)=(z6v gs).take i:=by rw [List.map_take,hacc]
   cases hsl:zhz gs s with
   |none=>
    have w:s∉z6v gs:=fun hm'=>by
     obtain⟨o',ho',e⟩:=List.mem_filterMap.1 hm'
     have:=List.findIdx?_eq_none_iff.1 hsl o' ho'
     rw [e] at this;simp at this
    rw [F s (by simpa using w),z9c (by rw [t];exact fun h=>w (List.mem_of_mem_take h))]
   |some j=>
    rw [hsl] at b
    simp only [Bool.and_eq_true,List.any_eq_true] at b
    obtain⟨H,e,X,I,J⟩:=b
    have hji':j<i:=by simpa using H
    have hej':e.on=j:=Nat.eq_of_beq_eq_true I
    obtain⟨o',ho',hd'⟩: ∃ o',gs[j]? =some o'∧o'.dst=some s:=by
     have:=List.findIdx?_eq_some_iff_getElem.1 hsl
     obtain⟨Y,q,_⟩:=this
     exact⟨gs[j],List.getElem?_eq_getElem Y,by simpa using q⟩
    have Z:j<gs.length:=(List.getElem?_eq_some_iff.1 ho').1
    obtain⟨u,U⟩: ∃ u,vs[j]? =some u:=⟨vs[j]'(by omega),List.getElem?_eq_getElem (by omega)⟩
    have K:yf gs e.on=some s:=by unfold yf;rw [hej',ho'];exact hd'
    have y:=zdn hdep e X J s K
    rw [hej',hphi j u U] at y
    have L:((zbq gs vs).take i)[j]? =some (s,u):=by rw [List.getElem?_take,if_pos hji'];exact haget j o' u ho' U s hd'
    rw [zcm L (by rw [t];exact List.Nodup.sublist (List.take_sublist _ _) f)]
    exact y) fun R' a=>?_
 rw [hg]
 refine zf4 C (fun i v hi=>by rw [Nat.zero_add];exact hphi i v hi) ?_
 rw [←zib (by rw [hacc];exact f)]
 exact S R' a
end wv
/-! ### Shorter laws-/
section short
variable {P : Program} {ρ : Option Nat} {n : Nat} {Q : Po} {l : Nat → Value} {D : List Nat} {R : RH} {O : List Frag} {γ : Type} {ops : Array Oper} {rest : List Oper} {d : Nat} {ty : TypeId} {pos : String} {after : Array Go.Edge}
theorem q8{c:Operand}{x y:Code}{α:Type}{b:Bool}{p q:Option α}{r:α}(d:ev l c= .bool b)(a:(bif b then p else q)=some r)(f:p=some r→wg P ρ n x Q l D R O)(g:q=some r→wg P ρ n y Q l D R O):wg P ρ n (.cond c x y) Q l D R O:=
 z4f d (fun e=>f (zad e a)) (fun e=>g (zab e a))
theorem ql{x y:Code}(W:List Nat)(S:γ→List (Nat×Value))(F:γ→List Frag)(K:γ→RH→Prop)(b:wg P ρ n x (thn (zla true D W l R S F K) Q) l D R O)
 (c: ∀ g j R',RH.le R R'→K g R'→wg P ρ n y Q (z1h (mask W j l) (S g)) D R' (F g)):wg P ρ n (.seq x y) Q l D R O:=
 zio true W S F K b fun g j D' R' d a e=>by obtain rfl:=d rfl;exact c g j R' a e
theorem j4{c:Code}(W:List Nat)(S:γ→List (Nat×Value))(F:γ→List Frag)(K:γ→RH→Prop)(μ:γ→Nat)(a:γ)
 (d: ∃ J,O.Perm (J++F a)) (e:K a R)
 (round: ∀ g j R',RH.le R R'→K g R'→wg P ρ n c (thn (zjd true D W (z1h (mask W j l) (S g)) R' S F K μ (μ g)) Q) (z1h (mask W j l) (S g)) D R' (F g))
 (f:zdo l (S a):=by repeat (first|exact trivial|refine⟨rfl,?_⟩)) (h: ∀ g,((S g).all fun p=>W.elem p.1)=true:=by exact fun _=>rfl):wg P ρ n (.loop c) Q l D R O:=
 zgm true W S F K μ a f d e h fun g j D' R' i b k=>by obtain rfl:=i rfl;exact round g j R' b k
theorem zz{op:Op}{v:Value}(h:Val P ρ ⟨some d,op,ty,pos,after,none⟩ l R O v)(a:wo P ρ n ops Q rest (upd l d v) D R O)(b:Nat.blt d n=true:=by exact rfl):wo P ρ n ops Q (⟨some d,op,ty,pos,after,none⟩::rest) l D R O:=jo b h a
theorem zh{x:Operand}(v:Value)(a:wo P ρ n ops Q rest (upd l d v) D R O)(b:ev l x=v:=by exact rfl)(c:Nat.blt d n=true:=by exact rfl):wo P ρ n ops Q (⟨some d,.move x,ty,pos,after,none⟩::rest) l D R O:=jo c (zb b) a
theorem zl{x:Operand}(v:Value)(a:wo P ρ n ops Q rest (upd l d v) D R O)(b:ev l x=v:=by exact rfl)(c:Nat.blt d n=true:=by exact rfl):wo P ρ n ops Q (⟨some d,.assign x,ty,pos,after,none⟩::rest) l D R O:=jo c (mh b) a
theorem zq{id:Nat}{os:List Oper}{y:Code}(h:wo P ρ n os.toArray (thn (wg P ρ n y Q) Q) os l D R O):wg P ρ n (.seq (.region id os.toArray false) y) Q l D R O:=zw (zu h)
theorem qw{id:Nat}{os:List Oper}{y:Code}{Q':Po}(h:wo P ρ n os.toArray (thn (wg P ρ n y Q) Q) os l D R O):wo P ρ n ops (thn (wg P ρ n (.seq (.region id os.toArray false) y) Q) Q') [] l D R O:=ze (zq h)
def rs:List Nat→List Nat|a::b::r=>List.range' a (b-a)++rs r|_=>[]
abbrev vi (x:Int):Value:= .int .i64 x
abbrev vs0:Value:= .slice none 0 0
theorem dkt{c:Prop}{α:Type}{x:α}:c→x=x:=fun _=>rfl
theorem zi0{a b:Prop}[Decidable a][Decidable b]{α:Type}{k:Option α}{r:α}(h:gd a (gd b k)=some r):a∧b∧k=some r:=⟨(zg h).1,zg (zg h).2⟩
theorem zgr{a b c:Prop}[Decidable a][Decidable b][Decidable c]{α:Type}{k:Option α}{r:α}(h:gd a (gd b (gd c k))=some r):a∧b∧c∧k=some r:=⟨(zg h).1,zi0 (zg h).2⟩
theorem zi1{a b c d:Prop}[Decidable a][Decidable b][Decidable c][Decidable d]{α:Type}{k:Option α}{r:α}(h:gd a (gd b (gd c (gd d k)))=some r):a∧b∧c∧d∧k=some r:=⟨(zg h).1,zgr (zg h).2⟩
theorem zh8{a b c d e:Prop}[Decidable a][Decidable b][Decidable c][Decidable d][Decidable e]{α:Type}{k:Option α}{r:α}(h:gd a (gd b (gd c (gd d (gd e k))))=some r):a∧b∧c∧d∧e∧k=some r:=⟨(zg h).1,zi1 (zg h).2⟩
theorem zks{a b c d e f:Prop}[Decidable a][Decidable b][Decidable c][Decidable d][Decidable e][Decidable f]{α:Type}{k:Option α}{r:α}(h:gd a (gd b (gd c (gd d (gd e (gd f k)))))=some r):a∧b∧c∧d∧e∧f∧k=some r:=⟨(zg h).1,zh8 (zg h).2⟩
theorem prm{O:List Frag}: ∃ J,O.Perm (J++O):=⟨[],List.Perm.refl _⟩
end short
end GV
end Go.Proofs.Ytkhihcleegljhaa

namespace Go.Proofs.Ytkhihcleegljhaa
namespace GV
abbrev okA {α:Type} (X:List α) (lo:Int) (m:Nat) (y:Int):Prop:=0≤lo∧0≤y∧y<m∧lo+y<X.length
def ziu(u:Value):Ty Unit where
 size:=1
 agg:=false
 rep:=fun _ cs _=>cs=[u]∧u.oneCell'=true
 len:=by rintro _ _ _ ⟨rfl,_⟩;rfl
 mono:=fun _ h=>h
 one:=fun _=>rfl
 cell:=by rintro _ _ _ ⟨rfl,h⟩ v hv;rw [List.mem_singleton] at hv;subst hv;exact h
theorem zi9{u v:Value}{R:RH}{x:Unit}(h:VRep (ziu u) R v x):v=u:=by
 obtain⟨cs,⟨rfl,_⟩,rfl⟩:=h;rfl
section a
variable {P : Program} {ρ : Option Nat} {l : Nat → Value} {R : RH} {O : List Frag} {ty : TypeId} {pos : String} {after : Array Go.Edge} {dst : Option Tmp} {g : Option (Nat × Bool)}
variable {α : Type} {T : Ty α} {X : List α} {v : Value} {x y : Operand} {f : Frag} {t e : TypeId}
theorem za8{lo:Int}{m:Nat}{q:Int}(h:okA X lo m q):(lo+q).toNat<X.length:=by obtain⟨a,b,c,d⟩:=h;omega
theorem zcd{lo:Int}{m:Nat}{q:Int}(h:okA X lo m q):q.toNat<m:=by obtain⟨a,b,c,d⟩:=h;omega
theorem zc7{lo:Int}{m:Nat}{q:Int}(h:okA X lo m q):(lo+q).toNat=lo.toNat+q.toNat:=by obtain⟨a,b,c,d⟩:=h;omega
theorem zc6{lo:Int}{m:Nat}{q:Int}(h:okA X lo m q):okI X (lo+q):=by obtain⟨b,c,d,a⟩:=h;exact⟨by omega,a⟩
theorem zh1{lo hi:Nat}(h:ORep T R f v X)(a:lo<X.length): ∃ b off,v= .slice (some ⟨b,off,none⟩) X.length (capOf v)∧z5u T.size v lo hi= .slice (some ⟨b,off+lo*T.size,none⟩) (hi-lo) (capOf v-lo):=by
 rcases h with⟨rfl,rfl,_⟩|⟨b,pre,cs,cap,bt,rfl,rfl,g,c,d,e⟩
 ·simp at a
 refine⟨b,pre.length,rfl,?_⟩
 simp only [z5u,capOf]
 rw [if_neg (by omega)]
 simp only [Option.map_some,addr_add]
theorem z3c{k:IntKind}{lo hi i n:Nat}(d:SlOk P t e T)(j:ev l x=z5u T.size v lo hi)(m:ORep T R f v X)(hi':ev l y= .int k i)(o:i<hi-lo)(p:n=lo+i)(s:n<X.length):
 Eff P ρ ⟨dst,.indexAddr t x y,ty,pos,after,g⟩ l R O (fun v' R' O'=>O'=O∧(fun u _=>wu T v X u n) v' R'):=by
 subst p
 obtain⟨b,off,q,r⟩:=zh1 (lo:=lo) (hi:=hi) m (by omega)
 have hval:Val P ρ ⟨dst,.indexAddr t x y,ty,pos,after,g⟩ l R O (.pointer (some ⟨b,off+lo*T.size+i*T.size,none⟩)):=by
  intro A w z
  rw [je (by intro c h;cases h)]
  have:=z4s (P:=P) (b:=b) (off:=off+lo*T.size) (c:=capOf v-lo) (k:=k) (w:=w) d.u d.e.size o
  simp [execOp,j,hi',r,this]
 exact hval.eff.mono fun v' R' O' _ ⟨a,_,c⟩=>by subst a;exact⟨c,b,off,q,by rw [Nat.add_mul,Nat.add_assoc]⟩
theorem zc5{at':Array TypeId}{s lo hi:Nat}(a:at'[0]? =some t)(b:P.underlying t=some (.slice e))(c:ev l x=z5u s v lo hi)(d:ORep T R f v X):Val P ρ ⟨dst,.call ⟨.builtin .len,#[x],at'⟩,ty,pos,after,g⟩ l R O (.int .i64 ((hi-lo:Nat):Int)):=by
 obtain⟨p,h,_⟩:=z2d d
 exact zd7 a b (c.trans (by rw [h];rfl))
theorem zc2{w w':World}{r u:Value}(a:ev l x=u)(h:(Builtin.clear_ #[t] ty #[u]).run P w= .ok r w'):
 ((⟨dst,.call ⟨.builtin .clear,#[x],#[t]⟩,ty,pos,after,g⟩:Oper).semAt ρ (ev l)).run P w= .ok (.value r) w':=by
 rw [je (by intro c h;cases h)]
 simp [execOp,resolve,invoke,builtin,a,h]
theorem z8u{lo hi bytes:Nat}{z:α}(d:T.size=1)(G:P.underlying t=some (.slice e))(K:ZeroOk P e T z bytes)(h:ORep T R f v X)(a1:lo≤hi)(L:hi≤X.length)(s:ev l x=z5u 1 v lo hi):
 Eff P ρ ⟨dst,.call ⟨.builtin .clear,#[x],#[t]⟩,ty,pos,after,g⟩ l R ([f]++O) (fun v' R' O'=> ∃ Oc,O'=Oc++O∧R'=R∧ ∃ f',Oc=[f']∧v'= .tuple #[]∧ORep T R f' v (z4z X lo (List.replicate (hi-lo) z))):=by
 intro A w u
 obtain⟨p,M,hcap⟩:=z2d h
 by_cases hm:hi-lo=0
 ·have hrun:(Builtin.clear_ #[t] ty #[z5u 1 v lo hi]).run P w= .ok (.tuple #[]) w:=by
   rw [M]
   simp only [z5u,hm]
   generalize (if capOf v=lo then p else p.map fun a=>a.add (lo*1))=q
   cases q<;>simp [Builtin.clear_,run_underlying G]
  rw [zc2 s hrun]
  refine⟨R,_,RH.le.refl _,u,_,rfl,rfl,f,rfl,rfl,?_⟩
  rw [hm]
  simpa [z4z] using h
 ·rcases h with⟨rfl,rfl,_⟩|⟨b,pre,cs,cap,bt,rfl,rfl,N,k,B,C⟩
  ·simp at L;omega
  rw [d,Nat.mul_one] at k
  have hblk:w.heap[b]? =some (.cells (pre++cs).toArray bt (0,0)):=z2y u (i:=0) rfl (xk _ _)
  obtain⟨iv,zv,H,I,h3,_,D⟩:=K.info
  have E:zv.cells.toList.length=1:=by rw [T.len (D R)];exact d
  obtain⟨c,j⟩: ∃ c,zv.cells.toList=[c]:=List.length_eq_one_iff.1 E
  have hc0':zv.cells= #[c]:=by rw [←Array.toList_inj];simpa using j
  have n:c.oneCell'=true:=T.cell (D R) c (by rw [j];simp)
  have Q:z5u 1 (.slice (some ⟨b,pre.length,none⟩) X.length cap) lo hi= .slice (some ⟨b,pre.length+lo,none⟩) (hi-lo) (cap-lo):=by
   simp only [z5u];rw [if_neg (by omega)];simp [addr_add,Nat.mul_one]
  have o:(Builtin.zeroCells zv.cells (hi-lo)).toList=List.replicate (hi-lo) c:=by
   rw [hc0']
   simp only [Builtin.zeroCells,List.size_toArray,List.length_singleton,Nat.mul_one]
   apply List.ext_getElem
   ·simp
   ·intro i H I
    simp [Nat.mod_one]
  obtain⟨w',J,S,U,V,W⟩:=z2p (P:=P) (List.replicate (hi-lo) c) (pre++cs) (pre.length+lo) 0 w hblk (by simp only [List.length_replicate,List.length_append];omega) (fun q F=>by rw [List.eq_of_mem_replicate F];exact n)
  have hrun:(Builtin.clear_ #[t] ty #[.slice (some ⟨b,pre.length+lo,none⟩) (hi-lo) (cap-lo)]).run P w= .ok (.tuple #[]) w':=by
   obtain⟨m,hm'⟩: ∃ m,hi-lo=m+1:=⟨hi-lo-1,by omega⟩
   rw [hm'] at o J⊢
   simp [Builtin.clear_,run_underlying G,zeroValue,typeInfo,H,I,o,J]
  rw [zc2 (s.trans Q) hrun]
  refine⟨R,[box b (pre++over cs lo (List.replicate (hi-lo) c)) bt]++O,RH.le.refl _,?_,_,rfl,rfl,_,rfl,rfl,?_⟩
  ·have Y:(pre++over cs lo (List.replicate (hi-lo) c))=over (pre++cs) (pre.length+lo) (List.replicate (hi-lo) c):=over_pre.symm
   rw [Y]
   have:=z7x (i:=0) u rfl S U V W trivial
   exact this
  ·refine zfz d N k B (fun i hi x s=>?_) (by simp only [List.length_replicate];omega) (by simp) (fun i hi y Z=>?_) (fun q F=>by rw [List.eq_of_mem_replicate F];exact n)
   ·have:=C i x s
    rwa [d,Nat.mul_one,take1 hi] at this
   ·have hy':=List.getElem?_eq_some_iff.1 Z
    obtain⟨aa,r⟩:=hy'
    rw [List.getElem_replicate] at r⊢
    subst r
    have:=D R
    rwa [j] at this
theorem zgd{f:FuncId}{c:Operand}{args:List Operand}{at':Array TypeId}{cs vs:List Value}{ψ:Value→Prop}(y: ∀ (R R':RH) (f:Frag) (v:Value) (X:List α),ORep T R f v X→ORep T R' f v X)
 (z:Enters P f) (B:ev l c= .func (.func f) #[] cs.toArray) (C:args.map (ev l)=vs)
 (h: ∀ r,RH.le R r→(∀ f∈O,∀ k o,f k=some o→r.blk k=some o)→CallG P f (vs++cs).toArray r [] fun u R' O'=> ∃ i,O'=[i]∧ORep T R' i u X∧ψ u):
 Eff P ρ ⟨dst,.call ⟨.value c,args.toArray,at'⟩,ty,pos,after,g⟩ l R O (fun v R' O'=>R'=R∧ ∃ i,O'=i::O∧ORep T R i v X∧ψ v):=by
 intro A w q;rw [je (by intro c h;cases h),z9q z B (z3s C)]
 obtain⟨D,s⟩:=zbg q
 have E:=h (R.lend O) (RH.le_lend _ _) s A w D
 rw [show (#[]++vs.toArray++cs.toArray:Array Value)=(vs++cs).toArray from by simp]
 refine Calls.mono E ?_
 rintro e w' ⟨v,rfl,R',O',d,hh',i,rfl,F,hψ⟩
 have p:RH.le R R':=(RH.le_lend R O).trans d
 refine⟨v,rfl,R,i::O,RH.le.refl _,?_,rfl,i,rfl,y _ _ _ _ _ F,hψ⟩
 have t:=hh'.own i (List.mem_append.2 (.inl (List.mem_singleton.2 rfl)))
 refine⟨fun k o j=>hh'.ro k o (p.blk k o j),fun f n k o j=>?_,?_,by have:=hh'.os;rw [d.os] at this;exact this,hh'.out.trans d.out⟩
 ·rw [List.cons_append] at n
  rcases List.mem_cons.1 n with rfl|n
  ·obtain⟨a,b⟩:=t k o j
   refine⟨a,?_⟩
   cases hR:R.blk k with
   |none=>rfl
   |some x=>rw [p.blk k x hR] at b;cases b
  ·rcases List.mem_append.1 n with m|m
   ·exact⟨hh'.ro k o (d.blk k o (s f m k o j)),(q.own f (List.mem_append.2 (.inl m)) k o j).2⟩
   ·exact⟨(hh'.own f (List.mem_append.2 (.inr m)) k o j).1,(q.own f (List.mem_append.2 (.inr m)) k o j).2⟩
 ·rw [List.cons_append]
  refine List.pairwise_cons.2 ⟨fun f n k=>?_,q.sep⟩
  rcases List.mem_append.1 n with m|m
  ·cases j:f k with
   |none=>exact .inr rfl
   |some o=>
    left
    cases hk0:i k with
    |none=>rfl
    |some o'=>have:=(t k o' hk0).2;rw [d.blk k o (s f m k o j)] at this;cases this
  ·exact(List.pairwise_cons.1 hh'.sep).1 f m k
theorem zhf{n:Nat}{Q:Po}{D:List Nat}{ops:Array Oper}{rest:List Oper}{d:Nat}{f:FuncId}{c:Operand}{args:List Operand}{at':Array TypeId}{cs vs:List Value}{ψ:Value→Prop}
 (e: ∀ (R R':RH) (f:Frag) (v:Value) (X:List α),ORep T R f v X→ORep T R' f v X) (g:Nat.blt d n=true) (i:Enters P f) (j:ev l c= .func (.func f) #[] cs.toArray) (m:args.map (ev l)=vs)
 (h: ∀ b,RH.le R b→(∀ f∈O,∀ k o,f k=some o→b.blk k=some o)→CallG P f (vs++cs).toArray b [] fun u R' O'=> ∃ a,O'=[a]∧ORep T R' a u X∧ψ u)
 (p: ∀ v a,ORep T R a v X→ψ v→wo P ρ n ops Q rest (upd l d v) D R (a::O)):wo P ρ n ops Q (⟨some d,.call ⟨.value c,args.toArray,at'⟩,ty,pos,after,none⟩::rest) l D R O:=by
 refine zbl rfl (fun t q=>by cases q;simpa using g) (zgd e i j m h) ?_
 rintro v R' O' _ ⟨rfl,a,rfl,r,s⟩
 exact p v a r s
end a
end GV
end Go.Proofs.Ytkhihcleegljhaa

namespace Go.Proofs.Ytkhihcleegljhaa
namespace GV
abbrev okSh (k:IntKind) (y:Int):Prop:=0≤y∧y≤(k.bits:Int)
abbrev okB (k:IntKind) (x y:Int):Prop:=(0≤x∧x≤k.max)∧0≤y∧y≤k.max
def ah(k:IntKind)(x y:Int):Int:=k.wrap (x*2^y.toNat)
def z2l(x y:Int):Int:=x.fdiv (2^y.toNat)
def z6l(x y:Int):Int:=((x.toNat&&&y.toNat:Nat):Int)
def ior(x y:Int):Int:=((x.toNat|||y.toNat:Nat):Int)
def ae(x y:Int):Int:=((x.toNat^^^y.toNat:Nat):Int)
theorem zda(k:IntKind): ∃ m:Nat,k.max=((2^m:Nat):Int)-1∧m≤k.bits:=by
 cases k
 ·exact⟨7,by decide,by decide⟩
 ·exact⟨15,by decide,by decide⟩
 ·exact⟨31,by decide,by decide⟩
 ·exact⟨63,by decide,by decide⟩
 ·exact⟨8,by decide,by decide⟩
 ·exact⟨16,by decide,by decide⟩
 ·exact⟨32,by decide,by decide⟩
 ·exact⟨64,by decide,by decide⟩
theorem zcz(k:IntKind){r:Int}(a:0≤r)(h:r≤k.max):k.wrap r=r:=by
 cases k<;>simp [IntKind.wrap,IntKind.max,IntKind.signed,IntKind.bits] at* <;>omega
theorem zjy{b:Nat}{x:Int}(a:0≤x)(c:x<((2^b:Nat):Int)):(BitVec.ofInt b x).toNat=x.toNat:=by
 rw [BitVec.toNat_ofInt,Int.emod_eq_of_lt a c]
theorem z9x{k:IntKind}{x:Int}(h:0≤x∧x≤k.max):(BitVec.ofInt k.bits x).toNat=x.toNat:=by
 obtain⟨m,b,a⟩:=zda k
 have c:((2^m:Nat):Int)≤((2^k.bits:Nat):Int):=by exact_mod_cast Nat.pow_le_pow_right (by decide) a
 exact zjy h.1 (by omega)
theorem ze6{k:IntKind}{x y:Int}{f:Nat→Nat→Nat}(c: ∀ n a b,a<2^n→b<2^n→f a b<2^n)(h:okB k x y):((f x.toNat y.toNat:Nat):Int)≤k.max:=by
 obtain⟨m,d,e⟩:=zda k
 obtain⟨⟨g,i⟩,j,l⟩:=h
 have:=c m x.toNat y.toNat (by omega) (by omega)
 omega
section a
variable {P : Program} {ρ : Option Nat} {l : Nat → Value} {R : RH} {O : List Frag} {ty : TypeId} {pos : String} {after : Array Go.Edge} {dst : Option Tmp} {g : Option (Nat × Bool)}
theorem zav{op:BinOp}{k:IntKind}{t t':TypeId}{x y:Operand}{m n r:Int}(a:ev l x= .int k m)(b:ev l y= .int k n)(h: ∀ w,(Op.intBits op k m n).run P w= .ok (.int k r) w)(d:op= .and∨op= .or∨op= .xor):
 Val P ρ ⟨dst,.binOp op t x y t',ty,pos,after,g⟩ l R O (.int k r):=by
 intro A w _;rw [je (by intro c h;cases h)]
 refine ry a b ?_
 rcases d with rfl|rfl|rfl
 all_goals
  show (if k≠k then _ else Op.intBits _ k m n:Sem Value).run P w=_
  rw [if_neg (by simp)]
  exact h w
theorem zb2{k:IntKind}{t t':TypeId}{x y:Operand}{m n:Int}(c:ev l x= .int k m)(d:ev l y= .int k n)(h:okB k m n):Val P ρ ⟨dst,.binOp .and t x y t',ty,pos,after,g⟩ l R O (.int k (z6l m n)):=
 zav c d (fun w=>by
  show Result.ok (Value.int k (k.wrap ((BitVec.ofInt k.bits m&&&BitVec.ofInt k.bits n).toNat:Nat))) w=_
  rw [BitVec.toNat_and,z9x h.1,z9x h.2,zcz k (Int.natCast_nonneg _) (ze6 (f:=fun a b=>a&&&b) (fun n a b h _=>Nat.lt_of_le_of_lt Nat.and_le_left h) h)];rfl) (.inl rfl)
theorem zff{k:IntKind}{t t':TypeId}{x y:Operand}{m n:Int}(c:ev l x= .int k m)(d:ev l y= .int k n)(h:okB k m n):Val P ρ ⟨dst,.binOp .or t x y t',ty,pos,after,g⟩ l R O (.int k (ior m n)):=
 zav c d (fun w=>by
  show Result.ok (Value.int k (k.wrap ((BitVec.ofInt k.bits m|||BitVec.ofInt k.bits n).toNat:Nat))) w=_
  rw [BitVec.toNat_or,z9x h.1,z9x h.2,zcz k (Int.natCast_nonneg _) (ze6 (f:=fun a b=>a|||b) (fun n a b e i=>Nat.or_lt_two_pow e i) h)];rfl) (.inr (.inl rfl))
theorem zb3{k:IntKind}{t t':TypeId}{x y:Operand}{m n:Int}(c:ev l x= .int k m)(d:ev l y= .int k n)(h:okB k m n):Val P ρ ⟨dst,.binOp .xor t x y t',ty,pos,after,g⟩ l R O (.int k (ae m n)):=
 zav c d (fun w=>by
  show Result.ok (Value.int k (k.wrap ((BitVec.ofInt k.bits m^^^BitVec.ofInt k.bits n).toNat:Nat))) w=_
  rw [BitVec.toNat_xor,z9x h.1,z9x h.2,zcz k (Int.natCast_nonneg _) (ze6 (f:=fun a b=>a^^^b) (fun n a b e i=>Nat.xor_lt_two_pow e i) h)];rfl) (.inr (.inr rfl))
theorem zca{w:World}{op:BinOp}{t t':TypeId}{x y:Operand}{k yk:IntKind}{m n:Int}{v:Value}(d:ev l x= .int k m)(e:ev l y= .int yk n)(f:op= .shl∨op= .shr)
 (a:(Op.shift op k m yk n).run P w= .ok v w):(execOp (ev l) (⟨dst,.binOp op t x y t',ty,pos,after,g⟩:Oper)).run P w= .ok (.value v) w:=by
 rcases f with rfl|rfl
 ·have b:(eqGuard .shl t x y (.int k m) (.int yk n)).run P w= .ok () w:=rfl
  have c:(binOp .shl t (.int k m) (.int yk n)).run P w= .ok v w:=a
  simp only [execOp,d,e,Sem.run_bind,b,Result.andThen_ok,c]
  rfl
 ·have b:(eqGuard .shr t x y (.int k m) (.int yk n)).run P w= .ok () w:=rfl
  have c:(binOp .shr t (.int k m) (.int yk n)).run P w= .ok v w:=a
  simp only [execOp,d,e,Sem.run_bind,b,Result.andThen_ok,c]
  rfl
theorem zhd{k:IntKind}{n:Int}(h:okSh k n):min n.toNat k.bits=n.toNat:=by
 obtain⟨a,b⟩:=h;omega
theorem z9d{k yk:IntKind}{t t':TypeId}{x y:Operand}{m n:Int}(a:ev l x= .int k m)(b:ev l y= .int yk n)(h:okSh k n):Val P ρ ⟨dst,.binOp .shl t x y t',ty,pos,after,g⟩ l R O (.int k (ah k m n)):=by
 intro A w _;rw [je (by intro c h;cases h)]
 refine zca a b (.inl rfl) ?_
 have d:=h.1
 simp only [Op.shift]
 rw [if_neg (by omega),zhd h];rfl
theorem z9b{k yk:IntKind}{t t':TypeId}{x y:Operand}{m n:Int}(a:ev l x= .int k m)(b:ev l y= .int yk n)(h:okSh k n):Val P ρ ⟨dst,.binOp .shr t x y t',ty,pos,after,g⟩ l R O (.int k (z2l m n)):=by
 intro A w _;rw [je (by intro c h;cases h)]
 refine zca a b (.inr rfl) ?_
 have d:=h.1
 simp only [Op.shift]
 rw [if_neg (by omega),zhd h];rfl
theorem zev{t:TypeId}{x y:Operand}{s:ByteArray}{k:IntKind}{i:Nat}{L:List Int}(a:P.underlying t=some .string)(d:ev l x= .string s)(e:s.data.toList.map (fun b=>(b.toNat:Int))=L)(f:ev l y= .int k i)(hi:i<L.length):
 Val P ρ ⟨dst,.index t x y,ty,pos,after,g⟩ l R O (.int .u8 (L.getD i default)):=by
 intro A w _;rw [je (by intro c h;cases h)]
 subst e
 rw [List.length_map] at hi
 have hi':i<s.data.size:=by simpa using hi
 have j:s[i]? =some s.data[i]:=by
  have:i<s.size:=hi'
  rw [getElem?_pos s i this];rfl
 have m:(s.data.toList.map (fun b=>(b.toNat:Int))).getD i default=(s.data[i].toNat:Int):=by
  rw [List.getD_eq_getElem?_getD,List.getElem?_map,List.getElem?_eq_getElem hi];simp
 rw [m]
 simp [execOp,d,f,Instr.index,asIntOf,underlying,a,j]
end a
end GV
end Go.Proofs.Ytkhihcleegljhaa
