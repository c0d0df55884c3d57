
import Derived.Test.YtjmlpkkbmnjhcaaShMap
import Derived.Shelf.Sort.Plain
import Derived.Shelf.Slices.In.SortNone
import Derived.Shelf.Bits.Mul64
import Derived.Laws.CopyRow
import Derived.Laws.IdiomCopy
import Derived.Laws.StructEq
import Derived.ChangeKeysEq
import Derived.WideKeyRuns
import Derived.Laws.BytesString
set_option linter.unusedVariables false
set_option linter.unusedSimpArgs false
set_option linter.unusedSectionVars false
namespace Go.Proofs.Ytjmlpkkbmnjhcaa
namespace GV
/-! ### The plain form-/
def zox(x:Int):List Int→List Int
 | []=>[x]
 |y::l=>if x≤y then x::y::l else y::zox x l
def z3l:List Int→List Int
 | []=>[]
 |x::l=>zox x (z3l l)
theorem zh2(x:Int)(l:List Int):(zox x l).Perm (x::l):=by
 induction l with
 |nil=>exact .refl _
 |cons y l ih=>
  unfold zox
  split
  ·exact .refl _
  ·exact((ih.cons y).trans (.swap x y l))
theorem ze5(l:List Int):(z3l l).Perm l:=by
 induction l with
 |nil=>exact .refl _
 |cons x l ih=>exact(zh2 x _).trans (ih.cons x)
theorem ziz{x:Int}{l:List Int}(h:l.Pairwise (· ≤ ·)):(zox x l).Pairwise (· ≤ ·):=by
 induction l with
 |nil=>exact List.pairwise_singleton _ _
 |cons y l ih=>
  obtain⟨b,c⟩:=List.pairwise_cons.1 h
  unfold zox
  split
  ·rename_i hx
   refine List.pairwise_cons.2 ⟨fun z a=>?_,h⟩
   rcases List.mem_cons.1 a with rfl|a
   ·exact hx
   ·exact Int.le_trans hx (b z a)
  ·rename_i hx
   refine List.pairwise_cons.2 ⟨fun z a=>?_,ih c⟩
   rcases List.mem_cons.1 ((zh2 x l).mem_iff.1 a) with rfl|a
   ·omega
   ·exact b z a
theorem zhn(l:List Int):(z3l l).Pairwise (· ≤ ·):=by
 induction l with
 |nil=>exact .nil
 |cons x l ih=>exact ziz ih
theorem za9: ∀ {l l':List Int},l.Perm l'→l.Pairwise (· ≤ ·)→l'.Pairwise (· ≤ ·)→l=l'
 | [],l',c,_,_=>(List.nil_perm.1 c).symm
 |x::l,l',c,h,h'=>by
  cases l' with
  |nil=>exact absurd c.symm (by simp)
  |cons y l'=>
   obtain⟨f,g⟩:=List.pairwise_cons.1 h
   obtain⟨i,j⟩:=List.pairwise_cons.1 h'
   have d:x=y:=by
    have a:x∈y::l':=c.mem_iff.1 (List.mem_cons_self ..)
    have b:y∈x::l:=c.mem_iff.2 (List.mem_cons_self ..)
    rcases List.mem_cons.1 a with e|a
    ·exact e
    ·rcases List.mem_cons.1 b with e|b
     ·exact e.symm
     ·have:=i x a;have:=f y b;omega
   subst d
   rw [za9 ((List.perm_cons x).1 c) g j]
theorem zdq(l:List Int):(l.mergeSort fun x y=>decide (x≤y))=z3l l:=by
 refine za9 ((List.mergeSort_perm l _).trans (ze5 l).symm) ?_ (zhn l)
 have:=List.pairwise_mergeSort (le:=fun(x y:Int)=>decide (x≤y)) (fun a b c d e=>by simp at*;omega) (fun a b=>by simp;omega) l
 exact this.imp fun h=>by simpa using h
theorem z8u(l:List Int):(z3l l).length=l.length:=(ze5 l).length_eq
/-! ### New blocks behind all-/
theorem holds_grow{R:RH}{O:List Frag}{w:World}{os:Array Obj}(h:Holds R O w):Holds R O (Go.Sort.grow w os):=by
 have up: ∀ (k:Nat) (o:Obj),w.heap[k]? =some o→(Go.Sort.grow w os).heap[k]? =some o:=by
  intro k o a
  have b:=(Array.getElem?_eq_some_iff.1 a).1
  show (w.heap++os)[k]? =some o
  rw [Array.getElem?_append_left b];exact a
 exact⟨fun k o a=>up k o (h.ro k o a),fun f c k o a=>⟨up k o (h.own f c k o a).1,(h.own f c k o a).2⟩,h.sep,⟨h.os.1,fun _ _ _ _=>trivial⟩,h.out⟩
theorem zg1(pre cs:List Value)(d:List Int)(h:d.length≤cs.length):
 (Go.Sort.putCells (Value.int .i64) pre.length d.toArray (pre++cs).toArray).toList=pre++(d.map (Value.int .i64)++cs.drop d.length):=by
 apply List.ext_getElem?
 intro k
 unfold Go.Sort.putCells
 rw [Array.getElem?_toList,Array.getElem?_mapIdx]
 simp only [List.size_toArray,List.getElem?_toArray]
 by_cases h1:k<pre.length
 ·rw [List.getElem?_append_left h1,List.getElem?_append_left h1]
  rw [List.getElem?_eq_getElem h1]
  simp only [Option.map_some]
  rw [if_neg (by omega)]
 ·rw [List.getElem?_append_right (by omega),List.getElem?_append_right (by omega)]
  by_cases h2:k<pre.length+d.length
  ·rw [List.getElem?_append_left (by rw [List.length_map];omega),List.getElem?_map]
   have a:k-pre.length<cs.length:=by omega
   have hd:k-pre.length<d.length:=by omega
   rw [List.getElem?_eq_getElem a,List.getElem?_eq_getElem hd]
   simp only [Option.map_some]
   rw [if_pos (by omega)]
   simp [hd]
  ·rw [List.getElem?_append_right (by rw [List.length_map];omega),List.getElem?_drop,List.length_map]
   rw [show d.length+(k-pre.length-d.length)=k-pre.length by omega]
   cases cs[k-pre.length]? with
   |none=>rfl
   |some v=>
    simp only [Option.map_some]
    rw [if_neg (by omega)]
theorem zkt{P:Program}{ρ:Shelf.Ren}(Ly:Go.Proofs.Lays.n189 P ρ){R:RH}{f:Frag}{v:Value}{X:List Int}(h:ORep (qa .i64) R f v X)(s:0<X.length∧X.length<4611686018427387904):
 CallG P (ρ.f 189) #[v] R [f] (fun u R' O'=> ∃ g,u= .tuple #[]∧O'=[g]∧ORep (qa .i64) R' g v (z3l X)):=by
 rcases h with⟨rfl,rfl,rfl⟩|⟨b,pre,cs,cap,bt,rfl,rfl,z,m,c,o⟩
 ·simp at s
 intro A w t
 have hcl':cap≤cs.length:=by simpa [qa] using m
 have hblk:w.heap[b]? =some (.cells (pre++cs).toArray bt (0,0)):=z1d t (i:=0) rfl (wm _ _)
 have p:b<w.heap.size:=(Array.getElem?_eq_some_iff.1 hblk).1
 have hcell: ∀ j (l:j<X.length),cs[j]? =some (.int .i64 X[j]):=by
  intro j l
  have:=o j X[j] (List.getElem?_eq_getElem l)
  have d:j<cs.length:=by omega
  simp only [qa,Nat.mul_one] at this
  rw [List.getElem?_eq_getElem d]
  have e:(cs.drop j).take 1=[cs[j]]:=by rw [List.drop_eq_getElem_cons d];rfl
  rw [e] at this
  simpa using this
 have B:Go.Sort.Holds (Value.int .i64) w b pre.length X.toArray:=by
  intro j l
  have hj':j<X.length:=by simpa using l
  refine⟨?_,zaz hblk⟩
  rw [cell_of_block hblk]
  simp only [List.getElem?_toArray]
  rw [List.getElem?_append_right (by omega),Nat.add_sub_cancel_left,hcell j hj']
  simp [hj']
 refine Calls.mono (Any.slices_Sort_int Ly b pre.length cap X w B p s.2) ?_
 rintro e w' ⟨rfl,n,os,rfl⟩
 rw [zdq]
 have q:(z3l X).length≤cs.length:=by rw [z8u];omega
 have hnew:(Go.Sort.putRow (Value.int .i64) (Go.Sort.ahead w n) b pre.length (z3l X).toArray).heap[b]? =some (.cells (pre++((z3l X).map (Value.int .i64)++cs.drop (z3l X).length)).toArray bt (0,0)):=by
  simp only [Go.Sort.putRow,Go.Sort.mapBlock,Go.Sort.ahead,Array.getElem?_modify,hblk,if_true,Option.map_some,Go.Sort.onCells]
  rw [←zg1 pre cs (z3l X) q,Array.toArray_toList]
 have hother: ∀ k,k≠b→(Go.Sort.putRow (Value.int .i64) (Go.Sort.ahead w n) b pre.length (z3l X).toArray).heap[k]? =w.heap[k]? :=by
  intro k C
  simp [Go.Sort.putRow,Go.Sort.mapBlock,Go.Sort.ahead,Array.getElem?_modify,Ne.symm C]
 have D:=z5r (i:=0) t rfl hnew hother rfl rfl trivial
 refine⟨_,rfl,R,[single b (.cells (pre++((z3l X).map (Value.int .i64)++cs.drop (z3l X).length)).toArray bt (0,0))],RH.le.refl _,holds_grow D,_,rfl,rfl,.inr ⟨b,pre,(z3l X).map (Value.int .i64)++cs.drop (z3l X).length,cap,bt,by rw [z8u],rfl,by rw [z8u];exact z,?_,?_,?_⟩⟩
 ·simp only [qa,Nat.mul_one,List.length_append,List.length_map,List.length_drop];omega
 ·intro x a
  rcases List.mem_append.1 a with a|a
  ·exact c x (List.mem_append.2 (.inl a))
  ·rcases List.mem_append.1 a with a|a
   ·obtain⟨y,_,rfl⟩:=List.mem_map.1 a;rfl
   ·exact c x (List.mem_append.2 (.inr (List.mem_of_mem_drop a)))
 ·intro i x hi
  have r:=(List.getElem?_eq_some_iff.1 hi).1
  simp only [qa,Nat.mul_one]
  have:((z3l X).map (Value.int .i64)++cs.drop (z3l X).length)[i]? =some (.int .i64 x):=by
   rw [List.getElem?_append_left (by rw [List.length_map];exact r),List.getElem?_map,hi];rfl
  obtain⟨E,F⟩:=List.getElem?_eq_some_iff.1 this
  rw [List.drop_eq_getElem_cons E,F];rfl
end GV
end Go.Proofs.Ytjmlpkkbmnjhcaa

namespace Go.Proofs.Ytjmlpkkbmnjhcaa
namespace GV
theorem zi7{P:Program}{ρ:Shelf.Ren}(Ly:Go.Proofs.Lays.n189 P ρ){R:RH}{f:Frag}{v:Value}{X:List Int}(h:ORep (qa .i64) R f v X)(b:X.length<4611686018427387904):
 CallG P (ρ.f 189) #[v] R [f] (fun u R' O'=> ∃ g,u= .tuple #[]∧O'=[g]∧ORep (qa .i64) R' g v (z3l X)):=by
 by_cases hl:0<X.length
 ·exact zkt Ly h ⟨hl,b⟩
 ·have c:X=[]:=List.length_eq_zero_iff.1 (by omega)
  subst c
  intro A w d
  obtain⟨p,i,j⟩:=z2x h
  have hv':v= .slice p 0 (capOf v):=i
  have a:=Any.slices_Sort_int_none Ly p (capOf v) w
  rw [←hv'] at a
  refine Calls.mono a ?_
  rintro e w' ⟨rfl,rfl⟩
  exact⟨_,rfl,R,[f],RH.le.refl _,d,f,rfl,rfl,h⟩
end GV
end Go.Proofs.Ytjmlpkkbmnjhcaa

namespace Go.Proofs.Ytjmlpkkbmnjhcaa
namespace GV
def z7y(sz:Nat)(v:Value)(lo hi:Nat):Value:=
 match v with
 | .slice p _ c=> .slice (if c=lo then p else p.map (·.add (lo*sz))) (hi-lo) (c-lo)
 |v=>v
def z5w{α:Type}(X:List α)(lo:Nat)(Y:List α):List α:=X.take lo++Y++X.drop (lo+Y.length)
theorem zak{α:Type}{X Y:List α}{lo:Nat}(h:lo+Y.length≤X.length):(z5w X lo Y).length=X.length:=by
 simp only [z5w,List.length_append,List.length_take,List.length_drop];omega
section c
variable {P : Program} {ρ : Option Nat} {l : Nat → Value} {R : RH} {O : List Frag} {ty : TypeId} {pos : String} {after : Array Go.Edge} {dst : Option Tmp} {g : Option (Nat × Bool)}
variable {α : Type} {T : Ty α} {X Y : List α} {v u : Value} {x y : Operand} {f : Frag} {t e : TypeId}
theorem zbw{lo hi:Nat}{xlo xhi:Option Operand}(d:SlOk P t e T)(j:ev l x=v)(m:ORep T R f v X)
 (a:xlo.map (ev l)=none∧lo=0∨ ∃ k,xlo.map (ev l)=some (.int k lo)) (b:xhi.map (ev l)=none∧hi=X.length∧(none:Option Operand)=none∨ ∃ k,xhi.map (ev l)=some (.int k hi)) (n:lo≤hi) (o:hi≤X.length):
 Val P ρ ⟨dst,.slice t x xlo xhi none,ty,pos,after,g⟩ l R O (z7y T.size v lo hi):=by
 obtain⟨p,i,q⟩:=z2x m
 intro A w r
 rw [qy (by intro c h;cases h)]
 have:=zaa (P:=P) (dst:=dst) (ty:=ty) (pos:=pos) (after:=after) (g:=g) (w:=w) (xmx:=none) (mx:=capOf v) d.u d.e.size (j.trans i) a b (.inl ⟨rfl,rfl⟩) n (by omega) (Nat.le_refl _) (fun _=>by omega)
 rw [this,i]
 rfl
theorem take1{cs:List Value}{i:Nat}(h:i<cs.length):(cs.drop i).take 1=[cs[i]]:=by rw [List.drop_eq_getElem_cons h];rfl
theorem zp0{b:Nat}{pre cs ys:List Value}{cap lo:Nat}{bt:TypeId}(g:T.size=1)(m:X.length≤cap)(n:cap≤cs.length)(e: ∀ v∈pre++cs,v.oneCell'=true)(h: ∀ (i:Nat) (hi:i<cs.length) x,X[i]? =some x→T.rep R [cs[i]] x)
 (hfit:lo+Y.length≤X.length) (o:ys.length=Y.length) (p: ∀ (i:Nat) (hi:i<ys.length) y,Y[i]? =some y→T.rep R [ys[i]] y) (r: ∀ v∈ys,v.oneCell'=true):
 ORep T R (box b (pre++over cs lo ys) bt) (.slice (some ⟨b,pre.length,none⟩) X.length cap) (z5w X lo Y):=by
 have k:(over cs lo ys).length=cs.length:=by
  simp only [over,List.length_append,List.length_take,List.length_drop];omega
 refine .inr ⟨b,pre,over cs lo ys,cap,bt,by rw [zak hfit],rfl,by rw [zak hfit];exact m,by rw [g,k];omega,fun q a=>?_,fun i x d=>?_⟩
 ·rcases List.mem_append.1 a with a|a
  ·exact e q (List.mem_append.2 (.inl a))
  ·simp only [over,List.mem_append] at a
   rcases a with(a|a)|a
   ·exact e q (List.mem_append.2 (.inr (List.mem_of_mem_take a)))
   ·exact r q a
   ·exact e q (List.mem_append.2 (.inr (List.mem_of_mem_drop a)))
 ·have hi:i<X.length:=by have:=(List.getElem?_eq_some_iff.1 d).1;rwa [zak hfit] at this
  have j:i<(over cs lo ys).length:=by omega
  rw [g,Nat.mul_one,take1 j]
  unfold z5w at d
  have key: ∀ (z:Value),(over cs lo ys)[i]? =some z→T.rep R [z] x→T.rep R [(over cs lo ys)[i]] x:=fun z l s=>by
   rw [List.getElem?_eq_getElem j] at l
   rw [Option.some.inj l];exact s
  by_cases ha:i<lo
  ·have c:i<cs.length:=by omega
   refine key cs[i] ?_ (h i c x ?_)
   ·unfold over;rw [List.append_assoc,List.getElem?_append_left (by rw [List.length_take];omega),List.getElem?_take,if_pos ha,List.getElem?_eq_getElem c]
   ·rw [List.append_assoc,List.getElem?_append_left (by rw [List.length_take];omega),List.getElem?_take,if_pos ha] at d;exact d
  ·by_cases hb:i<lo+Y.length
   ·have f:i-lo<ys.length:=by omega
    refine key ys[i-lo] ?_ (p (i-lo) f x ?_)
    ·unfold over
     rw [List.append_assoc,List.getElem?_append_right (by rw [List.length_take];omega),List.length_take,Nat.min_eq_left (by omega),List.getElem?_append_left f,List.getElem?_eq_getElem f]
    ·rw [List.append_assoc,List.getElem?_append_right (by rw [List.length_take];omega),List.length_take,Nat.min_eq_left (by omega),List.getElem?_append_left (by omega)] at d;exact d
   ·have c:i<cs.length:=by omega
    refine key cs[i] ?_ (h i c x ?_)
    ·unfold over
     rw [List.getElem?_append_right (by rw [List.length_append,List.length_take];omega),List.length_append,List.length_take,Nat.min_eq_left (by omega),List.getElem?_drop,o,show lo+Y.length+(i-(lo+Y.length))=i by omega,List.getElem?_eq_getElem c]
    ·rw [List.getElem?_append_right (by rw [List.length_append,List.length_take];omega),List.length_append,List.length_take,Nat.min_eq_left (by omega),List.getElem?_drop,show lo+Y.length+(i-(lo+Y.length))=i by omega] at d;exact d
end c
end GV
end Go.Proofs.Ytjmlpkkbmnjhcaa

namespace Go.Proofs.Ytjmlpkkbmnjhcaa
namespace GV
def mkV(ag:Bool)(cs:List Value):Value:=if ag then .agg cs.toArray else cs.headD undef
structure KTy (P:Program) (t:TypeId) (m sz:Nat) (ag:Bool) (K:List Value→Prop):Prop where
 cells:P.cellsOf t=sz
 info: ∃ i,P.info? t=some i
 len: ∀ cs,K cs→cs.length=sz
 isAgg: ∀ w,(isAgg t).run P w= .ok ag w
 one:ag=false→sz=1
 eq: ∀ d (w:World) cs cs',m≤d→K cs→K cs'→ ∃ r:Bool,(Op.equalIn d t (mkV ag cs) (mkV ag cs')).run P w= .ok r w∧(r=true↔cs=cs')
 chk: ∀ d (w:World) em cs,m≤d→K cs→(Instr.checkKey em d t (mkV ag cs)).run P w= .ok () w
section
variable {P : Program} {t e : TypeId} {m m' sz n : Nat} {ag : Bool} {K : List Value → Prop}
theorem KTy.mono(h:KTy P t m sz ag K)(a:m≤m'):KTy P t m' sz ag K:=
 {h with eq:=fun d w cs cs' hd=>h.eq d w cs cs' (by omega),chk:=fun d w em cs hd=>h.chk d w em cs (by omega)}
theorem KTy.part(h:KTy P t m sz ag K)(w:World){pre cs post:List Value}(b:K cs):(part t (pre++cs++post).toArray pre.length).run P w= .ok (mkV ag cs) w:=by
 obtain⟨i,hi⟩:=h.info
 have a:=h.len cs b
 unfold Go.part
 rw [Sem.run_bind,h.isAgg w,Result.andThen_ok]
 cases ag
 ·have c:=h.one rfl
  match cs,a with
  | [v],_=>
   simp only [Bool.false_eq_true,if_false]
   have:(pre++[v]++post).toArray[pre.length]? =some v:=by simp
   rw [this];rfl
  | [],a=>simp at a;omega
  |_::_::_,a=>simp at a;omega
 ·simp only [if_true,Sem.run_bind,run_sizeOf w hi,h.cells,Result.andThen_ok,Sem.run_pure]
  have:(pre++cs++post).toArray.extract pre.length (pre.length+sz)=cs.toArray:=by
   apply Array.toList_inj.1
   rw [Array.toList_extract]
   simp only [List.extract_eq_take_drop,List.append_assoc,List.drop_left,List.take_append_of_le_length (Nat.le_of_eq (show pre.length+sz-pre.length=cs.length by omega)),List.take_of_length_le (show cs.length≤pre.length+sz-pre.length by omega)]
  rw [this];rfl
/-! ### Arrays-/
/-! ### Structs-/
inductive KFld (P:Program) (m:Nat):Nat→List Field→(List Value→Prop)→Prop
 |nil {off:Nat}:KFld P m off [] (fun cs=>cs=[])
 | cons {off sz : Nat} {f : Field} {fs : List Field} {ag : Bool} {K K' : List Value → Prop} : f.name ≠ "_" → f.offset = off → KTy P f.type m sz ag K → KFld P m (off + sz) fs K' → KFld P m off (f :: fs) (fun cs => ∃ a b, K a ∧ K' b ∧ cs = a ++ b)
theorem KFld.len{off:Nat}{fs:List Field}{K:List Value→Prop}(h:KFld P m off fs K): ∃ k,∀ cs,K cs→cs.length=k:=by
 induction h with
 |nil=>exact⟨0,fun cs e=>by subst e;rfl⟩
 |cons i j c l ih=>
  obtain⟨k,d⟩:=ih
  exact⟨_,by rintro cs ⟨a,b,f,g,rfl⟩;rw [List.length_append,c.len a f,d b g]⟩
end
/-! ### Finding-/
section
variable {P : Program} {kt : TypeId} {m sz : Nat} {K : List Value → Prop} {κ : Type} [DecidableEq κ] {ke : κ → Value} {cl : κ → List Value}
end
end GV
end Go.Proofs.Ytjmlpkkbmnjhcaa

namespace Go.Proofs.Ytjmlpkkbmnjhcaa
namespace GV
abbrev Arr (n:Nat) (α:Type):= {l:List α//l.length=n}
instance {n:Nat} {α:Type} [Inhabited α]:Inhabited (Arr n α):=⟨⟨List.replicate n default,List.length_replicate⟩⟩
def zgq{α:Type}[Inhabited α](n:Nat)(l:List α):Arr n α:=if h:l.length=n then⟨l,h⟩ else default
theorem zl6{α:Type}{cs:List α}{n k i:Nat}(h:cs.length=n*k)(hi:i<n):((cs.drop (i*k)).take k).length=k:=by
 rw [List.length_take,List.length_drop,h]
 have:(i+1)*k≤n*k:=Nat.mul_le_mul_right k hi
 rw [Nat.succ_mul] at this
 omega
theorem zoh{α:Type}{cs:List α}{n k:Nat}(h:cs.length=n*k){v:α}(c:v∈cs): ∃ i,i<n∧v∈(cs.drop (i*k)).take k:=by
 obtain⟨j,a,rfl⟩:=List.mem_iff_getElem.1 c
 have d:0<k:=by
  rcases Nat.eq_zero_or_pos k with e|e
  ·subst e;simp at h;subst h;simp at a
  ·exact e
 have b:j/k<n:=Nat.div_lt_of_lt_mul (show j<k*n by rw [Nat.mul_comm,←h];exact a)
 refine⟨j/k,b,?_⟩
 have f:=Nat.div_add_mod j k
 have g:=Nat.mod_lt j d
 have l:=zl6 h b
 refine List.mem_iff_getElem.2 ⟨j%k,by omega,?_⟩
 rw [List.getElem_take,List.getElem_drop]
 congr 1
 rw [Nat.mul_comm];exact f
def zwx{α:Type}(n:Nat)(T:Ty α):Ty (Arr n α) where
 size:=n*T.size
 agg:=true
 rep R cs X:=cs.length=n*T.size∧ ∀ i x,X.1[i]? =some x→T.rep R ((cs.drop (i*T.size)).take T.size) x
 len h:=h.1
 mono hle h:=⟨h.1,fun i x hx=>T.mono hle (h.2 i x hx)⟩
 one h:=by cases h
 cell:=by
  rintro R cs X ⟨a,b⟩ v hv
  obtain⟨i,hi,hm⟩:=zoh a hv
  have hl:i<X.1.length:=by rw [X.2];exact hi
  exact T.cell (b i _ (List.getElem?_eq_getElem hl)) v hm
structure CellsOf {α:Type} (T:Ty α) (cl:α→List Value):Prop where
 len: ∀ x,(cl x).length=T.size
 iff: ∀ R cs x,T.rep R cs x↔cs=cl x
theorem cells_int{q:IntKind}:CellsOf (qa q) (fun x=>[Value.int q x]):=⟨fun _=>rfl,fun R cs x=>Iff.rfl⟩
def z3e{α:Type}{n:Nat}(cl:α→List Value)(X:Arr n α):List Value:=X.1.flatMap cl
theorem z4p{α:Type}{cl:α→List Value}{k:Nat}(h: ∀ x,(cl x).length=k): ∀ (l:List α) (i:Nat) (x:α),l[i]? =some x→((l.flatMap cl).drop (i*k)).take k=cl x
 | [],i,x,a=>by simp at a
 |y::l,0,x,a=>by
  have:y=x:=by simpa using a
  subst this
  rw [Nat.zero_mul,List.drop_zero,List.flatMap_cons,List.take_left' (h y)]
 |y::l,i+1,x,a=>by
  rw [List.flatMap_cons,Nat.succ_mul,Nat.add_comm,←List.drop_drop,List.drop_left' (h y)]
  exact z4p h l i x (by simpa using a)
theorem z4x{α:Type}{cl:α→List Value}{k:Nat}(h: ∀ x,(cl x).length=k): ∀ (l:List α),(l.flatMap cl).length=l.length*k
 | []=>by simp
 |y::l=>by rw [List.flatMap_cons,List.length_append,h y,z4x h l,List.length_cons,Nat.succ_mul,Nat.add_comm]
theorem znr{cs cs':List Value}{n k:Nat}(h:cs.length=n*k)(h':cs'.length=n*k)(a: ∀ i,i<n→(cs.drop (i*k)).take k=(cs'.drop (i*k)).take k):cs=cs':=by
 induction n generalizing cs cs' with
 |zero=>simp at h h';rw [h,h']
 |succ n ih=>
  rw [Nat.succ_mul] at h h'
  have b:=a 0 (by omega)
  rw [Nat.zero_mul,List.drop_zero,List.drop_zero] at b
  have c:cs.drop k=cs'.drop k:=ih (by rw [List.length_drop];omega) (by rw [List.length_drop];omega) fun i hi=>by
   have:=a (i+1) (by omega)
   rw [Nat.succ_mul,Nat.add_comm] at this
   rwa [List.drop_drop,List.drop_drop]
  rw [←List.take_append_drop k cs,←List.take_append_drop k cs',b,c]
theorem zon{α:Type}{T:Ty α}{cl:α→List Value}{n:Nat}(h:CellsOf T cl):CellsOf (zwx n T) (z3e cl:Arr n α→List Value):=by
 refine⟨fun X=>by show (X.1.flatMap cl).length=n*T.size;rw [z4x h.len,X.2],fun R cs X=>?_⟩
 show (cs.length=n*T.size∧_)↔cs=X.1.flatMap cl
 constructor
 ·rintro⟨b,c⟩
  refine znr b (by rw [z4x h.len,X.2]) fun i hi=>?_
  have a:i<X.1.length:=by rw [X.2];exact hi
  have:=(h.iff _ _ _).1 (c i _ (List.getElem?_eq_getElem a))
  rw [this,z4p h.len _ _ _ (List.getElem?_eq_getElem a)]
 ·rintro rfl
  exact⟨by rw [z4x h.len,X.2],fun i x d=>by rw [z4p h.len _ _ _ d];exact(h.iff _ _ _).2 rfl⟩
/-! ### A box that holds an array:as a slice that can't grow-/
section a
variable {P : Program} {ρ : Option Nat} {n : Nat} {ops : Array Oper} {Q : Po} {rest : List Oper} {l : Nat → Value} {D : List Nat} {R : RH} {O : List Frag} {ty : TypeId} {pos : String} {after : Array Go.Edge} {d : Nat} {dst : Option Tmp} {g : Option (Nat × Bool)}
variable {α β : Type} {T : Ty α} {B : Ty β} {X : List α} {v u w : Value} {x y ix' : Operand} {f F : Frag} {i j o b m sz : Nat} {t s e : TypeId} {k : IntKind}
end a
end GV
end Go.Proofs.Ytjmlpkkbmnjhcaa

namespace Go.Proofs.Ytjmlpkkbmnjhcaa
namespace GV
def zf5{α:Type}{n:Nat}(X:Arr n α)(i:Int)(z:α):Arr n α:=⟨X.1.set i.toNat z,by rw [List.length_set];exact X.2⟩
theorem zl9{α:Type}[Inhabited α]{n i sz:Nat}{cl:α→List Value}{X:Arr n α}(a: ∀ x,(cl x).length=sz)(hi:i<n):((z3e cl X).drop (i*sz)).take sz=cl (X.1.getD i default):=by
 have h:i<X.1.length:=by rw [X.2];exact hi
 rw [show z3e cl X=X.1.flatMap cl from rfl,z4p a _ _ _ (List.getElem?_eq_getElem h)]
 simp [List.getD_eq_getElem?_getD,h]
theorem zcz{α:Type}{n sz:Nat}{cl:α→List Value}(a: ∀ x,(cl x).length=sz)(X:Arr n α):(z3e cl X).length=n*sz:=by
 rw [show z3e cl X=X.1.flatMap cl from rfl,z4x a,X.2]
theorem zj6{α:Type}{cl:α→List Value}{k:Nat}(h: ∀ x,(cl x).length=k)(z:α): ∀ (l:List α) (i:Nat),i<l.length→(l.set i z).flatMap cl=(l.flatMap cl).take (i*k)++cl z++(l.flatMap cl).drop ((i+1)*k)
 | [],i,hi=>by simp at hi
 |x::l,0,_=>by
  rw [List.set_cons_zero,List.flatMap_cons,List.flatMap_cons,Nat.zero_mul,List.take_zero,List.nil_append,Nat.zero_add,Nat.one_mul,List.drop_left' (h x)]
 |x::l,i+1,hi=>by
  rw [List.set_cons_succ,List.flatMap_cons,List.flatMap_cons,zj6 h z l i (by simpa using hi)]
  have a:(i+1)*k=k+i*k:=by rw [Nat.succ_mul,Nat.add_comm]
  have b:(i+1+1)*k=k+(i+1)*k:=by rw [Nat.succ_mul (i+1),Nat.add_comm]
  rw [a,b,←h x,List.take_length_add_append,List.drop_length_add_append,h x]
  simp only [List.append_assoc]
  rw [show k+i*k=(i+1)*k from a.symm]
theorem zkg{α:Type}[Inhabited α]{n i sz o:Nat}{cl:α→List Value}{X:Arr n α}{vs:List Value}{z:α}(a: ∀ x,(cl x).length=sz)(hi:i<n)(b:(cl (X.1.getD i default)).take o++vs++(cl (X.1.getD i default)).drop (o+vs.length)=cl z)(g:o+vs.length≤sz):
 over (z3e cl X) (i*sz+o) vs=z3e cl (zf5 X (i:Int) z):=by
 have h:i<X.1.length:=by rw [X.2];exact hi
 have hlen:=zcz a X
 have j:(i+1)*sz≤n*sz:=Nat.mul_le_mul_right sz hi
 have c:(i+1)*sz=i*sz+sz:=Nat.succ_mul i sz
 have d:=zl9 (X:=X) a hi
 show _=(X.1.set (i:Int).toNat z).flatMap cl
 rw [Int.toNat_natCast,zj6 a z X.1 i h,←b,←d]
 unfold over
 show (z3e cl X).take (i*sz+o)++vs++(z3e cl X).drop (i*sz+o+vs.length)=(z3e cl X).take (i*sz)++_++(z3e cl X).drop ((i+1)*sz)
 rw [c]
 generalize z3e cl X=cs at hlen
 have e:cs.take (i*sz+o)=cs.take (i*sz)++(((cs.drop (i*sz)).take sz).take o):=by
  rw [List.take_take,Nat.min_eq_left (by omega),List.take_add]
 have f:cs.drop (i*sz+o+vs.length)=(((cs.drop (i*sz)).take sz).drop (o+vs.length))++cs.drop (i*sz+sz):=by
  rw [List.drop_take,List.drop_drop,←Nat.add_assoc]
  have:cs.drop (i*sz+sz)=(cs.drop (i*sz+o+vs.length)).drop (sz-(o+vs.length)):=by rw [List.drop_drop];congr 1;omega
  rw [this,List.take_append_drop]
 rw [e,f]
 simp only [List.append_assoc]
section w
variable {P : Program} {ρ : Option Nat} {n : Nat} {ops : Array Oper} {Q : Po} {rest : List Oper} {l : Nat → Value} {D : List Nat} {R : RH} {O : List Frag} {ty : TypeId} {pos : String} {after : Array Go.Edge} {d : Nat} {dst : Option Tmp} {g : Option (Nat × Bool)}
variable {α : Type} [Inhabited α] {x y : Operand} {i j o b m sz k off : Nat} {t e bt : TypeId} {X : Arr m α} {cl : α → List Value} {vs : List Value} {v : Value}
theorem zkk(c: ∀ x,(cl x).length=sz)(d: ∀ w,(isAgg t).run P w= .ok false w)(e:ev l x= .pointer (some ⟨b,off,none⟩))(hoff:off=i*sz+o)(f:O[j]? =some (box b (z3e cl X) bt))(hi:i<m)(a:(cl (X.1.getD i default))[o]? =some v):
 Val P ρ ⟨dst,.load t x,ty,pos,after,g⟩ l R O v:=by
 refine yn d e f ?_
 subst hoff
 have h:=zl9 (X:=X) c hi
 have k:o<sz:=by rw [←c (X.1.getD i default)];exact(List.getElem?_eq_some_iff.1 a).1
 rw [←h,List.getElem?_take_of_lt k,List.getElem?_drop] at a
 exact a
theorem zik{cs:List Value}(c: ∀ w,(isAgg t).run P w= .ok true w)(d: ∀ w,(sizeOf t).run P w= .ok k w)(e:ev l x= .pointer (some ⟨b,0,none⟩))(f:O[j]? =some (box b cs bt))(a:cs.length=k)(h:Value.agg cs.toArray=v):
 Val P ρ ⟨dst,.load t x,ty,pos,after,g⟩ l R O v:=by
 subst h
 exact u6 c d e f (by rw [List.drop_zero,←a,List.take_length]) a
theorem zib{z:α}{w:Value}(a: ∀ x,(cl x).length=sz)(c: ∀ w,(sizeOf t).run P w= .ok k w)(d:ev l x= .pointer (some ⟨b,off,none⟩))(hoff:off=i*sz+o)(e:O[j]? =some (box b (z3e cl X) bt))(hi:i<m)
 (f:ev l y=w) (h:w.cells=vs.toArray) (n:vs.length=k) (p: ∀ v∈vs,v.oneCell'=true) (q:o+vs.length≤sz) (r:(cl (X.1.getD i default)).take o++vs++(cl (X.1.getD i default)).drop (o+vs.length)=cl z):
 Eff P ρ ⟨dst,.store t x y,ty,pos,after,g⟩ l R O (fun v' R' O'=>v'=undef∧R'=R∧O'=O.set j (box b (z3e cl (zf5 X (i:Int) z)) bt)):=by
 subst hoff
 have s:=zkg (X:=X) a hi r q
 have u:=zcz a X
 have A:(i+1)*sz≤m*sz:=Nat.mul_le_mul_right sz hi
 rw [Nat.succ_mul] at A
 have:=z4l (P:=P) (ρ:=ρ) (R:=R) (dst:=dst) (ty:=ty) (pos:=pos) (after:=after) (g:=g) c d f h n e (by rw [u];omega) p
 rw [s] at this
 exact this
theorem zo0{z:α}{w:Value}{q:Int}(d: ∀ x,(cl x).length=sz)(f: ∀ w,(sizeOf t).run P w= .ok k w)(g:ev l x= .pointer (some ⟨b,off,none⟩))(h:q.toNat=i)(hoff:off=i*sz+o)(a:O[j]? =some (box b (z3e cl X) bt))(hi:i<m)
 (p:ev l y=w) (r:w.cells=vs.toArray) (s:vs.length=k) (u: ∀ v∈vs,v.oneCell'=true) (A:Nat.ble (o+vs.length) sz=true) (B:(cl (X.1.getD i default)).take o++vs++(cl (X.1.getD i default)).drop (o+vs.length)=cl z)
 (c:wo P ρ n ops Q rest l D R (O.set j (box b (z3e cl (zf5 X q z)) bt))):wo P ρ n ops Q (⟨none,.store t x y,ty,pos,after,none⟩::rest) l D R O:=by
 have e:zf5 X q z=zf5 X (i:Int) z:=Subtype.ext (by show X.1.set q.toNat z=X.1.set ((i:Int).toNat) z;rw [h,Int.toNat_natCast])
 rw [e] at c
 exact zam (zib d f g hoff a hi p r s u (by simpa using A) B) fun v' R' O' _ ⟨_,C,a⟩=>by subst C;subst a;exact c
/-! ### Structs out of parts of any size-/
inductive FillOk (place:Nat→Option (Nat×Nat)):Nat→List (Nat×Value)→List Value→Prop
 |nil {off:Nat}:FillOk place off [] []
 |last {off i:Nat} {v:Value} {c:List Value}:v.cells=c.toArray→place i=some (off,c.length)→FillOk place off [(i,v)] c
 |cons {off i:Nat} {v:Value} {ps:List (Nat×Value)} {c out:List Value}:v.cells=c.toArray→place i=some (off,c.length)→FillOk place (off+c.length) ps out→FillOk place off ((i,v)::ps) (c++out)
end w
/-! ### Loops that are gone through so many times-/
section u
variable {P : Program} {ρ : Option Nat} {n : Nat} {Q : Po} {l : Nat → Value} {D : List Nat} {R : RH} {O : List Frag} {c : Code}
end u
section mm
variable {P : Program} {ρ : Option Nat} {l : Nat → Value} {R : RH} {O : List Frag} {ty : TypeId} {pos : String} {after : Array Go.Edge} {dst : Option Tmp} {g : Option (Nat × Bool)} {k : IntKind} {a b : Int} {x y : Operand} {at' : Array TypeId} {t : TypeId} {d : TypeDesc}
end mm
section p
variable {P : Program} {ρ : Option Nat} {l : Nat → Value} {R : RH} {O : List Frag} {ty : TypeId} {pos : String} {after : Array Go.Edge} {dst : Option Tmp} {g : Option (Nat × Bool)}
variable {α β : Type} [Inhabited α] {T : Ty α} {B : Ty β} {X : List α} {v u w : Value} {x y : Operand} {F : Frag} {i o : Nat} {t : TypeId} {se : α → β → α}
end p
end GV
end Go.Proofs.Ytjmlpkkbmnjhcaa

namespace Go.Proofs.Ytjmlpkkbmnjhcaa
namespace GV
/-! ### A box that only is read,of which the value is known-/
def zfu(v:Value):Ty Unit where
 size:=v.cells.size
 agg:=true
 rep _ cs _:=v= .agg cs.toArray∧ ∀ c∈cs,c.oneCell'=true
 len:=by rintro R cs x ⟨rfl,_⟩;simp [Value.cells]
 mono _ h:=h
 one h:=by cases h
 cell h:=h.2
theorem zp8{R:RH}{v w:Value}{x:Unit}(h:VRep (zfu v) R w x):w=v:=by
 obtain⟨cs,⟨rfl,_⟩,rfl⟩:=h;rfl
theorem zxp{α:Type}{T:Ty α}{R:RH}{v:Value}{y:α}(a:T.agg=true)(b:VRep T R v y):VRep (zfu v) R v ():=by
 obtain⟨cs,c,rfl⟩:=b
 have e:T.mk' cs= .agg cs.toArray:=by unfold Ty.mk';rw [a];rfl
 exact⟨cs,⟨e,T.cell c⟩,e⟩
theorem zpy{α:Type}{T:Ty α}{R:RH}{v u:Value}{y:α}(f:T.agg=true)(g:PRep (zfu v) R u ())(h:VRep T R v y):PRep T R u y:=by
 obtain⟨cs,a,rfl⟩:=h
 have e:T.mk' cs= .agg cs.toArray:=by unfold Ty.mk';rw [f];rfl
 obtain⟨b,off,c,ty,fr,i,j,d,_⟩:=g
 have k:(zfu (T.mk' cs)).size=T.size:=by rw [←T.len a,e];simp [zfu,Value.cells]
 refine⟨b,off,c,ty,fr,i,j,?_⟩
 rw [k,e] at d
 have:cs=xx c off T.size:=by simpa using d
 rw [←this];exact a
theorem yz{α:Type}{P:Program}{ρ:Option Nat}{l:Nat→Value}{R:RH}{O:List Frag}{dst:Option Tmp}{ty:TypeId}{pos:String}{after:Array Go.Edge}{g:Option (Nat×Bool)}{T:Ty α}{t:TypeId}{x:Operand}{u v:Value}{y:α}
 (a:TyOk P t T) (b:T.agg=true) (c:ev l x=u) (d:PRep (zfu v) R u ()) (f:VRep T R v y):Val P ρ ⟨dst,.load t x,ty,pos,after,g⟩ l R O v:=by
 have i:(zfu v).size=T.size:=by
  obtain⟨cs,j,rfl⟩:=f
  have e:T.mk' cs= .agg cs.toArray:=by unfold Ty.mk';rw [b];rfl
  rw [←T.len j,e];simp [zfu,Value.cells]
 have ht':TyOk P t (zfu v):=⟨fun w=>by rw [a.agg w,b];rfl,fun w=>by rw [a.size w,i]⟩
 obtain⟨w,k,h⟩:=zan (ρ:=ρ) (O:=O) ht' c d
 obtain rfl:=zp8 k
 exact h _ _ _ _ _
theorem ah{α:Type}{P:Program}{ρ:Option Nat}{n:Nat}{ops:Array Oper}{Q:Po}{rest:List Oper}{l:Nat→Value}{D:List Nat}{R:RH}{O:List Frag}{ty:TypeId}{pos:String}{after:Array Go.Edge}{d:Nat}{T:Ty α}{e:TypeId}{x:Operand}{v:Value}{y:α}(hd:Nat.blt d n=true)(g:ev l x=v)(b:T.agg=true)(c:VRep T R v y)
 (h: ∀ u R',RH.le R R'→PRep (zfu v) R' u ()→PRep T R' u y→wo P ρ n ops Q rest (upd l d u) D R' O):wo P ρ n ops Q (⟨some d,.box e x,ty,pos,after,none⟩::rest) l D R O:=
 z6x hd g (zxp b c) fun u R' a f=>h u R' a f (zpy b f (c.mono a))
/-! ### A part of a box that is an array of values of one cell-/
def AG{α:Type}[Inhabited α](T:Ty α)(R:RH)(n:Nat)(g:Nat→Value)(X:List α):Prop:=X.length=n∧ ∀ k,k<n→VRep T R (g k) (X.getD k default)∧(g k).oneCell'=true
theorem AG.mono{α:Type}[Inhabited α]{T:Ty α}{R R':RH}{n:Nat}{g:Nat→Value}{X:List α}(h:AG T R n g X)(a:RH.le R R'):AG T R' n g X:=⟨h.1,fun k b=>⟨(h.2 k b).1.mono a,(h.2 k b).2⟩⟩
section g
variable {P : Program} {ρ : Option Nat} {n : Nat} {ops : Array Oper} {Q : Po} {rest : List Oper} {l : Nat → Value} {D : List Nat} {R : RH} {O : List Frag} {ty : TypeId} {pos : String} {after : Array Go.Edge} {dst : Option Tmp} {g0 : Option (Nat × Bool)}
theorem si{x:Operand}{b o:Nat}(a:ev l x= .pointer (some ⟨b,o,none⟩)):Val P ρ ⟨dst,.nilCheck x,ty,pos,after,g0⟩ l R O (.pointer (some ⟨b,o,none⟩)):=by
 intro A w d;rw [qy (by intro c h;cases h)]
 simp [execOp,a]
end g
/-! ### A slice that keeps its capacity;a new slice that only is read-/
section c
variable {P : Program} {ρ : Option Nat} {n : Nat} {ops : Array Oper} {Q : Po} {rest : List Oper} {l : Nat → Value} {D : List Nat} {R : RH} {O : List Frag} {ty : TypeId} {pos : String} {after : Array Go.Edge} {dst : Option Tmp} {g : Option (Nat × Bool)}
end c
end GV
end Go.Proofs.Ytjmlpkkbmnjhcaa

namespace Go.Proofs.Ytjmlpkkbmnjhcaa
namespace GV
def EV(P:Program)(ρ:Option Nat)(o:Oper)(l:Nat→Value)(R:RH)(O:List Frag)(φ:Value→RH→Prop):Prop:= ∃ v,φ v R∧Val P ρ o l R O v
theorem z4y{l:Nat→Value}{a:Operand}{az:List Operand}{v:Value}{vs:List Value}(h:ev l a=v)(k:az.map (ev l)=vs):(a::az).map (ev l)=v::vs:=by rw [List.map_cons,h,k]
theorem zya{l:Nat→Value}{i:Nat}{a:Operand}{az:List (Nat×Operand)}{v:Value}{vs:List (Nat×Value)}(h:ev l a=v)(k:(az.map fun x=>(x.1,ev l x.2))=vs):(((i,a)::az).map fun x=>(x.1,ev l x.2))=(i,v)::vs:=by rw [List.map_cons,h,k]
section ev
variable {P : Program} {ρ : Option Nat} {l : Nat → Value} {R : RH} {O : List Frag} {dst : Option Tmp} {ty : TypeId} {pos : String} {after : Array Go.Edge} {g : Option (Nat × Bool)}
theorem qi{o:Oper}{v:Value}(h:Val P ρ o l R O v):EV P ρ o l R O (phX v):=⟨v,rfl,h⟩
theorem zii{o:Oper}{α:Type}{T:Ty α}{x:α}{a:Value}(h:EV P ρ o l R O (phR T x))(b: ∀ R v,VRep T R v x→v=a):Val P ρ o l R O a:=by
 obtain⟨v,c,d⟩:=h
 rwa [b _ _ c] at d
theorem lh{o:Oper}{k:IntKind}{x:Int}(h:EV P ρ o l R O (phR (qa k) x)):Val P ρ o l R O (.int k x):=zii h fun _ _ h=>qb.1 h
theorem zi0{o:Oper}{x:Bool}(h:EV P ρ o l R O (phR fe x)):Val P ρ o l R O (.bool x):=zii h fun _ _ h=>su.1 h
theorem xe{α:Type}{T:Ty α}{t:TypeId}{x:Operand}{v:Value}{y:α}(a:TyOk P t T)(b:ev l x=v)(c:PRep T R v y):EV P ρ ⟨dst,.load t x,ty,pos,after,g⟩ l R O (phR T y):=
 let⟨u,d,e⟩:=zan a b c
 ⟨u,d,e _ _ _ _ _⟩
theorem ax{α β:Type}{A:Ty α}{B:Ty β}{s:TypeId}{x:Operand}{f o:Nat}{v:Value}{y:α}{pr:α→β}(a:FieldOk P s f o)(hpart:Part A o B pr)(b:ev l x=v)(c:PRep A R v y):
 EV P ρ ⟨dst,.fieldAddr s x f,ty,pos,after,g⟩ l R O (phP B (pr y)):=
 let⟨u,d,e⟩:=zbc a hpart b c
 ⟨u,d,e _ _ _ _ _⟩
theorem fq{α:Type}[Inhabited α]{T:Ty α}{t e:TypeId}{x ix:Operand}{v:Value}{X:List α}{k:IntKind}{i:Nat}(a:SlOk P t e T)(b:ev l x=v)(c:VRep (vw T) R v X)(hi:ev l ix= .int k i)(d:i<X.length):
 EV P ρ ⟨dst,.indexAddr t x ix,ty,pos,after,g⟩ l R O (phP T (X.getD i default)):=
 let⟨u,f,h⟩:=zbe a b c hi (getD_some d)
 ⟨u,f,h _ _ _ _ _⟩
theorem z7t{α:Type}{T:Ty α}{t e:TypeId}{x ix:Operand}{v:Value}{X:List α}{k:IntKind}{i:Nat}{f:Frag}(a:SlOk P t e T)(c:ev l x=v)(d:ORep T R f v X)(hi:ev l ix= .int k i)(h:i<X.length):
 EV P ρ ⟨dst,.indexAddr t x ix,ty,pos,after,g⟩ l R O (fun u _=>yw T v X u i):=
 let⟨b,off,j,m⟩:=zbf (O:=O) a c d hi h
 ⟨_,⟨b,off,j,rfl⟩,m _ _ _ _ _⟩
theorem zad{α:Type}[Inhabited α]{T:Ty α}{t:TypeId}{x:Operand}{f:Frag}{v u:Value}{X:List α}{i j:Nat}(a:TyOk P t T)(c:ORep T R f v X)(d:O[j]? =some f)(e:ev l x=u)(h:yw T v X u i)(k:i<X.length):
 EV P ρ ⟨dst,.load t x,ty,pos,after,g⟩ l R O (phR T (X.getD i default)):=by
 obtain⟨b,off,m,rfl⟩:=h
 obtain⟨y,hy',n⟩:=zcs (ρ:=ρ) (P:=P) a c m d e (getD_some k)
 exact⟨y,hy',n _ _ _ _ _⟩
theorem zf9{α β:Type}{A:Ty α}{B:Ty β}{t:TypeId}{m sz i:Nat}{x ix:Operand}{k:IntKind}{v:Value}{y:α}{pr:α→β}(a:ArrOk P t m sz)(hpart:Part A (i*sz) B pr)(b:ev l x=v)(c:PRep A R v y)(hi:ev l ix= .int k i)(d:i<m):
 EV P ρ ⟨dst,.indexAddr t x ix,ty,pos,after,g⟩ l R O (phP B (pr y)):=
 let⟨u,e,f⟩:=zdc a hpart b c hi d
 ⟨u,e,f _ _ _ _ _⟩
section nest
variable {α : Type} {t : Bool} {T : Ty α} {F : Frag} {v : Value} {Vs : List Value} {X : List (List α)}
end nest
section part
variable {α β : Type} {T : Ty α} {B : Ty β} {X : List α} {v u : Value} {x : Operand} {f : Frag} {i j o fld : Nat} {s t : TypeId} {pr : α → β}
end part
end ev
/-! ### In the text's order-/
section wo
variable {P : Program} {ρ : Option Nat} {n : Nat} {Q : Po} {l : Nat → Value} {D : List Nat} {R : RH} {O : List Frag} {ops : Array Oper} {rest : List Oper} {op : Op} {ty : TypeId} {pos : String} {after : Array Go.Edge} {d : Nat} {φ : Value → RH → Prop}
theorem ztm(hd:Nat.blt d n=true)(h:EV P ρ ⟨some d,op,ty,pos,after,none⟩ l R O φ)(a: ∀ v,φ v R→wo P ρ n ops Q rest (upd l d v) D R O):wo P ρ n ops Q (⟨some d,op,ty,pos,after,none⟩::rest) l D R O:=
 let⟨v,b,c⟩:=h
 jd hd c (a v b)
theorem zfv{a:Act}{j s:Nat}(d:Fr n l D a)(c:ik ops j=some s)(f:l s=undef):yielded ops a.tmps j=none:=by
 unfold yielded
 unfold ik at c
 rw [c]
 have b:=d.get s
 rw [f,Array.getD_eq_getD_getElem?] at b
 simp only [Option.bind_some]
 cases h:a.tmps[s]? with
 |none=>rfl
 |some v=>
  rw [h] at b
  have e:v=undef:=b
  rw [e];rfl
theorem zuq{j s:Nat}{want:Bool}(c:ik ops j=some s)(e:Nat.blt s n=true)(f:l s=undef)(hd:Nat.blt d n=true)(g:wo P ρ n ops Q rest (upd l d undef) D R O):
 wo P ρ n ops Q (⟨some d,op,ty,pos,after,some (j,want)⟩::rest) l D R O:=by
 intro a w b i
 have k:=zfv b c f
 have h:=g _ w (b.put (d:=some d) (fun t m=>by cases m;simpa using hd) undef) i
 simp only [wlo]
 rw [if_neg (by simp [Region.wanted,k])]
 exact⟨fun _ _=>trivial,h⟩
theorem zu1{j s:Nat}{want Gj Bj:Bool}(b:ik ops j=some s)(a:Nat.blt s n=true)(hd:Nat.blt d n=true)(c:phG Gj (phX (.bool Bj)) (l s) R)
 (hyes:Gj=true→Bj=want→Eff P ρ ⟨some d,op,ty,pos,after,none⟩ l R O fun v R' O'=>O'=O∧φ v R') (e: ∀ v R',RH.le R R'→phG (Gj&&(Bj==want)) φ v R'→wo P ρ n ops Q rest (upd l d v) D R' O):
 wo P ρ n ops Q (⟨some d,op,ty,pos,after,some (j,want)⟩::rest) l D R O:=by
 cases Gj with
 |false=>exact zuq b a (c.2 rfl) hd (e _ _ (RH.le.refl _) ⟨fun h=>by(cases h),fun _=>rfl⟩)
 |true=>
  by_cases g:Bj=want
  ·subst g
   refine zui b a (c.1 rfl) (z0b hd (hyes rfl rfl) fun v R' f h=>e v R' f ⟨fun _=>h,fun h=>by simp at h⟩)
  ·have hb':(Bj==want)=false:=by simpa using g
   exact zun b a (c.1 rfl) hb' hd (e _ _ (RH.le.refl _) (by rw [hb'];exact⟨fun h=>by simp at h,fun _=>rfl⟩))
theorem z94{j s:Nat}{want Gj Bj:Bool}(b:ik ops j=some s)(a:Nat.blt s n=true)(hd:Nat.blt d n=true)(c:phG Gj (phX (.bool Bj)) (l s) R)
 (hyes:Gj=true→Bj=want→EV P ρ ⟨some d,op,ty,pos,after,none⟩ l R O φ) (e: ∀ v,phG (Gj&&(Bj==want)) φ v R→wo P ρ n ops Q rest (upd l d v) D R O):
 wo P ρ n ops Q (⟨some d,op,ty,pos,after,some (j,want)⟩::rest) l D R O:=by
 cases Gj with
 |false=>exact zuq b a (c.2 rfl) hd (e _ ⟨fun h=>by(cases h),fun _=>rfl⟩)
 |true=>
  by_cases f:Bj=want
  ·subst f
   obtain⟨v,g,i⟩:=hyes rfl rfl
   exact zui b a (c.1 rfl) (jd hd i (e v ⟨fun _=>g,fun h=>by simp at h⟩))
  ·have hb':(Bj==want)=false:=by simpa using f
   exact zun b a (c.1 rfl) hb' hd (e _ (by rw [hb'];exact⟨fun h=>by simp at h,fun _=>rfl⟩))
theorem qw{j s:Nat}{want Bj:Bool}(b:ik ops j=some s)(a:Nat.blt s n=true)(hd:Nat.blt d n=true)(c:l s= .bool Bj)
 (hyes:Bj=want→EV P ρ ⟨some d,op,ty,pos,after,none⟩ l R O φ) (e: ∀ v,phG (true&&(Bj==want)) φ v R→wo P ρ n ops Q rest (upd l d v) D R O):
 wo P ρ n ops Q (⟨some d,op,ty,pos,after,some (j,want)⟩::rest) l D R O:=z94 b a hd (ji c) (fun _=>hyes) e
theorem z0p{j s:Nat}{want Bj:Bool}(b:ik ops j=some s)(a:Nat.blt s n=true)(hd:Nat.blt d n=true)(c:l s= .bool Bj)
 (hyes:Bj=want→Eff P ρ ⟨some d,op,ty,pos,after,none⟩ l R O fun v R' O'=>O'=O∧φ v R') (e: ∀ v R',RH.le R R'→phG (true&&(Bj==want)) φ v R'→wo P ρ n ops Q rest (upd l d v) D R' O):
 wo P ρ n ops Q (⟨some d,op,ty,pos,after,some (j,want)⟩::rest) l D R O:=zu1 b a hd (ji c) (fun _=>hyes) e
end wo
end GV
end Go.Proofs.Ytjmlpkkbmnjhcaa

namespace Go.Proofs.Ytjmlpkkbmnjhcaa
namespace GV
def zkx:Op→Option (List Operand)
 | .move x| .assign x| .load _ x| .nilCheck x| .unOp _ _ x| .convert _ _ x| .fieldAddr _ x _| .field _ x _| .extract x _=>some [x]
 | .pick c a b=>some [c,a,b]
 | .binOp _ _ x y _| .indexAddr _ x y| .index _ x y| .lookup _ x y _=>some [x,y]
 | .build _ ps=>some (ps.toList.map (·.2))
 | .makeFunc _ fs cs=>some (fs.toList++cs.toList)
 | .slice _ x lo hi mx=>some (x::(lo.toList++(hi.toList++mx.toList)))
 | .call c=>match c.callee with
  | .builtin _=>some c.args.toList
  |_=>none
 |_=>none
theorem zcy{ρ1 ρ2:Operand→Value}{x:Option Operand}(h: ∀ y∈x.toList,ρ1 y=ρ2 y):x.map ρ1=x.map ρ2:=by
 cases x with
 |none=>rfl
 |some y=>simp [h y (by simp)]
theorem zcr{ρ1 ρ2:Operand→Value}{xs:Array Operand}(h: ∀ y∈xs.toList,ρ1 y=ρ2 y):xs.map ρ1=xs.map ρ2:=by
 apply Array.ext'
 rw [Array.toList_map,Array.toList_map]
 exact List.map_congr_left h
theorem znw{ρ1 ρ2:Operand→Value}{xs:Array (Nat×Operand)}(h: ∀ y∈xs.toList.map (·.2),ρ1 y=ρ2 y):(xs.map fun(i,x)=>(i,ρ1 x))=xs.map fun(i,x)=>(i,ρ2 x):=by
 apply Array.ext'
 rw [Array.toList_map,Array.toList_map]
 refine List.map_congr_left fun p a=>?_
 obtain⟨i,x⟩:=p
 have:=h x (List.mem_map.2 ⟨(i,x),a,rfl⟩)
 simp only [this]
theorem zke{o:Oper}{xs:List Operand}{ρ1 ρ2:Operand→Value}(h:zkx o.op=some xs)(a: ∀ x∈xs,ρ1 x=ρ2 x):execOp ρ1 o=execOp ρ2 o:=by
 obtain⟨dst,op,ty,pos,after,g⟩:=o
 dsimp only at h
 cases op<;>simp only [zkx,Option.some.injEq,reduceCtorEq] at h
 case call c=>
  obtain⟨cal,args,at'⟩:=c
  cases cal<;>simp only [Option.some.injEq,reduceCtorEq] at h
  subst h
  simp only [execOp,resolve,zcr a]
 case build t ps=>subst h;simp only [execOp,znw a]
 case makeFunc f fs cs=>
  subst h
  simp only [execOp,zcr (xs:=fs) (fun y b=>a y (List.mem_append_left _ b)),zcr (xs:=cs) (fun y b=>a y (List.mem_append_right _ b))]
 case slice t x lo hi mx=>
  subst h
  simp only [execOp,a x (List.mem_cons_self ..),zcy (x:=lo) (fun y b=>a y (by simp [b])),zcy (x:=hi) (fun y b=>a y (by simp [b])),zcy (x:=mx) (fun y b=>a y (by simp [b]))]
 all_goals subst h;simp only [List.mem_cons,List.not_mem_nil,or_false,forall_eq_or_imp,forall_eq] at a;simp only [execOp,a]
theorem zhg{op:Op}{xs:List Operand}(h:zkx op=some xs): ∀ c,op≠ .defer c:=by
 intro c e;subst e;simp [zkx] at h
theorem zkp{R R':RH}{O:List Frag}{w:World}(h:Holds R' O w)(a:R.le R'):Holds R O w:=by
 refine⟨fun k o b=>h.ro k o (a.blk k o b),fun f c k o b=>⟨(h.own f c k o b).1,?_⟩,h.sep,by rw [←a.os];exact h.os,by rw [←a.out];exact h.out⟩
 cases e:R.blk k with
 |none=>rfl
 |some o'=>
  have:=a.blk k o' e
  rw [(h.own f c k o b).2] at this;cases this
theorem zns{P:Program}{ρ:Option Nat}{o:Oper}{l l':Nat→Value}{R R':RH}{O:List Frag}{v:Value}{xs:List Operand}(h:Val P ρ o l R O v)(c:zkx o.op=some xs)(e: ∀ s,.tmp s∈xs→l' s=l s)(a:R.le R'):Val P ρ o l' R' O v:=by
 intro A w f
 have d:=h A w (zkp f a)
 have g:=zhg c
 rw [qy g] at d⊢
 rw [zke c (ρ2:=ev l) fun x b=>?_]
 ·exact d
 ·cases x with
  |tmp s=>exact e s b
  |_=>rfl
def wv(P:Program)(ρ:Option Nat)(R:RH)(O:List Frag):List Oper→(Nat→Value)→((Nat→Value)→Prop)→Prop
 | [],l,K=>K l
 |o::r,l,K=> ∃ d v,o.dst=some d∧Val P ρ o l R O v∧wv P ρ R O r (upd l d v) K
section wv
variable {P : Program} {ρ : Option Nat} {n : Nat} {Q : Po} {l : Nat → Value} {D : List Nat} {R : RH} {O : List Frag} {rest : List Oper} {op : Op} {ty : TypeId} {pos : String} {after : Array Go.Edge} {d : Nat} {φ : Value → RH → Prop} {K : (Nat → Value) → Prop} {g : Option (Nat × Bool)}
theorem dh{v:Value}(h:Val P ρ ⟨some d,op,ty,pos,after,g⟩ l R O v)(a:wv P ρ R O rest (upd l d v) K):wv P ρ R O (⟨some d,op,ty,pos,after,g⟩::rest) l K:=⟨d,v,rfl,h,a⟩
theorem z2u(h:EV P ρ ⟨some d,op,ty,pos,after,g⟩ l R O φ)(a: ∀ v,φ v R→wv P ρ R O rest (upd l d v) K):wv P ρ R O (⟨some d,op,ty,pos,after,g⟩::rest) l K:=
 let⟨v,b,c⟩:=h
 ⟨d,v,rfl,c,a v b⟩
def zr8(gs:List Oper)(s:Nat):Option Nat:=gs.findIdx? fun o=>o.dst==some s
def clV(gs:List Oper):Bool:=gs.zipIdx.all fun(o,i)=>o.guard.isNone&&(match zkx o.op with
 |none=>false
 |some xs=>xs.all fun x=>match x with
  | .tmp s=>(match zr8 gs s with|none=>true|some j=>Nat.blt j i&&o.after.toList.any fun e=>Nat.beq e.on j&&Region.binds .any e)
  |_=>true)
def zer(l:Nat→Value):List (Nat×Value)→Nat→Value
 | []=>l
 |(d,v)::r=>zer (upd l d v) r
theorem zhv{s d:Nat}{v:Value}(h:s≠d):upd l d v s=l s:=by
 unfold upd
 have:Nat.beq s d=false:=by
  cases hb:Nat.beq s d
  ·rfl
  ·exact absurd (Nat.eq_of_beq_eq_true hb) h
 rw [this];rfl
theorem zmw{d:Nat}{v:Value}:upd l d v d=v:=by unfold upd;simp
theorem zcl{s:Nat}: ∀ {acc:List (Nat×Value)} {l:Nat→Value},s∉acc.map (·.1)→zer l acc s=l s
 | [],_,_=>rfl
 |(d,v)::r,l,h=>by
  simp only [List.map_cons,List.mem_cons,not_or] at h
  rw [zer,zcl h.2,zhv h.1]
theorem zht{s:Nat}{v:Value}: ∀ {acc:List (Nat×Value)} {l:Nat→Value} {j:Nat},acc[j]? =some (s,v)→(acc.map (·.1)).Nodup→zer l acc s=v
 | [],_,_,h,_=>by simp at h
 |(d,u)::r,l,0,h,a=>by
  simp only [List.getElem?_cons_zero,Option.some.injEq,Prod.mk.injEq] at h
  obtain⟨rfl,rfl⟩:=h
  simp only [List.map_cons,List.nodup_cons] at a
  rw [zer,zcl a.1,zmw]
 |(d,u)::r,l,j+1,h,a=>by
  simp only [List.map_cons,List.nodup_cons] at a
  rw [zer]
  exact zht (j:=j) (by simpa using h) a.2
theorem zin{s:Nat}: ∀ {acc:List (Nat×Value)},s∉acc.map (·.1)→z2i l acc s=l s
 | [],_=>rfl
 |(d,v)::r,h=>by
  simp only [List.map_cons,List.mem_cons,not_or] at h
  rw [z2i,zhv h.1,zin h.2]
theorem zlu{s:Nat}{v:Value}: ∀ {acc:List (Nat×Value)} {j:Nat},acc[j]? =some (s,v)→(acc.map (·.1)).Nodup→z2i l acc s=v
 | [],_,h,_=>by simp at h
 |(d,u)::r,0,h,a=>by
  simp only [List.getElem?_cons_zero,Option.some.injEq,Prod.mk.injEq] at h
  obtain⟨rfl,rfl⟩:=h
  rw [z2i,zmw]
 |(d,u)::r,j+1,h,a=>by
  simp only [List.map_cons,List.nodup_cons] at a
  have h':r[j]? =some (s,v):=by simpa using h
  have b:s∈r.map (·.1):=List.mem_map.2 ⟨_,List.mem_of_getElem? h',rfl⟩
  rw [z2i,zhv (fun e=>a.1 (by rw [←e];exact b))]
  exact zlu h' a.2
theorem zpk{acc:List (Nat×Value)}(a:(acc.map (·.1)).Nodup):zer l acc=z2i l acc:=by
 funext s
 by_cases h:s∈acc.map (·.1)
 ·obtain⟨⟨d,v⟩,b,rfl⟩:=List.mem_map.1 h
  obtain⟨j,c,e⟩:=List.mem_iff_getElem.1 b
  have h':acc[j]? =some (d,v):=by rw [List.getElem?_eq_getElem c,e]
  rw [zht h' a,zlu h' a]
 ·rw [zcl h,zin h]
def zf7(gs:List Oper)(vs:List Value):List (Nat×Value):=(gs.zip vs).map fun p=>(p.1.dst.getD 0,p.2)
theorem zms: ∀ {os:List Oper} {l:Nat→Value},wv P ρ R O os l K→ ∃ vs:List Value,vs.length=os.length∧(∀ o∈os,o.dst.isSome=true)∧
 (∀ (i:Nat) o v,os[i]? =some o→vs[i]? =some v→Val P ρ o (zer l ((zf7 os vs).take i)) R O v)∧K (zer l (zf7 os vs))
 | [],l,h=>⟨[],rfl,fun o b=>by simp at b,fun i o v h=>by simp at h,h⟩
 |o::r,l,⟨d,v,hd,c,e⟩=>by
  obtain⟨vs,f,g,j,k⟩:=zms e
  refine⟨v::vs,by simp [f],fun o' ho'=>?_,fun i o' u hi a=>?_,?_⟩
  ·rcases List.mem_cons.1 ho' with rfl|ho'
   ·rw [hd];rfl
   ·exact g o' ho'
  ·cases i with
   |zero=>
    simp only [List.getElem?_cons_zero,Option.some.injEq] at hi a
    subst hi;subst a
    exact c
   |succ i=>
    have:=j i o' u (by simpa using hi) (by simpa using a)
    simpa [zf7,zer,hd] using this
  ·simpa [zf7,zer,hd] using k
theorem zjm{gs:List Oper}{φs:List (Value→RH→Prop)}{l:Nat→Value}{R:RH}: ∀ {es:List Go.Edge},znk gs φs l R es→ ∀ e∈es,Region.binds .any e=true→ ∀ d,bg gs e.on=some d→phi φs e.on (l d) R
 | [],_,e,a,_,_,_=>by simp at a
 |e'::es,h,e,a,b,d,hd=>by
  rcases List.mem_cons.1 a with rfl|a
  ·have:=h.1
   rw [hd] at this
   exact this b
  ·exact zjm h.2 e a b d hd
theorem zmj{gs:List Oper}{al:List NewBox}{φs:List (Value→RH→Prop)}{l0:Nat→Value}{R0:RH}: ∀ {os:List Oper} {k:Nat},
 (∀ (i:Nat) (o:Oper),os[i]? =some o→ ∀ l R,RH.le R0 R→Agree gs l0 l→znk gs φs l R o.after.toList→GStep P ρ gs al φs O (k+i) o l R)→zkc P ρ gs al φs l0 R0 O k os
 | [],_,_=>trivial
 |o::os,k,h=>⟨h 0 o rfl,zmj fun i o' hi=>by have:=h (i+1) o' (by simpa using hi);rwa [show k+(i+1)=k+1+i from by omega] at this⟩
theorem zmh{φs:List (Value→RH→Prop)}{R:RH}: ∀ {os:List Oper} {vs:List Value} {k:Nat} {K:List (Nat×Value)→Prop},vs.length=os.length→(∀ (i:Nat) v,vs[i]? =some v→phi φs (k+i)=phX v)→K (zf7 os vs)→zk6 φs R K k os
 | [],vs,k,K,a,_,h=>by
  have:vs=[]:=List.length_eq_zero_iff.1 a
  subst this;exact h
 |o::os,[],k,K,a,_,_=>by simp at a
 |o::os,v::vs,k,K,a,b,h=>fun u c=>by
  rw [show k=k+0 from rfl,b 0 v rfl] at c
  obtain rfl:u=v:=c
  exact zmh (vs:=vs) (by simpa using a) (fun i w hi=>by have:=b (i+1) w (by simpa using hi);rwa [show k+(i+1)=k+1+i from by omega] at this) h
theorem z3o{id:Nat}{os:List Oper}(m:Nat)(U:P.follows .mixedOrders=true)(c:za8 (os.take m) [] n (os.drop m)=true)(r:clV (os.take m)=true)
 (h:wv P ρ R O (os.take m) l fun l'=> ∀ R',RH.le R R'→wo P ρ n os.toArray Q (os.drop m) l' D R' O):wg P ρ n (.region id os.toArray true) Q l D R O:=by
 obtain⟨vs,C,L,M,N⟩:=zms h
 have f:=(z6z c).2.1
 generalize hg:os.take m=gs at C L M N f r c
 have hacc:(zf7 gs vs).map (·.1)=z9h gs:=by
  unfold zf7 z9h
  rw [List.map_map]
  have: ∀ (gs:List Oper) (vs:List Value),vs.length=gs.length→(∀ o∈gs,o.dst.isSome=true)→(gs.zip vs).map ((fun x:Nat×Value=>x.1)∘fun p=>(p.1.dst.getD 0,p.2))=gs.filterMap (·.dst):=by
   intro gs
   induction gs with
   |nil=>intro vs _ _;simp
   |cons o gs ih=>
    intro vs S A
    cases vs with
    |nil=>simp at S
    |cons v vs=>
     obtain⟨d,hd⟩:=Option.isSome_iff_exists.1 (A o (List.mem_cons_self ..))
     simp only [List.zip_cons_cons,List.map_cons,List.filterMap_cons,hd,Function.comp_apply,Option.getD_some]
     rw [ih vs (by simpa using S) (fun o' ho'=>A o' (List.mem_cons_of_mem _ ho'))]
  exact this gs vs C L
 have hphi: ∀ (i:Nat) v,vs[i]? =some v→phi (vs.map phX) i=phX v:=fun i v hi=>by
  unfold phi
  rw [List.getD_eq_getElem?_getD,List.getElem?_map,hi];rfl
 have hmono:zco (vs.map phX):=fun k v R R' a q=>by
  unfold phi at q⊢
  rw [List.getD_eq_getElem?_getD,List.getElem?_map] at q⊢
  cases e:vs[k]? with
  |none=>trivial
  |some u=>rw [e] at q;exact q
 have haget: ∀ (i:Nat) o v,gs[i]? =some o→vs[i]? =some v→ ∀ d,o.dst=some d→(zf7 gs vs)[i]? =some (d,v):=fun i o v hi B d hd=>by
  unfold zf7
  rw [List.getElem?_map,List.getElem?_zip_eq_some (z:=(o,v))|>.2 ⟨hi,B⟩]
  simp [hd]
 refine o5 (m:=m) [] (vs.map phX) U (by rw [hg];exact c) hmono (by
  rw [hg]
  refine zmj fun i o hi l' R' a E hdep=>?_
  rw [Nat.zero_add]
  have V:i<gs.length:=(List.getElem?_eq_some_iff.1 hi).1
  obtain⟨v,B⟩: ∃ v,vs[i]? =some v:=⟨vs[i]'(by omega),List.getElem?_eq_getElem (by omega)⟩
  have g:=List.all_eq_true.1 r (o,i) (List.mem_iff_getElem?.2 ⟨i,by rw [List.getElem?_zipIdx,hi];simp⟩)
  simp only [Bool.and_eq_true] at g
  obtain⟨F,g⟩:=g
  refine zh (Option.isNone_iff_eq_none.1 F) rfl (hphi i v B) (zl ?_)
  cases hx:zkx o.op with
  |none=>rw [hx] at g;exact absurd g Bool.false_ne_true
  |some xs=>
   rw [hx] at g
   refine zns (M i o v hi B) hx (fun s A=>?_) a
   have b:=List.all_eq_true.1 g (.tmp s) A
   dsimp only at b
   have t:((zf7 gs vs).take i).map (·.1)=(z9h gs).take i:=by rw [List.map_take,hacc]
   cases hsl:zr8 gs s with
   |none=>
    have w:s∉z9h gs:=fun hm'=>by
     obtain⟨o',ho',e⟩:=List.mem_filterMap.1 hm'
     have:=List.findIdx?_eq_none_iff.1 hsl o' ho'
     rw [e] at this;simp at this
    rw [E s (by simpa using w),zcl (by rw [t];exact fun h=>w (List.mem_of_mem_take h))]
   |some j=>
    rw [hsl] at b
    simp only [Bool.and_eq_true,List.any_eq_true] at b
    obtain⟨G,e,W,H,I⟩:=b
    have hji':j<i:=by simpa using G
    have hej':e.on=j:=Nat.eq_of_beq_eq_true H
    obtain⟨o',ho',hd'⟩: ∃ o',gs[j]? =some o'∧o'.dst=some s:=by
     have:=List.findIdx?_eq_some_iff_getElem.1 hsl
     obtain⟨X,q,_⟩:=this
     exact⟨gs[j],List.getElem?_eq_getElem X,by simpa using q⟩
    have Y:j<gs.length:=(List.getElem?_eq_some_iff.1 ho').1
    obtain⟨u,T⟩: ∃ u,vs[j]? =some u:=⟨vs[j]'(by omega),List.getElem?_eq_getElem (by omega)⟩
    have J:bg gs e.on=some s:=by unfold bg;rw [hej',ho'];exact hd'
    have y:=zjm hdep e W I s J
    rw [hej',hphi j u T] at y
    have K:((zf7 gs vs).take i)[j]? =some (s,u):=by rw [List.getElem?_take,if_pos hji'];exact haget j o' u ho' T s hd'
    rw [zht K (by rw [t];exact List.Nodup.sublist (List.take_sublist _ _) f)]
    exact y) fun R' a=>?_
 rw [hg]
 refine zmh C (fun i v hi=>by rw [Nat.zero_add];exact hphi i v hi) ?_
 rw [←zpk (by rw [hacc];exact f)]
 exact N R' a
end wv
/-! ### Shorter laws-/
section short
variable {P : Program} {ρ : Option Nat} {n : Nat} {Q : Po} {l : Nat → Value} {D : List Nat} {R : RH} {O : List Frag} {γ : Type} {ops : Array Oper} {rest : List Oper} {d : Nat} {ty : TypeId} {pos : String} {after : Array Go.Edge}
theorem q9{c:Operand}{x y:Code}{α:Type}{b:Bool}{p q:Option α}{r:α}(a:ev l c= .bool b)(hd:(bif b then p else q)=some r)(d:p=some r→wg P ρ n x Q l D R O)(f:q=some r→wg P ρ n y Q l D R O):wg P ρ n (.cond c x y) Q l D R O:=
 zdu a (fun e=>d (zx1 e hd)) (fun e=>f (zx3 e hd))
theorem qz{x y:Code}(W:List Nat)(S:γ→List (Nat×Value))(F:γ→List Frag)(K:γ→RH→Prop)(b:wg P ρ n x (thn (zxf true D W l R S F K) Q) l D R O)
 (c: ∀ g j R',RH.le R R'→K g R'→wg P ρ n y Q (z2i (mask W j l) (S g)) D R' (F g)):wg P ρ n (.seq x y) Q l D R O:=
 ztj true W S F K b fun g j D' R' d a e=>by obtain rfl:=d rfl;exact c g j R' a e
theorem je{c:Code}(W:List Nat)(S:γ→List (Nat×Value))(F:γ→List Frag)(K:γ→RH→Prop)(μ:γ→Nat)(a:γ)
 (d: ∃ J,O.Perm (J++F a)) (e:K a R)
 (round: ∀ g j R',RH.le R R'→K g R'→wg P ρ n c (thn (zu5 true D W (z2i (mask W j l) (S g)) R' S F K μ (μ g)) Q) (z2i (mask W j l) (S g)) D R' (F g))
 (f:zjt l (S a):=by repeat (first|exact trivial|refine⟨rfl,?_⟩)) (h: ∀ g,((S g).all fun p=>W.elem p.1)=true:=by exact fun _=>rfl):wg P ρ n (.loop c) Q l D R O:=
 zr9 true W S F K μ a f d e h fun g j D' R' i b k=>by obtain rfl:=i rfl;exact round g j R' b k
theorem zx{op:Op}{v:Value}(h:Val P ρ ⟨some d,op,ty,pos,after,none⟩ l R O v)(a:wo P ρ n ops Q rest (upd l d v) D R O)(hd:Nat.blt d n=true:=by exact rfl):wo P ρ n ops Q (⟨some d,op,ty,pos,after,none⟩::rest) l D R O:=jd hd h a
theorem zg{x:Operand}(v:Value)(a:wo P ρ n ops Q rest (upd l d v) D R O)(b:ev l x=v:=by exact rfl)(hd:Nat.blt d n=true:=by exact rfl):wo P ρ n ops Q (⟨some d,.move x,ty,pos,after,none⟩::rest) l D R O:=jd hd (z8 b) a
theorem zi{x:Operand}(v:Value)(a:wo P ρ n ops Q rest (upd l d v) D R O)(b:ev l x=v:=by exact rfl)(hd:Nat.blt d n=true:=by exact rfl):wo P ρ n ops Q (⟨some d,.assign x,ty,pos,after,none⟩::rest) l D R O:=jd hd (z00 b) a
theorem zu{id:Nat}{os:List Oper}{y:Code}(h:wo P ρ n os.toArray (thn (wg P ρ n y Q) Q) os l D R O):wg P ρ n (.seq (.region id os.toArray false) y) Q l D R O:=q8 (zz h)
theorem qo{id:Nat}{os:List Oper}{y:Code}{Q':Po}(h:wo P ρ n os.toArray (thn (wg P ρ n y Q) Q) os l D R O):wo P ρ n ops (thn (wg P ρ n (.seq (.region id os.toArray false) y) Q) Q') [] l D R O:=za (zu h)
def rs:List Nat→List Nat|a::b::r=>List.range' a (b-a)++rs r|_=>[]
abbrev vi (x:Int):Value:= .int .i64 x
abbrev vs0:Value:= .slice none 0 0
theorem dkt{c:Prop}{α:Type}{x:α}:c→x=x:=fun _=>rfl
theorem zqa{a b:Prop}[Decidable a][Decidable b]{α:Type}{k:Option α}{r:α}(h:gd a (gd b k)=some r):a∧b∧k=some r:=⟨(ze h).1,ze (ze h).2⟩
theorem zri{a b c:Prop}[Decidable a][Decidable b][Decidable c]{α:Type}{k:Option α}{r:α}(h:gd a (gd b (gd c k))=some r):a∧b∧c∧k=some r:=⟨(ze h).1,zqa (ze h).2⟩
theorem zpx{a b c d:Prop}[Decidable a][Decidable b][Decidable c][Decidable d]{α:Type}{k:Option α}{r:α}(h:gd a (gd b (gd c (gd d k)))=some r):a∧b∧c∧d∧k=some r:=⟨(ze h).1,zri (ze h).2⟩
theorem zrt{a b c d e:Prop}[Decidable a][Decidable b][Decidable c][Decidable d][Decidable e]{α:Type}{k:Option α}{r:α}(h:gd a (gd b (gd c (gd d (gd e k))))=some r):a∧b∧c∧d∧e∧k=some r:=⟨(ze h).1,zpx (ze h).2⟩
theorem zw6{a b c d e f:Prop}[Decidable a][Decidable b][Decidable c][Decidable d][Decidable e][Decidable f]{α:Type}{k:Option α}{r:α}(h:gd a (gd b (gd c (gd d (gd e (gd f k)))))=some r):a∧b∧c∧d∧e∧f∧k=some r:=⟨(ze h).1,zrt (ze h).2⟩
theorem prm{O:List Frag}: ∃ J,O.Perm (J++O):=⟨[],List.Perm.refl _⟩
end short
end GV
end Go.Proofs.Ytjmlpkkbmnjhcaa

namespace Go.Proofs.Ytjmlpkkbmnjhcaa
namespace GV
abbrev okA {α:Type} (X:List α) (lo:Int) (m:Nat) (y:Int):Prop:=0≤lo∧0≤y∧y<m∧lo+y<X.length
section a
variable {P : Program} {ρ : Option Nat} {l : Nat → Value} {R : RH} {O : List Frag} {ty : TypeId} {pos : String} {after : Array Go.Edge} {dst : Option Tmp} {g : Option (Nat × Bool)}
variable {α : Type} {T : Ty α} {X : List α} {v : Value} {x y : Operand} {f : Frag} {t e : TypeId}
theorem zcw{lo:Int}{m:Nat}{q:Int}(h:okA X lo m q):(lo+q).toNat<X.length:=by obtain⟨a,b,c,d⟩:=h;omega
theorem zg6{lo:Int}{m:Nat}{q:Int}(h:okA X lo m q):q.toNat<m:=by obtain⟨a,b,c,d⟩:=h;omega
theorem zgi{lo:Int}{m:Nat}{q:Int}(h:okA X lo m q):(lo+q).toNat=lo.toNat+q.toNat:=by obtain⟨a,b,c,d⟩:=h;omega
theorem zgl{lo:Int}{m:Nat}{q:Int}(h:okA X lo m q):okI X (lo+q):=by obtain⟨b,c,d,a⟩:=h;exact⟨by omega,a⟩
theorem zpf{lo hi:Nat}(h:ORep T R f v X)(a:lo<X.length): ∃ b off,v= .slice (some ⟨b,off,none⟩) X.length (capOf v)∧z7y T.size v lo hi= .slice (some ⟨b,off+lo*T.size,none⟩) (hi-lo) (capOf v-lo):=by
 rcases h with⟨rfl,rfl,_⟩|⟨b,pre,cs,cap,bt,rfl,rfl,g,c,d,e⟩
 ·simp at a
 refine⟨b,pre.length,rfl,?_⟩
 simp only [z7y,capOf]
 rw [if_neg (by omega)]
 simp only [Option.map_some,addr_add]
theorem z4k{k:IntKind}{lo hi i n:Nat}(d:SlOk P t e T)(j:ev l x=z7y T.size v lo hi)(m:ORep T R f v X)(hi':ev l y= .int k i)(o:i<hi-lo)(p:n=lo+i)(s:n<X.length):
 Eff P ρ ⟨dst,.indexAddr t x y,ty,pos,after,g⟩ l R O (fun v' R' O'=>O'=O∧(fun u _=>yw T v X u n) v' R'):=by
 subst p
 obtain⟨b,off,q,r⟩:=zpf (lo:=lo) (hi:=hi) m (by omega)
 have hval:Val P ρ ⟨dst,.indexAddr t x y,ty,pos,after,g⟩ l R O (.pointer (some ⟨b,off+lo*T.size+i*T.size,none⟩)):=by
  intro A w z
  rw [qy (by intro c h;cases h)]
  have:=z6o (P:=P) (b:=b) (off:=off+lo*T.size) (c:=capOf v-lo) (k:=k) (w:=w) d.u d.e.size o
  simp [execOp,j,hi',r,this]
 exact hval.eff.mono fun v' R' O' _ ⟨a,_,c⟩=>by subst a;exact⟨c,b,off,q,by rw [Nat.add_mul,Nat.add_assoc]⟩
theorem zgb{at':Array TypeId}{s lo hi:Nat}(a:at'[0]? =some t)(b:P.underlying t=some (.slice e))(c:ev l x=z7y s v lo hi)(d:ORep T R f v X):Val P ρ ⟨dst,.call ⟨.builtin .len,#[x],at'⟩,ty,pos,after,g⟩ l R O (.int .i64 ((hi-lo:Nat):Int)):=by
 obtain⟨p,h,_⟩:=z2x d
 exact zhr a b (c.trans (by rw [h];rfl))
theorem zgk{w w':World}{r u:Value}(a:ev l x=u)(h:(Builtin.clear_ #[t] ty #[u]).run P w= .ok r w'):
 ((⟨dst,.call ⟨.builtin .clear,#[x],#[t]⟩,ty,pos,after,g⟩:Oper).semAt ρ (ev l)).run P w= .ok (.value r) w':=by
 rw [qy (by intro c h;cases h)]
 simp [execOp,resolve,invoke,builtin,a,h]
theorem zeo{lo hi bytes:Nat}{z:α}(d:T.size=1)(G:P.underlying t=some (.slice e))(K:ZeroOk P e T z bytes)(h:ORep T R f v X)(a1:lo≤hi)(L:hi≤X.length)(s:ev l x=z7y 1 v lo hi):
 Eff P ρ ⟨dst,.call ⟨.builtin .clear,#[x],#[t]⟩,ty,pos,after,g⟩ l R ([f]++O) (fun v' R' O'=> ∃ Oc,O'=Oc++O∧R'=R∧ ∃ f',Oc=[f']∧v'= .tuple #[]∧ORep T R f' v (z5w X lo (List.replicate (hi-lo) z))):=by
 intro A w u
 obtain⟨p,M,hcap⟩:=z2x h
 by_cases hm:hi-lo=0
 ·have hrun:(Builtin.clear_ #[t] ty #[z7y 1 v lo hi]).run P w= .ok (.tuple #[]) w:=by
   rw [M]
   simp only [z7y,hm]
   generalize (if capOf v=lo then p else p.map fun a=>a.add (lo*1))=q
   cases q<;>simp [Builtin.clear_,run_underlying G]
  rw [zgk s hrun]
  refine⟨R,_,RH.le.refl _,u,_,rfl,rfl,f,rfl,rfl,?_⟩
  rw [hm]
  simpa [z5w] using h
 ·rcases h with⟨rfl,rfl,_⟩|⟨b,pre,cs,cap,bt,rfl,rfl,N,k,B,C⟩
  ·simp at L;omega
  rw [d,Nat.mul_one] at k
  have hblk:w.heap[b]? =some (.cells (pre++cs).toArray bt (0,0)):=z1d u (i:=0) rfl (wm _ _)
  obtain⟨iv,zv,H,I,h3,_,D⟩:=K.info
  have E:zv.cells.toList.length=1:=by rw [T.len (D R)];exact d
  obtain⟨c,j⟩: ∃ c,zv.cells.toList=[c]:=List.length_eq_one_iff.1 E
  have hc0':zv.cells= #[c]:=by rw [←Array.toList_inj];simpa using j
  have n:c.oneCell'=true:=T.cell (D R) c (by rw [j];simp)
  have Q:z7y 1 (.slice (some ⟨b,pre.length,none⟩) X.length cap) lo hi= .slice (some ⟨b,pre.length+lo,none⟩) (hi-lo) (cap-lo):=by
   simp only [z7y];rw [if_neg (by omega)];simp [addr_add,Nat.mul_one]
  have o:(Builtin.zeroCells zv.cells (hi-lo)).toList=List.replicate (hi-lo) c:=by
   rw [hc0']
   simp only [Builtin.zeroCells,List.size_toArray,List.length_singleton,Nat.mul_one]
   apply List.ext_getElem
   ·simp
   ·intro i H I
    simp [Nat.mod_one]
  obtain⟨w',J,g2,S,U,V⟩:=z4b (P:=P) (List.replicate (hi-lo) c) (pre++cs) (pre.length+lo) 0 w hblk (by simp only [List.length_replicate,List.length_append];omega) (fun q F=>by rw [List.eq_of_mem_replicate F];exact n)
  have hrun:(Builtin.clear_ #[t] ty #[.slice (some ⟨b,pre.length+lo,none⟩) (hi-lo) (cap-lo)]).run P w= .ok (.tuple #[]) w':=by
   obtain⟨m,hm'⟩: ∃ m,hi-lo=m+1:=⟨hi-lo-1,by omega⟩
   rw [hm'] at o J⊢
   simp [Builtin.clear_,run_underlying G,zeroValue,typeInfo,H,I,o,J]
  rw [zgk (s.trans Q) hrun]
  refine⟨R,[box b (pre++over cs lo (List.replicate (hi-lo) c)) bt]++O,RH.le.refl _,?_,_,rfl,rfl,_,rfl,rfl,?_⟩
  ·have W:(pre++over cs lo (List.replicate (hi-lo) c))=over (pre++cs) (pre.length+lo) (List.replicate (hi-lo) c):=over_pre.symm
   rw [W]
   have:=z5r (i:=0) u rfl g2 S U V trivial
   exact this
  ·refine zp0 d N k B (fun i hi x s=>?_) (by simp only [List.length_replicate];omega) (by simp) (fun i hi y Y=>?_) (fun q F=>by rw [List.eq_of_mem_replicate F];exact n)
   ·have:=C i x s
    rwa [d,Nat.mul_one,take1 hi] at this
   ·have hy':=List.getElem?_eq_some_iff.1 Y
    obtain⟨Z,r⟩:=hy'
    rw [List.getElem_replicate] at r⊢
    subst r
    have:=D R
    rwa [j] at this
theorem znt{f:FuncId}{c:Operand}{args:List Operand}{at':Array TypeId}{cs vs:List Value}{ψ:Value→Prop}(y: ∀ (R R':RH) (f:Frag) (v:Value) (X:List α),ORep T R f v X→ORep T R' f v X)
 (z:Enters P f) (B:ev l c= .func (.func f) #[] cs.toArray) (C:args.map (ev l)=vs)
 (h: ∀ r,RH.le R r→(∀ f∈O,∀ k o,f k=some o→r.blk k=some o)→CallG P f (vs++cs).toArray r [] fun u R' O'=> ∃ i,O'=[i]∧ORep T R' i u X∧ψ u):
 Eff P ρ ⟨dst,.call ⟨.value c,args.toArray,at'⟩,ty,pos,after,g⟩ l R O (fun v R' O'=>R'=R∧ ∃ i,O'=i::O∧ORep T R i v X∧ψ v):=by
 intro A w q;rw [qy (by intro c h;cases h),zd4 z B (z5v C)]
 obtain⟨D,s⟩:=zfm q
 have E:=h (R.lend O) (RH.le_lend _ _) s A w D
 rw [show (#[]++vs.toArray++cs.toArray:Array Value)=(vs++cs).toArray from by simp]
 refine Calls.mono E ?_
 rintro e w' ⟨v,rfl,R',O',d,hh',i,rfl,F,hψ⟩
 have p:RH.le R R':=(RH.le_lend R O).trans d
 refine⟨v,rfl,R,i::O,RH.le.refl _,?_,rfl,i,rfl,y _ _ _ _ _ F,hψ⟩
 have t:=hh'.own i (List.mem_append.2 (.inl (List.mem_singleton.2 rfl)))
 refine⟨fun k o j=>hh'.ro k o (p.blk k o j),fun f n k o j=>?_,?_,by have:=hh'.os;rw [d.os] at this;exact this,hh'.out.trans d.out⟩
 ·rw [List.cons_append] at n
  rcases List.mem_cons.1 n with rfl|n
  ·obtain⟨a,b⟩:=t k o j
   refine⟨a,?_⟩
   cases hR:R.blk k with
   |none=>rfl
   |some x=>rw [p.blk k x hR] at b;cases b
  ·rcases List.mem_append.1 n with m|m
   ·exact⟨hh'.ro k o (d.blk k o (s f m k o j)),(q.own f (List.mem_append.2 (.inl m)) k o j).2⟩
   ·exact⟨(hh'.own f (List.mem_append.2 (.inr m)) k o j).1,(q.own f (List.mem_append.2 (.inr m)) k o j).2⟩
 ·rw [List.cons_append]
  refine List.pairwise_cons.2 ⟨fun f n k=>?_,q.sep⟩
  rcases List.mem_append.1 n with m|m
  ·cases j:f k with
   |none=>exact .inr rfl
   |some o=>
    left
    cases hk0:i k with
    |none=>rfl
    |some o'=>have:=(t k o' hk0).2;rw [d.blk k o (s f m k o j)] at this;cases this
  ·exact(List.pairwise_cons.1 hh'.sep).1 f m k
theorem zrb{n:Nat}{Q:Po}{D:List Nat}{ops:Array Oper}{rest:List Oper}{d:Nat}{f:FuncId}{c:Operand}{args:List Operand}{at':Array TypeId}{cs vs:List Value}{ψ:Value→Prop}
 (e: ∀ (R R':RH) (f:Frag) (v:Value) (X:List α),ORep T R f v X→ORep T R' f v X) (hd:Nat.blt d n=true) (g:Enters P f) (i:ev l c= .func (.func f) #[] cs.toArray) (j:args.map (ev l)=vs)
 (h: ∀ b,RH.le R b→(∀ f∈O,∀ k o,f k=some o→b.blk k=some o)→CallG P f (vs++cs).toArray b [] fun u R' O'=> ∃ a,O'=[a]∧ORep T R' a u X∧ψ u)
 (m: ∀ v a,ORep T R a v X→ψ v→wo P ρ n ops Q rest (upd l d v) D R (a::O)):wo P ρ n ops Q (⟨some d,.call ⟨.value c,args.toArray,at'⟩,ty,pos,after,none⟩::rest) l D R O:=by
 refine zfq rfl (fun t p=>by cases p;simpa using hd) (znt e g i j h) ?_
 rintro v R' O' _ ⟨rfl,a,rfl,q,r⟩
 exact m v a q r
end a
end GV
end Go.Proofs.Ytjmlpkkbmnjhcaa

namespace Go.Proofs.Ytjmlpkkbmnjhcaa
namespace GV
abbrev okSh (k:IntKind) (y:Int):Prop:=0≤y∧y≤(k.bits:Int)
abbrev okB (k:IntKind) (x y:Int):Prop:=(0≤x∧x≤k.max)∧0≤y∧y≤k.max
def mq(k:IntKind)(x y:Int):Int:=k.wrap (x*2^y.toNat)
def zo(x y:Int):Int:=x.fdiv (2^y.toNat)
def zb(x y:Int):Int:=((x.toNat&&&y.toNat:Nat):Int)
def ior(x y:Int):Int:=((x.toNat|||y.toNat:Nat):Int)
def ig(x y:Int):Int:=((x.toNat^^^y.toNat:Nat):Int)
theorem zj9(k:IntKind): ∃ m:Nat,k.max=((2^m:Nat):Int)-1∧m≤k.bits:=by
 cases k
 ·exact⟨7,by decide,by decide⟩
 ·exact⟨15,by decide,by decide⟩
 ·exact⟨31,by decide,by decide⟩
 ·exact⟨63,by decide,by decide⟩
 ·exact⟨8,by decide,by decide⟩
 ·exact⟨16,by decide,by decide⟩
 ·exact⟨32,by decide,by decide⟩
 ·exact⟨64,by decide,by decide⟩
theorem z2w(k:IntKind){r:Int}(a:0≤r)(h:r≤k.max):k.wrap r=r:=by
 cases k<;>simp [IntKind.wrap,IntKind.max,IntKind.signed,IntKind.bits] at* <;>omega
theorem zvg{b:Nat}{x:Int}(a:0≤x)(c:x<((2^b:Nat):Int)):(BitVec.ofInt b x).toNat=x.toNat:=by
 rw [BitVec.toNat_ofInt,Int.emod_eq_of_lt a c]
theorem zcq{k:IntKind}{x:Int}(h:0≤x∧x≤k.max):(BitVec.ofInt k.bits x).toNat=x.toNat:=by
 obtain⟨m,b,a⟩:=zj9 k
 have c:((2^m:Nat):Int)≤((2^k.bits:Nat):Int):=by exact_mod_cast Nat.pow_le_pow_right (by decide) a
 exact zvg h.1 (by omega)
theorem zhb{k:IntKind}{x y:Int}{f:Nat→Nat→Nat}(c: ∀ n a b,a<2^n→b<2^n→f a b<2^n)(h:okB k x y):((f x.toNat y.toNat:Nat):Int)≤k.max:=by
 obtain⟨m,d,e⟩:=zj9 k
 obtain⟨⟨g,i⟩,j,l⟩:=h
 have:=c m x.toNat y.toNat (by omega) (by omega)
 omega
section a
variable {P : Program} {ρ : Option Nat} {l : Nat → Value} {R : RH} {O : List Frag} {ty : TypeId} {pos : String} {after : Array Go.Edge} {dst : Option Tmp} {g : Option (Nat × Bool)}
theorem zew{op:BinOp}{k:IntKind}{t t':TypeId}{x y:Operand}{m n r:Int}(a:ev l x= .int k m)(b:ev l y= .int k n)(h: ∀ w,(Op.intBits op k m n).run P w= .ok (.int k r) w)(d:op= .and∨op= .or∨op= .xor):
 Val P ρ ⟨dst,.binOp op t x y t',ty,pos,after,g⟩ l R O (.int k r):=by
 intro A w _;rw [qy (by intro c h;cases h)]
 refine rq a b ?_
 rcases d with rfl|rfl|rfl
 all_goals
  show (if k≠k then _ else Op.intBits _ k m n:Sem Value).run P w=_
  rw [if_neg (by simp)]
  exact h w
theorem z2r{k:IntKind}{t t':TypeId}{x y:Operand}{m n:Int}(c:ev l x= .int k m)(d:ev l y= .int k n)(h:okB k m n):Val P ρ ⟨dst,.binOp .and t x y t',ty,pos,after,g⟩ l R O (.int k (zb m n)):=
 zew c d (fun w=>by
  show Result.ok (Value.int k (k.wrap ((BitVec.ofInt k.bits m&&&BitVec.ofInt k.bits n).toNat:Nat))) w=_
  rw [BitVec.toNat_and,zcq h.1,zcq h.2,z2w k (Int.natCast_nonneg _) (zhb (f:=fun a b=>a&&&b) (fun n a b h _=>Nat.lt_of_le_of_lt Nat.and_le_left h) h)];rfl) (.inl rfl)
theorem znc{k:IntKind}{t t':TypeId}{x y:Operand}{m n:Int}(c:ev l x= .int k m)(d:ev l y= .int k n)(h:okB k m n):Val P ρ ⟨dst,.binOp .or t x y t',ty,pos,after,g⟩ l R O (.int k (ior m n)):=
 zew c d (fun w=>by
  show Result.ok (Value.int k (k.wrap ((BitVec.ofInt k.bits m|||BitVec.ofInt k.bits n).toNat:Nat))) w=_
  rw [BitVec.toNat_or,zcq h.1,zcq h.2,z2w k (Int.natCast_nonneg _) (zhb (f:=fun a b=>a|||b) (fun n a b e i=>Nat.or_lt_two_pow e i) h)];rfl) (.inr (.inl rfl))
theorem ze9{k:IntKind}{t t':TypeId}{x y:Operand}{m n:Int}(c:ev l x= .int k m)(d:ev l y= .int k n)(h:okB k m n):Val P ρ ⟨dst,.binOp .xor t x y t',ty,pos,after,g⟩ l R O (.int k (ig m n)):=
 zew c d (fun w=>by
  show Result.ok (Value.int k (k.wrap ((BitVec.ofInt k.bits m^^^BitVec.ofInt k.bits n).toNat:Nat))) w=_
  rw [BitVec.toNat_xor,zcq h.1,zcq h.2,z2w k (Int.natCast_nonneg _) (zhb (f:=fun a b=>a^^^b) (fun n a b e i=>Nat.xor_lt_two_pow e i) h)];rfl) (.inr (.inr rfl))
theorem zg7{w:World}{op:BinOp}{t t':TypeId}{x y:Operand}{k yk:IntKind}{m n:Int}{v:Value}(d:ev l x= .int k m)(e:ev l y= .int yk n)(f:op= .shl∨op= .shr)
 (a:(Op.shift op k m yk n).run P w= .ok v w):(execOp (ev l) (⟨dst,.binOp op t x y t',ty,pos,after,g⟩:Oper)).run P w= .ok (.value v) w:=by
 rcases f with rfl|rfl
 ·have b:(eqGuard .shl t x y (.int k m) (.int yk n)).run P w= .ok () w:=rfl
  have c:(binOp .shl t (.int k m) (.int yk n)).run P w= .ok v w:=a
  simp only [execOp,d,e,Sem.run_bind,b,Result.andThen_ok,c]
  rfl
 ·have b:(eqGuard .shr t x y (.int k m) (.int yk n)).run P w= .ok () w:=rfl
  have c:(binOp .shr t (.int k m) (.int yk n)).run P w= .ok v w:=a
  simp only [execOp,d,e,Sem.run_bind,b,Result.andThen_ok,c]
  rfl
theorem zq5{k:IntKind}{n:Int}(h:okSh k n):min n.toNat k.bits=n.toNat:=by
 obtain⟨a,b⟩:=h;omega
theorem z8v{k yk:IntKind}{t t':TypeId}{x y:Operand}{m n:Int}(a:ev l x= .int k m)(b:ev l y= .int yk n)(h:okSh k n):Val P ρ ⟨dst,.binOp .shl t x y t',ty,pos,after,g⟩ l R O (.int k (mq k m n)):=by
 intro A w _;rw [qy (by intro c h;cases h)]
 refine zg7 a b (.inl rfl) ?_
 have d:=h.1
 simp only [Op.shift]
 rw [if_neg (by omega),zq5 h];rfl
theorem z1n{k yk:IntKind}{t t':TypeId}{x y:Operand}{m n:Int}(a:ev l x= .int k m)(b:ev l y= .int yk n)(h:okSh k n):Val P ρ ⟨dst,.binOp .shr t x y t',ty,pos,after,g⟩ l R O (.int k (zo m n)):=by
 intro A w _;rw [qy (by intro c h;cases h)]
 refine zg7 a b (.inr rfl) ?_
 have d:=h.1
 simp only [Op.shift]
 rw [if_neg (by omega),zq5 h];rfl
theorem zb6{t:TypeId}{x y:Operand}{s:ByteArray}{k:IntKind}{i:Nat}{L:List Int}(a:P.underlying t=some .string)(d:ev l x= .string s)(e:s.data.toList.map (fun b=>(b.toNat:Int))=L)(f:ev l y= .int k i)(hi:i<L.length):
 Val P ρ ⟨dst,.index t x y,ty,pos,after,g⟩ l R O (.int .u8 (L.getD i default)):=by
 intro A w _;rw [qy (by intro c h;cases h)]
 subst e
 rw [List.length_map] at hi
 have hi':i<s.data.size:=by simpa using hi
 have j:s[i]? =some s.data[i]:=by
  have:i<s.size:=hi'
  rw [getElem?_pos s i this];rfl
 have hd:(s.data.toList.map (fun b=>(b.toNat:Int))).getD i default=(s.data[i].toNat:Int):=by
  rw [List.getD_eq_getElem?_getD,List.getElem?_map,List.getElem?_eq_getElem hi];simp
 rw [hd]
 simp [execOp,d,f,Instr.index,asIntOf,underlying,a,j]
end a
end GV
end Go.Proofs.Ytjmlpkkbmnjhcaa

namespace Go.Proofs.Ytjmlpkkbmnjhcaa
namespace GV
def fw(l:List UInt8):Value:= .string ⟨l.toArray⟩
def zsw:Ty (List UInt8) where
 size:=1
 agg:=false
 rep _ cs x:=cs=[fw x]
 len h:=by rw [h];rfl
 mono _ h:=h
 one _:=rfl
 cell h:=by rw [h];intro v hv;simp at hv;subst hv;rfl
theorem z3r{R:RH}{v:Value}{x:List UInt8}:VRep zsw R v x↔v=fw x:=
 ⟨fun⟨_,h,e⟩=>by cases h;exact e,fun h=>⟨_,rfl,h⟩⟩
def z81(l:List Int):List UInt8:=l.map fun n=>UInt8.ofNat n.toNat
theorem zqf{a b:List UInt8}(h:fw a=fw b):a=b:=by
 unfold fw at h
 injection h with h
 injection h with h
 simpa using congrArg Array.toList h
theorem zd9{β:Type}{k:List UInt8}{ve:β→Value}: ∀ (es:List MapEntry) (M:List (List UInt8×β)) (i:Nat),es.map zdb=M.map (fun p=>(fw p.1,ve p.2))→
 Instr.findNow .string (fw k) es i=some ((z6v M k i).map fun p=>(p.1,ve p.2))
 | [],[],i,_=>rfl
 | [],_::_,_,h=>by simp at h
 |_::_,[],_,h=>by simp at h
 |e::es,p::M,i,h=>by
  simp only [List.map_cons,List.cons.injEq,zdb,Prod.mk.injEq] at h
  obtain⟨⟨c,f⟩,g⟩:=h
  obtain⟨r,j,hiff⟩:=MapKept.sameNow_of_keys (d:= .string) (a:=fw k) (b:=fw p.1) trivial trivial
  unfold Instr.findNow
  rw [c,j]
  unfold z6v
  by_cases hk:k=p.1
  ·have:r=true:=hiff.2 (by rw [hk])
   rw [this];simp [hk,f]
  ·have:r=false:=by
    cases r
    ·rfl
    ·exact absurd (zqf (hiff.1 rfl)) hk
   rw [this]
   simp only [if_neg hk]
   exact zd9 es M (i+1) g
theorem zrw{P:Program}{kt:TypeId}(a:P.underlying kt=some .string):KOk P kt fw where
 check b k w:=MapKept.run_checkKey a (k:=fw k) trivial b 9999
 find k es M ve w h:=MapKept.run_findKey a (zd9 es M 0 h)
 same k:=MapKept.sameBits_self (d:= .string) (k:=fw k) trivial 10000
theorem zl8(ns:List Int): ∀ (l:List UInt8),ns.foldl (fun(r:ByteArray) n=>r.push (UInt8.ofNat n.toNat)) ⟨l.toArray⟩=⟨(l++z81 ns).toArray⟩:=by
 induction ns with
 |nil=>intro l;simp [z81]
 |cons n ns ih=>
  intro l
  rw [List.foldl_cons]
  have e:(⟨l.toArray⟩:ByteArray).push (UInt8.ofNat n.toNat)=⟨(l++[UInt8.ofNat n.toNat]).toArray⟩:=by
   show (⟨l.toArray.push (UInt8.ofNat n.toNat)⟩:ByteArray)=_
   rw [List.push_toArray]
  rw [e,ih]
  simp [z81]
theorem zrl{R:RH}: ∀ {X:List Int} {cs:List Value},Seq (qa .u8) R cs X→cs=X.map (Value.int .u8)
 | [],cs,h=>by
  obtain⟨css,rfl,a,_⟩:=h
  rw [List.eq_nil_of_length_eq_zero a];rfl
 |x::X,cs,h=>by
  obtain⟨css,rfl,a,b⟩:=h
  match css,a,b with
  |c::css,a,b=>
   have d:c=[Value.int .u8 x]:=b 0 c x rfl rfl
   have e:=zrl (R:=R) (X:=X) (cs:=css.flatten) ⟨css,rfl,by simpa using a,fun i c' x' f g=>b (i+1) c' x' (by simpa using f) (by simpa using g)⟩
   rw [List.flatten_cons,d,e];rfl
section a
variable {P : Program} {ρ : Option Nat} {l : Nat → Value} {R : RH} {O : List Frag} {dst : Option Tmp} {ty : TypeId} {pos : String} {after : Array Go.Edge} {g : Option (Nat × Bool)}
theorem zm0{src dt e:TypeId}{x:Operand}{v:Value}{X:List Int}(f:P.underlying src=some (.slice e))(i:P.underlying e=some (.int .u8))(hd:P.underlying dt=some .string)(j:ev l x=v)(k:VRep (vw (qa .u8)) R v X):
 Val P ρ ⟨dst,.convert src dt x,ty,pos,after,g⟩ l R O (fw (z81 X)):=by
 intro A w m;rw [qy (by intro c h;cases h)]
 obtain⟨cs,p,n,rfl,hseq,hload⟩:=z8r k
 have b:=zrl hseq
 subst b
 have d:=hload w m.ro
 simp only [execOp,j,Sem.run_bind,run_convert_bytes_string w src dt e p X.length n f i hd]
 cases p with
 |none=>
  have o:X=[]:=by
   simp only [Builtin.firstCells,Sem.run_pure] at d
   injection d with q s
   have:=congrArg Array.toList q
   simpa using this.symm
  subst o
  simp [Conv.bytesToString,Sem.run_pure,Result.andThen_ok];rfl
 |some a=>
  have hl':(loadCells a X.length).run P w= .ok (X.map (Value.int .u8)).toArray w:=by
   have:=d
   simp only [Builtin.firstCells] at this
   rwa [show X.length*(qa .u8).size=X.length from Nat.mul_one _] at this
  rw [run_bytesToString w a X.length n X hl',Result.andThen_ok]
  have:=zl8 X []
  simp only [Sem.run_pure]
  show Result.ok (Next.value (.string (X.foldl (fun r n=>r.push (UInt8.ofNat n.toNat)) ⟨[].toArray⟩))) w=_
  rw [this];rfl
theorem zjh{n i:Nat}{X:Arr n Int}{k kk:IntKind}{t e:TypeId}{x y:Operand}(b:P.underlying t=some (.array n e))(d: ∀ w,(sizeOf e).run P w= .ok 1 w)(f: ∀ w,(isAgg e).run P w= .ok false w)(j:ev l x= .agg (z3e (fun x:Int=>[Value.int k x]) X).toArray)(m:ev l y= .int kk i)(hi:i<n):
 Val P ρ ⟨dst,.index t x y,ty,pos,after,g⟩ l R O (.int k (X.1.getD i default)):=by
 intro A w _;rw [qy (by intro c h;cases h)]
 have a:=zl9 (cl:=fun x:Int=>[Value.int k x]) (X:=X) (i:=i) (sz:=1) (fun _=>rfl) hi
 have p:=zcz (cl:=fun x:Int=>[Value.int k x]) (sz:=1) (fun _=>rfl) X
 have o:(z3e (fun x:Int=>[Value.int k x]) X)[i]? =some (.int k (X.1.getD i default)):=by
  rw [Nat.mul_one] at a
  have:=congrArg (·[0]?) a
  simpa [List.getElem?_take,List.getElem?_drop] using this
 simp [execOp,j,m,Instr.index,asIntOf,underlying,b,part,d,f,o]
 exact fun h=>absurd hi (Nat.not_lt.2 h)
end a
end GV
end Go.Proofs.Ytjmlpkkbmnjhcaa
