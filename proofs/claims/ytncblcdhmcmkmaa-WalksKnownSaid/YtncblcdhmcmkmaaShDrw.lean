
import Derived.Test.YtncblcdhmcmkmaaShMap
import Derived.Shelf.Sort.Plain
import Derived.Shelf.Bits.Mul64
import Derived.Laws.CopyRow
import Derived.Laws.IdiomCopy
import Derived.Laws.StructEq
import Derived.ChangeKeysEq
import Derived.WideKeyRuns
set_option linter.unusedVariables false
set_option linter.unusedSimpArgs false
namespace Go.Proofs.Ytncblcdhmcmkmaa
namespace GV
/-! ### The plain form-/
def znx(x:Int):List Int→List Int
 | []=>[x]
 |y::l=>if x≤y then x::y::l else y::znx x l
def z2o:List Int→List Int
 | []=>[]
 |x::l=>znx x (z2o l)
theorem zgq(x:Int)(l:List Int):(znx x l).Perm (x::l):=by
 induction l with
 |nil=>exact .refl _
 |cons y l ih=>
  unfold znx
  split
  ·exact .refl _
  ·exact((ih.cons y).trans (.swap x y l))
theorem zb5(l:List Int):(z2o l).Perm l:=by
 induction l with
 |nil=>exact .refl _
 |cons x l ih=>exact(zgq x _).trans (ih.cons x)
theorem zis{x:Int}{l:List Int}(h:l.Pairwise (· ≤ ·)):(znx x l).Pairwise (· ≤ ·):=by
 induction l with
 |nil=>exact List.pairwise_singleton _ _
 |cons y l ih=>
  obtain⟨b,c⟩:=List.pairwise_cons.1 h
  unfold znx
  split
  ·rename_i hx
   refine List.pairwise_cons.2 ⟨fun z a=>?_,h⟩
   rcases List.mem_cons.1 a with rfl|a
   ·exact hx
   ·exact Int.le_trans hx (b z a)
  ·rename_i hx
   refine List.pairwise_cons.2 ⟨fun z a=>?_,ih c⟩
   rcases List.mem_cons.1 ((zgq x l).mem_iff.1 a) with rfl|a
   ·omega
   ·exact b z a
theorem zbq(l:List Int):(z2o l).Pairwise (· ≤ ·):=by
 induction l with
 |nil=>exact .nil
 |cons x l ih=>exact zis ih
theorem z6n: ∀ {l l':List Int},l.Perm l'→l.Pairwise (· ≤ ·)→l'.Pairwise (· ≤ ·)→l=l'
 | [],l',c,_,_=>(List.nil_perm.1 c).symm
 |x::l,l',c,h,h'=>by
  cases l' with
  |nil=>exact absurd c.symm (by simp)
  |cons y l'=>
   obtain⟨f,g⟩:=List.pairwise_cons.1 h
   obtain⟨i,j⟩:=List.pairwise_cons.1 h'
   have d:x=y:=by
    have a:x∈y::l':=c.mem_iff.1 (List.mem_cons_self ..)
    have b:y∈x::l:=c.mem_iff.2 (List.mem_cons_self ..)
    rcases List.mem_cons.1 a with e|a
    ·exact e
    ·rcases List.mem_cons.1 b with e|b
     ·exact e.symm
     ·have:=i x a;have:=f y b;omega
   subst d
   rw [z6n ((List.perm_cons x).1 c) g j]
theorem zdn(l:List Int):(l.mergeSort fun x y=>decide (x≤y))=z2o l:=by
 refine z6n ((List.mergeSort_perm l _).trans (zb5 l).symm) ?_ (zbq l)
 have:=List.pairwise_mergeSort (le:=fun(x y:Int)=>decide (x≤y)) (fun a b c d e=>by simp at*;omega) (fun a b=>by simp;omega) l
 exact this.imp fun h=>by simpa using h
theorem z5x(l:List Int):(z2o l).length=l.length:=(zb5 l).length_eq
/-! ### New blocks behind all-/
theorem holds_grow{R:RH}{O:List Frag}{w:World}{os:Array Obj}(h:Holds R O w):Holds R O (Go.Sort.grow w os):=by
 have up: ∀ (k:Nat) (o:Obj),w.heap[k]? =some o→(Go.Sort.grow w os).heap[k]? =some o:=by
  intro k o a
  have b:=(Array.getElem?_eq_some_iff.1 a).1
  show (w.heap++os)[k]? =some o
  rw [Array.getElem?_append_left b];exact a
 exact⟨fun k o a=>up k o (h.ro k o a),fun f c k o a=>⟨up k o (h.own f c k o a).1,(h.own f c k o a).2⟩,h.sep,⟨h.os.1,fun _ _ _ _=>trivial⟩,h.out⟩
theorem zfn(pre cs:List Value)(d:List Int)(h:d.length≤cs.length):
 (Go.Sort.putCells (Value.int .i64) pre.length d.toArray (pre++cs).toArray).toList=pre++(d.map (Value.int .i64)++cs.drop d.length):=by
 apply List.ext_getElem?
 intro k
 unfold Go.Sort.putCells
 rw [Array.getElem?_toList,Array.getElem?_mapIdx]
 simp only [List.size_toArray,List.getElem?_toArray]
 by_cases h1:k<pre.length
 ·rw [List.getElem?_append_left h1,List.getElem?_append_left h1]
  rw [List.getElem?_eq_getElem h1]
  simp only [Option.map_some]
  rw [if_neg (by omega)]
 ·rw [List.getElem?_append_right (by omega),List.getElem?_append_right (by omega)]
  by_cases h2:k<pre.length+d.length
  ·rw [List.getElem?_append_left (by rw [List.length_map];omega),List.getElem?_map]
   have b:k-pre.length<cs.length:=by omega
   have a:k-pre.length<d.length:=by omega
   rw [List.getElem?_eq_getElem b,List.getElem?_eq_getElem a]
   simp only [Option.map_some]
   rw [if_pos (by omega)]
   simp [a]
  ·rw [List.getElem?_append_right (by rw [List.length_map];omega),List.getElem?_drop,List.length_map]
   rw [show d.length+(k-pre.length-d.length)=k-pre.length by omega]
   cases cs[k-pre.length]? with
   |none=>rfl
   |some v=>
    simp only [Option.map_some]
    rw [if_neg (by omega)]
theorem zk3{P:Program}{ρ:Shelf.Ren}(Ly:Go.Proofs.Lays.n189 P ρ){R:RH}{f:Frag}{v:Value}{X:List Int}(h:ORep (zw .i64) R f v X)(s:0<X.length∧X.length<4611686018427387904):
 CallG P (ρ.f 189) #[v] R [f] (fun u R' O'=> ∃ g,u= .tuple #[]∧O'=[g]∧ORep (zw .i64) R' g v (z2o X)):=by
 rcases h with⟨rfl,rfl,rfl⟩|⟨b,pre,cs,cap,bt,rfl,rfl,z,m,c,o⟩
 ·simp at s
 intro A w t
 have hcl':cap≤cs.length:=by simpa [zw] using m
 have hblk:w.heap[b]? =some (.cells (pre++cs).toArray bt (0,0)):=z1h t (i:=0) rfl (ul _ _)
 have p:b<w.heap.size:=(Array.getElem?_eq_some_iff.1 hblk).1
 have hcell: ∀ j (l:j<X.length),cs[j]? =some (.int .i64 X[j]):=by
  intro j l
  have:=o j X[j] (List.getElem?_eq_getElem l)
  have d:j<cs.length:=by omega
  simp only [zw,Nat.mul_one] at this
  rw [List.getElem?_eq_getElem d]
  have e:(cs.drop j).take 1=[cs[j]]:=by rw [List.drop_eq_getElem_cons d];rfl
  rw [e] at this
  simpa using this
 have B:Go.Sort.Holds (Value.int .i64) w b pre.length X.toArray:=by
  intro j l
  have hj':j<X.length:=by simpa using l
  refine⟨?_,zan hblk⟩
  rw [cell_of_block hblk]
  simp only [List.getElem?_toArray]
  rw [List.getElem?_append_right (by omega),Nat.add_sub_cancel_left,hcell j hj']
  simp [hj']
 refine Calls.mono (Any.slices_Sort_int Ly b pre.length cap X w B p s.2) ?_
 rintro e w' ⟨rfl,n,os,rfl⟩
 rw [zdn]
 have q:(z2o X).length≤cs.length:=by rw [z5x];omega
 have hnew:(Go.Sort.putRow (Value.int .i64) (Go.Sort.ahead w n) b pre.length (z2o X).toArray).heap[b]? =some (.cells (pre++((z2o X).map (Value.int .i64)++cs.drop (z2o X).length)).toArray bt (0,0)):=by
  simp only [Go.Sort.putRow,Go.Sort.mapBlock,Go.Sort.ahead,Array.getElem?_modify,hblk,if_true,Option.map_some,Go.Sort.onCells]
  rw [←zfn pre cs (z2o X) q,Array.toArray_toList]
 have hother: ∀ k,k≠b→(Go.Sort.putRow (Value.int .i64) (Go.Sort.ahead w n) b pre.length (z2o X).toArray).heap[k]? =w.heap[k]? :=by
  intro k C
  simp [Go.Sort.putRow,Go.Sort.mapBlock,Go.Sort.ahead,Array.getElem?_modify,Ne.symm C]
 have D:=z5y (i:=0) t rfl hnew hother rfl rfl trivial
 refine⟨_,rfl,R,[single b (.cells (pre++((z2o X).map (Value.int .i64)++cs.drop (z2o X).length)).toArray bt (0,0))],RH.le.refl _,holds_grow D,_,rfl,rfl,.inr ⟨b,pre,(z2o X).map (Value.int .i64)++cs.drop (z2o X).length,cap,bt,by rw [z5x],rfl,by rw [z5x];exact z,?_,?_,?_⟩⟩
 ·simp only [zw,Nat.mul_one,List.length_append,List.length_map,List.length_drop];omega
 ·intro x a
  rcases List.mem_append.1 a with a|a
  ·exact c x (List.mem_append.2 (.inl a))
  ·rcases List.mem_append.1 a with a|a
   ·obtain⟨y,_,rfl⟩:=List.mem_map.1 a;rfl
   ·exact c x (List.mem_append.2 (.inr (List.mem_of_mem_drop a)))
 ·intro i x hi
  have r:=(List.getElem?_eq_some_iff.1 hi).1
  simp only [zw,Nat.mul_one]
  have:((z2o X).map (Value.int .i64)++cs.drop (z2o X).length)[i]? =some (.int .i64 x):=by
   rw [List.getElem?_append_left (by rw [List.length_map];exact r),List.getElem?_map,hi];rfl
  obtain⟨E,F⟩:=List.getElem?_eq_some_iff.1 this
  rw [List.drop_eq_getElem_cons E,F];rfl
end GV
end Go.Proofs.Ytncblcdhmcmkmaa

namespace Go.Proofs.Ytncblcdhmcmkmaa
namespace GV
def ze0(sz:Nat)(v:Value)(lo hi:Nat):Value:=
 match v with
 | .slice p _ c=> .slice (if c=lo then p else p.map (·.add (lo*sz))) (hi-lo) (c-lo)
 |v=>v
def z4p{α:Type}(X:List α)(lo:Nat)(Y:List α):List α:=X.take lo++Y++X.drop (lo+Y.length)
theorem zcq{α:Type}{X Y:List α}{lo:Nat}(h:lo+Y.length≤X.length):(z4p X lo Y).length=X.length:=by
 simp only [z4p,List.length_append,List.length_take,List.length_drop];omega
section c
variable {P : Program} {ρ : Option Nat} {l : Nat → Value} {R : RH} {O : List Frag} {ty : TypeId} {pos : String} {after : Array Go.Edge} {dst : Option Tmp} {g : Option (Nat × Bool)}
variable {α : Type} {T : Ty α} {X Y : List α} {v u : Value} {x y : Operand} {f : Frag} {t e : TypeId}
theorem zic{lo hi:Nat}{xlo xhi:Option Operand}(d:SlOk P t e T)(j:ev l x=v)(m:ORep T R f v X)
 (a:xlo.map (ev l)=none∧lo=0∨ ∃ k,xlo.map (ev l)=some (.int k lo)) (b:xhi.map (ev l)=none∧hi=X.length∧(none:Option Operand)=none∨ ∃ k,xhi.map (ev l)=some (.int k hi)) (n:lo≤hi) (o:hi≤X.length):
 Val P ρ ⟨dst,.slice t x xlo xhi none,ty,pos,after,g⟩ l R O (ze0 T.size v lo hi):=by
 obtain⟨p,i,q⟩:=z4s m
 intro A w r
 rw [ji (by intro c h;cases h)]
 have:=z99 (P:=P) (dst:=dst) (ty:=ty) (pos:=pos) (after:=after) (g:=g) (w:=w) (xmx:=none) (mx:=capOf v) d.u d.e.size (j.trans i) a b (.inl ⟨rfl,rfl⟩) n (by omega) (Nat.le_refl _) (fun _=>by omega)
 rw [this,i]
 rfl
theorem take1{cs:List Value}{i:Nat}(h:i<cs.length):(cs.drop i).take 1=[cs[i]]:=by rw [List.drop_eq_getElem_cons h];rfl
theorem zgd{b:Nat}{pre cs ys:List Value}{cap lo:Nat}{bt:TypeId}(g:T.size=1)(m:X.length≤cap)(n:cap≤cs.length)(e: ∀ v∈pre++cs,v.oneCell'=true)(h: ∀ (i:Nat) (hi:i<cs.length) x,X[i]? =some x→T.rep R [cs[i]] x)
 (hfit:lo+Y.length≤X.length) (o:ys.length=Y.length) (p: ∀ (i:Nat) (hi:i<ys.length) y,Y[i]? =some y→T.rep R [ys[i]] y) (r: ∀ v∈ys,v.oneCell'=true):
 ORep T R (box b (pre++over cs lo ys) bt) (.slice (some ⟨b,pre.length,none⟩) X.length cap) (z4p X lo Y):=by
 have k:(over cs lo ys).length=cs.length:=by
  simp only [over,List.length_append,List.length_take,List.length_drop];omega
 refine .inr ⟨b,pre,over cs lo ys,cap,bt,by rw [zcq hfit],rfl,by rw [zcq hfit];exact m,by rw [g,k];omega,fun q a=>?_,fun i x d=>?_⟩
 ·rcases List.mem_append.1 a with a|a
  ·exact e q (List.mem_append.2 (.inl a))
  ·simp only [over,List.mem_append] at a
   rcases a with(a|a)|a
   ·exact e q (List.mem_append.2 (.inr (List.mem_of_mem_take a)))
   ·exact r q a
   ·exact e q (List.mem_append.2 (.inr (List.mem_of_mem_drop a)))
 ·have hi:i<X.length:=by have:=(List.getElem?_eq_some_iff.1 d).1;rwa [zcq hfit] at this
  have j:i<(over cs lo ys).length:=by omega
  rw [g,Nat.mul_one,take1 j]
  unfold z4p at d
  have key: ∀ (z:Value),(over cs lo ys)[i]? =some z→T.rep R [z] x→T.rep R [(over cs lo ys)[i]] x:=fun z l s=>by
   rw [List.getElem?_eq_getElem j] at l
   rw [Option.some.inj l];exact s
  by_cases ha:i<lo
  ·have c:i<cs.length:=by omega
   refine key cs[i] ?_ (h i c x ?_)
   ·unfold over;rw [List.append_assoc,List.getElem?_append_left (by rw [List.length_take];omega),List.getElem?_take,if_pos ha,List.getElem?_eq_getElem c]
   ·rw [List.append_assoc,List.getElem?_append_left (by rw [List.length_take];omega),List.getElem?_take,if_pos ha] at d;exact d
  ·by_cases hb:i<lo+Y.length
   ·have f:i-lo<ys.length:=by omega
    refine key ys[i-lo] ?_ (p (i-lo) f x ?_)
    ·unfold over
     rw [List.append_assoc,List.getElem?_append_right (by rw [List.length_take];omega),List.length_take,Nat.min_eq_left (by omega),List.getElem?_append_left f,List.getElem?_eq_getElem f]
    ·rw [List.append_assoc,List.getElem?_append_right (by rw [List.length_take];omega),List.length_take,Nat.min_eq_left (by omega),List.getElem?_append_left (by omega)] at d;exact d
   ·have c:i<cs.length:=by omega
    refine key cs[i] ?_ (h i c x ?_)
    ·unfold over
     rw [List.getElem?_append_right (by rw [List.length_append,List.length_take];omega),List.length_append,List.length_take,Nat.min_eq_left (by omega),List.getElem?_drop,o,show lo+Y.length+(i-(lo+Y.length))=i by omega,List.getElem?_eq_getElem c]
    ·rw [List.getElem?_append_right (by rw [List.length_append,List.length_take];omega),List.length_append,List.length_take,Nat.min_eq_left (by omega),List.getElem?_drop,show lo+Y.length+(i-(lo+Y.length))=i by omega] at d;exact d
theorem zbf{w w':World}{r:Value}(a:ev l x=v)(b:ev l y=u)(h:(Builtin.copy_ #[t,t] ty #[v,u]).run P w= .ok r w'):
 ((⟨dst,.call ⟨.builtin .copy,#[x,y],#[t,t]⟩,ty,pos,after,g⟩:Oper).semAt ρ (ev l)).run P w= .ok (.value r) w':=by
 rw [ji (by intro c h;cases h)]
 simp [execOp,resolve,invoke,builtin,a,b,h]
theorem zgm{A:List Frag}{w:World}{b:Nat}{cs:List Value}{bt:TypeId}(cs':List Value)(h:Holds R (box b cs bt::A) w):Holds R (box b cs' bt::A) (w.setRow b cs'.toArray):=by
 have a:w.heap[b]? =some (.cells cs.toArray bt (0,0)):=z1h (i:=0) h rfl (ul _ _)
 have:=z5y (i:=0) (w':=w.setRow b cs'.toArray) (o':= .cells cs'.toArray bt (0,0)) h rfl (by simp [World.setRow,Array.getElem?_modify,a]) (fun k c=>by simp [World.setRow,Array.getElem?_modify,Ne.symm c]) rfl rfl trivial
 exact this
theorem zmu{lo1 hi1 lo2 hi2:Nat}(c:T.size=1)(z:P.underlying t=some (.slice e))(hi:(P.info? e).map (·.size)=some 1)(h:ORep T R f v X)(H:lo1≤hi1)(B:hi1≤X.length)(I:lo2≤hi2)(C:hi2≤X.length)(r:ev l x=ze0 1 v lo1 hi1)(m:ev l y=ze0 1 v lo2 hi2):
 Eff P ρ ⟨dst,.call ⟨.builtin .copy,#[x,y],#[t,t]⟩,ty,pos,after,g⟩ l R ([f]++O) (fun v' R' O'=> ∃ Oc,O'=Oc++O∧R'=R∧ ∃ f',Oc=[f']∧v'= .int .i64 ((min (hi2-lo2) (hi1-lo1):Nat):Int)∧ORep T R f' v (z4p X lo1 ((X.drop lo2).take (min (hi2-lo2) (hi1-lo1))))):=by
 intro A w s
 obtain⟨p,D,hcap⟩:=z4s h
 by_cases hm:min (hi2-lo2) (hi1-lo1)=0
 ·have hrun:(Builtin.copy_ #[t,t] ty #[ze0 1 v lo1 hi1,ze0 1 v lo2 hi2]).run P w= .ok (goInt 0) w:=by
   rw [D];exact run_copy_none w t t ty e _ _ _ _ _ _ z hi hm
  rw [zbf r m hrun]
  refine⟨R,_,RH.le.refl _,s,_,rfl,rfl,f,rfl,by rw [hm];rfl,?_⟩
  rw [hm,List.take_zero]
  simpa [z4p] using h
 ·rcases h with⟨rfl,rfl,rfl⟩|⟨b,pre,cs,cap,bt,rfl,rfl,E,n,d,o⟩
  ·simp at B C;omega
  rw [c,Nat.mul_one] at n
  have hblk:w.heap[b]? =some (.cells (pre++cs).toArray bt (0,0)):=z1h s (i:=0) rfl (ul _ _)
  have a:((cs.drop lo2).take (min (hi2-lo2) (hi1-lo1))).length=min (hi2-lo2) (hi1-lo1):=by rw [List.length_take,List.length_drop];omega
  have F:ze0 1 (.slice (some ⟨b,pre.length,none⟩) X.length cap) lo1 hi1= .slice (some ⟨b,pre.length+lo1,none⟩) (hi1-lo1) (cap-lo1):=by
   simp only [ze0];rw [if_neg (by omega)];simp [addr_add]
  have G:ze0 1 (.slice (some ⟨b,pre.length,none⟩) X.length cap) lo2 hi2= .slice (some ⟨b,pre.length+lo2,none⟩) (hi2-lo2) (cap-lo2):=by
   simp only [ze0];rw [if_neg (by omega)];simp [addr_add]
  have hrun:=run_copy_row (P:=P) w t t ty e b (pre.length+lo1) (hi1-lo1) (cap-lo1) ⟨b,pre.length+lo2,none⟩ (hi2-lo2) (cap-lo2) (pre++cs).toArray bt ((cs.drop lo2).take (min (hi2-lo2) (hi1-lo1))) z hi hblk a
   (fun j q k=>by
    rw [addr_add,cell_of_block hblk]
    have J:=(List.getElem?_eq_some_iff.1 k).1
    rw [List.getElem?_take,if_pos (by omega),List.getElem?_drop] at k
    simp only [List.getElem?_toArray]
    rw [List.getElem?_append_right (by omega),show pre.length+lo2+j-pre.length=lo2+j by omega];exact k)
   (by simp only [List.size_toArray,List.length_append,a];omega)
   (fun q k=>d q (List.mem_append.2 (.inr (List.mem_of_mem_drop (List.mem_of_mem_take k)))))
  rw [←F,←G] at hrun
  rw [zbf r m hrun]
  have hlist:(pre++cs).take (pre.length+lo1)++(cs.drop lo2).take (min (hi2-lo2) (hi1-lo1))++(pre++cs).drop (pre.length+lo1+((cs.drop lo2).take (min (hi2-lo2) (hi1-lo1))).length)=pre++over cs lo1 ((cs.drop lo2).take (min (hi2-lo2) (hi1-lo1))):=z9g
  simp only at hlist⊢
  rw [hlist]
  refine⟨R,_,RH.le.refl _,zgm _ s,_,rfl,rfl,_,rfl,by rw [a];rfl,?_⟩
  refine zgd c E n d (fun i hi x r=>?_) ?_ ?_ (fun i hi y m=>?_) (fun q k=>d q (List.mem_append.2 (.inr (List.mem_of_mem_drop (List.mem_of_mem_take k)))))
  ·have:=o i x r
   rwa [c,Nat.mul_one,take1 hi] at this
  ·rw [List.length_take,List.length_drop];omega
  ·rw [a,List.length_take,List.length_drop];omega
  ·rw [a] at hi
   rw [List.getElem?_take,if_pos hi,List.getElem?_drop] at m
   have u:lo2+i<cs.length:=by omega
   have:=o (lo2+i) y m
   rw [c,Nat.mul_one,take1 u] at this
   simpa using this
theorem zmm(m:T.size=1)(G:P.underlying t=some (.slice e))(hi:(P.info? e).map (·.size)=some 1)(h:ORep T R f v X)(I:VRep (ym T) R u Y)(s:ev l x=v)(d:ev l y=u):
 Eff P ρ ⟨dst,.call ⟨.builtin .copy,#[x,y],#[t,t]⟩,ty,pos,after,g⟩ l R ([f]++O) (fun v' R' O'=> ∃ Oc,O'=Oc++O∧R'=R∧ ∃ f',Oc=[f']∧v'= .int .i64 ((min Y.length X.length:Nat):Int)∧ORep T R f' v (z4p X 0 (Y.take (min Y.length X.length)))):=by
 intro A w B
 obtain⟨p,J,hcap⟩:=z4s h
 obtain⟨q,n,rfl,S,U,K⟩:=ae.1 I
 by_cases hm:min Y.length X.length=0
 ·have hrun:(Builtin.copy_ #[t,t] ty #[v,.slice q Y.length n]).run P w= .ok (goInt 0) w:=by
   rw [J];exact run_copy_none w t t ty e _ _ _ _ _ _ G hi hm
  rw [zbf s d hrun]
  refine⟨R,_,RH.le.refl _,B,_,rfl,rfl,f,rfl,by rw [hm];rfl,?_⟩
  rw [hm,List.take_zero]
  simpa [z4p] using h
 ·rcases K with rfl|⟨b',off,c,ty',fr,rfl,hb',hrep⟩
  ·simp at hm
  rcases h with⟨rfl,rfl,rfl⟩|⟨b,pre,cs,cap,bt,rfl,rfl,L,o,D,E⟩
  ·simp at hm
  rw [m,Nat.mul_one] at o
  have hblk:w.heap[b]? =some (.cells (pre++cs).toArray bt (0,0)):=z1h B (i:=0) rfl (ul _ _)
  have hsrc:w.heap[b']? =some (.cells c ty' fr):=B.ro _ _ hb'
  have hcell: ∀ i,i<Y.length→ ∃ z,c[off+i]? =some z∧ ∀ y,Y[i]? =some y→T.rep R [z] y:=by
   intro i hi
   have:=hrep i Y[i] (List.getElem?_eq_getElem hi)
   have C:=T.len this
   rw [m,Nat.mul_one] at this C
   unfold xg at this C
   cases hcs:c[off+i]? with
   |none=>
    rw [List.drop_eq_nil_of_le (by simpa using Array.getElem?_eq_none_iff.1 hcs)] at C
    simp at C
   |some z=>
    obtain⟨F,k⟩:=Array.getElem?_eq_some_iff.1 hcs
    have hlt':off+i<c.toList.length:=by simpa using F
    rw [take1 hlt'] at this
    refine⟨z,rfl,fun y d=>?_⟩
    rw [List.getElem?_eq_getElem hi] at d
    cases d
    simpa [k] using this
  have a:((c.toList.drop off).take (min Y.length X.length)).length=min Y.length X.length:=by
   rw [List.length_take,List.length_drop]
   obtain⟨z,k,_⟩:=hcell (Y.length-1) (by omega)
   have:=(Array.getElem?_eq_some_iff.1 k).1
   simp only [Array.length_toList];omega
  have hysi: ∀ (i:Nat) (hi:i<((c.toList.drop off).take (min Y.length X.length)).length),∃ z,c[off+i]? =some z∧((c.toList.drop off).take (min Y.length X.length))[i]=z∧ ∀ y,Y[i]? =some y→T.rep R [z] y:=by
   intro i hi
   rw [a] at hi
   obtain⟨z,k,r⟩:=hcell i (by omega)
   refine⟨z,k,?_,r⟩
   obtain⟨_,hz'⟩:=Array.getElem?_eq_some_iff.1 k
   simp [←hz']
  have H: ∀ z∈(c.toList.drop off).take (min Y.length X.length),z.oneCell'=true:=by
   intro z k
   obtain⟨i,hi,rfl⟩:=List.mem_iff_getElem.1 k
   obtain⟨z',_,e,r⟩:=hysi i hi
   rw [a] at hi
   have:=r Y[i] (List.getElem?_eq_getElem (by omega))
   rw [e]
   exact T.cell this z' (by simp)
  have hrun:=run_copy_row (P:=P) w t t ty e b pre.length X.length cap ⟨b',off,none⟩ Y.length n (pre++cs).toArray bt ((c.toList.drop off).take (min Y.length X.length)) G hi hblk a
   (fun j z k=>by
    rw [addr_add,cell_of_block hsrc]
    obtain⟨M,e⟩:=List.getElem?_eq_some_iff.1 k
    obtain⟨z',N,Q,_⟩:=hysi j M
    rw [N,←Q,e])
   (by simp only [List.size_toArray,List.length_append,a];omega) H
  rw [zbf s d hrun]
  have hlist:(pre++cs).take (pre.length+0)++(c.toList.drop off).take (min Y.length X.length)++(pre++cs).drop (pre.length+0+((c.toList.drop off).take (min Y.length X.length)).length)=pre++over cs 0 ((c.toList.drop off).take (min Y.length X.length)):=z9g
  simp only [Nat.add_zero] at hlist⊢
  rw [hlist]
  refine⟨R,_,RH.le.refl _,zgm _ B,_,rfl,rfl,_,rfl,by rw [a];rfl,?_⟩
  refine zgd m L o D (fun i hi x s=>?_) ?_ ?_ (fun i hi y d=>?_) H
  ·have:=E i x s
   rwa [m,Nat.mul_one,take1 hi] at this
  ·rw [List.length_take];omega
  ·rw [a,List.length_take];omega
  ·obtain⟨z,_,e,r⟩:=hysi i hi
   rw [e]
   rw [List.getElem?_take] at d
   split at d
   ·exact r y d
   ·cases d
end c
theorem znr{P:Program}{ρ:Shelf.Ren}(Ly:Go.Proofs.Lays.n212 P ρ){R:RH}{x y:Int}(h:(0≤x∧x<18446744073709551616)∧0≤y∧y<18446744073709551616):
 CallP P (ρ.f 212) #[.int .u64 x,.int .u64 y] R (fun v R'=>v= .tuple #[.int .u64 (x*y/18446744073709551616),.int .u64 (x*y%18446744073709551616)]):=by
 intro A w c
 obtain⟨⟨d,i⟩,g,j⟩:=h
 obtain⟨a,rfl⟩:=Int.eq_ofNat_of_zero_le d
 obtain⟨b,rfl⟩:=Int.eq_ofNat_of_zero_le g
 refine Calls.mono (Any.bits_Mul Ly a b (by omega) (by omega) w) ?_
 rintro e w' ⟨rfl,rfl⟩
 refine⟨_,rfl,R,RH.le.refl _,c,?_⟩
 rw [Int.natCast_ediv,Int.natCast_emod,Int.natCast_mul]
 rfl
end GV
end Go.Proofs.Ytncblcdhmcmkmaa

namespace Go.Proofs.Ytncblcdhmcmkmaa
namespace GV
def mkV(ag:Bool)(cs:List Value):Value:=if ag then .agg cs.toArray else cs.headD undef
structure KTy (P:Program) (t:TypeId) (m sz:Nat) (ag:Bool) (K:List Value→Prop):Prop where
 cells:P.cellsOf t=sz
 info: ∃ i,P.info? t=some i
 len: ∀ cs,K cs→cs.length=sz
 isAgg: ∀ w,(isAgg t).run P w= .ok ag w
 one:ag=false→sz=1
 eq: ∀ d (w:World) cs cs',m≤d→K cs→K cs'→ ∃ r:Bool,(Op.equalIn d t (mkV ag cs) (mkV ag cs')).run P w= .ok r w∧(r=true↔cs=cs')
 chk: ∀ d (w:World) em cs,m≤d→K cs→(Instr.checkKey em d t (mkV ag cs)).run P w= .ok () w
section
variable {P : Program} {t e : TypeId} {m m' sz n : Nat} {ag : Bool} {K : List Value → Prop}
theorem KTy.mono(h:KTy P t m sz ag K)(b:m≤m'):KTy P t m' sz ag K:=
 {h with eq:=fun d w cs cs' a=>h.eq d w cs cs' (by omega),chk:=fun d w em cs a=>h.chk d w em cs (by omega)}
theorem KTy.part(h:KTy P t m sz ag K)(w:World){pre cs post:List Value}(b:K cs):(part t (pre++cs++post).toArray pre.length).run P w= .ok (mkV ag cs) w:=by
 obtain⟨i,hi⟩:=h.info
 have a:=h.len cs b
 unfold Go.part
 rw [Sem.run_bind,h.isAgg w,Result.andThen_ok]
 cases ag
 ·have c:=h.one rfl
  match cs,a with
  | [v],_=>
   simp only [Bool.false_eq_true,if_false]
   have:(pre++[v]++post).toArray[pre.length]? =some v:=by simp
   rw [this];rfl
  | [],a=>simp at a;omega
  |_::_::_,a=>simp at a;omega
 ·simp only [if_true,Sem.run_bind,run_sizeOf w hi,h.cells,Result.andThen_ok,Sem.run_pure]
  have:(pre++cs++post).toArray.extract pre.length (pre.length+sz)=cs.toArray:=by
   apply Array.toList_inj.1
   rw [Array.toList_extract]
   simp only [List.extract_eq_take_drop,List.append_assoc,List.drop_left,List.take_append_of_le_length (Nat.le_of_eq (show pre.length+sz-pre.length=cs.length by omega)),List.take_of_length_le (show cs.length≤pre.length+sz-pre.length by omega)]
  rw [this];rfl
/-! ### Arrays-/
/-! ### Structs-/
inductive KFld (P:Program) (m:Nat):Nat→List Field→(List Value→Prop)→Prop
 |nil {off:Nat}:KFld P m off [] (fun cs=>cs=[])
 | cons {off sz : Nat} {f : Field} {fs : List Field} {ag : Bool} {K K' : List Value → Prop} : f.name ≠ "_" → f.offset = off → KTy P f.type m sz ag K → KFld P m (off + sz) fs K' → KFld P m off (f :: fs) (fun cs => ∃ a b, K a ∧ K' b ∧ cs = a ++ b)
theorem KFld.len{off:Nat}{fs:List Field}{K:List Value→Prop}(h:KFld P m off fs K): ∃ k,∀ cs,K cs→cs.length=k:=by
 induction h with
 |nil=>exact⟨0,fun cs e=>by subst e;rfl⟩
 |cons i j c l ih=>
  obtain⟨k,d⟩:=ih
  exact⟨_,by rintro cs ⟨a,b,f,g,rfl⟩;rw [List.length_append,c.len a f,d b g]⟩
end
/-! ### Finding-/
section
variable {P : Program} {kt : TypeId} {m sz : Nat} {K : List Value → Prop} {κ : Type} [DecidableEq κ] {ke : κ → Value} {cl : κ → List Value}
end
end GV
end Go.Proofs.Ytncblcdhmcmkmaa

namespace Go.Proofs.Ytncblcdhmcmkmaa
namespace GV
abbrev Arr (n:Nat) (α:Type):= {l:List α//l.length=n}
instance {n:Nat} {α:Type} [Inhabited α]:Inhabited (Arr n α):=⟨⟨List.replicate n default,List.length_replicate⟩⟩
structure CellsOf {α:Type} (T:Ty α) (cl:α→List Value):Prop where
 len: ∀ x,(cl x).length=T.size
 iff: ∀ R cs x,T.rep R cs x↔cs=cl x
/-! ### A box that holds an array:as a slice that can't grow-/
section a
variable {P : Program} {ρ : Option Nat} {n : Nat} {ops : Array Oper} {Q : Po} {rest : List Oper} {l : Nat → Value} {D : List Nat} {R : RH} {O : List Frag} {ty : TypeId} {pos : String} {after : Array Go.Edge} {d : Nat} {dst : Option Tmp} {g : Option (Nat × Bool)}
variable {α β : Type} {T : Ty α} {B : Ty β} {X : List α} {v u w : Value} {x y ix' : Operand} {f F : Frag} {i j o b m sz : Nat} {t s e : TypeId} {k : IntKind}
end a
end GV
end Go.Proofs.Ytncblcdhmcmkmaa

namespace Go.Proofs.Ytncblcdhmcmkmaa
namespace GV
section w
variable {P : Program} {ρ : Option Nat} {n : Nat} {ops : Array Oper} {Q : Po} {rest : List Oper} {l : Nat → Value} {D : List Nat} {R : RH} {O : List Frag} {ty : TypeId} {pos : String} {after : Array Go.Edge} {d : Nat} {dst : Option Tmp} {g : Option (Nat × Bool)}
variable {α : Type} [Inhabited α] {x y : Operand} {i j o b m sz k off : Nat} {t e bt : TypeId} {X : Arr m α} {cl : α → List Value} {vs : List Value} {v : Value}
/-! ### Structs out of parts of any size-/
inductive FillOk (place:Nat→Option (Nat×Nat)):Nat→List (Nat×Value)→List Value→Prop
 |nil {off:Nat}:FillOk place off [] []
 |last {off i:Nat} {v:Value} {c:List Value}:v.cells=c.toArray→place i=some (off,c.length)→FillOk place off [(i,v)] c
 |cons {off i:Nat} {v:Value} {ps:List (Nat×Value)} {c out:List Value}:v.cells=c.toArray→place i=some (off,c.length)→FillOk place (off+c.length) ps out→FillOk place off ((i,v)::ps) (c++out)
end w
/-! ### Loops that are gone through so many times-/
section u
variable {P : Program} {ρ : Option Nat} {n : Nat} {Q : Po} {l : Nat → Value} {D : List Nat} {R : RH} {O : List Frag} {c : Code}
end u
section mm
variable {P : Program} {ρ : Option Nat} {l : Nat → Value} {R : RH} {O : List Frag} {ty : TypeId} {pos : String} {after : Array Go.Edge} {dst : Option Tmp} {g : Option (Nat × Bool)} {k : IntKind} {a b : Int} {x y : Operand} {at' : Array TypeId} {t : TypeId} {d : TypeDesc}
end mm
section p
variable {P : Program} {ρ : Option Nat} {l : Nat → Value} {R : RH} {O : List Frag} {ty : TypeId} {pos : String} {after : Array Go.Edge} {dst : Option Tmp} {g : Option (Nat × Bool)}
variable {α β : Type} [Inhabited α] {T : Ty α} {B : Ty β} {X : List α} {v u w : Value} {x y : Operand} {F : Frag} {i o : Nat} {t : TypeId} {se : α → β → α}
end p
end GV
end Go.Proofs.Ytncblcdhmcmkmaa

namespace Go.Proofs.Ytncblcdhmcmkmaa
namespace GV
/-! ### A box that only is read,of which the value is known-/
def zfp(v:Value):Ty Unit where
 size:=v.cells.size
 agg:=true
 rep _ cs _:=v= .agg cs.toArray∧ ∀ c∈cs,c.oneCell'=true
 len:=by rintro R cs x ⟨rfl,_⟩;simp [Value.cells]
 mono _ h:=h
 one h:=by cases h
 cell h:=h.2
theorem zop{R:RH}{v w:Value}{x:Unit}(h:VRep (zfp v) R w x):w=v:=by
 obtain⟨cs,⟨rfl,_⟩,rfl⟩:=h;rfl
theorem zva{α:Type}{T:Ty α}{R:RH}{v:Value}{y:α}(a:T.agg=true)(b:VRep T R v y):VRep (zfp v) R v ():=by
 obtain⟨cs,c,rfl⟩:=b
 have e:T.mk' cs= .agg cs.toArray:=by unfold Ty.mk';rw [a];rfl
 exact⟨cs,⟨e,T.cell c⟩,e⟩
theorem zq4{α:Type}{T:Ty α}{R:RH}{v u:Value}{y:α}(f:T.agg=true)(g:PRep (zfp v) R u ())(h:VRep T R v y):PRep T R u y:=by
 obtain⟨cs,a,rfl⟩:=h
 have e:T.mk' cs= .agg cs.toArray:=by unfold Ty.mk';rw [f];rfl
 obtain⟨b,off,c,ty,fr,i,j,d,_⟩:=g
 have k:(zfp (T.mk' cs)).size=T.size:=by rw [←T.len a,e];simp [zfp,Value.cells]
 refine⟨b,off,c,ty,fr,i,j,?_⟩
 rw [k,e] at d
 have:cs=xg c off T.size:=by simpa using d
 rw [←this];exact a
theorem jr{α:Type}{P:Program}{ρ:Option Nat}{l:Nat→Value}{R:RH}{O:List Frag}{dst:Option Tmp}{ty:TypeId}{pos:String}{after:Array Go.Edge}{g:Option (Nat×Bool)}{T:Ty α}{t:TypeId}{x:Operand}{u v:Value}{y:α}
 (a:TyOk P t T) (b:T.agg=true) (c:ev l x=u) (d:PRep (zfp v) R u ()) (f:VRep T R v y):Val P ρ ⟨dst,.load t x,ty,pos,after,g⟩ l R O v:=by
 have i:(zfp v).size=T.size:=by
  obtain⟨cs,j,rfl⟩:=f
  have e:T.mk' cs= .agg cs.toArray:=by unfold Ty.mk';rw [b];rfl
  rw [←T.len j,e];simp [zfp,Value.cells]
 have ht':TyOk P t (zfp v):=⟨fun w=>by rw [a.agg w,b];rfl,fun w=>by rw [a.size w,i]⟩
 obtain⟨w,k,h⟩:=za8 (ρ:=ρ) (O:=O) ht' c d
 obtain rfl:=zop k
 exact h _ _ _ _ _
theorem uj{α:Type}{P:Program}{ρ:Option Nat}{n:Nat}{ops:Array Oper}{Q:Po}{rest:List Oper}{l:Nat→Value}{D:List Nat}{R:RH}{O:List Frag}{ty:TypeId}{pos:String}{after:Array Go.Edge}{d:Nat}{T:Ty α}{e:TypeId}{x:Operand}{v:Value}{y:α}(g:Nat.blt d n=true)(h:ev l x=v)(b:T.agg=true)(c:VRep T R v y)
 (i: ∀ u R',RH.le R R'→PRep (zfp v) R' u ()→PRep T R' u y→wo P ρ n ops Q rest (upd l d u) D R' O):wo P ρ n ops Q (⟨some d,.box e x,ty,pos,after,none⟩::rest) l D R O:=
 z8n g h (zva b c) fun u R' a f=>i u R' a f (zq4 b f (c.mono a))
/-! ### A part of a box that is an array of values of one cell-/
def AG{α:Type}[Inhabited α](T:Ty α)(R:RH)(n:Nat)(g:Nat→Value)(X:List α):Prop:=X.length=n∧ ∀ k,k<n→VRep T R (g k) (X.getD k default)∧(g k).oneCell'=true
theorem AG.mono{α:Type}[Inhabited α]{T:Ty α}{R R':RH}{n:Nat}{g:Nat→Value}{X:List α}(h:AG T R n g X)(a:RH.le R R'):AG T R' n g X:=⟨h.1,fun k b=>⟨(h.2 k b).1.mono a,(h.2 k b).2⟩⟩
section g
variable {P : Program} {ρ : Option Nat} {n : Nat} {ops : Array Oper} {Q : Po} {rest : List Oper} {l : Nat → Value} {D : List Nat} {R : RH} {O : List Frag} {ty : TypeId} {pos : String} {after : Array Go.Edge} {dst : Option Tmp} {g0 : Option (Nat × Bool)}
end g
/-! ### A slice that keeps its capacity;a new slice that only is read-/
section c
variable {P : Program} {ρ : Option Nat} {n : Nat} {ops : Array Oper} {Q : Po} {rest : List Oper} {l : Nat → Value} {D : List Nat} {R : RH} {O : List Frag} {ty : TypeId} {pos : String} {after : Array Go.Edge} {dst : Option Tmp} {g : Option (Nat × Bool)}
end c
end GV
end Go.Proofs.Ytncblcdhmcmkmaa

namespace Go.Proofs.Ytncblcdhmcmkmaa
namespace GV
def EV(P:Program)(ρ:Option Nat)(o:Oper)(l:Nat→Value)(R:RH)(O:List Frag)(φ:Value→RH→Prop):Prop:= ∃ v,φ v R∧Val P ρ o l R O v
theorem z0c{l:Nat→Value}{a:Operand}{az:List Operand}{v:Value}{vs:List Value}(h:ev l a=v)(k:az.map (ev l)=vs):(a::az).map (ev l)=v::vs:=by rw [List.map_cons,h,k]
theorem zkp{l:Nat→Value}{i:Nat}{a:Operand}{az:List (Nat×Operand)}{v:Value}{vs:List (Nat×Value)}(h:ev l a=v)(k:(az.map fun x=>(x.1,ev l x.2))=vs):(((i,a)::az).map fun x=>(x.1,ev l x.2))=(i,v)::vs:=by rw [List.map_cons,h,k]
section ev
variable {P : Program} {ρ : Option Nat} {l : Nat → Value} {R : RH} {O : List Frag} {dst : Option Tmp} {ty : TypeId} {pos : String} {after : Array Go.Edge} {g : Option (Nat × Bool)}
theorem zo{o:Oper}{v:Value}(h:Val P ρ o l R O v):EV P ρ o l R O (phX v):=⟨v,rfl,h⟩
theorem zu6{o:Oper}{v:Value}(h:EV P ρ o l R O (phX v)):Val P ρ o l R O v:=by
 obtain⟨u,a,b⟩:=h
 obtain rfl:u=v:=a
 exact b
theorem z8f{o:Oper}{α:Type}{T:Ty α}{x:α}{a:Value}(h:EV P ρ o l R O (phR T x))(b: ∀ R v,VRep T R v x→v=a):Val P ρ o l R O a:=by
 obtain⟨v,c,d⟩:=h
 rwa [b _ _ c] at d
theorem aa{o:Oper}{k:IntKind}{x:Int}(h:EV P ρ o l R O (phR (zw k) x)):Val P ρ o l R O (.int k x):=z8f h fun _ _ h=>jc.1 h
theorem z5a{o:Oper}{x:Bool}(h:EV P ρ o l R O (phR bn x)):Val P ρ o l R O (.bool x):=z8f h fun _ _ h=>o7.1 h
theorem j5{α:Type}{T:Ty α}{t:TypeId}{x:Operand}{v:Value}{y:α}(a:TyOk P t T)(b:ev l x=v)(c:PRep T R v y):EV P ρ ⟨dst,.load t x,ty,pos,after,g⟩ l R O (phR T y):=
 let⟨u,d,e⟩:=za8 a b c
 ⟨u,d,e _ _ _ _ _⟩
theorem uk{α β:Type}{A:Ty α}{B:Ty β}{s:TypeId}{x:Operand}{f o:Nat}{v:Value}{y:α}{pr:α→β}(a:FieldOk P s f o)(hpart:Part A o B pr)(b:ev l x=v)(c:PRep A R v y):
 EV P ρ ⟨dst,.fieldAddr s x f,ty,pos,after,g⟩ l R O (phP B (pr y)):=
 let⟨u,d,e⟩:=zb3 a hpart b c
 ⟨u,d,e _ _ _ _ _⟩
theorem ut{α:Type}[Inhabited α]{T:Ty α}{t e:TypeId}{x ix:Operand}{v:Value}{X:List α}{k:IntKind}{i:Nat}(a:SlOk P t e T)(b:ev l x=v)(c:VRep (ym T) R v X)(hi:ev l ix= .int k i)(d:i<X.length):
 EV P ρ ⟨dst,.indexAddr t x ix,ty,pos,after,g⟩ l R O (phP T (X.getD i default)):=
 let⟨u,f,h⟩:=zba a b c hi (getD_some d)
 ⟨u,f,h _ _ _ _ _⟩
theorem z7v{α:Type}{T:Ty α}{t e:TypeId}{x ix:Operand}{v:Value}{X:List α}{k:IntKind}{i:Nat}{f:Frag}(a:SlOk P t e T)(c:ev l x=v)(d:ORep T R f v X)(hi:ev l ix= .int k i)(h:i<X.length):
 EV P ρ ⟨dst,.indexAddr t x ix,ty,pos,after,g⟩ l R O (fun u _=>z2d T v X u i):=
 let⟨b,off,j,m⟩:=zau (O:=O) a c d hi h
 ⟨_,⟨b,off,j,rfl⟩,m _ _ _ _ _⟩
theorem zeb{α:Type}[Inhabited α]{T:Ty α}{t:TypeId}{x:Operand}{f:Frag}{v u:Value}{X:List α}{i j:Nat}(a:TyOk P t T)(c:ORep T R f v X)(d:O[j]? =some f)(e:ev l x=u)(h:z2d T v X u i)(k:i<X.length):
 EV P ρ ⟨dst,.load t x,ty,pos,after,g⟩ l R O (phR T (X.getD i default)):=by
 obtain⟨b,off,m,rfl⟩:=h
 obtain⟨y,hy',n⟩:=zcx (ρ:=ρ) (P:=P) a c m d e (getD_some k)
 exact⟨y,hy',n _ _ _ _ _⟩
theorem zav{α β:Type}{A:Ty α}{B:Ty β}{t:TypeId}{m sz i:Nat}{x ix:Operand}{k:IntKind}{v:Value}{y:α}{pr:α→β}(a:ArrOk P t m sz)(hpart:Part A (i*sz) B pr)(b:ev l x=v)(c:PRep A R v y)(hi:ev l ix= .int k i)(d:i<m):
 EV P ρ ⟨dst,.indexAddr t x ix,ty,pos,after,g⟩ l R O (phP B (pr y)):=
 let⟨u,e,f⟩:=zj2 a hpart b c hi d
 ⟨u,e,f _ _ _ _ _⟩
section nest
variable {α : Type} {t : Bool} {T : Ty α} {F : Frag} {v : Value} {Vs : List Value} {X : List (List α)}
theorem zg6{tt e:TypeId}{x ix:Operand}{k:IntKind}{i:Nat}(a:SlOk P tt e tHdr)(b:ev l x=v)(h:N2 t T R F v Vs X)(hi:ev l ix= .int k i)(d:i<X.length):
 EV P ρ ⟨dst,.indexAddr tt x ix,ty,pos,after,g⟩ l R O (fun u _=>z2d tHdr v Vs u i):=by
 obtain⟨f0,c,_,f⟩:=h.o
 exact z7v a b c hi (by omega)
theorem zhz{tt:TypeId}{x:Operand}{u:Value}{i j:Nat}(a:TyOk P tt tHdr)(h:N2 t T R F v Vs X)(b:O[j]? =some F)(c:ev l x=u)(d:z2d tHdr v Vs u i)(n:i<X.length):
 EV P ρ ⟨dst,.load tt x,ty,pos,after,g⟩ l R O (phX (Vs.getD i default)):=by
 obtain⟨f0,e,f,p⟩:=h.o
 obtain⟨w,k,m⟩:=zgc (ρ:=ρ) (P:=P) a e f b c d (getD_some (by omega))
 exact⟨w,ziq k,m _ _ _ _ _⟩
theorem zfj{tt e:TypeId}{x ix:Operand}{k:IntKind}{i r:Nat}(a:SlOk P tt e T)(h:N2 t T R F v Vs X)(b:r<X.length)(c:ev l x=Vs.getD r default)(hi:ev l ix= .int k i)(d:i<(X.getD r default).length):
 EV P ρ ⟨dst,.indexAddr tt x ix,ty,pos,after,g⟩ l R O (fun u _=>z2d T (Vs.getD r default) (X.getD r default) u i):=
 let⟨fk,f,_⟩:=h.row b;z7v a c f hi d
end nest
section part
variable {α β : Type} {T : Ty α} {B : Ty β} {X : List α} {v u : Value} {x : Operand} {f : Frag} {i j o fld : Nat} {s t : TypeId} {pr : α → β}
theorem zg7(a:FieldOk P s fld o)(b:ev l x=u)(c:z2d T v X u i):EV P ρ ⟨dst,.fieldAddr s x fld,ty,pos,after,g⟩ l R O (fun u _=>z7p T o v X u i):=by
 obtain⟨u',h,d⟩:=ze5 (ρ:=ρ) (P:=P) (R:=R) (O:=O) a b c
 exact⟨u',h,d _ _ _ _ _⟩
theorem zkf[Inhabited α]{b:Bool}{Vs:List Value}{X:List (List α)}{F:Frag}{r:Nat}(a:TyOk P t B)(hpart:Part T o B pr)(h:N2 b T R F v Vs X)(c:r<X.length)(d:O[j]? =some F)(e:ev l x=u)(f:z7p T o (Vs.getD r default) (X.getD r default) u i)(k:i<(X.getD r default).length):
 EV P ρ ⟨dst,.load t x,ty,pos,after,g⟩ l R O (phR B (pr ((X.getD r default).getD i default))):=by
 obtain⟨f0,m,n⟩:=h.row c
 obtain⟨w,p,q⟩:=zep (ρ:=ρ) (P:=P) a hpart m n d e f (getD_some k)
 exact⟨w,p,q _ _ _ _ _⟩
end part
end ev
/-! ### In the text's order-/
section wo
variable {P : Program} {ρ : Option Nat} {n : Nat} {Q : Po} {l : Nat → Value} {D : List Nat} {R : RH} {O : List Frag} {ops : Array Oper} {rest : List Oper} {op : Op} {ty : TypeId} {pos : String} {after : Array Go.Edge} {d : Nat} {φ : Value → RH → Prop}
theorem zbj(a:Nat.blt d n=true)(h:EV P ρ ⟨some d,op,ty,pos,after,none⟩ l R O φ)(b: ∀ v,φ v R→wo P ρ n ops Q rest (upd l d v) D R O):wo P ρ n ops Q (⟨some d,op,ty,pos,after,none⟩::rest) l D R O:=
 let⟨v,c,e⟩:=h
 qi a e (b v c)
theorem zfl{a:Act}{j s:Nat}(d:Fr n l D a)(c:z0m ops j=some s)(f:l s=undef):yielded ops a.tmps j=none:=by
 unfold yielded
 unfold z0m at c
 rw [c]
 have b:=d.get s
 rw [f,Array.getD_eq_getD_getElem?] at b
 simp only [Option.bind_some]
 cases h:a.tmps[s]? with
 |none=>rfl
 |some v=>
  rw [h] at b
  have e:v=undef:=b
  rw [e];rfl
theorem zsf{j s:Nat}{want:Bool}(c:z0m ops j=some s)(e:Nat.blt s n=true)(f:l s=undef)(g:Nat.blt d n=true)(i:wo P ρ n ops Q rest (upd l d undef) D R O):
 wo P ρ n ops Q (⟨some d,op,ty,pos,after,some (j,want)⟩::rest) l D R O:=by
 intro a w b k
 have m:=zfl b c f
 have h:=i _ w (b.put (d:=some d) (fun t o=>by cases o;simpa using g) undef) k
 simp only [wlo]
 rw [if_neg (by simp [Region.wanted,m])]
 exact⟨fun _ _=>trivial,h⟩
theorem zv5{j s:Nat}{want Gj Bj:Bool}(b:z0m ops j=some s)(a:Nat.blt s n=true)(c:Nat.blt d n=true)(e:phG Gj (phX (.bool Bj)) (l s) R)
 (hyes:Gj=true→Bj=want→Eff P ρ ⟨some d,op,ty,pos,after,none⟩ l R O fun v R' O'=>O'=O∧φ v R') (f: ∀ v R',RH.le R R'→phG (Gj&&(Bj==want)) φ v R'→wo P ρ n ops Q rest (upd l d v) D R' O):
 wo P ρ n ops Q (⟨some d,op,ty,pos,after,some (j,want)⟩::rest) l D R O:=by
 cases Gj with
 |false=>exact zsf b a (e.2 rfl) c (f _ _ (RH.le.refl _) ⟨fun h=>by(cases h),fun _=>rfl⟩)
 |true=>
  by_cases i:Bj=want
  ·subst i
   refine zsd b a (e.1 rfl) (z2l c (hyes rfl rfl) fun v R' g h=>f v R' g ⟨fun _=>h,fun h=>by simp at h⟩)
  ·have hb':(Bj==want)=false:=by simpa using i
   exact zsi b a (e.1 rfl) hb' c (f _ _ (RH.le.refl _) (by rw [hb'];exact⟨fun h=>by simp at h,fun _=>rfl⟩))
theorem zvo{j s:Nat}{want Gj Bj:Bool}(b:z0m ops j=some s)(a:Nat.blt s n=true)(c:Nat.blt d n=true)(e:phG Gj (phX (.bool Bj)) (l s) R)
 (hyes:Gj=true→Bj=want→EV P ρ ⟨some d,op,ty,pos,after,none⟩ l R O φ) (f: ∀ v,phG (Gj&&(Bj==want)) φ v R→wo P ρ n ops Q rest (upd l d v) D R O):
 wo P ρ n ops Q (⟨some d,op,ty,pos,after,some (j,want)⟩::rest) l D R O:=by
 cases Gj with
 |false=>exact zsf b a (e.2 rfl) c (f _ ⟨fun h=>by(cases h),fun _=>rfl⟩)
 |true=>
  by_cases g:Bj=want
  ·subst g
   obtain⟨v,i,k⟩:=hyes rfl rfl
   exact zsd b a (e.1 rfl) (qi c k (f v ⟨fun _=>i,fun h=>by simp at h⟩))
  ·have hb':(Bj==want)=false:=by simpa using g
   exact zsi b a (e.1 rfl) hb' c (f _ (by rw [hb'];exact⟨fun h=>by simp at h,fun _=>rfl⟩))
theorem zu{j s:Nat}{want Bj:Bool}(b:z0m ops j=some s)(a:Nat.blt s n=true)(c:Nat.blt d n=true)(e:l s= .bool Bj)
 (hyes:Bj=want→EV P ρ ⟨some d,op,ty,pos,after,none⟩ l R O φ) (f: ∀ v,phG (true&&(Bj==want)) φ v R→wo P ρ n ops Q rest (upd l d v) D R O):
 wo P ρ n ops Q (⟨some d,op,ty,pos,after,some (j,want)⟩::rest) l D R O:=zvo b a c (yg e) (fun _=>hyes) f
theorem av{j s:Nat}{want Bj:Bool}(b:z0m ops j=some s)(a:Nat.blt s n=true)(c:Nat.blt d n=true)(e:l s= .bool Bj)
 (hyes:Bj=want→Eff P ρ ⟨some d,op,ty,pos,after,none⟩ l R O fun v R' O'=>O'=O∧φ v R') (f: ∀ v R',RH.le R R'→phG (true&&(Bj==want)) φ v R'→wo P ρ n ops Q rest (upd l d v) D R' O):
 wo P ρ n ops Q (⟨some d,op,ty,pos,after,some (j,want)⟩::rest) l D R O:=zv5 b a c (yg e) (fun _=>hyes) f
end wo
end GV
end Go.Proofs.Ytncblcdhmcmkmaa

namespace Go.Proofs.Ytncblcdhmcmkmaa
namespace GV
def zkd:Op→Option (List Operand)
 | .move x| .assign x| .load _ x| .nilCheck x| .unOp _ _ x| .convert _ _ x| .fieldAddr _ x _| .field _ x _| .extract x _=>some [x]
 | .pick c a b=>some [c,a,b]
 | .binOp _ _ x y _| .indexAddr _ x y| .index _ x y| .lookup _ x y _=>some [x,y]
 | .build _ ps=>some (ps.toList.map (·.2))
 | .makeFunc _ fs cs=>some (fs.toList++cs.toList)
 | .slice _ x lo hi mx=>some (x::(lo.toList++(hi.toList++mx.toList)))
 | .call c=>match c.callee with
  | .builtin _=>some c.args.toList
  |_=>none
 |_=>none
theorem zd1{ρ1 ρ2:Operand→Value}{x:Option Operand}(h: ∀ y∈x.toList,ρ1 y=ρ2 y):x.map ρ1=x.map ρ2:=by
 cases x with
 |none=>rfl
 |some y=>simp [h y (by simp)]
theorem zd4{ρ1 ρ2:Operand→Value}{xs:Array Operand}(h: ∀ y∈xs.toList,ρ1 y=ρ2 y):xs.map ρ1=xs.map ρ2:=by
 apply Array.ext'
 rw [Array.toList_map,Array.toList_map]
 exact List.map_congr_left h
theorem zml{ρ1 ρ2:Operand→Value}{xs:Array (Nat×Operand)}(h: ∀ y∈xs.toList.map (·.2),ρ1 y=ρ2 y):(xs.map fun(i,x)=>(i,ρ1 x))=xs.map fun(i,x)=>(i,ρ2 x):=by
 apply Array.ext'
 rw [Array.toList_map,Array.toList_map]
 refine List.map_congr_left fun p a=>?_
 obtain⟨i,x⟩:=p
 have:=h x (List.mem_map.2 ⟨(i,x),a,rfl⟩)
 simp only [this]
theorem zkv{o:Oper}{xs:List Operand}{ρ1 ρ2:Operand→Value}(h:zkd o.op=some xs)(a: ∀ x∈xs,ρ1 x=ρ2 x):execOp ρ1 o=execOp ρ2 o:=by
 obtain⟨dst,op,ty,pos,after,g⟩:=o
 dsimp only at h
 cases op<;>simp only [zkd,Option.some.injEq,reduceCtorEq] at h
 case call c=>
  obtain⟨cal,args,at'⟩:=c
  cases cal<;>simp only [Option.some.injEq,reduceCtorEq] at h
  subst h
  simp only [execOp,resolve,zd4 a]
 case build t ps=>subst h;simp only [execOp,zml a]
 case makeFunc f fs cs=>
  subst h
  simp only [execOp,zd4 (xs:=fs) (fun y b=>a y (List.mem_append_left _ b)),zd4 (xs:=cs) (fun y b=>a y (List.mem_append_right _ b))]
 case slice t x lo hi mx=>
  subst h
  simp only [execOp,a x (List.mem_cons_self ..),zd1 (x:=lo) (fun y b=>a y (by simp [b])),zd1 (x:=hi) (fun y b=>a y (by simp [b])),zd1 (x:=mx) (fun y b=>a y (by simp [b]))]
 all_goals subst h;simp only [List.mem_cons,List.not_mem_nil,or_false,forall_eq_or_imp,forall_eq] at a;simp only [execOp,a]
theorem zhi{op:Op}{xs:List Operand}(h:zkd op=some xs): ∀ c,op≠ .defer c:=by
 intro c e;subst e;simp [zkd] at h
theorem zky{R R':RH}{O:List Frag}{w:World}(h:Holds R' O w)(a:R.le R'):Holds R O w:=by
 refine⟨fun k o b=>h.ro k o (a.blk k o b),fun f c k o b=>⟨(h.own f c k o b).1,?_⟩,h.sep,by rw [←a.os];exact h.os,by rw [←a.out];exact h.out⟩
 cases e:R.blk k with
 |none=>rfl
 |some o'=>
  have:=a.blk k o' e
  rw [(h.own f c k o b).2] at this;cases this
theorem zn1{P:Program}{ρ:Option Nat}{o:Oper}{l l':Nat→Value}{R R':RH}{O:List Frag}{v:Value}{xs:List Operand}(h:Val P ρ o l R O v)(c:zkd o.op=some xs)(e: ∀ s,.tmp s∈xs→l' s=l s)(a:R.le R'):Val P ρ o l' R' O v:=by
 intro A w f
 have d:=h A w (zky f a)
 have g:=zhi c
 rw [ji g] at d⊢
 rw [zkv c (ρ2:=ev l) fun x b=>?_]
 ·exact d
 ·cases x with
  |tmp s=>exact e s b
  |_=>rfl
def wv(P:Program)(ρ:Option Nat)(R:RH)(O:List Frag):List Oper→(Nat→Value)→((Nat→Value)→Prop)→Prop
 | [],l,K=>K l
 |o::r,l,K=> ∃ d v,o.dst=some d∧Val P ρ o l R O v∧wv P ρ R O r (upd l d v) K
section wv
variable {P : Program} {ρ : Option Nat} {n : Nat} {Q : Po} {l : Nat → Value} {D : List Nat} {R : RH} {O : List Frag} {rest : List Oper} {op : Op} {ty : TypeId} {pos : String} {after : Array Go.Edge} {d : Nat} {φ : Value → RH → Prop} {K : (Nat → Value) → Prop} {g : Option (Nat × Bool)}
theorem u7{v:Value}(h:Val P ρ ⟨some d,op,ty,pos,after,g⟩ l R O v)(a:wv P ρ R O rest (upd l d v) K):wv P ρ R O (⟨some d,op,ty,pos,after,g⟩::rest) l K:=⟨d,v,rfl,h,a⟩
theorem z07(h:EV P ρ ⟨some d,op,ty,pos,after,g⟩ l R O φ)(a: ∀ v,φ v R→wv P ρ R O rest (upd l d v) K):wv P ρ R O (⟨some d,op,ty,pos,after,g⟩::rest) l K:=
 let⟨v,b,c⟩:=h
 ⟨d,v,rfl,c,a v b⟩
def zqb(gs:List Oper)(s:Nat):Option Nat:=gs.findIdx? fun o=>o.dst==some s
def clV(gs:List Oper):Bool:=gs.zipIdx.all fun(o,i)=>o.guard.isNone&&(match zkd o.op with
 |none=>false
 |some xs=>xs.all fun x=>match x with
  | .tmp s=>(match zqb gs s with|none=>true|some j=>Nat.blt j i&&o.after.toList.any fun e=>Nat.beq e.on j&&Region.binds .any e)
  |_=>true)
def ze1(l:Nat→Value):List (Nat×Value)→Nat→Value
 | []=>l
 |(d,v)::r=>ze1 (upd l d v) r
theorem zgv{s d:Nat}{v:Value}(h:s≠d):upd l d v s=l s:=by
 unfold upd
 have:Nat.beq s d=false:=by
  cases hb:Nat.beq s d
  ·rfl
  ·exact absurd (Nat.eq_of_beq_eq_true hb) h
 rw [this];rfl
theorem zlf{d:Nat}{v:Value}:upd l d v d=v:=by unfold upd;simp
theorem zcb{s:Nat}: ∀ {acc:List (Nat×Value)} {l:Nat→Value},s∉acc.map (·.1)→ze1 l acc s=l s
 | [],_,_=>rfl
 |(d,v)::r,l,h=>by
  simp only [List.map_cons,List.mem_cons,not_or] at h
  rw [ze1,zcb h.2,zgv h.1]
theorem zhd{s:Nat}{v:Value}: ∀ {acc:List (Nat×Value)} {l:Nat→Value} {j:Nat},acc[j]? =some (s,v)→(acc.map (·.1)).Nodup→ze1 l acc s=v
 | [],_,_,h,_=>by simp at h
 |(d,u)::r,l,0,h,a=>by
  simp only [List.getElem?_cons_zero,Option.some.injEq,Prod.mk.injEq] at h
  obtain⟨rfl,rfl⟩:=h
  simp only [List.map_cons,List.nodup_cons] at a
  rw [ze1,zcb a.1,zlf]
 |(d,u)::r,l,j+1,h,a=>by
  simp only [List.map_cons,List.nodup_cons] at a
  rw [ze1]
  exact zhd (j:=j) (by simpa using h) a.2
theorem ziv{s:Nat}: ∀ {acc:List (Nat×Value)},s∉acc.map (·.1)→z2r l acc s=l s
 | [],_=>rfl
 |(d,v)::r,h=>by
  simp only [List.map_cons,List.mem_cons,not_or] at h
  rw [z2r,zgv h.1,ziv h.2]
theorem zl9{s:Nat}{v:Value}: ∀ {acc:List (Nat×Value)} {j:Nat},acc[j]? =some (s,v)→(acc.map (·.1)).Nodup→z2r l acc s=v
 | [],_,h,_=>by simp at h
 |(d,u)::r,0,h,a=>by
  simp only [List.getElem?_cons_zero,Option.some.injEq,Prod.mk.injEq] at h
  obtain⟨rfl,rfl⟩:=h
  rw [z2r,zlf]
 |(d,u)::r,j+1,h,a=>by
  simp only [List.map_cons,List.nodup_cons] at a
  have h':r[j]? =some (s,v):=by simpa using h
  have b:s∈r.map (·.1):=List.mem_map.2 ⟨_,List.mem_of_getElem? h',rfl⟩
  rw [z2r,zgv (fun e=>a.1 (by rw [←e];exact b))]
  exact zl9 h' a.2
theorem zpq{acc:List (Nat×Value)}(a:(acc.map (·.1)).Nodup):ze1 l acc=z2r l acc:=by
 funext s
 by_cases h:s∈acc.map (·.1)
 ·obtain⟨⟨d,v⟩,b,rfl⟩:=List.mem_map.1 h
  obtain⟨j,c,e⟩:=List.mem_iff_getElem.1 b
  have h':acc[j]? =some (d,v):=by rw [List.getElem?_eq_getElem c,e]
  rw [zhd h' a,zl9 h' a]
 ·rw [zcb h,ziv h]
def zfd(gs:List Oper)(vs:List Value):List (Nat×Value):=(gs.zip vs).map fun p=>(p.1.dst.getD 0,p.2)
theorem zln: ∀ {os:List Oper} {l:Nat→Value},wv P ρ R O os l K→ ∃ vs:List Value,vs.length=os.length∧(∀ o∈os,o.dst.isSome=true)∧
 (∀ (i:Nat) o v,os[i]? =some o→vs[i]? =some v→Val P ρ o (ze1 l ((zfd os vs).take i)) R O v)∧K (ze1 l (zfd os vs))
 | [],l,h=>⟨[],rfl,fun o c=>by simp at c,fun i o v h=>by simp at h,h⟩
 |o::r,l,⟨d,v,a,e,f⟩=>by
  obtain⟨vs,g,j,k,m⟩:=zln f
  refine⟨v::vs,by simp [g],fun o' ho'=>?_,fun i o' u hi b=>?_,?_⟩
  ·rcases List.mem_cons.1 ho' with rfl|ho'
   ·rw [a];rfl
   ·exact j o' ho'
  ·cases i with
   |zero=>
    simp only [List.getElem?_cons_zero,Option.some.injEq] at hi b
    subst hi;subst b
    exact e
   |succ i=>
    have:=k i o' u (by simpa using hi) (by simpa using b)
    simpa [zfd,ze1,a] using this
  ·simpa [zfd,ze1,a] using m
theorem zjb{gs:List Oper}{φs:List (Value→RH→Prop)}{l:Nat→Value}{R:RH}: ∀ {es:List Go.Edge},znd gs φs l R es→ ∀ e∈es,Region.binds .any e=true→ ∀ d,dm gs e.on=some d→phi φs e.on (l d) R
 | [],_,e,a,_,_,_=>by simp at a
 |e'::es,h,e,a,b,d,c=>by
  rcases List.mem_cons.1 a with rfl|a
  ·have:=h.1
   rw [c] at this
   exact this b
  ·exact zjb h.2 e a b d c
theorem zlx{gs:List Oper}{al:List NewBox}{φs:List (Value→RH→Prop)}{l0:Nat→Value}{R0:RH}: ∀ {os:List Oper} {k:Nat},
 (∀ (i:Nat) (o:Oper),os[i]? =some o→ ∀ l R,RH.le R0 R→Agree gs l0 l→znd gs φs l R o.after.toList→GStep P ρ gs al φs O (k+i) o l R)→zjz P ρ gs al φs l0 R0 O k os
 | [],_,_=>trivial
 |o::os,k,h=>⟨h 0 o rfl,zlx fun i o' hi=>by have:=h (i+1) o' (by simpa using hi);rwa [show k+(i+1)=k+1+i from by omega] at this⟩
theorem zm3{φs:List (Value→RH→Prop)}{R:RH}: ∀ {os:List Oper} {vs:List Value} {k:Nat} {K:List (Nat×Value)→Prop},vs.length=os.length→(∀ (i:Nat) v,vs[i]? =some v→phi φs (k+i)=phX v)→K (zfd os vs)→zjr φs R K k os
 | [],vs,k,K,a,_,h=>by
  have:vs=[]:=List.length_eq_zero_iff.1 a
  subst this;exact h
 |o::os,[],k,K,a,_,_=>by simp at a
 |o::os,v::vs,k,K,a,b,h=>fun u c=>by
  rw [show k=k+0 from rfl,b 0 v rfl] at c
  obtain rfl:u=v:=c
  exact zm3 (vs:=vs) (by simpa using a) (fun i w hi=>by have:=b (i+1) w (by simpa using hi);rwa [show k+(i+1)=k+1+i from by omega] at this) h
theorem z1i{id:Nat}{os:List Oper}(m:Nat)(V:P.follows .mixedOrders=true)(c:z9q (os.take m) [] n (os.drop m)=true)(r:clV (os.take m)=true)
 (h:wv P ρ R O (os.take m) l fun l'=> ∀ R',RH.le R R'→wo P ρ n os.toArray Q (os.drop m) l' D R' O):wg P ρ n (.region id os.toArray true) Q l D R O:=by
 obtain⟨vs,C,M,N,S⟩:=zln h
 have f:=(z7d c).2.1
 generalize hg:os.take m=gs at C M N S f r c
 have hacc:(zfd gs vs).map (·.1)=z90 gs:=by
  unfold zfd z90
  rw [List.map_map]
  have: ∀ (gs:List Oper) (vs:List Value),vs.length=gs.length→(∀ o∈gs,o.dst.isSome=true)→(gs.zip vs).map ((fun x:Nat×Value=>x.1)∘fun p=>(p.1.dst.getD 0,p.2))=gs.filterMap (·.dst):=by
   intro gs
   induction gs with
   |nil=>intro vs _ _;simp
   |cons o gs ih=>
    intro vs T A
    cases vs with
    |nil=>simp at T
    |cons v vs=>
     obtain⟨d,E⟩:=Option.isSome_iff_exists.1 (A o (List.mem_cons_self ..))
     simp only [List.zip_cons_cons,List.map_cons,List.filterMap_cons,E,Function.comp_apply,Option.getD_some]
     rw [ih vs (by simpa using T) (fun o' ho'=>A o' (List.mem_cons_of_mem _ ho'))]
  exact this gs vs C M
 have hphi: ∀ (i:Nat) v,vs[i]? =some v→phi (vs.map phX) i=phX v:=fun i v hi=>by
  unfold phi
  rw [List.getD_eq_getElem?_getD,List.getElem?_map,hi];rfl
 have hmono:zcr (vs.map phX):=fun k v R R' a q=>by
  unfold phi at q⊢
  rw [List.getD_eq_getElem?_getD,List.getElem?_map] at q⊢
  cases e:vs[k]? with
  |none=>trivial
  |some u=>rw [e] at q;exact q
 have haget: ∀ (i:Nat) o v,gs[i]? =some o→vs[i]? =some v→ ∀ d,o.dst=some d→(zfd gs vs)[i]? =some (d,v):=fun i o v hi B d E=>by
  unfold zfd
  rw [List.getElem?_map,List.getElem?_zip_eq_some (z:=(o,v))|>.2 ⟨hi,B⟩]
  simp [E]
 refine tq (m:=m) [] (vs.map phX) V (by rw [hg];exact c) hmono (by
  rw [hg]
  refine zlx fun i o hi l' R' a F hdep=>?_
  rw [Nat.zero_add]
  have W:i<gs.length:=(List.getElem?_eq_some_iff.1 hi).1
  obtain⟨v,B⟩: ∃ v,vs[i]? =some v:=⟨vs[i]'(by omega),List.getElem?_eq_getElem (by omega)⟩
  have g:=List.all_eq_true.1 r (o,i) (List.mem_iff_getElem?.2 ⟨i,by rw [List.getElem?_zipIdx,hi];simp⟩)
  simp only [Bool.and_eq_true] at g
  obtain⟨G,g⟩:=g
  refine zb (Option.isNone_iff_eq_none.1 G) rfl (hphi i v B) (zt ?_)
  cases hx:zkd o.op with
  |none=>rw [hx] at g;exact absurd g Bool.false_ne_true
  |some xs=>
   rw [hx] at g
   refine zn1 (N i o v hi B) hx (fun s A=>?_) a
   have b:=List.all_eq_true.1 g (.tmp s) A
   dsimp only at b
   have t:((zfd gs vs).take i).map (·.1)=(z90 gs).take i:=by rw [List.map_take,hacc]
   cases hsl:zqb gs s with
   |none=>
    have w:s∉z90 gs:=fun hm'=>by
     obtain⟨o',ho',e⟩:=List.mem_filterMap.1 hm'
     have:=List.findIdx?_eq_none_iff.1 hsl o' ho'
     rw [e] at this;simp at this
    rw [F s (by simpa using w),zcb (by rw [t];exact fun h=>w (List.mem_of_mem_take h))]
   |some j=>
    rw [hsl] at b
    simp only [Bool.and_eq_true,List.any_eq_true] at b
    obtain⟨H,e,X,I,J⟩:=b
    have hji':j<i:=by simpa using H
    have hej':e.on=j:=Nat.eq_of_beq_eq_true I
    obtain⟨o',ho',hd'⟩: ∃ o',gs[j]? =some o'∧o'.dst=some s:=by
     have:=List.findIdx?_eq_some_iff_getElem.1 hsl
     obtain⟨Y,q,_⟩:=this
     exact⟨gs[j],List.getElem?_eq_getElem Y,by simpa using q⟩
    have Z:j<gs.length:=(List.getElem?_eq_some_iff.1 ho').1
    obtain⟨u,U⟩: ∃ u,vs[j]? =some u:=⟨vs[j]'(by omega),List.getElem?_eq_getElem (by omega)⟩
    have K:dm gs e.on=some s:=by unfold dm;rw [hej',ho'];exact hd'
    have y:=zjb hdep e X J s K
    rw [hej',hphi j u U] at y
    have L:((zfd gs vs).take i)[j]? =some (s,u):=by rw [List.getElem?_take,if_pos hji'];exact haget j o' u ho' U s hd'
    rw [zhd L (by rw [t];exact List.Nodup.sublist (List.take_sublist _ _) f)]
    exact y) fun R' a=>?_
 rw [hg]
 refine zm3 C (fun i v hi=>by rw [Nat.zero_add];exact hphi i v hi) ?_
 rw [←zpq (by rw [hacc];exact f)]
 exact S R' a
end wv
/-! ### Shorter laws-/
section short
variable {P : Program} {ρ : Option Nat} {n : Nat} {Q : Po} {l : Nat → Value} {D : List Nat} {R : RH} {O : List Frag} {γ : Type} {ops : Array Oper} {rest : List Oper} {d : Nat} {ty : TypeId} {pos : String} {after : Array Go.Edge}
theorem zz{c:Operand}{x y:Code}{α:Type}{b:Bool}{p q:Option α}{r:α}(d:ev l c= .bool b)(a:(bif b then p else q)=some r)(f:p=some r→wg P ρ n x Q l D R O)(g:q=some r→wg P ρ n y Q l D R O):wg P ρ n (.cond c x y) Q l D R O:=
 zl8 d (fun e=>f (zur e a)) (fun e=>g (zua e a))
theorem je{x y:Code}(W:List Nat)(S:γ→List (Nat×Value))(F:γ→List Frag)(K:γ→RH→Prop)(b:wg P ρ n x (thn (zr9 true D W l R S F K) Q) l D R O)
 (c: ∀ g j R',RH.le R R'→K g R'→wg P ρ n y Q (z2r (mask W j l) (S g)) D R' (F g)):wg P ρ n (.seq x y) Q l D R O:=
 zqv true W S F K b fun g j D' R' d a e=>by obtain rfl:=d rfl;exact c g j R' a e
theorem znj{x:Code}{Y:(Nat→Value)→List Nat→RH→List Frag→Prop}(W:List Nat)(S:γ→List (Nat×Value))(F:γ→List Frag)(K:γ→RH→Prop)
 (b: ∀ l D R O J F,O.Perm (J++F)→Y l D R F→Y l D R O) (c:wg P ρ n x (thn (zr9 true D W l R S F K) Q) l D R O)
 (d: ∀ g j R',RH.le R R'→K g R'→Y (z2r (mask W j l) (S g)) D R' (F g)):wg P ρ n x (thn Y Q) l D R O:=
 zps true W S F K b c fun g j D' R' e a f=>by obtain rfl:=e rfl;exact d g j R' a f
theorem jq{c:Code}(W:List Nat)(S:γ→List (Nat×Value))(F:γ→List Frag)(K:γ→RH→Prop)(μ:γ→Nat)(a:γ)
 (d: ∃ J,O.Perm (J++F a)) (e:K a R)
 (round: ∀ g j R',RH.le R R'→K g R'→wg P ρ n c (thn (zl0 true D W (z2r (mask W j l) (S g)) R' S F K μ (μ g)) Q) (z2r (mask W j l) (S g)) D R' (F g))
 (f:zjd l (S a):=by repeat (first|exact trivial|refine⟨rfl,?_⟩)) (h: ∀ g,((S g).all fun p=>W.elem p.1)=true:=by exact fun _=>rfl):wg P ρ n (.loop c) Q l D R O:=
 zoa true W S F K μ a f d e h fun g j D' R' i b k=>by obtain rfl:=i rfl;exact round g j R' b k
theorem zq{op:Op}{v:Value}(h:Val P ρ ⟨some d,op,ty,pos,after,none⟩ l R O v)(a:wo P ρ n ops Q rest (upd l d v) D R O)(b:Nat.blt d n=true:=by exact rfl):wo P ρ n ops Q (⟨some d,op,ty,pos,after,none⟩::rest) l D R O:=qi b h a
theorem zl{x:Operand}(v:Value)(a:wo P ρ n ops Q rest (upd l d v) D R O)(b:ev l x=v:=by exact rfl)(c:Nat.blt d n=true:=by exact rfl):wo P ρ n ops Q (⟨some d,.move x,ty,pos,after,none⟩::rest) l D R O:=qi c (z8 b) a
theorem zi{x:Operand}(v:Value)(a:wo P ρ n ops Q rest (upd l d v) D R O)(b:ev l x=v:=by exact rfl)(c:Nat.blt d n=true:=by exact rfl):wo P ρ n ops Q (⟨some d,.assign x,ty,pos,after,none⟩::rest) l D R O:=qi c (um b) a
theorem zn{id:Nat}{os:List Oper}{y:Code}(h:wo P ρ n os.toArray (thn (wg P ρ n y Q) Q) os l D R O):wg P ρ n (.seq (.region id os.toArray false) y) Q l D R O:=q8 (qf h)
theorem jd{id:Nat}{os:List Oper}{y:Code}{Q':Po}(h:wo P ρ n os.toArray (thn (wg P ρ n y Q) Q) os l D R O):wo P ρ n ops (thn (wg P ρ n (.seq (.region id os.toArray false) y) Q) Q') [] l D R O:=za (zn h)
def rs:List Nat→List Nat|a::b::r=>List.range' a (b-a)++rs r|_=>[]
abbrev vi (x:Int):Value:= .int .i64 x
abbrev vs0:Value:= .slice none 0 0
theorem dkt{c:Prop}{α:Type}{x:α}:c→x=x:=fun _=>rfl
theorem zo7{a b:Prop}[Decidable a][Decidable b]{α:Type}{k:Option α}{r:α}(h:gd a (gd b k)=some r):a∧b∧k=some r:=⟨(ze h).1,ze (ze h).2⟩
theorem zoy{a b c:Prop}[Decidable a][Decidable b][Decidable c]{α:Type}{k:Option α}{r:α}(h:gd a (gd b (gd c k))=some r):a∧b∧c∧k=some r:=⟨(ze h).1,zo7 (ze h).2⟩
theorem zos{a b c d:Prop}[Decidable a][Decidable b][Decidable c][Decidable d]{α:Type}{k:Option α}{r:α}(h:gd a (gd b (gd c (gd d k)))=some r):a∧b∧c∧d∧k=some r:=⟨(ze h).1,zoy (ze h).2⟩
theorem zow{a b c d e:Prop}[Decidable a][Decidable b][Decidable c][Decidable d][Decidable e]{α:Type}{k:Option α}{r:α}(h:gd a (gd b (gd c (gd d (gd e k))))=some r):a∧b∧c∧d∧e∧k=some r:=⟨(ze h).1,zos (ze h).2⟩
theorem prm{O:List Frag}: ∃ J,O.Perm (J++O):=⟨[],List.Perm.refl _⟩
end short
end GV
end Go.Proofs.Ytncblcdhmcmkmaa
