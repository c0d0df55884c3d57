
import Derived.Test.YtkkcidhcfkmbjaaGreatDoorShMap
import Derived.Shelf.Sort.Plain
import Derived.Shelf.Bits.Mul64
import Derived.Laws.CopyRow
import Derived.Laws.IdiomCopy
import Derived.Laws.StructEq
import Derived.ChangeKeysEq
import Derived.WideKeyRuns
import Derived.Laws.BytesString
set_option linter.unusedVariables false
set_option linter.unusedSimpArgs false
set_option linter.unusedSectionVars false
namespace Go.Proofs.YtkkcidhcfkmbjaaGreatDoor
namespace GV
/-! ### The plain form-/
def zqk(x:Int):List Int→List Int
 | []=>[x]
 |y::l=>if x≤y then x::y::l else y::zqk x l
def z2c:List Int→List Int
 | []=>[]
 |x::l=>zqk x (z2c l)
theorem zib(x:Int)(l:List Int):(zqk x l).Perm (x::l):=by
 induction l with
 |nil=>exact .refl _
 |cons y l ih=>
  unfold zqk
  split
  ·exact .refl _
  ·exact((ih.cons y).trans (.swap x y l))
theorem zbj(l:List Int):(z2c l).Perm l:=by
 induction l with
 |nil=>exact .refl _
 |cons x l ih=>exact(zib x _).trans (ih.cons x)
theorem zlp{x:Int}{l:List Int}(h:l.Pairwise (· ≤ ·)):(zqk x l).Pairwise (· ≤ ·):=by
 induction l with
 |nil=>exact List.pairwise_singleton _ _
 |cons y l ih=>
  obtain⟨b,c⟩:=List.pairwise_cons.1 h
  unfold zqk
  split
  ·rename_i hx
   refine List.pairwise_cons.2 ⟨fun z a=>?_,h⟩
   rcases List.mem_cons.1 a with rfl|a
   ·exact hx
   ·exact Int.le_trans hx (b z a)
  ·rename_i hx
   refine List.pairwise_cons.2 ⟨fun z a=>?_,ih c⟩
   rcases List.mem_cons.1 ((zib x l).mem_iff.1 a) with rfl|a
   ·omega
   ·exact b z a
theorem zcn(l:List Int):(z2c l).Pairwise (· ≤ ·):=by
 induction l with
 |nil=>exact .nil
 |cons x l ih=>exact zlp ih
theorem z5l: ∀ {l l':List Int},l.Perm l'→l.Pairwise (· ≤ ·)→l'.Pairwise (· ≤ ·)→l=l'
 | [],l',c,_,_=>(List.nil_perm.1 c).symm
 |x::l,l',c,h,h'=>by
  cases l' with
  |nil=>exact absurd c.symm (by simp)
  |cons y l'=>
   obtain⟨f,g⟩:=List.pairwise_cons.1 h
   obtain⟨i,j⟩:=List.pairwise_cons.1 h'
   have d:x=y:=by
    have a:x∈y::l':=c.mem_iff.1 (List.mem_cons_self ..)
    have b:y∈x::l:=c.mem_iff.2 (List.mem_cons_self ..)
    rcases List.mem_cons.1 a with e|a
    ·exact e
    ·rcases List.mem_cons.1 b with e|b
     ·exact e.symm
     ·have:=i x a;have:=f y b;omega
   subst d
   rw [z5l ((List.perm_cons x).1 c) g j]
theorem zei(l:List Int):(l.mergeSort fun x y=>decide (x≤y))=z2c l:=by
 refine z5l ((List.mergeSort_perm l _).trans (zbj l).symm) ?_ (zcn l)
 have:=List.pairwise_mergeSort (le:=fun(x y:Int)=>decide (x≤y)) (fun a b c d e=>by simp at*;omega) (fun a b=>by simp;omega) l
 exact this.imp fun h=>by simpa using h
theorem z8b(l:List Int):(z2c l).length=l.length:=(zbj l).length_eq
/-! ### New blocks behind all-/
theorem holds_grow{R:RH}{O:List Frag}{w:World}{os:Array Obj}(h:Holds R O w):Holds R O (Go.Sort.grow w os):=by
 have up: ∀ (k:Nat) (o:Obj),w.heap[k]? =some o→(Go.Sort.grow w os).heap[k]? =some o:=by
  intro k o a
  have b:=(Array.getElem?_eq_some_iff.1 a).1
  show (w.heap++os)[k]? =some o
  rw [Array.getElem?_append_left b];exact a
 exact⟨fun k o a=>up k o (h.ro k o a),fun f c k o a=>⟨up k o (h.own f c k o a).1,(h.own f c k o a).2⟩,h.sep,⟨h.os.1,fun _ _ _ _=>trivial⟩,h.out⟩
theorem zhd(pre cs:List Value)(d:List Int)(h:d.length≤cs.length):
 (Go.Sort.putCells (Value.int .i64) pre.length d.toArray (pre++cs).toArray).toList=pre++(d.map (Value.int .i64)++cs.drop d.length):=by
 apply List.ext_getElem?
 intro k
 unfold Go.Sort.putCells
 rw [Array.getElem?_toList,Array.getElem?_mapIdx]
 simp only [List.size_toArray,List.getElem?_toArray]
 by_cases h1:k<pre.length
 ·rw [List.getElem?_append_left h1,List.getElem?_append_left h1]
  rw [List.getElem?_eq_getElem h1]
  simp only [Option.map_some]
  rw [if_neg (by omega)]
 ·rw [List.getElem?_append_right (by omega),List.getElem?_append_right (by omega)]
  by_cases h2:k<pre.length+d.length
  ·rw [List.getElem?_append_left (by rw [List.length_map];omega),List.getElem?_map]
   have b:k-pre.length<cs.length:=by omega
   have a:k-pre.length<d.length:=by omega
   rw [List.getElem?_eq_getElem b,List.getElem?_eq_getElem a]
   simp only [Option.map_some]
   rw [if_pos (by omega)]
   simp [a]
  ·rw [List.getElem?_append_right (by rw [List.length_map];omega),List.getElem?_drop,List.length_map]
   rw [show d.length+(k-pre.length-d.length)=k-pre.length by omega]
   cases cs[k-pre.length]? with
   |none=>rfl
   |some v=>
    simp only [Option.map_some]
    rw [if_neg (by omega)]
theorem znc{P:Program}{ρ:Shelf.Ren}(Ly:Go.Proofs.Lays.n189 P ρ){R:RH}{f:Frag}{v:Value}{X:List Int}(h:ORep (qb .i64) R f v X)(s:0<X.length∧X.length<4611686018427387904):
 CallG P (ρ.f 189) #[v] R [f] (fun u R' O'=> ∃ g,u= .tuple #[]∧O'=[g]∧ORep (qb .i64) R' g v (z2c X)):=by
 rcases h with⟨rfl,rfl,rfl⟩|⟨b,pre,cs,cap,bt,rfl,rfl,z,m,c,o⟩
 ·simp at s
 intro A w t
 have hcl':cap≤cs.length:=by simpa [qb] using m
 have hblk:w.heap[b]? =some (.cells (pre++cs).toArray bt (0,0)):=sj t (i:=0) rfl (single_same _ _)
 have p:b<w.heap.size:=(Array.getElem?_eq_some_iff.1 hblk).1
 have hcell: ∀ j (l:j<X.length),cs[j]? =some (.int .i64 X[j]):=by
  intro j l
  have:=o j X[j] (List.getElem?_eq_getElem l)
  have d:j<cs.length:=by omega
  simp only [qb,Nat.mul_one] at this
  rw [List.getElem?_eq_getElem d]
  have e:(cs.drop j).take 1=[cs[j]]:=by rw [List.drop_eq_getElem_cons d];rfl
  rw [e] at this
  simpa using this
 have B:Go.Sort.Holds (Value.int .i64) w b pre.length X.toArray:=by
  intro j l
  have hj':j<X.length:=by simpa using l
  refine⟨?_,zas hblk⟩
  rw [cell_of_block hblk]
  simp only [List.getElem?_toArray]
  rw [List.getElem?_append_right (by omega),Nat.add_sub_cancel_left,hcell j hj']
  simp [hj']
 refine Calls.mono (Any.slices_Sort_int Ly b pre.length cap X w B p s.2) ?_
 rintro e w' ⟨rfl,n,os,rfl⟩
 rw [zei]
 have q:(z2c X).length≤cs.length:=by rw [z8b];omega
 have hnew:(Go.Sort.putRow (Value.int .i64) (Go.Sort.ahead w n) b pre.length (z2c X).toArray).heap[b]? =some (.cells (pre++((z2c X).map (Value.int .i64)++cs.drop (z2c X).length)).toArray bt (0,0)):=by
  simp only [Go.Sort.putRow,Go.Sort.mapBlock,Go.Sort.ahead,Array.getElem?_modify,hblk,if_true,Option.map_some,Go.Sort.onCells]
  rw [←zhd pre cs (z2c X) q,Array.toArray_toList]
 have hother: ∀ k,k≠b→(Go.Sort.putRow (Value.int .i64) (Go.Sort.ahead w n) b pre.length (z2c X).toArray).heap[k]? =w.heap[k]? :=by
  intro k C
  simp [Go.Sort.putRow,Go.Sort.mapBlock,Go.Sort.ahead,Array.getElem?_modify,Ne.symm C]
 have D:=z5g (i:=0) t rfl hnew hother rfl rfl trivial
 refine⟨_,rfl,R,[single b (.cells (pre++((z2c X).map (Value.int .i64)++cs.drop (z2c X).length)).toArray bt (0,0))],RH.le.refl _,holds_grow D,_,rfl,rfl,.inr ⟨b,pre,(z2c X).map (Value.int .i64)++cs.drop (z2c X).length,cap,bt,by rw [z8b],rfl,by rw [z8b];exact z,?_,?_,?_⟩⟩
 ·simp only [qb,Nat.mul_one,List.length_append,List.length_map,List.length_drop];omega
 ·intro x a
  rcases List.mem_append.1 a with a|a
  ·exact c x (List.mem_append.2 (.inl a))
  ·rcases List.mem_append.1 a with a|a
   ·obtain⟨y,_,rfl⟩:=List.mem_map.1 a;rfl
   ·exact c x (List.mem_append.2 (.inr (List.mem_of_mem_drop a)))
 ·intro i x hi
  have r:=(List.getElem?_eq_some_iff.1 hi).1
  simp only [qb,Nat.mul_one]
  have:((z2c X).map (Value.int .i64)++cs.drop (z2c X).length)[i]? =some (.int .i64 x):=by
   rw [List.getElem?_append_left (by rw [List.length_map];exact r),List.getElem?_map,hi];rfl
  obtain⟨E,F⟩:=List.getElem?_eq_some_iff.1 this
  rw [List.drop_eq_getElem_cons E,F];rfl
end GV
end Go.Proofs.YtkkcidhcfkmbjaaGreatDoor

namespace Go.Proofs.YtkkcidhcfkmbjaaGreatDoor
namespace GV
def zfe(sz:Nat)(v:Value)(lo hi:Nat):Value:=
 match v with
 | .slice p _ c=> .slice (if c=lo then p else p.map (·.add (lo*sz))) (hi-lo) (c-lo)
 |v=>v
def z3p{α:Type}(X:List α)(lo:Nat)(Y:List α):List α:=X.take lo++Y++X.drop (lo+Y.length)
theorem zdk{α:Type}{X Y:List α}{lo:Nat}(h:lo+Y.length≤X.length):(z3p X lo Y).length=X.length:=by
 simp only [z3p,List.length_append,List.length_take,List.length_drop];omega
section c
variable {P : Program} {ρ : Option Nat} {l : Nat → Value} {R : RH} {O : List Frag} {ty : TypeId} {pos : String} {after : Array Go.Edge} {dst : Option Tmp} {g : Option (Nat × Bool)}
variable {α : Type} {T : Ty α} {X Y : List α} {v u : Value} {x y : Operand} {f : Frag} {t e : TypeId}
theorem zmh{lo hi:Nat}{xlo xhi:Option Operand}(d:SlOk P t e T)(j:ev l x=v)(m:ORep T R f v X)
 (a:xlo.map (ev l)=none∧lo=0∨ ∃ k,xlo.map (ev l)=some (.int k lo)) (b:xhi.map (ev l)=none∧hi=X.length∧(none:Option Operand)=none∨ ∃ k,xhi.map (ev l)=some (.int k hi)) (n:lo≤hi) (o:hi≤X.length):
 Val P ρ ⟨dst,.slice t x xlo xhi none,ty,pos,after,g⟩ l R O (zfe T.size v lo hi):=by
 obtain⟨p,i,q⟩:=z3r m
 intro A w r
 rw [qj (by intro c h;cases h)]
 have:=z9l (P:=P) (dst:=dst) (ty:=ty) (pos:=pos) (after:=after) (g:=g) (w:=w) (xmx:=none) (mx:=capOf v) d.u d.e.size (j.trans i) a b (.inl ⟨rfl,rfl⟩) n (by omega) (Nat.le_refl _) (fun _=>by omega)
 rw [this,i]
 rfl
theorem take1{cs:List Value}{i:Nat}(h:i<cs.length):(cs.drop i).take 1=[cs[i]]:=by rw [List.drop_eq_getElem_cons h];rfl
theorem zid{b:Nat}{pre cs ys:List Value}{cap lo:Nat}{bt:TypeId}(g:T.size=1)(m:X.length≤cap)(n:cap≤cs.length)(e: ∀ v∈pre++cs,v.oneCell'=true)(h: ∀ (i:Nat) (hi:i<cs.length) x,X[i]? =some x→T.rep R [cs[i]] x)
 (hfit:lo+Y.length≤X.length) (o:ys.length=Y.length) (p: ∀ (i:Nat) (hi:i<ys.length) y,Y[i]? =some y→T.rep R [ys[i]] y) (r: ∀ v∈ys,v.oneCell'=true):
 ORep T R (box b (pre++over cs lo ys) bt) (.slice (some ⟨b,pre.length,none⟩) X.length cap) (z3p X lo Y):=by
 have k:(over cs lo ys).length=cs.length:=by
  simp only [over,List.length_append,List.length_take,List.length_drop];omega
 refine .inr ⟨b,pre,over cs lo ys,cap,bt,by rw [zdk hfit],rfl,by rw [zdk hfit];exact m,by rw [g,k];omega,fun q a=>?_,fun i x d=>?_⟩
 ·rcases List.mem_append.1 a with a|a
  ·exact e q (List.mem_append.2 (.inl a))
  ·simp only [over,List.mem_append] at a
   rcases a with(a|a)|a
   ·exact e q (List.mem_append.2 (.inr (List.mem_of_mem_take a)))
   ·exact r q a
   ·exact e q (List.mem_append.2 (.inr (List.mem_of_mem_drop a)))
 ·have hi:i<X.length:=by have:=(List.getElem?_eq_some_iff.1 d).1;rwa [zdk hfit] at this
  have j:i<(over cs lo ys).length:=by omega
  rw [g,Nat.mul_one,take1 j]
  unfold z3p at d
  have key: ∀ (z:Value),(over cs lo ys)[i]? =some z→T.rep R [z] x→T.rep R [(over cs lo ys)[i]] x:=fun z l s=>by
   rw [List.getElem?_eq_getElem j] at l
   rw [Option.some.inj l];exact s
  by_cases ha:i<lo
  ·have c:i<cs.length:=by omega
   refine key cs[i] ?_ (h i c x ?_)
   ·unfold over;rw [List.append_assoc,List.getElem?_append_left (by rw [List.length_take];omega),List.getElem?_take,if_pos ha,List.getElem?_eq_getElem c]
   ·rw [List.append_assoc,List.getElem?_append_left (by rw [List.length_take];omega),List.getElem?_take,if_pos ha] at d;exact d
  ·by_cases hb:i<lo+Y.length
   ·have f:i-lo<ys.length:=by omega
    refine key ys[i-lo] ?_ (p (i-lo) f x ?_)
    ·unfold over
     rw [List.append_assoc,List.getElem?_append_right (by rw [List.length_take];omega),List.length_take,Nat.min_eq_left (by omega),List.getElem?_append_left f,List.getElem?_eq_getElem f]
    ·rw [List.append_assoc,List.getElem?_append_right (by rw [List.length_take];omega),List.length_take,Nat.min_eq_left (by omega),List.getElem?_append_left (by omega)] at d;exact d
   ·have c:i<cs.length:=by omega
    refine key cs[i] ?_ (h i c x ?_)
    ·unfold over
     rw [List.getElem?_append_right (by rw [List.length_append,List.length_take];omega),List.length_append,List.length_take,Nat.min_eq_left (by omega),List.getElem?_drop,o,show lo+Y.length+(i-(lo+Y.length))=i by omega,List.getElem?_eq_getElem c]
    ·rw [List.getElem?_append_right (by rw [List.length_append,List.length_take];omega),List.length_append,List.length_take,Nat.min_eq_left (by omega),List.getElem?_drop,show lo+Y.length+(i-(lo+Y.length))=i by omega] at d;exact d
theorem zcx{w w':World}{r:Value}(a:ev l x=v)(b:ev l y=u)(h:(Builtin.copy_ #[t,t] ty #[v,u]).run P w= .ok r w'):
 ((⟨dst,.call ⟨.builtin .copy,#[x,y],#[t,t]⟩,ty,pos,after,g⟩:Oper).semAt ρ (ev l)).run P w= .ok (.value r) w':=by
 rw [qj (by intro c h;cases h)]
 simp [execOp,resolve,invoke,builtin,a,b,h]
theorem zil{A:List Frag}{w:World}{b:Nat}{cs:List Value}{bt:TypeId}(cs':List Value)(h:Holds R (box b cs bt::A) w):Holds R (box b cs' bt::A) (w.setRow b cs'.toArray):=by
 have a:w.heap[b]? =some (.cells cs.toArray bt (0,0)):=sj (i:=0) h rfl (single_same _ _)
 have:=z5g (i:=0) (w':=w.setRow b cs'.toArray) (o':= .cells cs'.toArray bt (0,0)) h rfl (by simp [World.setRow,Array.getElem?_modify,a]) (fun k c=>by simp [World.setRow,Array.getElem?_modify,Ne.symm c]) rfl rfl trivial
 exact this
theorem zq4{lo1 hi1 lo2 hi2:Nat}(c:T.size=1)(z:P.underlying t=some (.slice e))(hi:(P.info? e).map (·.size)=some 1)(h:ORep T R f v X)(H:lo1≤hi1)(B:hi1≤X.length)(I:lo2≤hi2)(C:hi2≤X.length)(r:ev l x=zfe 1 v lo1 hi1)(m:ev l y=zfe 1 v lo2 hi2):
 Eff P ρ ⟨dst,.call ⟨.builtin .copy,#[x,y],#[t,t]⟩,ty,pos,after,g⟩ l R ([f]++O) (fun v' R' O'=> ∃ Oc,O'=Oc++O∧R'=R∧ ∃ f',Oc=[f']∧v'= .int .i64 ((min (hi2-lo2) (hi1-lo1):Nat):Int)∧ORep T R f' v (z3p X lo1 ((X.drop lo2).take (min (hi2-lo2) (hi1-lo1))))):=by
 intro A w s
 obtain⟨p,D,hcap⟩:=z3r h
 by_cases hm:min (hi2-lo2) (hi1-lo1)=0
 ·have hrun:(Builtin.copy_ #[t,t] ty #[zfe 1 v lo1 hi1,zfe 1 v lo2 hi2]).run P w= .ok (goInt 0) w:=by
   rw [D];exact run_copy_none w t t ty e _ _ _ _ _ _ z hi hm
  rw [zcx r m hrun]
  refine⟨R,_,RH.le.refl _,s,_,rfl,rfl,f,rfl,by rw [hm];rfl,?_⟩
  rw [hm,List.take_zero]
  simpa [z3p] using h
 ·rcases h with⟨rfl,rfl,rfl⟩|⟨b,pre,cs,cap,bt,rfl,rfl,E,n,d,o⟩
  ·simp at B C;omega
  rw [c,Nat.mul_one] at n
  have hblk:w.heap[b]? =some (.cells (pre++cs).toArray bt (0,0)):=sj s (i:=0) rfl (single_same _ _)
  have a:((cs.drop lo2).take (min (hi2-lo2) (hi1-lo1))).length=min (hi2-lo2) (hi1-lo1):=by rw [List.length_take,List.length_drop];omega
  have F:zfe 1 (.slice (some ⟨b,pre.length,none⟩) X.length cap) lo1 hi1= .slice (some ⟨b,pre.length+lo1,none⟩) (hi1-lo1) (cap-lo1):=by
   simp only [zfe];rw [if_neg (by omega)];simp [addr_add]
  have G:zfe 1 (.slice (some ⟨b,pre.length,none⟩) X.length cap) lo2 hi2= .slice (some ⟨b,pre.length+lo2,none⟩) (hi2-lo2) (cap-lo2):=by
   simp only [zfe];rw [if_neg (by omega)];simp [addr_add]
  have hrun:=run_copy_row (P:=P) w t t ty e b (pre.length+lo1) (hi1-lo1) (cap-lo1) ⟨b,pre.length+lo2,none⟩ (hi2-lo2) (cap-lo2) (pre++cs).toArray bt ((cs.drop lo2).take (min (hi2-lo2) (hi1-lo1))) z hi hblk a
   (fun j q k=>by
    rw [addr_add,cell_of_block hblk]
    have J:=(List.getElem?_eq_some_iff.1 k).1
    rw [List.getElem?_take,if_pos (by omega),List.getElem?_drop] at k
    simp only [List.getElem?_toArray]
    rw [List.getElem?_append_right (by omega),show pre.length+lo2+j-pre.length=lo2+j by omega];exact k)
   (by simp only [List.size_toArray,List.length_append,a];omega)
   (fun q k=>d q (List.mem_append.2 (.inr (List.mem_of_mem_drop (List.mem_of_mem_take k)))))
  rw [←F,←G] at hrun
  rw [zcx r m hrun]
  have hlist:(pre++cs).take (pre.length+lo1)++(cs.drop lo2).take (min (hi2-lo2) (hi1-lo1))++(pre++cs).drop (pre.length+lo1+((cs.drop lo2).take (min (hi2-lo2) (hi1-lo1))).length)=pre++over cs lo1 ((cs.drop lo2).take (min (hi2-lo2) (hi1-lo1))):=z9u
  simp only at hlist⊢
  rw [hlist]
  refine⟨R,_,RH.le.refl _,zil _ s,_,rfl,rfl,_,rfl,by rw [a];rfl,?_⟩
  refine zid c E n d (fun i hi x r=>?_) ?_ ?_ (fun i hi y m=>?_) (fun q k=>d q (List.mem_append.2 (.inr (List.mem_of_mem_drop (List.mem_of_mem_take k)))))
  ·have:=o i x r
   rwa [c,Nat.mul_one,take1 hi] at this
  ·rw [List.length_take,List.length_drop];omega
  ·rw [a,List.length_take,List.length_drop];omega
  ·rw [a] at hi
   rw [List.getElem?_take,if_pos hi,List.getElem?_drop] at m
   have u:lo2+i<cs.length:=by omega
   have:=o (lo2+i) y m
   rw [c,Nat.mul_one,take1 u] at this
   simpa using this
theorem zq3(m:T.size=1)(G:P.underlying t=some (.slice e))(hi:(P.info? e).map (·.size)=some 1)(h:ORep T R f v X)(I:VRep (vw T) R u Y)(s:ev l x=v)(d:ev l y=u):
 Eff P ρ ⟨dst,.call ⟨.builtin .copy,#[x,y],#[t,t]⟩,ty,pos,after,g⟩ l R ([f]++O) (fun v' R' O'=> ∃ Oc,O'=Oc++O∧R'=R∧ ∃ f',Oc=[f']∧v'= .int .i64 ((min Y.length X.length:Nat):Int)∧ORep T R f' v (z3p X 0 (Y.take (min Y.length X.length)))):=by
 intro A w B
 obtain⟨p,J,hcap⟩:=z3r h
 obtain⟨q,n,rfl,S,U,K⟩:=xg.1 I
 by_cases hm:min Y.length X.length=0
 ·have hrun:(Builtin.copy_ #[t,t] ty #[v,.slice q Y.length n]).run P w= .ok (goInt 0) w:=by
   rw [J];exact run_copy_none w t t ty e _ _ _ _ _ _ G hi hm
  rw [zcx s d hrun]
  refine⟨R,_,RH.le.refl _,B,_,rfl,rfl,f,rfl,by rw [hm];rfl,?_⟩
  rw [hm,List.take_zero]
  simpa [z3p] using h
 ·rcases K with rfl|⟨b',off,c,ty',fr,rfl,hb',hrep⟩
  ·simp at hm
  rcases h with⟨rfl,rfl,rfl⟩|⟨b,pre,cs,cap,bt,rfl,rfl,L,o,D,E⟩
  ·simp at hm
  rw [m,Nat.mul_one] at o
  have hblk:w.heap[b]? =some (.cells (pre++cs).toArray bt (0,0)):=sj B (i:=0) rfl (single_same _ _)
  have hsrc:w.heap[b']? =some (.cells c ty' fr):=B.ro _ _ hb'
  have hcell: ∀ i,i<Y.length→ ∃ z,c[off+i]? =some z∧ ∀ y,Y[i]? =some y→T.rep R [z] y:=by
   intro i hi
   have:=hrep i Y[i] (List.getElem?_eq_getElem hi)
   have C:=T.len this
   rw [m,Nat.mul_one] at this C
   unfold cellsAt at this C
   cases hcs:c[off+i]? with
   |none=>
    rw [List.drop_eq_nil_of_le (by simpa using Array.getElem?_eq_none_iff.1 hcs)] at C
    simp at C
   |some z=>
    obtain⟨F,k⟩:=Array.getElem?_eq_some_iff.1 hcs
    have hlt':off+i<c.toList.length:=by simpa using F
    rw [take1 hlt'] at this
    refine⟨z,rfl,fun y d=>?_⟩
    rw [List.getElem?_eq_getElem hi] at d
    cases d
    simpa [k] using this
  have a:((c.toList.drop off).take (min Y.length X.length)).length=min Y.length X.length:=by
   rw [List.length_take,List.length_drop]
   obtain⟨z,k,_⟩:=hcell (Y.length-1) (by omega)
   have:=(Array.getElem?_eq_some_iff.1 k).1
   simp only [Array.length_toList];omega
  have hysi: ∀ (i:Nat) (hi:i<((c.toList.drop off).take (min Y.length X.length)).length),∃ z,c[off+i]? =some z∧((c.toList.drop off).take (min Y.length X.length))[i]=z∧ ∀ y,Y[i]? =some y→T.rep R [z] y:=by
   intro i hi
   rw [a] at hi
   obtain⟨z,k,r⟩:=hcell i (by omega)
   refine⟨z,k,?_,r⟩
   obtain⟨_,hz'⟩:=Array.getElem?_eq_some_iff.1 k
   simp [←hz']
  have H: ∀ z∈(c.toList.drop off).take (min Y.length X.length),z.oneCell'=true:=by
   intro z k
   obtain⟨i,hi,rfl⟩:=List.mem_iff_getElem.1 k
   obtain⟨z',_,e,r⟩:=hysi i hi
   rw [a] at hi
   have:=r Y[i] (List.getElem?_eq_getElem (by omega))
   rw [e]
   exact T.cell this z' (by simp)
  have hrun:=run_copy_row (P:=P) w t t ty e b pre.length X.length cap ⟨b',off,none⟩ Y.length n (pre++cs).toArray bt ((c.toList.drop off).take (min Y.length X.length)) G hi hblk a
   (fun j z k=>by
    rw [addr_add,cell_of_block hsrc]
    obtain⟨M,e⟩:=List.getElem?_eq_some_iff.1 k
    obtain⟨z',N,Q,_⟩:=hysi j M
    rw [N,←Q,e])
   (by simp only [List.size_toArray,List.length_append,a];omega) H
  rw [zcx s d hrun]
  have hlist:(pre++cs).take (pre.length+0)++(c.toList.drop off).take (min Y.length X.length)++(pre++cs).drop (pre.length+0+((c.toList.drop off).take (min Y.length X.length)).length)=pre++over cs 0 ((c.toList.drop off).take (min Y.length X.length)):=z9u
  simp only [Nat.add_zero] at hlist⊢
  rw [hlist]
  refine⟨R,_,RH.le.refl _,zil _ B,_,rfl,rfl,_,rfl,by rw [a];rfl,?_⟩
  refine zid m L o D (fun i hi x s=>?_) ?_ ?_ (fun i hi y d=>?_) H
  ·have:=E i x s
   rwa [m,Nat.mul_one,take1 hi] at this
  ·rw [List.length_take];omega
  ·rw [a,List.length_take];omega
  ·obtain⟨z,_,e,r⟩:=hysi i hi
   rw [e]
   rw [List.getElem?_take] at d
   split at d
   ·exact r y d
   ·cases d
end c
theorem zr7{P:Program}{ρ:Shelf.Ren}(Ly:Go.Proofs.Lays.n212 P ρ){R:RH}{x y:Int}(h:(0≤x∧x<18446744073709551616)∧0≤y∧y<18446744073709551616):
 CallP P (ρ.f 212) #[.int .u64 x,.int .u64 y] R (fun v R'=>v= .tuple #[.int .u64 (x*y/18446744073709551616),.int .u64 (x*y%18446744073709551616)]):=by
 intro A w c
 obtain⟨⟨d,i⟩,g,j⟩:=h
 obtain⟨a,rfl⟩:=Int.eq_ofNat_of_zero_le d
 obtain⟨b,rfl⟩:=Int.eq_ofNat_of_zero_le g
 refine Calls.mono (Any.bits_Mul Ly a b (by omega) (by omega) w) ?_
 rintro e w' ⟨rfl,rfl⟩
 refine⟨_,rfl,R,RH.le.refl _,c,?_⟩
 rw [Int.natCast_ediv,Int.natCast_emod,Int.natCast_mul]
 rfl
end GV
end Go.Proofs.YtkkcidhcfkmbjaaGreatDoor

namespace Go.Proofs.YtkkcidhcfkmbjaaGreatDoor
namespace GV
def mkV(ag:Bool)(cs:List Value):Value:=if ag then .agg cs.toArray else cs.headD undef
structure KTy (P:Program) (t:TypeId) (m sz:Nat) (ag:Bool) (K:List Value→Prop):Prop where
 cells:P.cellsOf t=sz
 info: ∃ i,P.info? t=some i
 len: ∀ cs,K cs→cs.length=sz
 isAgg: ∀ w,(isAgg t).run P w= .ok ag w
 one:ag=false→sz=1
 eq: ∀ d (w:World) cs cs',m≤d→K cs→K cs'→ ∃ r:Bool,(Op.equalIn d t (mkV ag cs) (mkV ag cs')).run P w= .ok r w∧(r=true↔cs=cs')
 chk: ∀ d (w:World) em cs,m≤d→K cs→(Instr.checkKey em d t (mkV ag cs)).run P w= .ok () w
section
variable {P : Program} {t e : TypeId} {m m' sz n : Nat} {ag : Bool} {K : List Value → Prop}
theorem KTy.mono(h:KTy P t m sz ag K)(b:m≤m'):KTy P t m' sz ag K:=
 {h with eq:=fun d w cs cs' a=>h.eq d w cs cs' (by omega),chk:=fun d w em cs a=>h.chk d w em cs (by omega)}
theorem KTy.part(h:KTy P t m sz ag K)(w:World){pre cs post:List Value}(b:K cs):(part t (pre++cs++post).toArray pre.length).run P w= .ok (mkV ag cs) w:=by
 obtain⟨i,hi⟩:=h.info
 have a:=h.len cs b
 unfold Go.part
 rw [Sem.run_bind,h.isAgg w,Result.andThen_ok]
 cases ag
 ·have c:=h.one rfl
  match cs,a with
  | [v],_=>
   simp only [Bool.false_eq_true,if_false]
   have:(pre++[v]++post).toArray[pre.length]? =some v:=by simp
   rw [this];rfl
  | [],a=>simp at a;omega
  |_::_::_,a=>simp at a;omega
 ·simp only [if_true,Sem.run_bind,run_sizeOf w hi,h.cells,Result.andThen_ok,Sem.run_pure]
  have:(pre++cs++post).toArray.extract pre.length (pre.length+sz)=cs.toArray:=by
   apply Array.toList_inj.1
   rw [Array.toList_extract]
   simp only [List.extract_eq_take_drop,List.append_assoc,List.drop_left,List.take_append_of_le_length (Nat.le_of_eq (show pre.length+sz-pre.length=cs.length by omega)),List.take_of_length_le (show cs.length≤pre.length+sz-pre.length by omega)]
  rw [this];rfl
theorem KTy.part'(h:KTy P t m sz ag K)(w:World){xs:List Value}{off:Nat}{pre cs post:List Value}(a:K cs)(b:xs=pre++cs++post)(c:off=pre.length):(Go.part t xs.toArray off).run P w= .ok (mkV ag cs) w:=by
 subst b;subst c;exact h.part w a
theorem zut{q:IntKind}(a:P.underlying t=some (.int q))(b:P.cellsOf t=1):KTy P t 1 1 false (fun cs=> ∃ x,cs=[.int q x]) where
 cells:=b
 info:=info_of_underlying a
 len:=by rintro cs ⟨x,rfl⟩;rfl
 isAgg w:=by simp [Go.isAgg,run_underlying a]
 one _:=rfl
 eq:=by
  rintro d w _ _ c ⟨x,rfl⟩ ⟨y,rfl⟩
  obtain⟨d,rfl⟩: ∃ d',d=d'+1:=⟨d-1,by omega⟩
  refine⟨x==y,?_,by simp⟩
  simp [mkV,Op.equalIn,run_underlying a]
 chk:=by
  rintro d w em _ c ⟨x,rfl⟩
  obtain⟨d,rfl⟩: ∃ d',d=d'+1:=⟨d-1,by omega⟩
  simp [mkV,Instr.checkKey,run_underlying a]
/-! ### Arrays-/
def zhg(n:Nat)(K:List Value→Prop)(cs:List Value):Prop:= ∃ L:List (List Value),L.length=n∧(∀ c∈L,K c)∧cs=L.flatten
theorem zl5{L:List (List Value)}(h: ∀ c∈L,c.length=sz):L.flatten.length=L.length*sz:=by
 induction L with
 |nil=>simp
 |cons c L ih=>
  rw [List.flatten_cons,List.length_append,ih (fun c a=>h c (by simp [a])),h c (by simp),List.length_cons,Nat.succ_mul,Nat.add_comm]
theorem zia(h:KTy P e m sz ag K)(d:Nat)(i:m≤d)(w:World): ∀ (L L':List (List Value)) (pre pre':List Value) (k:Nat),L.length=L'.length→(∀ c∈L,K c)→(∀ c∈L',K c)→pre.length=k*sz→pre'.length=k*sz→
 ∃ r:Bool,(Op.eqItems d e sz (pre++L.flatten).toArray (pre'++L'.flatten).toArray (List.range' k L.length)).run P w= .ok r w∧(r=true↔L.flatten=L'.flatten)
 | [],[],pre,pre',k,_,_,_,_,_=>⟨true,by simp [Op.eqItems],by simp⟩
 | [],_::_,_,_,_,a,_,_,_,_=>by simp at a
 |_::_,[],_,_,_,a,_,_,_,_=>by simp at a
 |c::L,c'::L',pre,pre',k,a,j,hK',l,hp'=>by
  have b:=j c (by simp)
  have f:=hK' c' (by simp)
  have n:=h.len c b
  have o:=h.len c' f
  obtain⟨r,p,hi⟩:=h.eq d w c c' i b f
  obtain⟨r',hr',hi'⟩:=zia h d i w L L' (pre++c) (pre'++c') (k+1) (by simpa using a) (fun c g=>j c (by simp [g])) (fun c g=>hK' c (by simp [g])) (by rw [List.length_append,l,n,Nat.succ_mul]) (by rw [List.length_append,hp',o,Nat.succ_mul])
  rw [List.append_assoc,List.append_assoc] at hr'
  have q:=h.part' (P:=P) w (xs:=pre++(c::L).flatten) (off:=k*sz) (pre:=pre) (post:=L.flatten) b (by simp) l.symm
  have s:=h.part' (P:=P) w (xs:=pre'++(c'::L').flatten) (off:=k*sz) (pre:=pre') (post:=L'.flatten) f (by simp) hp'.symm
  rw [List.length_cons,List.range'_succ]
  simp only [Op.eqItems,Sem.run_bind,q,s,p,Result.andThen_ok]
  have happ:(c::L).flatten=(c'::L').flatten↔c=c'∧L.flatten=L'.flatten:=by
   rw [List.flatten_cons,List.flatten_cons]
   exact⟨fun e=>List.append_inj e (by omega),fun⟨t,u⟩=>by rw [t,u]⟩
  cases r
  ·exact⟨false,by simp,by rw [happ];simp;intro e;exact absurd (hi.2 e) (by simp)⟩
  ·refine⟨r',by simpa [List.flatten_cons] using hr',?_⟩
   rw [happ,hi']
   simp [hi.1 rfl]
theorem zo9(g:P.underlying t=some (.array n e))(q:P.cellsOf t=n*sz)(h:KTy P e m sz ag K):KTy P t (m+1) (n*sz) true (zhg n K) where
 cells:=q
 info:=info_of_underlying g
 len:=by rintro cs ⟨L,f,b,rfl⟩;rw [zl5 fun c j=>h.len c (b c j),f]
 isAgg w:=by simp [Go.isAgg,run_underlying g]
 one h:=by cases h
 eq:=by
  rintro d w _ _ s ⟨L,f,b,rfl⟩ ⟨L',hl',hK',rfl⟩
  obtain⟨d,rfl⟩: ∃ d',d=d'+1:=⟨d-1,by omega⟩
  obtain⟨i,hi⟩:=h.info
  obtain⟨r,u,hiff⟩:=zia h d (by omega) w L L' [] [] 0 (by omega) b hK' (by simp) (by simp)
  refine⟨r,?_,hiff⟩
  show (Op.equalIn (d+1) t (.agg L.flatten.toArray) (.agg L'.flatten.toArray)).run P w=_
  rw [run_equalIn_array w d _ _ g hi,h.cells,List.range_eq_range',←f]
  exact u
 chk:=by
  rintro d w em _ s ⟨L,f,b,rfl⟩
  obtain⟨d,rfl⟩: ∃ d',d=d'+1:=⟨d-1,by omega⟩
  obtain⟨i,hi⟩:=h.info
  show (Instr.checkKey em (d+1) t (.agg L.flatten.toArray)).run P w=_
  rw [Instr.checkKey]
  simp only [Sem.run_bind,run_underlying g,Result.andThen_ok]
  simp only [Std.Legacy.Range.forIn_eq_forIn_range',Std.Legacy.Range.size,Nat.sub_zero,Nat.add_one_sub_one,Nat.div_one]
  rw [←f]
  have key: ∀ (L:List (List Value)) (pre:List Value) (k:Nat),(∀ c∈L,K c)→pre.length=k*sz→
   (forIn (List.range' k L.length) PUnit.unit fun i _=>do
    let a←sizeOf e
    let a←Go.part e (pre++L.flatten).toArray (i*a)
    Instr.checkKey em d e a
    pure (ForInStep.yield PUnit.unit):Sem PUnit).run P w= .ok () w:=by
   intro L
   induction L with
   |nil=>intro pre k _ _;simp
   |cons c L ih=>
    intro pre k b o
    have l:=b c (by simp)
    have v:=h.part' (P:=P) w (xs:=pre++(c::L).flatten) (off:=k*sz) (pre:=pre) (post:=L.flatten) l (by simp) o.symm
    have x:=h.chk d w em c (by omega) l
    rw [List.length_cons,List.range'_succ]
    simp only [List.forIn_cons,Sem.run_bind,run_sizeOf w hi,h.cells,Result.andThen_ok,v,x,Sem.run_pure]
    have:=ih (pre++c) (k+1) (fun c j=>b c (by simp [j])) (by rw [List.length_append,o,h.len c l,Nat.succ_mul])
    rw [List.append_assoc] at this
    simpa [List.flatten_cons] using this
  have p:=key L [] 0 b (by simp)
  rw [List.nil_append] at p
  rw [p];rfl
/-! ### Structs-/
inductive KFld (P:Program) (m:Nat):Nat→List Field→(List Value→Prop)→Prop
 |nil {off:Nat}:KFld P m off [] (fun cs=>cs=[])
 | cons {off sz : Nat} {f : Field} {fs : List Field} {ag : Bool} {K K' : List Value → Prop} : f.name ≠ "_" → f.offset = off → KTy P f.type m sz ag K → KFld P m (off + sz) fs K' → KFld P m off (f :: fs) (fun cs => ∃ a b, K a ∧ K' b ∧ cs = a ++ b)
theorem KFld.len{off:Nat}{fs:List Field}{K:List Value→Prop}(h:KFld P m off fs K): ∃ k,∀ cs,K cs→cs.length=k:=by
 induction h with
 |nil=>exact⟨0,fun cs e=>by subst e;rfl⟩
 |cons i j c l ih=>
  obtain⟨k,d⟩:=ih
  exact⟨_,by rintro cs ⟨a,b,f,g,rfl⟩;rw [List.length_append,c.len a f,d b g]⟩
theorem zw3{off:Nat}{fs:List Field}{K:List Value→Prop}(h:KFld P m off fs K)(d:Nat)(i:m≤d)(w:World): ∀ (cs cs' pre pre':List Value),K cs→K cs'→pre.length=off→pre'.length=off→
 ∃ r:Bool,(Op.eqFields d (pre++cs).toArray (pre'++cs').toArray fs).run P w= .ok r w∧(r=true↔cs=cs'):=by
 induction h with
 |nil=>rintro cs cs' pre pre' rfl rfl _ _;exact⟨true,by simp [Op.eqFields],by simp⟩
 | @cons off sz f fs ag K K' j v c x ih=>
  rintro cs cs' pre pre' ⟨a,b,g,k,rfl⟩ ⟨a',b',ha',hb',rfl⟩ l hp'
  have n:=c.len a g
  have o:=c.len a' ha'
  obtain⟨r,p,hi⟩:=c.eq d w a a' i g ha'
  obtain⟨r',hr',hi'⟩:=ih b b' (pre++a) (pre'++a') k hb' (by rw [List.length_append,l,n]) (by rw [List.length_append,hp',o])
  have q:=c.part' (P:=P) w (xs:=pre++(a++b)) (off:=f.offset) (pre:=pre) (post:=b) g (by simp) (by omega)
  have s:=c.part' (P:=P) w (xs:=pre'++(a'++b')) (off:=f.offset) (pre:=pre') (post:=b') ha' (by simp) (by omega)
  simp only [Op.eqFields,j,ne_eq,not_false_eq_true,if_true,Sem.run_bind,q,s,p,Result.andThen_ok]
  have happ:a++b=a'++b'↔a=a'∧b=b':=⟨fun e=>List.append_inj e (by omega),fun⟨t,u⟩=>by rw [t,u]⟩
  cases r
  ·exact⟨false,by simp,by rw [happ];simp;intro e;exact absurd (hi.2 e) (by simp)⟩
  ·refine⟨r',by simpa using hr',?_⟩
   rw [happ,hi']
   simp [hi.1 rfl]
theorem znh{fs:Array Field}(c:P.underlying t=some (.struct fs))(g:P.stoodInHeld t=false)(n:P.cellsOf t=sz)(h:KFld P m 0 fs.toList K)(o: ∀ cs,K cs→cs.length=sz):KTy P t (m+1) sz true K where
 cells:=n
 info:=info_of_underlying c
 len:=o
 isAgg w:=by simp [Go.isAgg,run_underlying c]
 one h:=by cases h
 eq:=by
  rintro d w cs cs' p i hk'
  obtain⟨d,rfl⟩: ∃ d',d=d'+1:=⟨d-1,by omega⟩
  have e:P.fieldsOf t=fs:=by simp [Program.fieldsOf,c]
  obtain⟨r,q,hi⟩:=zw3 h d (by omega) w cs cs' [] [] i hk' rfl rfl
  refine⟨r,?_,hi⟩
  show (Op.equalIn (d+1) t (.agg cs.toArray) (.agg cs'.toArray)).run P w=_
  rw [run_equalIn_struct w d t _ _ (by rw [e];exact c) g,e]
  exact q
 chk:=by
  rintro d w em cs p i
  obtain⟨d,rfl⟩: ∃ d',d=d'+1:=⟨d-1,by omega⟩
  show (Instr.checkKey em (d+1) t (.agg cs.toArray)).run P w=_
  rw [Instr.checkKey]
  simp only [Sem.run_bind,run_underlying c,Result.andThen_ok]
  rw [←Array.forIn_toList]
  have key: ∀ (off:Nat) (L:List Field) (K:List Value→Prop),KFld P m off L K→ ∀ (cs pre:List Value),K cs→pre.length=off→
   (forIn L PUnit.unit fun f _=>do
    if f.name ≠ "_" then do
     let a←Go.part f.type (pre++cs).toArray f.offset
     Instr.checkKey em d f.type a
     pure (ForInStep.yield PUnit.unit)
    else pure (ForInStep.yield PUnit.unit):Sem PUnit).run P w= .ok () w:=by
   intro off L K h
   induction h with
   |nil=>rintro cs pre rfl _;simp
   | @cons off sz f fs ag K K' s z j A ih=>
    rintro cs pre ⟨a,b,k,u,rfl⟩ v
    have x:=j.part' (P:=P) w (xs:=pre++(a++b)) (off:=f.offset) (pre:=pre) (post:=b) k (by simp) (by omega)
    have y:=j.chk d w em a (by omega) k
    simp only [List.forIn_cons,Sem.run_bind,s,ne_eq,not_false_eq_true,if_true,Result.andThen_ok,x,y,Sem.run_pure]
    have:=ih b (pre++a) u (by rw [List.length_append,v,j.len a k])
    simpa using this
  have l:=key 0 _ K h cs [] i rfl
  rw [List.nil_append] at l
  rw [l];rfl
end
/-! ### Finding-/
theorem zmj{α:Type}: ∀ {l:List α} {p:α×α},p∈l.zip l→p.1=p.2∧p.1∈l
 | [],p,h=>by simp at h
 |a::l,p,h=>by
  rw [List.zip_cons_cons] at h
  rcases List.mem_cons.1 h with rfl|h
  ·exact⟨rfl,by simp⟩
  ·obtain⟨b,c⟩:=zmj h
   exact⟨b,by simp [c]⟩
def z7b(v:Value):Prop:=(∃ q x,v= .int q x)∨ ∃ b,v= .bool b
theorem zgb{n:Nat}{v:Value}(h:z7b v):Instr.sameBits n v v=true:=by
 rcases h with⟨q,x,rfl⟩|⟨b,rfl⟩
 ·cases n<;>simp [Instr.sameBits]
 ·cases n<;>simp [Instr.sameBits]
theorem zjn{n:Nat}{cs:List Value}(h: ∀ v∈cs,z7b v):Instr.sameBits (n+1) (.agg cs.toArray) (.agg cs.toArray)=true:=by
 simp only [Instr.sameBits,beq_self_eq_true,Bool.true_and,List.all_eq_true]
 intro p e
 obtain⟨c,d⟩:=zmj e
 obtain⟨a,b⟩:=p
 simp only at c d
 subst c
 exact zgb (h _ d)
section
variable {P : Program} {kt : TypeId} {m sz : Nat} {K : List Value → Prop} {κ : Type} [DecidableEq κ] {ke : κ → Value} {cl : κ → List Value}
theorem zos(h:KTy P kt m sz true K)(j:m≤Op.maxDepth)(f: ∀ k,ke k= .agg (cl k).toArray)(g: ∀ k,K (cl k))(hinj: ∀ a b,cl a=cl b→a=b){β:Type}(k:κ)(ve:β→Value)(w:World):
 ∀ (es:List MapEntry) (M:List (κ×β)) (i:Nat),es.map zau=M.map (fun p=>(ke p.1,ve p.2))→(Instr.findAsking kt (ke k) es i).run P w= .ok ((z4n M k i).map fun p=>(p.1,ve p.2)) w
 | [],[],i,_=>by simp [Instr.findAsking,z4n]
 | [],_::_,_,h=>by simp at h
 |_::_,[],_,h=>by simp at h
 |e::es,p::M,i,c=>by
  simp only [List.map_cons,List.cons.injEq,zau,Prod.mk.injEq] at c
  obtain⟨⟨l,n⟩,o⟩:=c
  obtain⟨r,q,hi⟩:=h.eq Op.maxDepth w (cl k) (cl p.1) j (g k) (g p.1)
  have hr':(Op.equal kt (ke k) e.key).run P w= .ok r w:=by
   rw [l,f,f];exact q
  unfold Instr.findAsking z4n
  rw [Sem.run_bind,hr',Result.andThen_ok]
  have d:r=true↔k=p.1:=⟨fun e=>hinj _ _ (hi.1 e),fun e=>hi.2 (by rw [e])⟩
  by_cases hk:k=p.1
  ·rw [if_pos (d.2 hk),if_pos hk,n];rfl
  ·rw [if_neg (fun e=>hk (d.1 e)),if_neg hk]
   exact zos h j f g hinj k ve w es M (i+1) o
theorem zs8(h:KTy P kt m sz true K)(e:m≤10000)(g:(match P.underlying kt with|some (.array _ _)|some (.struct _)=>true|_=>false)=true)(c: ∀ k,ke k= .agg (cl k).toArray)(f: ∀ k,K (cl k))(hinj: ∀ a b,cl a=cl b→a=b)
 (d: ∀ k,∀ v∈cl k,z7b v):KOk P kt ke where
 check b k w:=by rw [c];exact h.chk 10000 w b (cl k) e (f k)
 find k es M ve w hes:=by
  rw [run_findKey_eq w g]
  exact zos h e c f hinj k ve w es M 0 hes
 same k:=by rw [c];exact zjn (d k)
end
end GV
end Go.Proofs.YtkkcidhcfkmbjaaGreatDoor

namespace Go.Proofs.YtkkcidhcfkmbjaaGreatDoor
namespace GV
abbrev Arr (n:Nat) (α:Type):= {l:List α//l.length=n}
instance {n:Nat} {α:Type} [Inhabited α]:Inhabited (Arr n α):=⟨⟨List.replicate n default,List.length_replicate⟩⟩
def z6p{α:Type}[Inhabited α](n:Nat)(l:List α):Arr n α:=if h:l.length=n then⟨l,h⟩ else default
theorem zai{α:Type}[Inhabited α]{n:Nat}{l:List α}(h:l.length=n):(z6p n l).1=l:=by unfold z6p;rw [dif_pos h]
theorem zn8{α:Type}{cs:List α}{n k i:Nat}(h:cs.length=n*k)(hi:i<n):((cs.drop (i*k)).take k).length=k:=by
 rw [List.length_take,List.length_drop,h]
 have:(i+1)*k≤n*k:=Nat.mul_le_mul_right k hi
 rw [Nat.succ_mul] at this
 omega
theorem zqj{α:Type}{cs:List α}{n k:Nat}(h:cs.length=n*k){v:α}(c:v∈cs): ∃ i,i<n∧v∈(cs.drop (i*k)).take k:=by
 obtain⟨j,a,rfl⟩:=List.mem_iff_getElem.1 c
 have d:0<k:=by
  rcases Nat.eq_zero_or_pos k with e|e
  ·subst e;simp at h;subst h;simp at a
  ·exact e
 have b:j/k<n:=Nat.div_lt_of_lt_mul (show j<k*n by rw [Nat.mul_comm,←h];exact a)
 refine⟨j/k,b,?_⟩
 have f:=Nat.div_add_mod j k
 have g:=Nat.mod_lt j d
 have l:=zn8 h b
 refine List.mem_iff_getElem.2 ⟨j%k,by omega,?_⟩
 rw [List.getElem_take,List.getElem_drop]
 congr 1
 rw [Nat.mul_comm];exact f
def zz1{α:Type}(n:Nat)(T:Ty α):Ty (Arr n α) where
 size:=n*T.size
 agg:=true
 rep R cs X:=cs.length=n*T.size∧ ∀ i x,X.1[i]? =some x→T.rep R ((cs.drop (i*T.size)).take T.size) x
 len h:=h.1
 mono hle h:=⟨h.1,fun i x hx=>T.mono hle (h.2 i x hx)⟩
 one h:=by cases h
 cell:=by
  rintro R cs X ⟨a,b⟩ v hv
  obtain⟨i,hi,hm⟩:=zqj a hv
  have hl:i<X.1.length:=by rw [X.2];exact hi
  exact T.cell (b i _ (List.getElem?_eq_getElem hl)) v hm
structure CellsOf {α:Type} (T:Ty α) (cl:α→List Value):Prop where
 len: ∀ x,(cl x).length=T.size
 iff: ∀ R cs x,T.rep R cs x↔cs=cl x
theorem cells_int{q:IntKind}:CellsOf (qb q) (fun x=>[Value.int q x]):=⟨fun _=>rfl,fun R cs x=>Iff.rfl⟩
def z1z{α:Type}{n:Nat}(cl:α→List Value)(X:Arr n α):List Value:=X.1.flatMap cl
theorem z4c{α:Type}{cl:α→List Value}{k:Nat}(h: ∀ x,(cl x).length=k): ∀ (l:List α) (i:Nat) (x:α),l[i]? =some x→((l.flatMap cl).drop (i*k)).take k=cl x
 | [],i,x,a=>by simp at a
 |y::l,0,x,a=>by
  have:y=x:=by simpa using a
  subst this
  rw [Nat.zero_mul,List.drop_zero,List.flatMap_cons,List.take_left' (h y)]
 |y::l,i+1,x,a=>by
  rw [List.flatMap_cons,Nat.succ_mul,Nat.add_comm,←List.drop_drop,List.drop_left' (h y)]
  exact z4c h l i x (by simpa using a)
theorem z4l{α:Type}{cl:α→List Value}{k:Nat}(h: ∀ x,(cl x).length=k): ∀ (l:List α),(l.flatMap cl).length=l.length*k
 | []=>by simp
 |y::l=>by rw [List.flatMap_cons,List.length_append,h y,z4l h l,List.length_cons,Nat.succ_mul,Nat.add_comm]
theorem zqm{cs cs':List Value}{n k:Nat}(h:cs.length=n*k)(h':cs'.length=n*k)(a: ∀ i,i<n→(cs.drop (i*k)).take k=(cs'.drop (i*k)).take k):cs=cs':=by
 induction n generalizing cs cs' with
 |zero=>simp at h h';rw [h,h']
 |succ n ih=>
  rw [Nat.succ_mul] at h h'
  have b:=a 0 (by omega)
  rw [Nat.zero_mul,List.drop_zero,List.drop_zero] at b
  have c:cs.drop k=cs'.drop k:=ih (by rw [List.length_drop];omega) (by rw [List.length_drop];omega) fun i hi=>by
   have:=a (i+1) (by omega)
   rw [Nat.succ_mul,Nat.add_comm] at this
   rwa [List.drop_drop,List.drop_drop]
  rw [←List.take_append_drop k cs,←List.take_append_drop k cs',b,c]
theorem zq0{α:Type}{T:Ty α}{cl:α→List Value}{n:Nat}(h:CellsOf T cl):CellsOf (zz1 n T) (z1z cl:Arr n α→List Value):=by
 refine⟨fun X=>by show (X.1.flatMap cl).length=n*T.size;rw [z4l h.len,X.2],fun R cs X=>?_⟩
 show (cs.length=n*T.size∧_)↔cs=X.1.flatMap cl
 constructor
 ·rintro⟨b,c⟩
  refine zqm b (by rw [z4l h.len,X.2]) fun i hi=>?_
  have a:i<X.1.length:=by rw [X.2];exact hi
  have:=(h.iff _ _ _).1 (c i _ (List.getElem?_eq_getElem a))
  rw [this,z4c h.len _ _ _ (List.getElem?_eq_getElem a)]
 ·rintro rfl
  exact⟨by rw [z4l h.len,X.2],fun i x d=>by rw [z4c h.len _ _ _ d];exact(h.iff _ _ _).2 rfl⟩
theorem zo1{α β:Type}{A:Ty α}{B:Ty β}{ca:α→List Value}{cb:β→List Value}(h:CellsOf A ca)(k:CellsOf B cb):CellsOf (tq A B) (fun x=>ca x.1++cb x.2):=by
 refine⟨fun x=>by show (ca x.1++cb x.2).length=A.size+B.size;rw [List.length_append,h.len,k.len],fun R cs x=>?_⟩
 constructor
 ·rintro⟨c,d,rfl,a,b⟩
  rw [(h.iff _ _ _).1 a,(k.iff _ _ _).1 b]
 ·rintro rfl
  exact⟨_,_,rfl,(h.iff _ _ _).2 rfl,(k.iff _ _ _).2 rfl⟩
theorem zsw{α β:Type}{A:Ty α}{ca:α→List Value}{f:β→α}(h:CellsOf A ca):CellsOf (A.as f) (fun x=>ca (f x)):=⟨fun x=>h.len (f x),fun R cs x=>h.iff R cs (f x)⟩
theorem zkb{α:Type}{cl:α→List Value}{k:Nat}(h: ∀ x,(cl x).length=k)(hi: ∀ x y,cl x=cl y→x=y): ∀ (l l':List α),l.length=l'.length→l.flatMap cl=l'.flatMap cl→l=l'
 | [],[],_,_=>rfl
 | [],_::_,a,_=>by simp at a
 |_::_,[],a,_=>by simp at a
 |x::l,y::l',a,e=>by
  rw [List.flatMap_cons,List.flatMap_cons] at e
  obtain⟨b,c⟩:=List.append_inj e (by rw [h,h])
  rw [hi _ _ b,zkb h hi l l' (by simpa using a) c]
theorem zq5{α:Type}{n:Nat}{cl:α→List Value}{k:Nat}(h: ∀ x,(cl x).length=k)(hi: ∀ x y,cl x=cl y→x=y){X Y:Arr n α}(e:z1z cl X=z1z cl Y):X=Y:=
 Subtype.ext (zkb h hi _ _ (by rw [X.2,Y.2]) e)
theorem zw7{α:Type}{n:Nat}{cl:α→List Value}{K:List Value→Prop}(h: ∀ x,K (cl x))(X:Arr n α):zhg n K (z1z cl X):=
 ⟨X.1.map cl,by rw [List.length_map,X.2],fun c a=>by obtain⟨x,_,rfl⟩:=List.mem_map.1 a;exact h x,by unfold z1z;rw [List.flatMap_def]⟩
theorem zrx{α:Type}{n:Nat}{cl:α→List Value}(h: ∀ x,∀ v∈cl x,z7b v)(X:Arr n α): ∀ v∈z1z cl X,z7b v:=fun v a=>by
 obtain⟨x,_,b⟩:=List.mem_flatMap.1 a
 exact h x v b
/-! ### A box that holds an array:as a slice that can't grow-/
section a
variable {P : Program} {ρ : Option Nat} {n : Nat} {ops : Array Oper} {Q : Po} {rest : List Oper} {l : Nat → Value} {D : List Nat} {R : RH} {O : List Frag} {ty : TypeId} {pos : String} {after : Array Go.Edge} {d : Nat} {dst : Option Tmp} {g : Option (Nat × Bool)}
variable {α β : Type} {T : Ty α} {B : Ty β} {X : List α} {v u w : Value} {x y ix' : Operand} {f F : Frag} {i j o b m sz : Nat} {t s e : TypeId} {k : IntKind}
end a
end GV
end Go.Proofs.YtkkcidhcfkmbjaaGreatDoor

namespace Go.Proofs.YtkkcidhcfkmbjaaGreatDoor
namespace GV
theorem pl_int{q:IntKind}(x:Int): ∀ v∈[Value.int q x],z7b v:=fun v a=> .inl ⟨_,_,List.mem_singleton.1 a⟩
theorem zyl{q:IntKind}(x y:Int)(h:[Value.int q x]=[Value.int q y]):x=y:=by simpa using h
def z0t{α:Type}{n:Nat}(X:Arr n α)(i:Int)(z:α):Arr n α:=⟨X.1.set i.toNat z,by rw [List.length_set];exact X.2⟩
theorem zy6{α:Type}[Inhabited α]{n i sz:Nat}{cl:α→List Value}{X:Arr n α}(a: ∀ x,(cl x).length=sz)(hi:i<n):((z1z cl X).drop (i*sz)).take sz=cl (X.1.getD i default):=by
 have h:i<X.1.length:=by rw [X.2];exact hi
 rw [show z1z cl X=X.1.flatMap cl from rfl,z4c a _ _ _ (List.getElem?_eq_getElem h)]
 simp [List.getD_eq_getElem?_getD,h]
theorem zif{α:Type}{n sz:Nat}{cl:α→List Value}(a: ∀ x,(cl x).length=sz)(X:Arr n α):(z1z cl X).length=n*sz:=by
 rw [show z1z cl X=X.1.flatMap cl from rfl,z4l a,X.2]
theorem zlq{α:Type}{cl:α→List Value}{k:Nat}(h: ∀ x,(cl x).length=k)(z:α): ∀ (l:List α) (i:Nat),i<l.length→(l.set i z).flatMap cl=(l.flatMap cl).take (i*k)++cl z++(l.flatMap cl).drop ((i+1)*k)
 | [],i,hi=>by simp at hi
 |x::l,0,_=>by
  rw [List.set_cons_zero,List.flatMap_cons,List.flatMap_cons,Nat.zero_mul,List.take_zero,List.nil_append,Nat.zero_add,Nat.one_mul,List.drop_left' (h x)]
 |x::l,i+1,hi=>by
  rw [List.set_cons_succ,List.flatMap_cons,List.flatMap_cons,zlq h z l i (by simpa using hi)]
  have a:(i+1)*k=k+i*k:=by rw [Nat.succ_mul,Nat.add_comm]
  have b:(i+1+1)*k=k+(i+1)*k:=by rw [Nat.succ_mul (i+1),Nat.add_comm]
  rw [a,b,←h x,List.take_length_add_append,List.drop_length_add_append,h x]
  simp only [List.append_assoc]
  rw [show k+i*k=(i+1)*k from a.symm]
theorem zno{α:Type}[Inhabited α]{n i sz o:Nat}{cl:α→List Value}{X:Arr n α}{vs:List Value}{z:α}(a: ∀ x,(cl x).length=sz)(hi:i<n)(b:(cl (X.1.getD i default)).take o++vs++(cl (X.1.getD i default)).drop (o+vs.length)=cl z)(g:o+vs.length≤sz):
 over (z1z cl X) (i*sz+o) vs=z1z cl (z0t X (i:Int) z):=by
 have h:i<X.1.length:=by rw [X.2];exact hi
 have hlen:=zif a X
 have j:(i+1)*sz≤n*sz:=Nat.mul_le_mul_right sz hi
 have c:(i+1)*sz=i*sz+sz:=Nat.succ_mul i sz
 have d:=zy6 (X:=X) a hi
 show _=(X.1.set (i:Int).toNat z).flatMap cl
 rw [Int.toNat_natCast,zlq a z X.1 i h,←b,←d]
 unfold over
 show (z1z cl X).take (i*sz+o)++vs++(z1z cl X).drop (i*sz+o+vs.length)=(z1z cl X).take (i*sz)++_++(z1z cl X).drop ((i+1)*sz)
 rw [c]
 generalize z1z cl X=cs at hlen
 have e:cs.take (i*sz+o)=cs.take (i*sz)++(((cs.drop (i*sz)).take sz).take o):=by
  rw [List.take_take,Nat.min_eq_left (by omega),List.take_add]
 have f:cs.drop (i*sz+o+vs.length)=(((cs.drop (i*sz)).take sz).drop (o+vs.length))++cs.drop (i*sz+sz):=by
  rw [List.drop_take,List.drop_drop,←Nat.add_assoc]
  have:cs.drop (i*sz+sz)=(cs.drop (i*sz+o+vs.length)).drop (sz-(o+vs.length)):=by rw [List.drop_drop];congr 1;omega
  rw [this,List.take_append_drop]
 rw [e,f]
 simp only [List.append_assoc]
section w
variable {P : Program} {ρ : Option Nat} {n : Nat} {ops : Array Oper} {Q : Po} {rest : List Oper} {l : Nat → Value} {D : List Nat} {R : RH} {O : List Frag} {ty : TypeId} {pos : String} {after : Array Go.Edge} {d : Nat} {dst : Option Tmp} {g : Option (Nat × Bool)}
variable {α : Type} [Inhabited α] {x y : Operand} {i j o b m sz k off : Nat} {t e bt : TypeId} {X : Arr m α} {cl : α → List Value} {vs : List Value} {v : Value}
theorem z6f{cs:List Value}(c: ∀ w,(isAgg t).run P w= .ok true w)(d: ∀ w,(sizeOf t).run P w= .ok k w)(e:ev l x= .pointer (some ⟨b,0,none⟩))(f:O[j]? =some (box b cs bt))(a:cs.length=k)(h:Value.agg cs.toArray=v):
 Val P ρ ⟨dst,.load t x,ty,pos,after,g⟩ l R O v:=by
 subst h
 exact qz c d e f (by rw [List.drop_zero,←a,List.take_length]) a
theorem zkn{z:α}{w:Value}(a: ∀ x,(cl x).length=sz)(c: ∀ w,(sizeOf t).run P w= .ok k w)(d:ev l x= .pointer (some ⟨b,off,none⟩))(hoff:off=i*sz+o)(e:O[j]? =some (box b (z1z cl X) bt))(hi:i<m)
 (f:ev l y=w) (h:w.cells=vs.toArray) (n:vs.length=k) (p: ∀ v∈vs,v.oneCell'=true) (q:o+vs.length≤sz) (r:(cl (X.1.getD i default)).take o++vs++(cl (X.1.getD i default)).drop (o+vs.length)=cl z):
 Eff P ρ ⟨dst,.store t x y,ty,pos,after,g⟩ l R O (fun v' R' O'=>v'=undef∧R'=R∧O'=O.set j (box b (z1z cl (z0t X (i:Int) z)) bt)):=by
 subst hoff
 have s:=zno (X:=X) a hi r q
 have u:=zif a X
 have A:(i+1)*sz≤m*sz:=Nat.mul_le_mul_right sz hi
 rw [Nat.succ_mul] at A
 have:=bn (P:=P) (ρ:=ρ) (R:=R) (dst:=dst) (ty:=ty) (pos:=pos) (after:=after) (g:=g) c d f h n e (by rw [u];omega) p
 rw [s] at this
 exact this
theorem zii{z:α}{w:Value}{q:Int}(d: ∀ x,(cl x).length=sz)(f: ∀ w,(sizeOf t).run P w= .ok k w)(g:ev l x= .pointer (some ⟨b,off,none⟩))(h:q.toNat=i)(hoff:off=i*sz+o)(a:O[j]? =some (box b (z1z cl X) bt))(hi:i<m)
 (p:ev l y=w) (r:w.cells=vs.toArray) (s:vs.length=k) (u: ∀ v∈vs,v.oneCell'=true) (A:Nat.ble (o+vs.length) sz=true) (B:(cl (X.1.getD i default)).take o++vs++(cl (X.1.getD i default)).drop (o+vs.length)=cl z)
 (c:wo P ρ n ops Q rest l D R (O.set j (box b (z1z cl (z0t X q z)) bt))):wo P ρ n ops Q (⟨none,.store t x y,ty,pos,after,none⟩::rest) l D R O:=by
 have e:z0t X q z=z0t X (i:Int) z:=Subtype.ext (by show X.1.set q.toNat z=X.1.set ((i:Int).toNat) z;rw [h,Int.toNat_natCast])
 rw [e] at c
 exact z7z (zkn d f g hoff a hi p r s u (by simpa using A) B) fun v' R' O' _ ⟨_,C,a⟩=>by subst C;subst a;exact c
theorem zdz{cs cs':List Value}{w:Value}(c: ∀ w,(sizeOf t).run P w= .ok k w)(d:ev l x= .pointer (some ⟨b,0,none⟩))(a:O[j]? =some (box b cs bt))(m:cs.length=k)(hk':cs'.length=k)(e:ev l y=w)(f:w.cells=cs'.toArray)(g: ∀ v∈cs',v.oneCell'=true)
 (h:wo P ρ n ops Q rest l D R (O.set j (box b cs' bt))):wo P ρ n ops Q (⟨none,.store t x y,ty,pos,after,none⟩::rest) l D R O:=
 z7z (bn c d e f hk' a (by omega) g) fun v' R' O' _ ⟨_,i,a⟩=>by
  subst i;subst a
  have:over cs 0 cs'=cs':=by unfold over;rw [List.take_zero,List.nil_append,Nat.zero_add,List.drop_eq_nil_of_le (by omega),List.append_nil]
  rw [this];exact h
theorem zie{cs:List Value}(h: ∀ v∈cs,z7b v): ∀ v∈cs,v.oneCell'=true:=fun v a=>by
 rcases h v a with⟨q,x,rfl⟩|⟨b,rfl⟩<;>rfl
/-! ### Structs out of parts of any size-/
inductive FillOk (place:Nat→Option (Nat×Nat)):Nat→List (Nat×Value)→List Value→Prop
 |nil {off:Nat}:FillOk place off [] []
 |last {off i:Nat} {v:Value} {c:List Value}:v.cells=c.toArray→place i=some (off,c.length)→FillOk place off [(i,v)] c
 |cons {off i:Nat} {v:Value} {ps:List (Nat×Value)} {c out:List Value}:v.cells=c.toArray→place i=some (off,c.length)→FillOk place (off+c.length) ps out→FillOk place off ((i,v)::ps) (c++out)
theorem zvg{place:Nat→Option (Nat×Nat)}{off:Nat}{ps:List (Nat×Value)}{out:List Value}(h:FillOk place off ps out): ∀ (done rest:List Value),done.length=off→rest.length=out.length→Instr.fill place (done++rest).toArray ps=some (done++out).toArray:=by
 induction h with
 |nil=>
  intro done rest _ a
  have:rest=[]:=List.length_eq_zero_iff.1 (by simpa using a)
  subst this;rfl
 | @last off i v c b d=>
  intro done rest e a
  simp only [Instr.fill,d,b,List.size_toArray]
  rw [if_neg (by simp;omega)]
  have hfold:Array.foldl (fun(cs:Array Value) (x:Value×Nat)=>cs.setIfInBounds (off+x.2) x.1) (done++rest).toArray c.toArray.zipIdx=(done++c).toArray:=by
   rw [←Array.foldl_toList]
   have:c.toArray.zipIdx.toList=c.zipIdx 0:=by simp
   rw [this,foldl_set,Nat.add_zero,foldl_over _ _ _ (by simp;omega)]
   congr 1
   unfold over
   rw [←e,List.take_left,List.drop_eq_nil_of_le (by simp;omega),List.append_nil]
  exact congrArg some hfold
 | @cons off i v ps c out b d g ih=>
  intro done rest e a
  rw [List.length_append] at a
  simp only [Instr.fill,d,b,List.size_toArray]
  rw [if_neg (by simp;omega)]
  have hfold:Array.foldl (fun(cs:Array Value) (x:Value×Nat)=>cs.setIfInBounds (off+x.2) x.1) (done++rest).toArray c.toArray.zipIdx=((done++c)++rest.drop c.length).toArray:=by
   rw [←Array.foldl_toList]
   have:c.toArray.zipIdx.toList=c.zipIdx 0:=by simp
   rw [this,foldl_set,Nat.add_zero,foldl_over _ _ _ (by simp;omega)]
   congr 1
   unfold over
   rw [←e,List.take_left,List.drop_append,List.drop_eq_nil_of_le (by omega)]
   simp
  have f:=ih (done++c) (rest.drop c.length) (by rw [List.length_append];omega) (by rw [List.length_drop];omega)
  rw [←List.append_assoc,←f]
  exact congrArg (fun c=>Instr.fill place c ps) hfold
theorem znp{parts:List (Nat×Operand)}{ps:List (Nat×Value)}{fs:Array Field}{pls:Array (Nat×Nat)}{out:List Value}(c:(parts.map fun x=>(x.1,ev l x.2))=ps)(d:P.underlying t=some (.struct fs))(e: ∀ w,∃ z,(zeroValue t).run P w= .ok z w∧z.cells.size=k)
 (a: ∀ w,(fs.mapM fun f=>do pure (f.offset,←sizeOf f.type):Sem (Array (Nat×Nat))).run P w= .ok pls w) (h:FillOk (pls[·]?) 0 ps out) (i:out.length=k) (j:Value.agg out.toArray=v):Val P ρ ⟨dst,.build t parts.toArray,ty,pos,after,g⟩ l R O v:=
 uk c fun w=>by
  subst j
  obtain⟨z,m,n⟩:=e w
  have b:=zvg h [] z.cells.toList rfl (by rw [i,Array.length_toList];exact n)
  simp only [List.nil_append,Array.toArray_toList] at b
  simp only [Instr.build,Sem.run_bind,m,Result.andThen_ok,run_underlying d,a w,b,Sem.run_pure]
theorem zvj{cs:List Value}(h:cs.length=k)(a: ∀ w,∃ z,(zeroValue t).run P w= .ok z w∧z.cells=cs.toArray): ∀ w,∃ z,(zeroValue t).run P w= .ok z w∧z.cells.size=k:=fun w=>by
 obtain⟨z,b,c⟩:=a w
 exact⟨z,b,by rw [c,List.size_toArray,h]⟩
theorem zqp{w:World}{cs:List Value}(c:Holds R O w)(d:O[i]? =some (box b cs bt))(e: ∀ w,(isAgg t).run P w= .ok true w)(f: ∀ w,(sizeOf t).run P w= .ok k w)(a:cs.length=k):(loadVar t ⟨b,0,none⟩).run P w= .ok (.agg cs.toArray) w:=
 bi c d (by rw [List.drop_zero,←a,List.take_length]) e f a (by simp [a])
end w
/-! ### Loops that are gone through so many times-/
section u
variable {P : Program} {ρ : Option Nat} {n : Nat} {Q : Po} {l : Nat → Value} {D : List Nat} {R : RH} {O : List Frag} {c : Code}
end u
section mm
variable {P : Program} {ρ : Option Nat} {l : Nat → Value} {R : RH} {O : List Frag} {ty : TypeId} {pos : String} {after : Array Go.Edge} {dst : Option Tmp} {g : Option (Nat × Bool)} {k : IntKind} {a b : Int} {x y : Operand} {at' : Array TypeId} {t : TypeId} {d : TypeDesc}
theorem zt5(j:at'[0]? =some t)(m:P.underlying t=some d)(f:ev l x= .int k a)(i:ev l y= .int k b):Val P ρ ⟨dst,.call ⟨.builtin .max,#[x,y],at'⟩,ty,pos,after,g⟩ l R O (.int k (max a b)):=by
 intro A w _;rw [qj (by intro c h;cases h)]
 have e:(if b>a then b else a)=max a b:=by rw [Int.max_def];split<;>split<;>omega
 simp [execOp,resolve,invoke,builtin,Builtin.max_,Builtin.max2,f,i,e]
end mm
section p
variable {P : Program} {ρ : Option Nat} {l : Nat → Value} {R : RH} {O : List Frag} {ty : TypeId} {pos : String} {after : Array Go.Edge} {dst : Option Tmp} {g : Option (Nat × Bool)}
variable {α β : Type} [Inhabited α] {T : Ty α} {B : Ty β} {X : List α} {v u w : Value} {x y : Operand} {F : Frag} {i o : Nat} {t : TypeId} {se : α → β → α}
theorem ziw(a:za0 T o B se)(b:TyOk P t B)(c:ORep T R F v X)(d:ev l x=u)(e:z4h T o v X u i)(hi:i<X.length)(f:ev l y=w){z:β}(k:VRep B R w z):
 Eff P ρ ⟨dst,.store t x y,ty,pos,after,g⟩ l R ([F]++O) (fun v' R' O'=> ∃ Oc,O'=Oc++O∧R'=R∧ ∃ F',Oc=[F']∧ORep T R F' v (X.set i (se (X.getD i default) z))):=
 (zjt (O:=[F]++O) (j:=0) a b c rfl d e hi f k).mono fun v' R' O' _ ⟨m,f',n,h⟩=>by
  subst m;subst n
  exact⟨[f'],rfl,rfl,f',rfl,h⟩
end p
end GV
end Go.Proofs.YtkkcidhcfkmbjaaGreatDoor

namespace Go.Proofs.YtkkcidhcfkmbjaaGreatDoor
namespace GV
/-! ### A box that only is read,of which the value is known-/
def zhf(v:Value):Ty Unit where
 size:=v.cells.size
 agg:=true
 rep _ cs _:=v= .agg cs.toArray∧ ∀ c∈cs,c.oneCell'=true
 len:=by rintro R cs x ⟨rfl,_⟩;simp [Value.cells]
 mono _ h:=h
 one h:=by cases h
 cell h:=h.2
theorem zsp{R:RH}{v w:Value}{x:Unit}(h:VRep (zhf v) R w x):w=v:=by
 obtain⟨cs,⟨rfl,_⟩,rfl⟩:=h;rfl
theorem q12{α:Type}{T:Ty α}{R:RH}{v:Value}{y:α}(a:T.agg=true)(b:VRep T R v y):VRep (zhf v) R v ():=by
 obtain⟨cs,c,rfl⟩:=b
 have e:T.mk' cs= .agg cs.toArray:=by unfold Ty.mk';rw [a];rfl
 exact⟨cs,⟨e,T.cell c⟩,e⟩
theorem zte{α:Type}{T:Ty α}{R:RH}{v u:Value}{y:α}(f:T.agg=true)(g:PRep (zhf v) R u ())(h:VRep T R v y):PRep T R u y:=by
 obtain⟨cs,a,rfl⟩:=h
 have e:T.mk' cs= .agg cs.toArray:=by unfold Ty.mk';rw [f];rfl
 obtain⟨b,off,c,ty,fr,i,j,d,_⟩:=g
 have k:(zhf (T.mk' cs)).size=T.size:=by rw [←T.len a,e];simp [zhf,Value.cells]
 refine⟨b,off,c,ty,fr,i,j,?_⟩
 rw [k,e] at d
 have:cs=cellsAt c off T.size:=by simpa using d
 rw [←this];exact a
theorem jm{α:Type}{P:Program}{ρ:Option Nat}{l:Nat→Value}{R:RH}{O:List Frag}{dst:Option Tmp}{ty:TypeId}{pos:String}{after:Array Go.Edge}{g:Option (Nat×Bool)}{T:Ty α}{t:TypeId}{x:Operand}{u v:Value}{y:α}
 (a:TyOk P t T) (b:T.agg=true) (c:ev l x=u) (d:PRep (zhf v) R u ()) (f:VRep T R v y):Val P ρ ⟨dst,.load t x,ty,pos,after,g⟩ l R O v:=by
 have i:(zhf v).size=T.size:=by
  obtain⟨cs,j,rfl⟩:=f
  have e:T.mk' cs= .agg cs.toArray:=by unfold Ty.mk';rw [b];rfl
  rw [←T.len j,e];simp [zhf,Value.cells]
 have ht':TyOk P t (zhf v):=⟨fun w=>by rw [a.agg w,b];rfl,fun w=>by rw [a.size w,i]⟩
 obtain⟨w,k,h⟩:=za6 (ρ:=ρ) (O:=O) ht' c d
 obtain rfl:=zsp k
 exact h _ _ _ _ _
theorem uh{α:Type}{P:Program}{ρ:Option Nat}{n:Nat}{ops:Array Oper}{Q:Po}{rest:List Oper}{l:Nat→Value}{D:List Nat}{R:RH}{O:List Frag}{ty:TypeId}{pos:String}{after:Array Go.Edge}{d:Nat}{T:Ty α}{e:TypeId}{x:Operand}{v:Value}{y:α}(g:Nat.blt d n=true)(h:ev l x=v)(b:T.agg=true)(c:VRep T R v y)
 (i: ∀ u R',RH.le R R'→PRep (zhf v) R' u ()→PRep T R' u y→wo P ρ n ops Q rest (upd l d u) D R' O):wo P ρ n ops Q (⟨some d,.box e x,ty,pos,after,none⟩::rest) l D R O:=
 z6m g h (q12 b c) fun u R' a f=>i u R' a f (zte b f (c.mono a))
/-! ### A part of a box that is an array of values of one cell-/
def zy4(n:Nat)(g:Nat→Value):List Value:=(List.range n).map g
def AG{α:Type}[Inhabited α](T:Ty α)(R:RH)(n:Nat)(g:Nat→Value)(X:List α):Prop:=X.length=n∧ ∀ k,k<n→VRep T R (g k) (X.getD k default)∧(g k).oneCell'=true
theorem AG.mono{α:Type}[Inhabited α]{T:Ty α}{R R':RH}{n:Nat}{g:Nat→Value}{X:List α}(h:AG T R n g X)(a:RH.le R R'):AG T R' n g X:=⟨h.1,fun k b=>⟨(h.2 k b).1.mono a,(h.2 k b).2⟩⟩
theorem zt3(n:Nat)(g:Nat→Value):(zy4 n g).length=n:=by simp [zy4]
section g
variable {P : Program} {ρ : Option Nat} {n : Nat} {ops : Array Oper} {Q : Po} {rest : List Oper} {l : Nat → Value} {D : List Nat} {R : RH} {O : List Frag} {ty : TypeId} {pos : String} {after : Array Go.Edge} {dst : Option Tmp} {g0 : Option (Nat × Bool)}
end g
/-! ### A slice that keeps its capacity;a new slice that only is read-/
section c
variable {P : Program} {ρ : Option Nat} {n : Nat} {ops : Array Oper} {Q : Po} {rest : List Oper} {l : Nat → Value} {D : List Nat} {R : RH} {O : List Frag} {ty : TypeId} {pos : String} {after : Array Go.Edge} {dst : Option Tmp} {g : Option (Nat × Bool)}
end c
end GV
end Go.Proofs.YtkkcidhcfkmbjaaGreatDoor

namespace Go.Proofs.YtkkcidhcfkmbjaaGreatDoor
namespace GV
def EV(P:Program)(ρ:Option Nat)(o:Oper)(l:Nat→Value)(R:RH)(O:List Frag)(φ:Value→RH→Prop):Prop:= ∃ v,φ v R∧Val P ρ o l R O v
theorem zjy{l:Nat→Value}{a:Operand}{az:List Operand}{v:Value}{vs:List Value}(h:ev l a=v)(k:az.map (ev l)=vs):(a::az).map (ev l)=v::vs:=by rw [List.map_cons,h,k]
section ev
variable {P : Program} {ρ : Option Nat} {l : Nat → Value} {R : RH} {O : List Frag} {dst : Option Tmp} {ty : TypeId} {pos : String} {after : Array Go.Edge} {g : Option (Nat × Bool)}
theorem jb{o:Oper}{v:Value}(h:Val P ρ o l R O v):EV P ρ o l R O (phX v):=⟨v,rfl,h⟩
theorem zz0{o:Oper}{v:Value}(h:EV P ρ o l R O (phX v)):Val P ρ o l R O v:=by
 obtain⟨u,a,b⟩:=h
 obtain rfl:u=v:=a
 exact b
theorem z7i{o:Oper}{α:Type}{T:Ty α}{x:α}{a:Value}(h:EV P ρ o l R O (phR T x))(b: ∀ R v,VRep T R v x→v=a):Val P ρ o l R O a:=by
 obtain⟨v,c,d⟩:=h
 rwa [b _ _ c] at d
theorem z0a{o:Oper}{k:IntKind}{x:Int}(h:EV P ρ o l R O (phR (qb k) x)):Val P ρ o l R O (.int k x):=z7i h fun _ _ h=>j4.1 h
theorem zpg{o:Oper}{x:Bool}(h:EV P ρ o l R O (phR z1k x)):Val P ρ o l R O (.bool x):=z7i h fun _ _ h=>z3t.1 h
theorem um{α:Type}{T:Ty α}{t:TypeId}{x:Operand}{v:Value}{y:α}(a:TyOk P t T)(b:ev l x=v)(c:PRep T R v y):EV P ρ ⟨dst,.load t x,ty,pos,after,g⟩ l R O (phR T y):=
 let⟨u,d,e⟩:=za6 a b c
 ⟨u,d,e _ _ _ _ _⟩
theorem vo{α β:Type}{A:Ty α}{B:Ty β}{s:TypeId}{x:Operand}{f o:Nat}{v:Value}{y:α}{pr:α→β}(a:FieldOk P s f o)(hpart:Part A o B pr)(b:ev l x=v)(c:PRep A R v y):
 EV P ρ ⟨dst,.fieldAddr s x f,ty,pos,after,g⟩ l R O (phP B (pr y)):=
 let⟨u,d,e⟩:=zb3 a hpart b c
 ⟨u,d,e _ _ _ _ _⟩
theorem z3z{α:Type}[Inhabited α]{T:Ty α}{t e:TypeId}{x ix:Operand}{v:Value}{X:List α}{k:IntKind}{i:Nat}(a:SlOk P t e T)(b:ev l x=v)(c:VRep (vw T) R v X)(hi:ev l ix= .int k i)(d:i<X.length):
 EV P ρ ⟨dst,.indexAddr t x ix,ty,pos,after,g⟩ l R O (phP T (X.getD i default)):=
 let⟨u,f,h⟩:=zbi a b c hi (getD_some d)
 ⟨u,f,h _ _ _ _ _⟩
theorem za2{α:Type}{T:Ty α}{t e:TypeId}{x ix:Operand}{v:Value}{X:List α}{k:IntKind}{i:Nat}{f:Frag}(a:SlOk P t e T)(c:ev l x=v)(d:ORep T R f v X)(hi:ev l ix= .int k i)(h:i<X.length):
 EV P ρ ⟨dst,.indexAddr t x ix,ty,pos,after,g⟩ l R O (fun u _=>z1i T v X u i):=
 let⟨b,off,j,m⟩:=zb9 (O:=O) a c d hi h
 ⟨_,⟨b,off,j,rfl⟩,m _ _ _ _ _⟩
theorem zls{α:Type}[Inhabited α]{T:Ty α}{t:TypeId}{x:Operand}{f:Frag}{v u:Value}{X:List α}{i j:Nat}(a:TyOk P t T)(c:ORep T R f v X)(d:O[j]? =some f)(e:ev l x=u)(h:z1i T v X u i)(k:i<X.length):
 EV P ρ ⟨dst,.load t x,ty,pos,after,g⟩ l R O (phR T (X.getD i default)):=by
 obtain⟨b,off,m,rfl⟩:=h
 obtain⟨y,hy',n⟩:=zdh (ρ:=ρ) (P:=P) a c m d e (getD_some k)
 exact⟨y,hy',n _ _ _ _ _⟩
section nest
variable {α : Type} {t : Bool} {T : Ty α} {F : Frag} {v : Value} {Vs : List Value} {X : List (List α)}
theorem zhw{tt e:TypeId}{x ix:Operand}{k:IntKind}{i:Nat}(a:SlOk P tt e tHdr)(b:ev l x=v)(h:N2 t T R F v Vs X)(hi:ev l ix= .int k i)(d:i<X.length):
 EV P ρ ⟨dst,.indexAddr tt x ix,ty,pos,after,g⟩ l R O (fun u _=>z1i tHdr v Vs u i):=by
 obtain⟨f0,c,_,f⟩:=h.o
 exact za2 a b c hi (by omega)
theorem zmf{tt:TypeId}{x:Operand}{u:Value}{i j:Nat}(a:TyOk P tt tHdr)(h:N2 t T R F v Vs X)(b:O[j]? =some F)(c:ev l x=u)(d:z1i tHdr v Vs u i)(n:i<X.length):
 EV P ρ ⟨dst,.load tt x,ty,pos,after,g⟩ l R O (phX (Vs.getD i default)):=by
 obtain⟨f0,e,f,p⟩:=h.o
 obtain⟨w,k,m⟩:=zij (ρ:=ρ) (P:=P) a e f b c d (getD_some (by omega))
 exact⟨w,zlv k,m _ _ _ _ _⟩
theorem zg5{tt e:TypeId}{x ix:Operand}{k:IntKind}{i r:Nat}(a:SlOk P tt e T)(h:N2 t T R F v Vs X)(b:r<X.length)(c:ev l x=Vs.getD r default)(hi:ev l ix= .int k i)(d:i<(X.getD r default).length):
 EV P ρ ⟨dst,.indexAddr tt x ix,ty,pos,after,g⟩ l R O (fun u _=>z1i T (Vs.getD r default) (X.getD r default) u i):=
 let⟨fk,f,_⟩:=h.row b;za2 a c f hi d
end nest
section part
variable {α β : Type} {T : Ty α} {B : Ty β} {X : List α} {v u : Value} {x : Operand} {f : Frag} {i j o fld : Nat} {s t : TypeId} {pr : α → β}
end part
end ev
/-! ### In the text's order-/
section wo
variable {P : Program} {ρ : Option Nat} {n : Nat} {Q : Po} {l : Nat → Value} {D : List Nat} {R : RH} {O : List Frag} {ops : Array Oper} {rest : List Oper} {op : Op} {ty : TypeId} {pos : String} {after : Array Go.Edge} {d : Nat} {φ : Value → RH → Prop}
theorem zr9(a:Nat.blt d n=true)(h:EV P ρ ⟨some d,op,ty,pos,after,none⟩ l R O φ)(b: ∀ v,φ v R→wo P ρ n ops Q rest (upd l d v) D R O):wo P ρ n ops Q (⟨some d,op,ty,pos,after,none⟩::rest) l D R O:=
 let⟨v,c,e⟩:=h
 jy a e (b v c)
theorem zh8{a:Act}{j s:Nat}(d:Fr n l D a)(c:guardSlot ops j=some s)(f:l s=undef):yielded ops a.tmps j=none:=by
 unfold yielded
 unfold guardSlot at c
 rw [c]
 have b:=d.get s
 rw [f,Array.getD_eq_getD_getElem?] at b
 simp only [Option.bind_some]
 cases h:a.tmps[s]? with
 |none=>rfl
 |some v=>
  rw [h] at b
  have e:v=undef:=b
  rw [e];rfl
theorem zwp{j s:Nat}{want:Bool}(c:guardSlot ops j=some s)(e:Nat.blt s n=true)(f:l s=undef)(g:Nat.blt d n=true)(i:wo P ρ n ops Q rest (upd l d undef) D R O):
 wo P ρ n ops Q (⟨some d,op,ty,pos,after,some (j,want)⟩::rest) l D R O:=by
 intro a w b k
 have m:=zh8 b c f
 have h:=i _ w (b.put (d:=some d) (fun t o=>by cases o;simpa using g) undef) k
 simp only [wlo]
 rw [if_neg (by simp [Region.wanted,m])]
 exact⟨fun _ _=>trivial,h⟩
theorem zzv{j s:Nat}{want Gj Bj:Bool}(b:guardSlot ops j=some s)(a:Nat.blt s n=true)(c:Nat.blt d n=true)(e:phG Gj (phX (.bool Bj)) (l s) R)
 (hyes:Gj=true→Bj=want→Eff P ρ ⟨some d,op,ty,pos,after,none⟩ l R O fun v R' O'=>O'=O∧φ v R') (f: ∀ v R',RH.le R R'→phG (Gj&&(Bj==want)) φ v R'→wo P ρ n ops Q rest (upd l d v) D R' O):
 wo P ρ n ops Q (⟨some d,op,ty,pos,after,some (j,want)⟩::rest) l D R O:=by
 cases Gj with
 |false=>exact zwp b a (e.2 rfl) c (f _ _ (RH.le.refl _) ⟨fun h=>by(cases h),fun _=>rfl⟩)
 |true=>
  by_cases i:Bj=want
  ·subst i
   refine zwt b a (e.1 rfl) (zjr c (hyes rfl rfl) fun v R' g h=>f v R' g ⟨fun _=>h,fun h=>by simp at h⟩)
  ·have hb':(Bj==want)=false:=by simpa using i
   exact zx3 b a (e.1 rfl) hb' c (f _ _ (RH.le.refl _) (by rw [hb'];exact⟨fun h=>by simp at h,fun _=>rfl⟩))
theorem q0w{j s:Nat}{want Gj Bj:Bool}(b:guardSlot ops j=some s)(a:Nat.blt s n=true)(c:Nat.blt d n=true)(e:phG Gj (phX (.bool Bj)) (l s) R)
 (hyes:Gj=true→Bj=want→EV P ρ ⟨some d,op,ty,pos,after,none⟩ l R O φ) (f: ∀ v,phG (Gj&&(Bj==want)) φ v R→wo P ρ n ops Q rest (upd l d v) D R O):
 wo P ρ n ops Q (⟨some d,op,ty,pos,after,some (j,want)⟩::rest) l D R O:=by
 cases Gj with
 |false=>exact zwp b a (e.2 rfl) c (f _ ⟨fun h=>by(cases h),fun _=>rfl⟩)
 |true=>
  by_cases g:Bj=want
  ·subst g
   obtain⟨v,i,k⟩:=hyes rfl rfl
   exact zwt b a (e.1 rfl) (jy c k (f v ⟨fun _=>i,fun h=>by simp at h⟩))
  ·have hb':(Bj==want)=false:=by simpa using g
   exact zx3 b a (e.1 rfl) hb' c (f _ (by rw [hb'];exact⟨fun h=>by simp at h,fun _=>rfl⟩))
theorem jc{j s:Nat}{want Bj:Bool}(b:guardSlot ops j=some s)(a:Nat.blt s n=true)(c:Nat.blt d n=true)(e:l s= .bool Bj)
 (hyes:Bj=want→EV P ρ ⟨some d,op,ty,pos,after,none⟩ l R O φ) (f: ∀ v,phG (true&&(Bj==want)) φ v R→wo P ρ n ops Q rest (upd l d v) D R O):
 wo P ρ n ops Q (⟨some d,op,ty,pos,after,some (j,want)⟩::rest) l D R O:=q0w b a c (aj e) (fun _=>hyes) f
theorem zbg{j s:Nat}{want Bj:Bool}(b:guardSlot ops j=some s)(a:Nat.blt s n=true)(c:Nat.blt d n=true)(e:l s= .bool Bj)
 (hyes:Bj=want→Eff P ρ ⟨some d,op,ty,pos,after,none⟩ l R O fun v R' O'=>O'=O∧φ v R') (f: ∀ v R',RH.le R R'→phG (true&&(Bj==want)) φ v R'→wo P ρ n ops Q rest (upd l d v) D R' O):
 wo P ρ n ops Q (⟨some d,op,ty,pos,after,some (j,want)⟩::rest) l D R O:=zzv b a c (aj e) (fun _=>hyes) f
end wo
end GV
end Go.Proofs.YtkkcidhcfkmbjaaGreatDoor

namespace Go.Proofs.YtkkcidhcfkmbjaaGreatDoor
namespace GV
def opds:Op→Option (List Operand)
 | .move x| .assign x| .load _ x| .nilCheck x| .unOp _ _ x| .convert _ _ x| .fieldAddr _ x _| .field _ x _| .extract x _=>some [x]
 | .pick c a b=>some [c,a,b]
 | .binOp _ _ x y _| .indexAddr _ x y| .index _ x y| .lookup _ x y _=>some [x,y]
 | .build _ ps=>some (ps.toList.map (·.2))
 | .makeFunc _ fs cs=>some (fs.toList++cs.toList)
 | .slice _ x lo hi mx=>some (x::(lo.toList++(hi.toList++mx.toList)))
 | .call c=>match c.callee with
  | .builtin _=>some c.args.toList
  |_=>none
 |_=>none
theorem zdw{ρ1 ρ2:Operand→Value}{x:Option Operand}(h: ∀ y∈x.toList,ρ1 y=ρ2 y):x.map ρ1=x.map ρ2:=by
 cases x with
 |none=>rfl
 |some y=>simp [h y (by simp)]
theorem zd9{ρ1 ρ2:Operand→Value}{xs:Array Operand}(h: ∀ y∈xs.toList,ρ1 y=ρ2 y):xs.map ρ1=xs.map ρ2:=by
 apply Array.ext'
 rw [Array.toList_map,Array.toList_map]
 exact List.map_congr_left h
theorem zr6{ρ1 ρ2:Operand→Value}{xs:Array (Nat×Operand)}(h: ∀ y∈xs.toList.map (·.2),ρ1 y=ρ2 y):(xs.map fun(i,x)=>(i,ρ1 x))=xs.map fun(i,x)=>(i,ρ2 x):=by
 apply Array.ext'
 rw [Array.toList_map,Array.toList_map]
 refine List.map_congr_left fun p a=>?_
 obtain⟨i,x⟩:=p
 have:=h x (List.mem_map.2 ⟨(i,x),a,rfl⟩)
 simp only [this]
theorem zmy{o:Oper}{xs:List Operand}{ρ1 ρ2:Operand→Value}(h:opds o.op=some xs)(a: ∀ x∈xs,ρ1 x=ρ2 x):execOp ρ1 o=execOp ρ2 o:=by
 obtain⟨dst,op,ty,pos,after,g⟩:=o
 dsimp only at h
 cases op<;>simp only [opds,Option.some.injEq,reduceCtorEq] at h
 case call c=>
  obtain⟨cal,args,at'⟩:=c
  cases cal<;>simp only [Option.some.injEq,reduceCtorEq] at h
  subst h
  simp only [execOp,resolve,zd9 a]
 case build t ps=>subst h;simp only [execOp,zr6 a]
 case makeFunc f fs cs=>
  subst h
  simp only [execOp,zd9 (xs:=fs) (fun y b=>a y (List.mem_append_left _ b)),zd9 (xs:=cs) (fun y b=>a y (List.mem_append_right _ b))]
 case slice t x lo hi mx=>
  subst h
  simp only [execOp,a x (List.mem_cons_self ..),zdw (x:=lo) (fun y b=>a y (by simp [b])),zdw (x:=hi) (fun y b=>a y (by simp [b])),zdw (x:=mx) (fun y b=>a y (by simp [b]))]
 all_goals subst h;simp only [List.mem_cons,List.not_mem_nil,or_false,forall_eq_or_imp,forall_eq] at a;simp only [execOp,a]
theorem ziq{op:Op}{xs:List Operand}(h:opds op=some xs): ∀ c,op≠ .defer c:=by
 intro c e;subst e;simp [opds] at h
theorem zo7{R R':RH}{O:List Frag}{w:World}(h:Holds R' O w)(a:R.le R'):Holds R O w:=by
 refine⟨fun k o b=>h.ro k o (a.blk k o b),fun f c k o b=>⟨(h.own f c k o b).1,?_⟩,h.sep,by rw [←a.os];exact h.os,by rw [←a.out];exact h.out⟩
 cases e:R.blk k with
 |none=>rfl
 |some o'=>
  have:=a.blk k o' e
  rw [(h.own f c k o b).2] at this;cases this
theorem zpz{P:Program}{ρ:Option Nat}{o:Oper}{l l':Nat→Value}{R R':RH}{O:List Frag}{v:Value}{xs:List Operand}(h:Val P ρ o l R O v)(c:opds o.op=some xs)(e: ∀ s,.tmp s∈xs→l' s=l s)(a:R.le R'):Val P ρ o l' R' O v:=by
 intro A w f
 have d:=h A w (zo7 f a)
 have g:=ziq c
 rw [qj g] at d⊢
 rw [zmy c (ρ2:=ev l) fun x b=>?_]
 ·exact d
 ·cases x with
  |tmp s=>exact e s b
  |_=>rfl
def wv(P:Program)(ρ:Option Nat)(R:RH)(O:List Frag):List Oper→(Nat→Value)→((Nat→Value)→Prop)→Prop
 | [],l,K=>K l
 |o::r,l,K=> ∃ d v,o.dst=some d∧Val P ρ o l R O v∧wv P ρ R O r (upd l d v) K
section wv
variable {P : Program} {ρ : Option Nat} {n : Nat} {Q : Po} {l : Nat → Value} {D : List Nat} {R : RH} {O : List Frag} {rest : List Oper} {op : Op} {ty : TypeId} {pos : String} {after : Array Go.Edge} {d : Nat} {φ : Value → RH → Prop} {K : (Nat → Value) → Prop} {g : Option (Nat × Bool)}
theorem gy{v:Value}(h:Val P ρ ⟨some d,op,ty,pos,after,g⟩ l R O v)(a:wv P ρ R O rest (upd l d v) K):wv P ρ R O (⟨some d,op,ty,pos,after,g⟩::rest) l K:=⟨d,v,rfl,h,a⟩
theorem zam(h:EV P ρ ⟨some d,op,ty,pos,after,g⟩ l R O φ)(a: ∀ v,φ v R→wv P ρ R O rest (upd l d v) K):wv P ρ R O (⟨some d,op,ty,pos,after,g⟩::rest) l K:=
 let⟨v,b,c⟩:=h
 ⟨d,v,rfl,c,a v b⟩
def zsu(gs:List Oper)(s:Nat):Option Nat:=gs.findIdx? fun o=>o.dst==some s
def clV(gs:List Oper):Bool:=gs.zipIdx.all fun(o,i)=>o.guard.isNone&&(match opds o.op with
 |none=>false
 |some xs=>xs.all fun x=>match x with
  | .tmp s=>(match zsu gs s with|none=>true|some j=>Nat.blt j i&&o.after.toList.any fun e=>Nat.beq e.on j&&Region.binds .any e)
  |_=>true)
def zga(l:Nat→Value):List (Nat×Value)→Nat→Value
 | []=>l
 |(d,v)::r=>zga (upd l d v) r
theorem zit{s d:Nat}{v:Value}(h:s≠d):upd l d v s=l s:=by
 unfold upd
 have:Nat.beq s d=false:=by
  cases hb:Nat.beq s d
  ·rfl
  ·exact absurd (Nat.eq_of_beq_eq_true hb) h
 rw [this];rfl
theorem zok{d:Nat}{v:Value}:upd l d v d=v:=by unfold upd;simp
theorem zd8{s:Nat}: ∀ {acc:List (Nat×Value)} {l:Nat→Value},s∉acc.map (·.1)→zga l acc s=l s
 | [],_,_=>rfl
 |(d,v)::r,l,h=>by
  simp only [List.map_cons,List.mem_cons,not_or] at h
  rw [zga,zd8 h.2,zit h.1]
theorem zjw{s:Nat}{v:Value}: ∀ {acc:List (Nat×Value)} {l:Nat→Value} {j:Nat},acc[j]? =some (s,v)→(acc.map (·.1)).Nodup→zga l acc s=v
 | [],_,_,h,_=>by simp at h
 |(d,u)::r,l,0,h,a=>by
  simp only [List.getElem?_cons_zero,Option.some.injEq,Prod.mk.injEq] at h
  obtain⟨rfl,rfl⟩:=h
  simp only [List.map_cons,List.nodup_cons] at a
  rw [zga,zd8 a.1,zok]
 |(d,u)::r,l,j+1,h,a=>by
  simp only [List.map_cons,List.nodup_cons] at a
  rw [zga]
  exact zjw (j:=j) (by simpa using h) a.2
theorem zlh{s:Nat}: ∀ {acc:List (Nat×Value)},s∉acc.map (·.1)→z1h l acc s=l s
 | [],_=>rfl
 |(d,v)::r,h=>by
  simp only [List.map_cons,List.mem_cons,not_or] at h
  rw [z1h,zit h.1,zlh h.2]
theorem zp0{s:Nat}{v:Value}: ∀ {acc:List (Nat×Value)} {j:Nat},acc[j]? =some (s,v)→(acc.map (·.1)).Nodup→z1h l acc s=v
 | [],_,h,_=>by simp at h
 |(d,u)::r,0,h,a=>by
  simp only [List.getElem?_cons_zero,Option.some.injEq,Prod.mk.injEq] at h
  obtain⟨rfl,rfl⟩:=h
  rw [z1h,zok]
 |(d,u)::r,j+1,h,a=>by
  simp only [List.map_cons,List.nodup_cons] at a
  have h':r[j]? =some (s,v):=by simpa using h
  have b:s∈r.map (·.1):=List.mem_map.2 ⟨_,List.mem_of_getElem? h',rfl⟩
  rw [z1h,zit (fun e=>a.1 (by rw [←e];exact b))]
  exact zp0 h' a.2
theorem zt0{acc:List (Nat×Value)}(a:(acc.map (·.1)).Nodup):zga l acc=z1h l acc:=by
 funext s
 by_cases h:s∈acc.map (·.1)
 ·obtain⟨⟨d,v⟩,b,rfl⟩:=List.mem_map.1 h
  obtain⟨j,c,e⟩:=List.mem_iff_getElem.1 b
  have h':acc[j]? =some (d,v):=by rw [List.getElem?_eq_getElem c,e]
  rw [zjw h' a,zp0 h' a]
 ·rw [zd8 h,zlh h]
def zg2(gs:List Oper)(vs:List Value):List (Nat×Value):=(gs.zip vs).map fun p=>(p.1.dst.getD 0,p.2)
theorem zoc: ∀ {os:List Oper} {l:Nat→Value},wv P ρ R O os l K→ ∃ vs:List Value,vs.length=os.length∧(∀ o∈os,o.dst.isSome=true)∧
 (∀ (i:Nat) o v,os[i]? =some o→vs[i]? =some v→Val P ρ o (zga l ((zg2 os vs).take i)) R O v)∧K (zga l (zg2 os vs))
 | [],l,h=>⟨[],rfl,fun o c=>by simp at c,fun i o v h=>by simp at h,h⟩
 |o::r,l,⟨d,v,a,e,f⟩=>by
  obtain⟨vs,g,j,k,m⟩:=zoc f
  refine⟨v::vs,by simp [g],fun o' ho'=>?_,fun i o' u hi b=>?_,?_⟩
  ·rcases List.mem_cons.1 ho' with rfl|ho'
   ·rw [a];rfl
   ·exact j o' ho'
  ·cases i with
   |zero=>
    simp only [List.getElem?_cons_zero,Option.some.injEq] at hi b
    subst hi;subst b
    exact e
   |succ i=>
    have:=k i o' u (by simpa using hi) (by simpa using b)
    simpa [zg2,zga,a] using this
  ·simpa [zg2,zga,a] using m
theorem zmq{gs:List Oper}{φs:List (Value→RH→Prop)}{l:Nat→Value}{R:RH}: ∀ {es:List Go.Edge},zpv gs φs l R es→ ∀ e∈es,Region.binds .any e=true→ ∀ d,wm gs e.on=some d→phi φs e.on (l d) R
 | [],_,e,a,_,_,_=>by simp at a
 |e'::es,h,e,a,b,d,c=>by
  rcases List.mem_cons.1 a with rfl|a
  ·have:=h.1
   rw [c] at this
   exact this b
  ·exact zmq h.2 e a b d c
theorem zoz{gs:List Oper}{al:List NewBox}{φs:List (Value→RH→Prop)}{l0:Nat→Value}{R0:RH}: ∀ {os:List Oper} {k:Nat},
 (∀ (i:Nat) (o:Oper),os[i]? =some o→ ∀ l R,RH.le R0 R→Agree gs l0 l→zpv gs φs l R o.after.toList→GStep P ρ gs al φs O (k+i) o l R)→zo5 P ρ gs al φs l0 R0 O k os
 | [],_,_=>trivial
 |o::os,k,h=>⟨h 0 o rfl,zoz fun i o' hi=>by have:=h (i+1) o' (by simpa using hi);rwa [show k+(i+1)=k+1+i from by omega] at this⟩
theorem zp3{φs:List (Value→RH→Prop)}{R:RH}: ∀ {os:List Oper} {vs:List Value} {k:Nat} {K:List (Nat×Value)→Prop},vs.length=os.length→(∀ (i:Nat) v,vs[i]? =some v→phi φs (k+i)=phX v)→K (zg2 os vs)→znf φs R K k os
 | [],vs,k,K,a,_,h=>by
  have:vs=[]:=List.length_eq_zero_iff.1 a
  subst this;exact h
 |o::os,[],k,K,a,_,_=>by simp at a
 |o::os,v::vs,k,K,a,b,h=>fun u c=>by
  rw [show k=k+0 from rfl,b 0 v rfl] at c
  obtain rfl:u=v:=c
  exact zp3 (vs:=vs) (by simpa using a) (fun i w hi=>by have:=b (i+1) w (by simpa using hi);rwa [show k+(i+1)=k+1+i from by omega] at this) h
theorem z6j{id:Nat}{os:List Oper}(m:Nat)(V:P.follows .mixedOrders=true)(c:z9e (os.take m) [] n (os.drop m)=true)(r:clV (os.take m)=true)
 (h:wv P ρ R O (os.take m) l fun l'=> ∀ R',RH.le R R'→wo P ρ n os.toArray Q (os.drop m) l' D R' O):wg P ρ n (.region id os.toArray true) Q l D R O:=by
 obtain⟨vs,C,M,N,S⟩:=zoc h
 have f:=(z6o c).2.1
 generalize hg:os.take m=gs at C M N S f r c
 have hacc:(zg2 gs vs).map (·.1)=z94 gs:=by
  unfold zg2 z94
  rw [List.map_map]
  have: ∀ (gs:List Oper) (vs:List Value),vs.length=gs.length→(∀ o∈gs,o.dst.isSome=true)→(gs.zip vs).map ((fun x:Nat×Value=>x.1)∘fun p=>(p.1.dst.getD 0,p.2))=gs.filterMap (·.dst):=by
   intro gs
   induction gs with
   |nil=>intro vs _ _;simp
   |cons o gs ih=>
    intro vs T A
    cases vs with
    |nil=>simp at T
    |cons v vs=>
     obtain⟨d,E⟩:=Option.isSome_iff_exists.1 (A o (List.mem_cons_self ..))
     simp only [List.zip_cons_cons,List.map_cons,List.filterMap_cons,E,Function.comp_apply,Option.getD_some]
     rw [ih vs (by simpa using T) (fun o' ho'=>A o' (List.mem_cons_of_mem _ ho'))]
  exact this gs vs C M
 have hphi: ∀ (i:Nat) v,vs[i]? =some v→phi (vs.map phX) i=phX v:=fun i v hi=>by
  unfold phi
  rw [List.getD_eq_getElem?_getD,List.getElem?_map,hi];rfl
 have hmono:zdr (vs.map phX):=fun k v R R' a q=>by
  unfold phi at q⊢
  rw [List.getD_eq_getElem?_getD,List.getElem?_map] at q⊢
  cases e:vs[k]? with
  |none=>trivial
  |some u=>rw [e] at q;exact q
 have haget: ∀ (i:Nat) o v,gs[i]? =some o→vs[i]? =some v→ ∀ d,o.dst=some d→(zg2 gs vs)[i]? =some (d,v):=fun i o v hi B d E=>by
  unfold zg2
  rw [List.getElem?_map,List.getElem?_zip_eq_some (z:=(o,v))|>.2 ⟨hi,B⟩]
  simp [E]
 refine l7 (m:=m) [] (vs.map phX) V (by rw [hg];exact c) hmono (by
  rw [hg]
  refine zoz fun i o hi l' R' a F hdep=>?_
  rw [Nat.zero_add]
  have W:i<gs.length:=(List.getElem?_eq_some_iff.1 hi).1
  obtain⟨v,B⟩: ∃ v,vs[i]? =some v:=⟨vs[i]'(by omega),List.getElem?_eq_getElem (by omega)⟩
  have g:=List.all_eq_true.1 r (o,i) (List.mem_iff_getElem?.2 ⟨i,by rw [List.getElem?_zipIdx,hi];simp⟩)
  simp only [Bool.and_eq_true] at g
  obtain⟨G,g⟩:=g
  refine zh (Option.isNone_iff_eq_none.1 G) rfl (hphi i v B) (zw ?_)
  cases hx:opds o.op with
  |none=>rw [hx] at g;exact absurd g Bool.false_ne_true
  |some xs=>
   rw [hx] at g
   refine zpz (N i o v hi B) hx (fun s A=>?_) a
   have b:=List.all_eq_true.1 g (.tmp s) A
   dsimp only at b
   have t:((zg2 gs vs).take i).map (·.1)=(z94 gs).take i:=by rw [List.map_take,hacc]
   cases hsl:zsu gs s with
   |none=>
    have w:s∉z94 gs:=fun hm'=>by
     obtain⟨o',ho',e⟩:=List.mem_filterMap.1 hm'
     have:=List.findIdx?_eq_none_iff.1 hsl o' ho'
     rw [e] at this;simp at this
    rw [F s (by simpa using w),zd8 (by rw [t];exact fun h=>w (List.mem_of_mem_take h))]
   |some j=>
    rw [hsl] at b
    simp only [Bool.and_eq_true,List.any_eq_true] at b
    obtain⟨H,e,X,I,J⟩:=b
    have hji':j<i:=by simpa using H
    have hej':e.on=j:=Nat.eq_of_beq_eq_true I
    obtain⟨o',ho',hd'⟩: ∃ o',gs[j]? =some o'∧o'.dst=some s:=by
     have:=List.findIdx?_eq_some_iff_getElem.1 hsl
     obtain⟨Y,q,_⟩:=this
     exact⟨gs[j],List.getElem?_eq_getElem Y,by simpa using q⟩
    have Z:j<gs.length:=(List.getElem?_eq_some_iff.1 ho').1
    obtain⟨u,U⟩: ∃ u,vs[j]? =some u:=⟨vs[j]'(by omega),List.getElem?_eq_getElem (by omega)⟩
    have K:wm gs e.on=some s:=by unfold wm;rw [hej',ho'];exact hd'
    have y:=zmq hdep e X J s K
    rw [hej',hphi j u U] at y
    have L:((zg2 gs vs).take i)[j]? =some (s,u):=by rw [List.getElem?_take,if_pos hji'];exact haget j o' u ho' U s hd'
    rw [zjw L (by rw [t];exact List.Nodup.sublist (List.take_sublist _ _) f)]
    exact y) fun R' a=>?_
 rw [hg]
 refine zp3 C (fun i v hi=>by rw [Nat.zero_add];exact hphi i v hi) ?_
 rw [←zt0 (by rw [hacc];exact f)]
 exact S R' a
end wv
/-! ### Shorter laws-/
section short
variable {P : Program} {ρ : Option Nat} {n : Nat} {Q : Po} {l : Nat → Value} {D : List Nat} {R : RH} {O : List Frag} {γ : Type} {ops : Array Oper} {rest : List Oper} {d : Nat} {ty : TypeId} {pos : String} {after : Array Go.Edge}
theorem zt{c:Operand}{x y:Code}{α:Type}{b:Bool}{p q:Option α}{r:α}(d:ev l c= .bool b)(a:(bif b then p else q)=some r)(f:p=some r→wg P ρ n x Q l D R O)(g:q=some r→wg P ρ n y Q l D R O):wg P ρ n (.cond c x y) Q l D R O:=
 zji d (fun e=>f (q0m e a)) (fun e=>g (zz9 e a))
theorem ji{x y:Code}(W:List Nat)(S:γ→List (Nat×Value))(F:γ→List Frag)(K:γ→RH→Prop)(b:wg P ρ n x (thn (zvh true D W l R S F K) Q) l D R O)
 (c: ∀ g j R',RH.le R R'→K g R'→wg P ρ n y Q (z1h (mask W j l) (S g)) D R' (F g)):wg P ρ n (.seq x y) Q l D R O:=
 zw2 true W S F K b fun g j D' R' d a e=>by obtain rfl:=d rfl;exact c g j R' a e
theorem zq8{x:Code}{Y:(Nat→Value)→List Nat→RH→List Frag→Prop}(W:List Nat)(S:γ→List (Nat×Value))(F:γ→List Frag)(K:γ→RH→Prop)
 (b: ∀ l D R O J F,O.Perm (J++F)→Y l D R F→Y l D R O) (c:wg P ρ n x (thn (zvh true D W l R S F K) Q) l D R O)
 (d: ∀ g j R',RH.le R R'→K g R'→Y (z1h (mask W j l) (S g)) D R' (F g)):wg P ρ n x (thn Y Q) l D R O:=
 zsk true W S F K b c fun g j D' R' e a f=>by obtain rfl:=e rfl;exact d g j R' a f
theorem uf{c:Code}(W:List Nat)(S:γ→List (Nat×Value))(F:γ→List Frag)(K:γ→RH→Prop)(μ:γ→Nat)(a:γ)
 (d: ∃ J,O.Perm (J++F a)) (e:K a R)
 (round: ∀ g j R',RH.le R R'→K g R'→wg P ρ n c (thn (zpk true D W (z1h (mask W j l) (S g)) R' S F K μ (μ g)) Q) (z1h (mask W j l) (S g)) D R' (F g))
 (f:zle l (S a):=by repeat (first|exact trivial|refine⟨rfl,?_⟩)) (h: ∀ g,((S g).all fun p=>W.elem p.1)=true:=by exact fun _=>rfl):wg P ρ n (.loop c) Q l D R O:=
 zum true W S F K μ a f d e h fun g j D' R' i b k=>by obtain rfl:=i rfl;exact round g j R' b k
theorem zl{op:Op}{v:Value}(h:Val P ρ ⟨some d,op,ty,pos,after,none⟩ l R O v)(a:wo P ρ n ops Q rest (upd l d v) D R O)(b:Nat.blt d n=true:=by exact rfl):wo P ρ n ops Q (⟨some d,op,ty,pos,after,none⟩::rest) l D R O:=jy b h a
theorem za{x:Operand}(v:Value)(a:wo P ρ n ops Q rest (upd l d v) D R O)(b:ev l x=v:=by exact rfl)(c:Nat.blt d n=true:=by exact rfl):wo P ρ n ops Q (⟨some d,.move x,ty,pos,after,none⟩::rest) l D R O:=jy c (zm b) a
theorem zf{x:Operand}(v:Value)(a:wo P ρ n ops Q rest (upd l d v) D R O)(b:ev l x=v:=by exact rfl)(c:Nat.blt d n=true:=by exact rfl):wo P ρ n ops Q (⟨some d,.assign x,ty,pos,after,none⟩::rest) l D R O:=jy c (xk b) a
theorem zg{id:Nat}{os:List Oper}{y:Code}(h:wo P ρ n os.toArray (thn (wg P ρ n y Q) Q) os l D R O):wg P ρ n (.seq (.region id os.toArray false) y) Q l D R O:=q9 (qf h)
theorem qy{id:Nat}{os:List Oper}{y:Code}{Q':Po}(h:wo P ρ n os.toArray (thn (wg P ρ n y Q) Q) os l D R O):wo P ρ n ops (thn (wg P ρ n (.seq (.region id os.toArray false) y) Q) Q') [] l D R O:=z8 (zg h)
def rs:List Nat→List Nat|a::b::r=>List.range' a (b-a)++rs r|_=>[]
abbrev vi (x:Int):Value:= .int .i64 x
abbrev vs0:Value:= .slice none 0 0
theorem dkt{c:Prop}{α:Type}{x:α}:c→x=x:=fun _=>rfl
theorem zrl{a b:Prop}[Decidable a][Decidable b]{α:Type}{k:Option α}{r:α}(h:gd a (gd b k)=some r):a∧b∧k=some r:=⟨(ze h).1,ze (ze h).2⟩
theorem zt9{a b c:Prop}[Decidable a][Decidable b][Decidable c]{α:Type}{k:Option α}{r:α}(h:gd a (gd b (gd c k))=some r):a∧b∧c∧k=some r:=⟨(ze h).1,zrl (ze h).2⟩
theorem zrw{a b c d:Prop}[Decidable a][Decidable b][Decidable c][Decidable d]{α:Type}{k:Option α}{r:α}(h:gd a (gd b (gd c (gd d k)))=some r):a∧b∧c∧d∧k=some r:=⟨(ze h).1,zt9 (ze h).2⟩
theorem ztl{a b c d e:Prop}[Decidable a][Decidable b][Decidable c][Decidable d][Decidable e]{α:Type}{k:Option α}{r:α}(h:gd a (gd b (gd c (gd d (gd e k))))=some r):a∧b∧c∧d∧e∧k=some r:=⟨(ze h).1,zrw (ze h).2⟩
theorem q0b{a b c d e f:Prop}[Decidable a][Decidable b][Decidable c][Decidable d][Decidable e][Decidable f]{α:Type}{k:Option α}{r:α}(h:gd a (gd b (gd c (gd d (gd e (gd f k)))))=some r):a∧b∧c∧d∧e∧f∧k=some r:=⟨(ze h).1,ztl (ze h).2⟩
theorem prm{O:List Frag}: ∃ J,O.Perm (J++O):=⟨[],List.Perm.refl _⟩
end short
end GV
end Go.Proofs.YtkkcidhcfkmbjaaGreatDoor

namespace Go.Proofs.YtkkcidhcfkmbjaaGreatDoor
namespace GV
section a
variable {P : Program} {ρ : Option Nat} {l : Nat → Value} {R : RH} {O : List Frag} {ty : TypeId} {pos : String} {after : Array Go.Edge} {dst : Option Tmp} {g : Option (Nat × Bool)}
variable {α : Type} {T : Ty α} {X : List α} {v : Value} {x y : Operand} {f : Frag} {t e : TypeId}
end a
end GV
end Go.Proofs.YtkkcidhcfkmbjaaGreatDoor

namespace Go.Proofs.YtkkcidhcfkmbjaaGreatDoor
namespace GV
abbrev okSh (k:IntKind) (y:Int):Prop:=0≤y∧y≤(k.bits:Int)
def zh9(x y:Int):Int:=x.fdiv (2^y.toNat)
section a
variable {P : Program} {ρ : Option Nat} {l : Nat → Value} {R : RH} {O : List Frag} {ty : TypeId} {pos : String} {after : Array Go.Edge} {dst : Option Tmp} {g : Option (Nat × Bool)}
theorem zqn{w:World}{op:BinOp}{t t':TypeId}{x y:Operand}{k yk:IntKind}{m n:Int}{v:Value}(d:ev l x= .int k m)(e:ev l y= .int yk n)(f:op= .shl∨op= .shr)
 (a:(Op.shift op k m yk n).run P w= .ok v w):(execOp (ev l) (⟨dst,.binOp op t x y t',ty,pos,after,g⟩:Oper)).run P w= .ok (.value v) w:=by
 rcases f with rfl|rfl
 ·have b:(eqGuard .shl t x y (.int k m) (.int yk n)).run P w= .ok () w:=rfl
  have c:(binOp .shl t (.int k m) (.int yk n)).run P w= .ok v w:=a
  simp only [execOp,d,e,Sem.run_bind,b,Result.andThen_ok,c]
  rfl
 ·have b:(eqGuard .shr t x y (.int k m) (.int yk n)).run P w= .ok () w:=rfl
  have c:(binOp .shr t (.int k m) (.int yk n)).run P w= .ok v w:=a
  simp only [execOp,d,e,Sem.run_bind,b,Result.andThen_ok,c]
  rfl
theorem zxf{k:IntKind}{n:Int}(h:okSh k n):min n.toNat k.bits=n.toNat:=by
 obtain⟨a,b⟩:=h;omega
theorem zjc{k yk:IntKind}{t t':TypeId}{x y:Operand}{m n:Int}(a:ev l x= .int k m)(b:ev l y= .int yk n)(h:okSh k n):Val P ρ ⟨dst,.binOp .shr t x y t',ty,pos,after,g⟩ l R O (.int k (zh9 m n)):=by
 intro A w _;rw [qj (by intro c h;cases h)]
 refine zqn a b (.inr rfl) ?_
 have d:=h.1
 simp only [Op.shift]
 rw [if_neg (by omega),zxf h];rfl
theorem znv{t:TypeId}{x y:Operand}{s:ByteArray}{k:IntKind}{i:Nat}{L:List Int}(a:P.underlying t=some .string)(d:ev l x= .string s)(e:s.data.toList.map (fun b=>(b.toNat:Int))=L)(f:ev l y= .int k i)(hi:i<L.length):
 Val P ρ ⟨dst,.index t x y,ty,pos,after,g⟩ l R O (.int .u8 (L.getD i default)):=by
 intro A w _;rw [qj (by intro c h;cases h)]
 subst e
 rw [List.length_map] at hi
 have hi':i<s.data.size:=by simpa using hi
 have j:s[i]? =some s.data[i]:=by
  have:i<s.size:=hi'
  rw [getElem?_pos s i this];rfl
 have m:(s.data.toList.map (fun b=>(b.toNat:Int))).getD i default=(s.data[i].toNat:Int):=by
  rw [List.getD_eq_getElem?_getD,List.getElem?_map,List.getElem?_eq_getElem hi];simp
 rw [m]
 simp [execOp,d,f,Instr.index,asIntOf,underlying,a,j]
end a
end GV
end Go.Proofs.YtkkcidhcfkmbjaaGreatDoor

namespace Go.Proofs.YtkkcidhcfkmbjaaGreatDoor
namespace GV
section a
variable {P : Program} {ρ : Option Nat} {l : Nat → Value} {R : RH} {O : List Frag} {dst : Option Tmp} {ty : TypeId} {pos : String} {after : Array Go.Edge} {g : Option (Nat × Bool)}
end a
end GV
end Go.Proofs.YtkkcidhcfkmbjaaGreatDoor

namespace Go.Proofs.YtkkcidhcfkmbjaaGreatDoor
namespace GV
end GV
end Go.Proofs.YtkkcidhcfkmbjaaGreatDoor

namespace Go.Proofs.YtkkcidhcfkmbjaaGreatDoor
namespace GV
theorem zhh{α β γ:Type}{A:Ty α}{B:Ty β}{C:Ty γ}{o b:Nat}{f:α→β}{g:β→γ}(c:Part A o B f)(a:Part B b C g):Part A (o+b) C (fun x=>g (f x)):=
 ⟨by have:=c.1;have:=a.1;omega,fun R cs x h=>by
  have:=a.2 R _ _ (c.2 R cs x h)
  rw [List.drop_take,List.drop_drop,List.take_take,Nat.min_eq_left (by have:=a.1;omega)] at this
  exact this⟩
section p
variable {P : Program} {ρ : Option Nat} {l : Nat → Value} {R : RH} {O : List Frag} {ty : TypeId} {pos : String} {after : Array Go.Edge} {dst : Option Tmp} {g : Option (Nat × Bool)}
variable {α : Type} {T : Ty α} {X : List α} {v u : Value} {x y : Operand} {i o q m sz : Nat} {t : TypeId} {k : IntKind}
theorem zgj(d:ArrOk P t m sz)(e:ev l x=u)(f:ev l y= .int k q)(h:q<m)(j:z4h T o v X u i):
 Eff P ρ ⟨dst,.indexAddr t x y,ty,pos,after,g⟩ l R O (fun v' R' O'=>O'=O∧z4h T (o+q*sz) v X v' i):=by
 obtain⟨b,off,n,rfl⟩:=j
 refine(z0r (P:=P) (ρ:=ρ) (R:=R) (O:=O) d e f h).eff.mono fun v' R' O' _ ⟨a,_,c⟩=>?_
 subst a
 exact⟨c,b,off,n,by rw [show off+i*T.size+o+q*sz=off+i*T.size+(o+q*sz) from by omega]⟩
end p
end GV
end Go.Proofs.YtkkcidhcfkmbjaaGreatDoor

namespace Go.Proofs.YtkkcidhcfkmbjaaGreatDoor
namespace GV
def ztw(P:Program)(f:FuncId)(cs:List Value)(R:RH){α:Type}(enc:α→List Value→RH→List Frag→Prop)(IT:(σ:Type)→(α→σ→Option (Bool×σ))→σ→Option σ):Prop:=
 ∀ (yv:Value) (σ:Type) (B:α→σ→Option (Bool×σ)) (I:σ→RH→List Frag→Prop) (c:RH) (O:List Frag) (s0 e:σ),RH.le R c→
  (∀ s a d O2,RH.le a d→I s a O2→I s d O2)→I s0 c O→IT σ B s0=some e→
  (∀ x s b s' a F O2 vs,RH.le c a→enc x vs a F→I s a O2→B x s=some (b,s')→CallV P yv vs.toArray a (F++O2) (fun v d g=>v= .bool b∧ ∃ O',g.Perm (F++O')∧I s' d O'))→yv.oneCell'=true→
  CallG P f (yv::cs).toArray c O (fun v R' O'=>I e R' O')
theorem zq6{P:Program}{ρ:Option Nat}{n:Nat}{Q:Po}{l:Nat→Value}{D:List Nat}{R:RH}{O:List Frag}{ops:Array Oper}{rest:List Oper}{ty:TypeId}{pos:String}{after:Array Go.Edge}{d:Nat}
 {c:Operand} {args:List Operand} {at':Array TypeId} {fv:Value} {vs:List Value} {F J Oc A:List Frag} {b:Bool} {I:RH→List Frag→Prop} (e:Nat.blt d n=true) (f:ev l c=fv) (g:args.map (ev l)=vs) (i:O=F++(J++(Oc++A)))
 (h:CallV P fv vs.toArray R (F++Oc) (fun v R' O'=>v= .bool b∧ ∃ O'',O'.Perm (F++O'')∧I R' O''))
 (j: ∀ R' Oc',RH.le R R'→I R' Oc'→wo P ρ n ops Q rest (upd l d (.bool b)) D R' (F++(J++(Oc'++A)))):wo P ρ n ops Q (⟨some d,.call ⟨.value c,args.toArray,at'⟩,ty,pos,after,none⟩::rest) l D R O:=by
 have pt: ∀ Oc:List Frag,(F++(J++(Oc++A))).Perm ((F++Oc)++(J++A)):=fun Oc=>by
  rw [List.append_assoc];exact List.Perm.append_left F zdp
 refine zcl (Oc:=F++Oc) (Or:=J++A) e f g (by subst i;exact pt Oc) h fun v R' Oc' a ⟨k,O'',m,hI⟩=>?_
 subst k
 exact zjz ((pt O'').trans (m.symm.append_right _)) (j R' O'' a hI)
theorem zsv{P:Program}{ρ:Option Nat}{n:Nat}{Q:Po}{l:Nat→Value}{D:List Nat}{R:RH}{O:List Frag}{ops:Array Oper}{rest:List Oper}(O':List Frag)(a:O.Perm O')(h:wo P ρ n ops Q rest l D R O'):wo P ρ n ops Q rest l D R O:=zjz a.symm h
theorem zho{O J F X L:List Frag}(h:O.Perm (J++F)):(L++(O++X)).Perm (J++(L++F++X)):=by
 refine(List.Perm.append_left L (z7q h)).trans ?_
 rw [List.append_assoc L F X,←List.append_assoc L J,←List.append_assoc J L]
 exact List.perm_append_comm.append_right _
theorem zi3{P:Program}{n:Nat}{Q:Po}{l:Nat→Value}{D:List Nat}{R:RH}{O:List Frag}{gv:Operand}{ps:List Nat}{assign body:Code}{f:FuncId}{cs:List Value}{Oc Or:List Frag}{α σ:Type}{enc:α→List Value→RH→List Frag→Prop}
 {IT:(σ:Type)→(α→σ→Option (Bool×σ))→σ→Option σ} (B:α→σ→Option (Bool×σ)) (I:σ→RH→List Frag→Prop) (E:σ→Code→RH→List Frag→Prop) (s0 T:σ)
 (hg:ev l gv= .func (.func f) #[] cs.toArray) (he:Enters P f) (U:ztw P f cs R enc IT) (V:O.Perm (Oc++Or)) (W:(ps.all fun p=>Nat.blt p n)=true)
 (hlen: ∀ x R vs F,enc x vs R F→vs.length=ps.length) (Y: ∀ s k i O2,RH.le k i→I s k O2→I s i O2) (Z: ∀ s c k i O2,RH.le k i→E s c k O2→E s c i O2)
 (aa: ∀ s c R O x,E s c R O→B x s=none) (h0:I s0 R Oc) (hrun:IT σ B s0=some T)
 (hround: ∀ x s b s' lb m vs F g,RH.le R m→enc x vs m F→I s m g→B x s=some (b,s')→ ∀ X,wg P (some lb) n assign (fun e l1 D1 k O1=>e= .normal∧D1=[]∧RH.le m k∧ ∃ Oa,O1.Perm (Oa++X)∧
  ∀ X',wg P (some lb) n body (znd m X' (fun p i z=>match p with|none=>b=true∧ ∃ j,z.Perm (F++j)∧I s' i j|some c=>b=false∧ ∃ j,z.Perm (F++j)∧E s' c i j)) l1 [] k (Oa++X')) (zd7 (ps.zip vs) l) [] m (F++(g++X)))
 (hend: ∀ dd m g,RH.le R m→I T m g→ ∃ J F,g.Perm (J++F)∧Q .normal l (dd::D) m (F++Or))
 (hexit: ∀ c dd m g,RH.le R m→E T c m g→wg P none n c Q l (dd::D) m (g++Or)):wg P none n (.rangeFunc gv ps.toArray assign body) Q l D R O:=by
 refine zbp (f:=f) (fs:= #[]) (cs:=cs.toArray) hg he V fun lb dd fn t ab=>?_
 have hargs:(#[]++ #[Value.func (Fn.yield lb) #[] #[]]++cs.toArray:Array Value)=(Value.func (Fn.yield lb) #[] #[]::cs).toArray:=by simp
 rw [hargs]
 have hpn': ∀ p∈ps,p<n:=fun p V=>by simpa [Nat.blt_eq] using List.all_eq_true.1 W p V
 refine CallG.mono2 (U (.func (.yield lb) #[] #[]) σ B (zxh R lb n l ps assign body I E) R _ s0 T (RH.le.refl _) ?_ ⟨RH.le.refl _,_,_,rfl,.inl ⟨⟨ab,rfl,rfl,rfl⟩,rfl,rfl,h0⟩⟩ hrun ?_ rfl) ?_
 ·rintro s k i O2 q ⟨r,L,Oc',h2,G⟩
  refine⟨r.trans q,L,Oc',h2,?_⟩
  rcases G with⟨a,b,c,d⟩|⟨c,a,b,d⟩
  ·exact .inl ⟨a,b,c,Y _ _ _ _ q d⟩
  ·exact .inr ⟨c,a,b,Z _ _ _ _ _ q d⟩
 ·rintro x s b s' k F O2 vs q hA ⟨r,L,Oc',rfl,G⟩ hB
  rcases G with⟨⟨H,K,M,N⟩,hst',u,hI⟩|⟨c,_,_,hE⟩
  ·have key:CallV P (.func (.yield lb) #[] #[]) vs.toArray k (z6l lb L::(F++Oc')) (fun v i z=>v= .bool b∧ ∃ O',z.Perm (F++O')∧zxh R lb n l ps assign body I E s' i O'):=by
    refine CallV.mono (ze9 (n:=n) (l:=l) (ps:=ps) (RP:=fun p i z=>RH.le R i∧(match p with|none=>b=true∧ ∃ j,z.Perm (F++j)∧I s' i j|some c=>b=false∧ ∃ j,z.Perm (F++j)∧E s' c i j)) hst' K (hlen x k vs F hA).symm hpn' H ?_) ?_
    ·intro X
     have:=hround x s b s' lb k vs F Oc' r hA hI hB X
     rw [M,N,List.append_assoc]
     refine z8d this ?_
     rintro e l1 D1 i O1 ⟨he',hD,o,Oa,ae,hb⟩
     refine⟨he',hD,o,Oa,ae,fun X'=>z8d (hb X') ?_⟩
     intro e l2 D2 R4 j y
     cases e with
     |normal=>obtain⟨a,b,O',c,d⟩:=y;exact⟨a,b,O',c,r.trans b,d⟩
     |ret=>obtain⟨a,b,O',c,d⟩:=y;exact⟨a,b,O',c,r.trans b,d⟩
     |exit id=>obtain⟨a,b,O',c,d⟩:=y;exact⟨a,b,O',c,r.trans b,d⟩
     |goto _=>exact y
     |panic _=>exact y
     |outgrown=>exact y
    ·rintro v R' O' aj ⟨pend,O'',rfl,rfl,o,S⟩
     cases pend with
     |none=>obtain⟨rfl,j,C,hI'⟩:=S;exact⟨rfl,_,((C.cons _).trans List.perm_middle.symm),o,_,j,rfl,.inl ⟨⟨H,K,M,N⟩,rfl,rfl,hI'⟩⟩
     |some c=>obtain⟨rfl,j,C,hE'⟩:=S;exact⟨rfl,_,((C.cons _).trans List.perm_middle.symm),o,_,j,rfl,.inr ⟨c,rfl,rfl,hE'⟩⟩
   intro A w hh
   exact key A w (kz hh ((List.perm_middle (l₁:=F) (l₂:=Oc') (a:=z6l lb L)).append_right A))
  ·rw [aa s c k Oc' x hE] at hB;cases hB
 ·rintro v R' O' q ⟨r,L,Oc',rfl,G⟩
  rcases G with⟨hL,hst',u,hI⟩|⟨c,hst',u,hE⟩
  ·obtain⟨J,F,af,y⟩:=hend dd R' Oc' r hI
   refine⟨J,z6l lb L::F,(af.cons _).trans List.perm_middle.symm,L,F,rfl,by rw [hst'];exact fun h=>(by cases h),?_⟩
   rw [u];exact y
  ·refine⟨[],_,List.Perm.refl _,L,Oc',rfl,by rw [hst'];exact fun h=>(by cases h),?_⟩
   rw [u];exact hexit c dd R' Oc' r hE
/-! ### A call that takes some of what is owned,and for the time of which the rest is lent-/
section lh
variable {Oc Or : List Frag}
variable {P : Program} {ρ : Option Nat} {l : Nat → Value} {R : RH} {O : List Frag} {ty : TypeId} {pos : String} {after : Array Go.Edge} {dst : Option Tmp} {g : Option (Nat × Bool)}
variable {α : Type} {T : Ty α} {X : List α} {v : Value} {x y : Operand} {f : Frag} {t e : TypeId}
theorem zpx{f:FuncId}{c:Operand}{args:List Operand}{at':Array TypeId}{cs vs:List Value}{ψ:Value→Prop}(B: ∀ (R R':RH) (f:Frag) (v:Value) (X:List α),ORep T R f v X→ORep T R' f v X)
 (C:Enters P f) (D:ev l c= .func (.func f) #[] cs.toArray) (E:args.map (ev l)=vs)
 (t:O.Perm (Oc++Or)) (h: ∀ r,RH.le R r→(∀ f∈Or,∀ k o,f k=some o→r.blk k=some o)→CallG P f (vs++cs).toArray r Oc fun u R' O'=> ∃ i,O'=[i]∧ORep T R' i u X∧ψ u):
 Eff P ρ ⟨dst,.call ⟨.value c,args.toArray,at'⟩,ty,pos,after,g⟩ l R O (fun v R' O'=>R'=R∧ ∃ i,O'=i::Or∧ORep T R i v X∧ψ v):=by
 intro A w y;rw [qj (by intro c h;cases h),zdl C D (z4k E)]
 have G:Holds R (Or++(Oc++A)) w:=kz y ((t.append_right A).trans (by rw [←List.append_assoc];exact List.perm_append_comm.append_right A))
 have n:Holds R (Or++A) w:=z8e (J:=Oc) (F:=Or) (O:=O) t y
 obtain⟨H,s⟩:=zft G
 have I:=h (R.lend Or) (RH.le_lend _ _) s A w H
 rw [show (#[]++vs.toArray++cs.toArray:Array Value)=(vs++cs).toArray from by simp]
 refine Calls.mono I ?_
 rintro e w' ⟨v,rfl,R',O',d,hh',i,rfl,K,hψ⟩
 have q:RH.le R R':=(RH.le_lend R Or).trans d
 refine⟨v,rfl,R,i::Or,RH.le.refl _,?_,rfl,i,rfl,B _ _ _ _ _ K,hψ⟩
 have z:=hh'.own i (List.mem_append.2 (.inl (List.mem_singleton.2 rfl)))
 refine⟨fun k o j=>hh'.ro k o (q.blk k o j),fun f p k o j=>?_,?_,by have:=hh'.os;rw [d.os] at this;exact this,hh'.out.trans d.out⟩
 ·rw [List.cons_append] at p
  rcases List.mem_cons.1 p with rfl|p
  ·obtain⟨a,b⟩:=z k o j
   refine⟨a,?_⟩
   cases hR:R.blk k with
   |none=>rfl
   |some x=>rw [q.blk k x hR] at b;cases b
  ·rcases List.mem_append.1 p with m|m
   ·exact⟨hh'.ro k o (d.blk k o (s f m k o j)),(n.own f (List.mem_append.2 (.inl m)) k o j).2⟩
   ·exact⟨(hh'.own f (List.mem_append.2 (.inr m)) k o j).1,(n.own f (List.mem_append.2 (.inr m)) k o j).2⟩
 ·rw [List.cons_append]
  refine List.pairwise_cons.2 ⟨fun f p k=>?_,n.sep⟩
  rcases List.mem_append.1 p with m|m
  ·cases j:f k with
   |none=>exact .inr rfl
   |some o=>
    left
    cases hk0:i k with
    |none=>rfl
    |some o'=>have:=(z k o' hk0).2;rw [d.blk k o (s f m k o j)] at this;cases this
  ·exact(List.pairwise_cons.1 hh'.sep).1 f m k
theorem zmp{n:Nat}{Q:Po}{D:List Nat}{ops:Array Oper}{rest:List Oper}{d:Nat}{f:FuncId}{c:Operand}{args:List Operand}{at':Array TypeId}{cs vs:List Value}{ψ:Value→Prop}
 (e: ∀ (R R':RH) (f:Frag) (v:Value) (X:List α),ORep T R f v X→ORep T R' f v X) (g:Nat.blt d n=true) (i:Enters P f) (j:ev l c= .func (.func f) #[] cs.toArray) (m:args.map (ev l)=vs)
 (p:O.Perm (Oc++Or)) (h: ∀ b,RH.le R b→(∀ f∈Or,∀ k o,f k=some o→b.blk k=some o)→CallG P f (vs++cs).toArray b Oc fun u R' O'=> ∃ a,O'=[a]∧ORep T R' a u X∧ψ u)
 (q: ∀ v a,ORep T R a v X→ψ v→wo P ρ n ops Q rest (upd l d v) D R (a::Or)):wo P ρ n ops Q (⟨some d,.call ⟨.value c,args.toArray,at'⟩,ty,pos,after,none⟩::rest) l D R O:=by
 refine zgk rfl (fun t r=>by cases r;simpa using g) (zpx e i j m p h) ?_
 rintro v R' O' _ ⟨rfl,a,rfl,s,w⟩
 exact q v a s w
end lh
end GV
end Go.Proofs.YtkkcidhcfkmbjaaGreatDoor

namespace Go.Proofs.YtkkcidhcfkmbjaaGreatDoor
namespace GV
section nz
variable {α : Type} {T : Ty α} {b : Bool} {R : RH} {v : Value} {X : List α}
end nz
def i2(s t:Int):Int:=s*64+t
def zyv{α:Type}[Inhabited α](T:Ty α)(n:Nat):Ty (List α) where
 size:=n
 agg:=true
 rep R cs X:= ∃ g,cs=zy4 n g∧AG T R n g X
 len:=by rintro _ _ _ ⟨g,rfl,_⟩;exact zt3 _ _
 mono:=fun hle ⟨g,a,b⟩=>⟨g,a,b.mono hle⟩
 one:=fun h=>nomatch h
 cell:=by
  rintro R cs X ⟨g,rfl,h⟩ v hv
  obtain⟨k,hk,rfl⟩:=List.mem_map.1 hv
  exact(h.2 k (List.mem_range.1 hk)).2
def PRow{α:Type}[Inhabited α](T:Ty α)(R:RH)(u:Value)(X:List α)(s:Int):Prop:=
 ∃ b off c ty fr,u= .pointer (some ⟨b,off+s.toNat*64,none⟩)∧R.blk b=some (.cells c ty fr)∧(zyv T 4096).rep R (cellsAt c off 4096) X
theorem PRow.mono{α:Type}[Inhabited α]{T:Ty α}{R R':RH}{u:Value}{X:List α}{s:Int}(h:PRow T R u X s)(a:RH.le R R'):PRow T R' u X s:=
 let⟨b,off,c,ty,fr,d,e,f⟩:=h;⟨b,off,c,ty,fr,d,a.blk _ _ e,(zyv T 4096).mono a f⟩
section
variable {P : Program} {ρ : Option Nat} {n : Nat} {ops : Array Oper} {Q : Po} {rest : List Oper} {l : Nat → Value} {D : List Nat} {R : RH} {O : List Frag} {ty : TypeId} {pos : String} {after : Array Go.Edge} {dst : Option Tmp} {d : Nat} {gg : Option (Nat × Bool)}
variable {α : Type} [Inhabited α] {T : Ty α} {X : List α} {v : Value} {x y : Operand} {t0 : TypeId} {k : IntKind} {s t : Int} {b o : Nat}
end
end GV
end Go.Proofs.YtkkcidhcfkmbjaaGreatDoor

namespace Go.Proofs.YtkkcidhcfkmbjaaGreatDoor
namespace GV
section
variable {P : Program} {ρ : Option Nat} {n : Nat} {ops : Array Oper} {Q : Po} {rest : List Oper} {l : Nat → Value} {D : List Nat} {R : RH} {O : List Frag} {ty : TypeId} {pos : String} {after : Array Go.Edge} {dst : Option Tmp} {d : Nat} {g : Option (Nat × Bool)}
variable {α : Type} {T : Ty α} {z : α} {bytes m : Nat} {t t2 e : TypeId} {x y : Operand} {k : IntKind}
end
/-! ### Scopes into which nothing jumps-/
section sc
variable {P : Program} {F : Fence} {n : Nat} {Q : Exit → Act → World → Prop} {a : Act} {w : World} {c : Code}
end sc
end GV
end Go.Proofs.YtkkcidhcfkmbjaaGreatDoor

namespace Go.Proofs.YtkkcidhcfkmbjaaGreatDoor
namespace GV
end GV
end Go.Proofs.YtkkcidhcfkmbjaaGreatDoor

namespace Go.Proofs.YtkkcidhcfkmbjaaGreatDoor
namespace GV
end GV
end Go.Proofs.YtkkcidhcfkmbjaaGreatDoor

namespace Go.Proofs.YtkkcidhcfkmbjaaGreatDoor
namespace GV
section c
variable {P : Program} {ρ : Option Nat} {l : Nat → Value} {R : RH} {O : List Frag} {ty : TypeId} {pos : String} {after : Array Go.Edge} {dst : Option Tmp} {g : Option (Nat × Bool)}
variable {α : Type} {T : Ty α} {X Y : List α} {v u : Value} {x y : Operand} {f : Frag} {t e : TypeId}
end c
end GV
end Go.Proofs.YtkkcidhcfkmbjaaGreatDoor

namespace Go.Proofs.YtkkcidhcfkmbjaaGreatDoor
namespace GV
section
variable {P : Program} {ρ : Option Nat} {l : Nat → Value} {R : RH} {O : List Frag} {ty : TypeId} {pos : String} {after : Array Go.Edge} {dst : Option Tmp} {g : Option (Nat × Bool)}
theorem zed{t e:TypeId}{n sz b:Nat}{x:Operand}(a:P.underlying t=some (.array n e))(d: ∀ w,(sizeOf e).run P w= .ok sz w)(f:ev l x= .pointer (some ⟨b,0,none⟩)):
 Val P ρ ⟨dst,.slice t x none none none,ty,pos,after,g⟩ l R O (.slice (some ⟨b,0,none⟩) n n):=by
 intro A w i
 rw [qj (by intro c h;cases h)]
 have hrun:(execOp (ev l) (⟨dst,.slice t x none none none,ty,pos,after,g⟩:Oper)).run P w= .ok (.value (.slice (some ⟨b,0,none⟩) n n)) w:=by
  have hadd:(⟨b,0,none⟩:Addr).add 0=⟨b,0,none⟩:=by simp [addr_add]
  simp only [execOp,f,Instr.sliceAt,Sem.run_bind,underlying,run_program,a,Result.andThen_ok,Sem.run_pure,Instr.sliceBounds,Option.map_none,Instr.sureAddr,d,Nat.zero_mul,hadd,Nat.sub_zero,ite_self]
 rw [hrun]
theorem zic{k:IntKind}{b:Nat}{cs:List Value}{bt:TypeId}{fr:Nat×Nat}{X:List Int}(c:R.blk b=some (.cells cs.toArray bt fr))(d:cs=X.map (Value.int k)):VRep (tSl true (qb k)) R (.slice (some ⟨b,0,none⟩) X.length X.length) X:=by
 subst d
 refine z5b (xg.2 ⟨_,X.length,rfl,Nat.le_refl _,fun e=>(by cases e),.inr ⟨b,0,_,bt,fr,rfl,c,fun i x a=>?_⟩⟩) rfl
 have hi:=(List.getElem?_eq_some_iff.1 a).1
 show cellsAt _ (0+i*1) 1=[Value.int k x]
 simp only [cellsAt,Nat.zero_add,Nat.mul_one]
 rw [take1 (by simpa using hi)]
 simp [(List.getElem?_eq_some_iff.1 a).2]
end
end GV
end Go.Proofs.YtkkcidhcfkmbjaaGreatDoor
