
import Derived.Test.YtkkcidhcfkmbjaaGreatDoorShMap
import Derived.Shelf.Sort.Plain
import Derived.Shelf.Bits.Mul64
import Derived.Laws.CopyRow
import Derived.Laws.IdiomCopy
import Derived.Laws.StructEq
import Derived.ChangeKeysEq
import Derived.WideKeyRuns
import Derived.Laws.BytesString
set_option linter.unusedVariables false
set_option linter.unusedSimpArgs false
set_option linter.unusedSectionVars false
namespace Go.Proofs.YtkkcidhcfkmbjaaGreatDoor
namespace GV
/-! ### The plain form-/
def zkf(x:Int):List Int→List Int
 | []=>[x]
 |y::l=>if x≤y then x::y::l else y::zkf x l
def z06:List Int→List Int
 | []=>[]
 |x::l=>zkf x (z06 l)
theorem ze6(x:Int)(l:List Int):(zkf x l).Perm (x::l):=by
 induction l with
 |nil=>exact .refl _
 |cons y l ih=>
  unfold zkf
  split
  ·exact .refl _
  ·exact((ih.cons y).trans (.swap x y l))
theorem z8d(l:List Int):(z06 l).Perm l:=by
 induction l with
 |nil=>exact .refl _
 |cons x l ih=>exact(ze6 x _).trans (ih.cons x)
theorem zgf{x:Int}{l:List Int}(h:l.Pairwise (· ≤ ·)):(zkf x l).Pairwise (· ≤ ·):=by
 induction l with
 |nil=>exact List.pairwise_singleton _ _
 |cons y l ih=>
  obtain⟨b,c⟩:=List.pairwise_cons.1 h
  unfold zkf
  split
  ·rename_i hx
   refine List.pairwise_cons.2 ⟨fun z a=>?_,h⟩
   rcases List.mem_cons.1 a with rfl|a
   ·exact hx
   ·exact Int.le_trans hx (b z a)
  ·rename_i hx
   refine List.pairwise_cons.2 ⟨fun z a=>?_,ih c⟩
   rcases List.mem_cons.1 ((ze6 x l).mem_iff.1 a) with rfl|a
   ·omega
   ·exact b z a
theorem z8j(l:List Int):(z06 l).Pairwise (· ≤ ·):=by
 induction l with
 |nil=>exact .nil
 |cons x l ih=>exact zgf ih
theorem z2u: ∀ {l l':List Int},l.Perm l'→l.Pairwise (· ≤ ·)→l'.Pairwise (· ≤ ·)→l=l'
 | [],l',c,_,_=>(List.nil_perm.1 c).symm
 |x::l,l',c,h,h'=>by
  cases l' with
  |nil=>exact absurd c.symm (by simp)
  |cons y l'=>
   obtain⟨f,g⟩:=List.pairwise_cons.1 h
   obtain⟨i,j⟩:=List.pairwise_cons.1 h'
   have d:x=y:=by
    have a:x∈y::l':=c.mem_iff.1 (List.mem_cons_self ..)
    have b:y∈x::l:=c.mem_iff.2 (List.mem_cons_self ..)
    rcases List.mem_cons.1 a with e|a
    ·exact e
    ·rcases List.mem_cons.1 b with e|b
     ·exact e.symm
     ·have:=i x a;have:=f y b;omega
   subst d
   rw [z2u ((List.perm_cons x).1 c) g j]
theorem zbj(l:List Int):(l.mergeSort fun x y=>decide (x≤y))=z06 l:=by
 refine z2u ((List.mergeSort_perm l _).trans (z8d l).symm) ?_ (z8j l)
 have:=List.pairwise_mergeSort (le:=fun(x y:Int)=>decide (x≤y)) (fun a b c d e=>by simp at*;omega) (fun a b=>by simp;omega) l
 exact this.imp fun h=>by simpa using h
theorem z4x(l:List Int):(z06 l).length=l.length:=(z8d l).length_eq
/-! ### New blocks behind all-/
theorem holds_grow{R:RH}{O:List Frag}{w:World}{os:Array Obj}(h:Holds R O w):Holds R O (Go.Sort.grow w os):=by
 have up: ∀ (k:Nat) (o:Obj),w.heap[k]? =some o→(Go.Sort.grow w os).heap[k]? =some o:=by
  intro k o a
  have b:=(Array.getElem?_eq_some_iff.1 a).1
  show (w.heap++os)[k]? =some o
  rw [Array.getElem?_append_left b];exact a
 exact⟨fun k o a=>up k o (h.ro k o a),fun f c k o a=>⟨up k o (h.own f c k o a).1,(h.own f c k o a).2⟩,h.sep,⟨h.os.1,fun _ _ _ _=>trivial⟩,h.out⟩
theorem zdp(pre cs:List Value)(d:List Int)(h:d.length≤cs.length):
 (Go.Sort.putCells (Value.int .i64) pre.length d.toArray (pre++cs).toArray).toList=pre++(d.map (Value.int .i64)++cs.drop d.length):=by
 apply List.ext_getElem?
 intro k
 unfold Go.Sort.putCells
 rw [Array.getElem?_toList,Array.getElem?_mapIdx]
 simp only [List.size_toArray,List.getElem?_toArray]
 by_cases h1:k<pre.length
 ·rw [List.getElem?_append_left h1,List.getElem?_append_left h1]
  rw [List.getElem?_eq_getElem h1]
  simp only [Option.map_some]
  rw [if_neg (by omega)]
 ·rw [List.getElem?_append_right (by omega),List.getElem?_append_right (by omega)]
  by_cases h2:k<pre.length+d.length
  ·rw [List.getElem?_append_left (by rw [List.length_map];omega),List.getElem?_map]
   have b:k-pre.length<cs.length:=by omega
   have a:k-pre.length<d.length:=by omega
   rw [List.getElem?_eq_getElem b,List.getElem?_eq_getElem a]
   simp only [Option.map_some]
   rw [if_pos (by omega)]
   simp [a]
  ·rw [List.getElem?_append_right (by rw [List.length_map];omega),List.getElem?_drop,List.length_map]
   rw [show d.length+(k-pre.length-d.length)=k-pre.length by omega]
   cases cs[k-pre.length]? with
   |none=>rfl
   |some v=>
    simp only [Option.map_some]
    rw [if_neg (by omega)]
theorem zil{P:Program}{ρ:Shelf.Ren}(Ly:Go.Proofs.Lays.n189 P ρ){R:RH}{f:Frag}{v:Value}{X:List Int}(h:ORep (zw .i64) R f v X)(s:0<X.length∧X.length<4611686018427387904):
 CallG P (ρ.f 189) #[v] R [f] (fun u R' O'=> ∃ g,u= .tuple #[]∧O'=[g]∧ORep (zw .i64) R' g v (z06 X)):=by
 rcases h with⟨rfl,rfl,rfl⟩|⟨b,pre,cs,cap,bt,rfl,rfl,z,m,c,o⟩
 ·simp at s
 intro A w t
 have hcl':cap≤cs.length:=by simpa [zw] using m
 have hblk:w.heap[b]? =some (.cells (pre++cs).toArray bt (0,0)):=ng t (i:=0) rfl (single_same _ _)
 have p:b<w.heap.size:=(Array.getElem?_eq_some_iff.1 hblk).1
 have hcell: ∀ j (l:j<X.length),cs[j]? =some (.int .i64 X[j]):=by
  intro j l
  have:=o j X[j] (List.getElem?_eq_getElem l)
  have d:j<cs.length:=by omega
  simp only [zw,Nat.mul_one] at this
  rw [List.getElem?_eq_getElem d]
  have e:(cs.drop j).take 1=[cs[j]]:=by rw [List.drop_eq_getElem_cons d];rfl
  rw [e] at this
  simpa using this
 have B:Go.Sort.Holds (Value.int .i64) w b pre.length X.toArray:=by
  intro j l
  have hj':j<X.length:=by simpa using l
  refine⟨?_,z7m hblk⟩
  rw [cell_of_block hblk]
  simp only [List.getElem?_toArray]
  rw [List.getElem?_append_right (by omega),Nat.add_sub_cancel_left,hcell j hj']
  simp [hj']
 refine Calls.mono (Any.slices_Sort_int Ly b pre.length cap X w B p s.2) ?_
 rintro e w' ⟨rfl,n,os,rfl⟩
 rw [zbj]
 have q:(z06 X).length≤cs.length:=by rw [z4x];omega
 have hnew:(Go.Sort.putRow (Value.int .i64) (Go.Sort.ahead w n) b pre.length (z06 X).toArray).heap[b]? =some (.cells (pre++((z06 X).map (Value.int .i64)++cs.drop (z06 X).length)).toArray bt (0,0)):=by
  simp only [Go.Sort.putRow,Go.Sort.mapBlock,Go.Sort.ahead,Array.getElem?_modify,hblk,if_true,Option.map_some,Go.Sort.onCells]
  rw [←zdp pre cs (z06 X) q,Array.toArray_toList]
 have hother: ∀ k,k≠b→(Go.Sort.putRow (Value.int .i64) (Go.Sort.ahead w n) b pre.length (z06 X).toArray).heap[k]? =w.heap[k]? :=by
  intro k C
  simp [Go.Sort.putRow,Go.Sort.mapBlock,Go.Sort.ahead,Array.getElem?_modify,Ne.symm C]
 have D:=z2n (i:=0) t rfl hnew hother rfl rfl trivial
 refine⟨_,rfl,R,[single b (.cells (pre++((z06 X).map (Value.int .i64)++cs.drop (z06 X).length)).toArray bt (0,0))],RH.le.refl _,holds_grow D,_,rfl,rfl,.inr ⟨b,pre,(z06 X).map (Value.int .i64)++cs.drop (z06 X).length,cap,bt,by rw [z4x],rfl,by rw [z4x];exact z,?_,?_,?_⟩⟩
 ·simp only [zw,Nat.mul_one,List.length_append,List.length_map,List.length_drop];omega
 ·intro x a
  rcases List.mem_append.1 a with a|a
  ·exact c x (List.mem_append.2 (.inl a))
  ·rcases List.mem_append.1 a with a|a
   ·obtain⟨y,_,rfl⟩:=List.mem_map.1 a;rfl
   ·exact c x (List.mem_append.2 (.inr (List.mem_of_mem_drop a)))
 ·intro i x hi
  have r:=(List.getElem?_eq_some_iff.1 hi).1
  simp only [zw,Nat.mul_one]
  have:((z06 X).map (Value.int .i64)++cs.drop (z06 X).length)[i]? =some (.int .i64 x):=by
   rw [List.getElem?_append_left (by rw [List.length_map];exact r),List.getElem?_map,hi];rfl
  obtain⟨E,F⟩:=List.getElem?_eq_some_iff.1 this
  rw [List.drop_eq_getElem_cons E,F];rfl
end GV
end Go.Proofs.YtkkcidhcfkmbjaaGreatDoor

namespace Go.Proofs.YtkkcidhcfkmbjaaGreatDoor
namespace GV
def zde(sz:Nat)(v:Value)(lo hi:Nat):Value:=
 match v with
 | .slice p _ c=> .slice (if c=lo then p else p.map (·.add (lo*sz))) (hi-lo) (c-lo)
 |v=>v
def z3q{α:Type}(X:List α)(lo:Nat)(Y:List α):List α:=X.take lo++Y++X.drop (lo+Y.length)
theorem zav{α:Type}{X Y:List α}{lo:Nat}(h:lo+Y.length≤X.length):(z3q X lo Y).length=X.length:=by
 simp only [z3q,List.length_append,List.length_take,List.length_drop];omega
section c
variable {P : Program} {ρ : Option Nat} {l : Nat → Value} {R : RH} {O : List Frag} {ty : TypeId} {pos : String} {after : Array Go.Edge} {dst : Option Tmp} {g : Option (Nat × Bool)}
variable {α : Type} {T : Ty α} {X Y : List α} {v u : Value} {x y : Operand} {f : Frag} {t e : TypeId}
theorem zg3{lo hi:Nat}{xlo xhi:Option Operand}(d:SlOk P t e T)(j:ev l x=v)(m:ORep T R f v X)
 (a:xlo.map (ev l)=none∧lo=0∨ ∃ k,xlo.map (ev l)=some (.int k lo)) (b:xhi.map (ev l)=none∧hi=X.length∧(none:Option Operand)=none∨ ∃ k,xhi.map (ev l)=some (.int k hi)) (n:lo≤hi) (o:hi≤X.length):
 Val P ρ ⟨dst,.slice t x xlo xhi none,ty,pos,after,g⟩ l R O (zde T.size v lo hi):=by
 obtain⟨p,i,q⟩:=z1d m
 intro A w r
 rw [qi (by intro c h;cases h)]
 have:=z5x (P:=P) (dst:=dst) (ty:=ty) (pos:=pos) (after:=after) (g:=g) (w:=w) (xmx:=none) (mx:=capOf v) d.u d.e.size (j.trans i) a b (.inl ⟨rfl,rfl⟩) n (by omega) (Nat.le_refl _) (fun _=>by omega)
 rw [this,i]
 rfl
theorem z9g{w w':World}{r:Value}(a:ev l x=v)(b:ev l y=u)(h:(Builtin.copy_ #[t,t] ty #[v,u]).run P w= .ok r w'):
 ((⟨dst,.call ⟨.builtin .copy,#[x,y],#[t,t]⟩,ty,pos,after,g⟩:Oper).semAt ρ (ev l)).run P w= .ok (.value r) w':=by
 rw [qi (by intro c h;cases h)]
 simp [execOp,resolve,invoke,builtin,a,b,h]
theorem zem{A:List Frag}{w:World}{b:Nat}{cs:List Value}{bt:TypeId}(cs':List Value)(h:Holds R (box b cs bt::A) w):Holds R (box b cs' bt::A) (w.setRow b cs'.toArray):=by
 have a:w.heap[b]? =some (.cells cs.toArray bt (0,0)):=ng (i:=0) h rfl (single_same _ _)
 have:=z2n (i:=0) (w':=w.setRow b cs'.toArray) (o':= .cells cs'.toArray bt (0,0)) h rfl (by simp [World.setRow,Array.getElem?_modify,a]) (fun k c=>by simp [World.setRow,Array.getElem?_modify,Ne.symm c]) rfl rfl trivial
 exact this
end c
theorem zkk{P:Program}{ρ:Shelf.Ren}(Ly:Go.Proofs.Lays.n212 P ρ){R:RH}{x y:Int}(h:(0≤x∧x<18446744073709551616)∧0≤y∧y<18446744073709551616):
 CallP P (ρ.f 212) #[.int .u64 x,.int .u64 y] R (fun v R'=>v= .tuple #[.int .u64 (x*y/18446744073709551616),.int .u64 (x*y%18446744073709551616)]):=by
 intro A w c
 obtain⟨⟨d,i⟩,g,j⟩:=h
 obtain⟨a,rfl⟩:=Int.eq_ofNat_of_zero_le d
 obtain⟨b,rfl⟩:=Int.eq_ofNat_of_zero_le g
 refine Calls.mono (Any.bits_Mul Ly a b (by omega) (by omega) w) ?_
 rintro e w' ⟨rfl,rfl⟩
 refine⟨_,rfl,R,RH.le.refl _,c,?_⟩
 rw [Int.natCast_ediv,Int.natCast_emod,Int.natCast_mul]
 rfl
end GV
end Go.Proofs.YtkkcidhcfkmbjaaGreatDoor

namespace Go.Proofs.YtkkcidhcfkmbjaaGreatDoor
namespace GV
def mkV(ag:Bool)(cs:List Value):Value:=if ag then .agg cs.toArray else cs.headD undef
structure KTy (P:Program) (t:TypeId) (m sz:Nat) (ag:Bool) (K:List Value→Prop):Prop where
 cells:P.cellsOf t=sz
 info: ∃ i,P.info? t=some i
 len: ∀ cs,K cs→cs.length=sz
 isAgg: ∀ w,(isAgg t).run P w= .ok ag w
 one:ag=false→sz=1
 eq: ∀ d (w:World) cs cs',m≤d→K cs→K cs'→ ∃ r:Bool,(Op.equalIn d t (mkV ag cs) (mkV ag cs')).run P w= .ok r w∧(r=true↔cs=cs')
 chk: ∀ d (w:World) em cs,m≤d→K cs→(Instr.checkKey em d t (mkV ag cs)).run P w= .ok () w
section
variable {P : Program} {t e : TypeId} {m m' sz n : Nat} {ag : Bool} {K : List Value → Prop}
theorem KTy.mono(h:KTy P t m sz ag K)(b:m≤m'):KTy P t m' sz ag K:=
 {h with eq:=fun d w cs cs' a=>h.eq d w cs cs' (by omega),chk:=fun d w em cs a=>h.chk d w em cs (by omega)}
theorem KTy.part(h:KTy P t m sz ag K)(w:World){pre cs post:List Value}(b:K cs):(part t (pre++cs++post).toArray pre.length).run P w= .ok (mkV ag cs) w:=by
 obtain⟨i,hi⟩:=h.info
 have a:=h.len cs b
 unfold Go.part
 rw [Sem.run_bind,h.isAgg w,Result.andThen_ok]
 cases ag
 ·have c:=h.one rfl
  match cs,a with
  | [v],_=>
   simp only [Bool.false_eq_true,if_false]
   have:(pre++[v]++post).toArray[pre.length]? =some v:=by simp
   rw [this];rfl
  | [],a=>simp at a;omega
  |_::_::_,a=>simp at a;omega
 ·simp only [if_true,Sem.run_bind,run_sizeOf w hi,h.cells,Result.andThen_ok,Sem.run_pure]
  have:(pre++cs++post).toArray.extract pre.length (pre.length+sz)=cs.toArray:=by
   apply Array.toList_inj.1
   rw [Array.toList_extract]
   simp only [List.extract_eq_take_drop,List.append_assoc,List.drop_left,List.take_append_of_le_length (Nat.le_of_eq (show pre.length+sz-pre.length=cs.length by omega)),List.take_of_length_le (show cs.length≤pre.length+sz-pre.length by omega)]
  rw [this];rfl
theorem KTy.part'(h:KTy P t m sz ag K)(w:World){xs:List Value}{off:Nat}{pre cs post:List Value}(a:K cs)(b:xs=pre++cs++post)(c:off=pre.length):(Go.part t xs.toArray off).run P w= .ok (mkV ag cs) w:=by
 subst b;subst c;exact h.part w a
theorem zom{q:IntKind}(a:P.underlying t=some (.int q))(b:P.cellsOf t=1):KTy P t 1 1 false (fun cs=> ∃ x,cs=[.int q x]) where
 cells:=b
 info:=info_of_underlying a
 len:=by rintro cs ⟨x,rfl⟩;rfl
 isAgg w:=by simp [Go.isAgg,run_underlying a]
 one _:=rfl
 eq:=by
  rintro d w _ _ c ⟨x,rfl⟩ ⟨y,rfl⟩
  obtain⟨d,rfl⟩: ∃ d',d=d'+1:=⟨d-1,by omega⟩
  refine⟨x==y,?_,by simp⟩
  simp [mkV,Op.equalIn,run_underlying a]
 chk:=by
  rintro d w em _ c ⟨x,rfl⟩
  obtain⟨d,rfl⟩: ∃ d',d=d'+1:=⟨d-1,by omega⟩
  simp [mkV,Instr.checkKey,run_underlying a]
/-! ### Arrays-/
def zrc(n:Nat)(K:List Value→Prop)(cs:List Value):Prop:= ∃ L:List (List Value),L.length=n∧(∀ c∈L,K c)∧cs=L.flatten
theorem zgg{L:List (List Value)}(h: ∀ c∈L,c.length=sz):L.flatten.length=L.length*sz:=by
 induction L with
 |nil=>simp
 |cons c L ih=>
  rw [List.flatten_cons,List.length_append,ih (fun c a=>h c (by simp [a])),h c (by simp),List.length_cons,Nat.succ_mul,Nat.add_comm]
theorem zee(h:KTy P e m sz ag K)(d:Nat)(i:m≤d)(w:World): ∀ (L L':List (List Value)) (pre pre':List Value) (k:Nat),L.length=L'.length→(∀ c∈L,K c)→(∀ c∈L',K c)→pre.length=k*sz→pre'.length=k*sz→
 ∃ r:Bool,(Op.eqItems d e sz (pre++L.flatten).toArray (pre'++L'.flatten).toArray (List.range' k L.length)).run P w= .ok r w∧(r=true↔L.flatten=L'.flatten)
 | [],[],pre,pre',k,_,_,_,_,_=>⟨true,by simp [Op.eqItems],by simp⟩
 | [],_::_,_,_,_,a,_,_,_,_=>by simp at a
 |_::_,[],_,_,_,a,_,_,_,_=>by simp at a
 |c::L,c'::L',pre,pre',k,a,j,hK',l,hp'=>by
  have b:=j c (by simp)
  have f:=hK' c' (by simp)
  have n:=h.len c b
  have o:=h.len c' f
  obtain⟨r,p,hi⟩:=h.eq d w c c' i b f
  obtain⟨r',hr',hi'⟩:=zee h d i w L L' (pre++c) (pre'++c') (k+1) (by simpa using a) (fun c g=>j c (by simp [g])) (fun c g=>hK' c (by simp [g])) (by rw [List.length_append,l,n,Nat.succ_mul]) (by rw [List.length_append,hp',o,Nat.succ_mul])
  rw [List.append_assoc,List.append_assoc] at hr'
  have q:=h.part' (P:=P) w (xs:=pre++(c::L).flatten) (off:=k*sz) (pre:=pre) (post:=L.flatten) b (by simp) l.symm
  have s:=h.part' (P:=P) w (xs:=pre'++(c'::L').flatten) (off:=k*sz) (pre:=pre') (post:=L'.flatten) f (by simp) hp'.symm
  rw [List.length_cons,List.range'_succ]
  simp only [Op.eqItems,Sem.run_bind,q,s,p,Result.andThen_ok]
  have happ:(c::L).flatten=(c'::L').flatten↔c=c'∧L.flatten=L'.flatten:=by
   rw [List.flatten_cons,List.flatten_cons]
   exact⟨fun e=>List.append_inj e (by omega),fun⟨t,u⟩=>by rw [t,u]⟩
  cases r
  ·exact⟨false,by simp,by rw [happ];simp;intro e;exact absurd (hi.2 e) (by simp)⟩
  ·refine⟨r',by simpa [List.flatten_cons] using hr',?_⟩
   rw [happ,hi']
   simp [hi.1 rfl]
theorem zq1(g:P.underlying t=some (.array n e))(q:P.cellsOf t=n*sz)(h:KTy P e m sz ag K):KTy P t (m+1) (n*sz) true (zrc n K) where
 cells:=q
 info:=info_of_underlying g
 len:=by rintro cs ⟨L,f,b,rfl⟩;rw [zgg fun c j=>h.len c (b c j),f]
 isAgg w:=by simp [Go.isAgg,run_underlying g]
 one h:=by cases h
 eq:=by
  rintro d w _ _ s ⟨L,f,b,rfl⟩ ⟨L',hl',hK',rfl⟩
  obtain⟨d,rfl⟩: ∃ d',d=d'+1:=⟨d-1,by omega⟩
  obtain⟨i,hi⟩:=h.info
  obtain⟨r,u,hiff⟩:=zee h d (by omega) w L L' [] [] 0 (by omega) b hK' (by simp) (by simp)
  refine⟨r,?_,hiff⟩
  show (Op.equalIn (d+1) t (.agg L.flatten.toArray) (.agg L'.flatten.toArray)).run P w=_
  rw [run_equalIn_array w d _ _ g hi,h.cells,List.range_eq_range',←f]
  exact u
 chk:=by
  rintro d w em _ s ⟨L,f,b,rfl⟩
  obtain⟨d,rfl⟩: ∃ d',d=d'+1:=⟨d-1,by omega⟩
  obtain⟨i,hi⟩:=h.info
  show (Instr.checkKey em (d+1) t (.agg L.flatten.toArray)).run P w=_
  rw [Instr.checkKey]
  simp only [Sem.run_bind,run_underlying g,Result.andThen_ok]
  simp only [Std.Legacy.Range.forIn_eq_forIn_range',Std.Legacy.Range.size,Nat.sub_zero,Nat.add_one_sub_one,Nat.div_one]
  rw [←f]
  have key: ∀ (L:List (List Value)) (pre:List Value) (k:Nat),(∀ c∈L,K c)→pre.length=k*sz→
   (forIn (List.range' k L.length) PUnit.unit fun i _=>do
    let a←sizeOf e
    let a←Go.part e (pre++L.flatten).toArray (i*a)
    Instr.checkKey em d e a
    pure (ForInStep.yield PUnit.unit):Sem PUnit).run P w= .ok () w:=by
   intro L
   induction L with
   |nil=>intro pre k _ _;simp
   |cons c L ih=>
    intro pre k b o
    have l:=b c (by simp)
    have v:=h.part' (P:=P) w (xs:=pre++(c::L).flatten) (off:=k*sz) (pre:=pre) (post:=L.flatten) l (by simp) o.symm
    have x:=h.chk d w em c (by omega) l
    rw [List.length_cons,List.range'_succ]
    simp only [List.forIn_cons,Sem.run_bind,run_sizeOf w hi,h.cells,Result.andThen_ok,v,x,Sem.run_pure]
    have:=ih (pre++c) (k+1) (fun c j=>b c (by simp [j])) (by rw [List.length_append,o,h.len c l,Nat.succ_mul])
    rw [List.append_assoc] at this
    simpa [List.flatten_cons] using this
  have p:=key L [] 0 b (by simp)
  rw [List.nil_append] at p
  rw [p];rfl
/-! ### Structs-/
inductive KFld (P:Program) (m:Nat):Nat→List Field→(List Value→Prop)→Prop
 |nil {off:Nat}:KFld P m off [] (fun cs=>cs=[])
 | cons {off sz : Nat} {f : Field} {fs : List Field} {ag : Bool} {K K' : List Value → Prop} : f.name ≠ "_" → f.offset = off → KTy P f.type m sz ag K → KFld P m (off + sz) fs K' → KFld P m off (f :: fs) (fun cs => ∃ a b, K a ∧ K' b ∧ cs = a ++ b)
theorem KFld.len{off:Nat}{fs:List Field}{K:List Value→Prop}(h:KFld P m off fs K): ∃ k,∀ cs,K cs→cs.length=k:=by
 induction h with
 |nil=>exact⟨0,fun cs e=>by subst e;rfl⟩
 |cons i j c l ih=>
  obtain⟨k,d⟩:=ih
  exact⟨_,by rintro cs ⟨a,b,f,g,rfl⟩;rw [List.length_append,c.len a f,d b g]⟩
end
/-! ### Finding-/
theorem zhm{α:Type}: ∀ {l:List α} {p:α×α},p∈l.zip l→p.1=p.2∧p.1∈l
 | [],p,h=>by simp at h
 |a::l,p,h=>by
  rw [List.zip_cons_cons] at h
  rcases List.mem_cons.1 h with rfl|h
  ·exact⟨rfl,by simp⟩
  ·obtain⟨b,c⟩:=zhm h
   exact⟨b,by simp [c]⟩
def zf7(v:Value):Prop:=(∃ q x,v= .int q x)∨ ∃ b,v= .bool b
theorem zcv{n:Nat}{v:Value}(h:zf7 v):Instr.sameBits n v v=true:=by
 rcases h with⟨q,x,rfl⟩|⟨b,rfl⟩
 ·cases n<;>simp [Instr.sameBits]
 ·cases n<;>simp [Instr.sameBits]
theorem zfb{n:Nat}{cs:List Value}(h: ∀ v∈cs,zf7 v):Instr.sameBits (n+1) (.agg cs.toArray) (.agg cs.toArray)=true:=by
 simp only [Instr.sameBits,beq_self_eq_true,Bool.true_and,List.all_eq_true]
 intro p e
 obtain⟨c,d⟩:=zhm e
 obtain⟨a,b⟩:=p
 simp only at c d
 subst c
 exact zcv (h _ d)
section
variable {P : Program} {kt : TypeId} {m sz : Nat} {K : List Value → Prop} {κ : Type} [DecidableEq κ] {ke : κ → Value} {cl : κ → List Value}
theorem zjr(h:KTy P kt m sz true K)(j:m≤Op.maxDepth)(f: ∀ k,ke k= .agg (cl k).toArray)(g: ∀ k,K (cl k))(hinj: ∀ a b,cl a=cl b→a=b){β:Type}(k:κ)(ve:β→Value)(w:World):
 ∀ (es:List MapEntry) (M:List (κ×β)) (i:Nat),es.map z7q=M.map (fun p=>(ke p.1,ve p.2))→(Instr.findAsking kt (ke k) es i).run P w= .ok ((z1m M k i).map fun p=>(p.1,ve p.2)) w
 | [],[],i,_=>by simp [Instr.findAsking,z1m]
 | [],_::_,_,h=>by simp at h
 |_::_,[],_,h=>by simp at h
 |e::es,p::M,i,c=>by
  simp only [List.map_cons,List.cons.injEq,z7q,Prod.mk.injEq] at c
  obtain⟨⟨l,n⟩,o⟩:=c
  obtain⟨r,q,hi⟩:=h.eq Op.maxDepth w (cl k) (cl p.1) j (g k) (g p.1)
  have hr':(Op.equal kt (ke k) e.key).run P w= .ok r w:=by
   rw [l,f,f];exact q
  unfold Instr.findAsking z1m
  rw [Sem.run_bind,hr',Result.andThen_ok]
  have d:r=true↔k=p.1:=⟨fun e=>hinj _ _ (hi.1 e),fun e=>hi.2 (by rw [e])⟩
  by_cases hk:k=p.1
  ·rw [if_pos (d.2 hk),if_pos hk,n];rfl
  ·rw [if_neg (fun e=>hk (d.1 e)),if_neg hk]
   exact zjr h j f g hinj k ve w es M (i+1) o
theorem zr4(h:KTy P kt m sz true K)(e:m≤10000)(g:(match P.underlying kt with|some (.array _ _)|some (.struct _)=>true|_=>false)=true)(c: ∀ k,ke k= .agg (cl k).toArray)(f: ∀ k,K (cl k))(hinj: ∀ a b,cl a=cl b→a=b)
 (d: ∀ k,∀ v∈cl k,zf7 v):KOk P kt ke where
 check b k w:=by rw [c];exact h.chk 10000 w b (cl k) e (f k)
 find k es M ve w hes:=by
  rw [run_findKey_eq w g]
  exact zjr h e c f hinj k ve w es M 0 hes
 same k:=by rw [c];exact zfb (d k)
end
end GV
end Go.Proofs.YtkkcidhcfkmbjaaGreatDoor

namespace Go.Proofs.YtkkcidhcfkmbjaaGreatDoor
namespace GV
abbrev Arr (n:Nat) (α:Type):= {l:List α//l.length=n}
instance {n:Nat} {α:Type} [Inhabited α]:Inhabited (Arr n α):=⟨⟨List.replicate n default,List.length_replicate⟩⟩
structure CellsOf {α:Type} (T:Ty α) (cl:α→List Value):Prop where
 len: ∀ x,(cl x).length=T.size
 iff: ∀ R cs x,T.rep R cs x↔cs=cl x
/-! ### A box that holds an array:as a slice that can't grow-/
section a
variable {P : Program} {ρ : Option Nat} {n : Nat} {ops : Array Oper} {Q : Po} {rest : List Oper} {l : Nat → Value} {D : List Nat} {R : RH} {O : List Frag} {ty : TypeId} {pos : String} {after : Array Go.Edge} {d : Nat} {dst : Option Tmp} {g : Option (Nat × Bool)}
variable {α β : Type} {T : Ty α} {B : Ty β} {X : List α} {v u w : Value} {x y ix' : Operand} {f F : Frag} {i j o b m sz : Nat} {t s e : TypeId} {k : IntKind}
end a
end GV
end Go.Proofs.YtkkcidhcfkmbjaaGreatDoor

namespace Go.Proofs.YtkkcidhcfkmbjaaGreatDoor
namespace GV
section w
variable {P : Program} {ρ : Option Nat} {n : Nat} {ops : Array Oper} {Q : Po} {rest : List Oper} {l : Nat → Value} {D : List Nat} {R : RH} {O : List Frag} {ty : TypeId} {pos : String} {after : Array Go.Edge} {d : Nat} {dst : Option Tmp} {g : Option (Nat × Bool)}
variable {α : Type} [Inhabited α] {x y : Operand} {i j o b m sz k off : Nat} {t e bt : TypeId} {X : Arr m α} {cl : α → List Value} {vs : List Value} {v : Value}
/-! ### Structs out of parts of any size-/
inductive FillOk (place:Nat→Option (Nat×Nat)):Nat→List (Nat×Value)→List Value→Prop
 |nil {off:Nat}:FillOk place off [] []
 |last {off i:Nat} {v:Value} {c:List Value}:v.cells=c.toArray→place i=some (off,c.length)→FillOk place off [(i,v)] c
 |cons {off i:Nat} {v:Value} {ps:List (Nat×Value)} {c out:List Value}:v.cells=c.toArray→place i=some (off,c.length)→FillOk place (off+c.length) ps out→FillOk place off ((i,v)::ps) (c++out)
end w
/-! ### Loops that are gone through so many times-/
section u
variable {P : Program} {ρ : Option Nat} {n : Nat} {Q : Po} {l : Nat → Value} {D : List Nat} {R : RH} {O : List Frag} {c : Code}
end u
section mm
variable {P : Program} {ρ : Option Nat} {l : Nat → Value} {R : RH} {O : List Frag} {ty : TypeId} {pos : String} {after : Array Go.Edge} {dst : Option Tmp} {g : Option (Nat × Bool)} {k : IntKind} {a b : Int} {x y : Operand} {at' : Array TypeId} {t : TypeId} {d : TypeDesc}
end mm
section p
variable {P : Program} {ρ : Option Nat} {l : Nat → Value} {R : RH} {O : List Frag} {ty : TypeId} {pos : String} {after : Array Go.Edge} {dst : Option Tmp} {g : Option (Nat × Bool)}
variable {α β : Type} [Inhabited α] {T : Ty α} {B : Ty β} {X : List α} {v u w : Value} {x y : Operand} {F : Frag} {i o : Nat} {t : TypeId} {se : α → β → α}
end p
end GV
end Go.Proofs.YtkkcidhcfkmbjaaGreatDoor

namespace Go.Proofs.YtkkcidhcfkmbjaaGreatDoor
namespace GV
/-! ### A box that only is read,of which the value is known-/
def zdn(v:Value):Ty Unit where
 size:=v.cells.size
 agg:=true
 rep _ cs _:=v= .agg cs.toArray∧ ∀ c∈cs,c.oneCell'=true
 len:=by rintro R cs x ⟨rfl,_⟩;simp [Value.cells]
 mono _ h:=h
 one h:=by cases h
 cell h:=h.2
theorem zny{R:RH}{v w:Value}{x:Unit}(h:VRep (zdn v) R w x):w=v:=by
 obtain⟨cs,⟨rfl,_⟩,rfl⟩:=h;rfl
theorem ztu{α:Type}{T:Ty α}{R:RH}{v:Value}{y:α}(a:T.agg=true)(b:VRep T R v y):VRep (zdn v) R v ():=by
 obtain⟨cs,c,rfl⟩:=b
 have e:T.mk' cs= .agg cs.toArray:=by unfold Ty.mk';rw [a];rfl
 exact⟨cs,⟨e,T.cell c⟩,e⟩
theorem zo0{α:Type}{T:Ty α}{R:RH}{v u:Value}{y:α}(f:T.agg=true)(g:PRep (zdn v) R u ())(h:VRep T R v y):PRep T R u y:=by
 obtain⟨cs,a,rfl⟩:=h
 have e:T.mk' cs= .agg cs.toArray:=by unfold Ty.mk';rw [f];rfl
 obtain⟨b,off,c,ty,fr,i,j,d,_⟩:=g
 have k:(zdn (T.mk' cs)).size=T.size:=by rw [←T.len a,e];simp [zdn,Value.cells]
 refine⟨b,off,c,ty,fr,i,j,?_⟩
 rw [k,e] at d
 have:cs=cellsAt c off T.size:=by simpa using d
 rw [←this];exact a
theorem jq{α:Type}{P:Program}{ρ:Option Nat}{l:Nat→Value}{R:RH}{O:List Frag}{dst:Option Tmp}{ty:TypeId}{pos:String}{after:Array Go.Edge}{g:Option (Nat×Bool)}{T:Ty α}{t:TypeId}{x:Operand}{u v:Value}{y:α}
 (a:TyOk P t T) (b:T.agg=true) (c:ev l x=u) (d:PRep (zdn v) R u ()) (f:VRep T R v y):Val P ρ ⟨dst,.load t x,ty,pos,after,g⟩ l R O v:=by
 have i:(zdn v).size=T.size:=by
  obtain⟨cs,j,rfl⟩:=f
  have e:T.mk' cs= .agg cs.toArray:=by unfold Ty.mk';rw [b];rfl
  rw [←T.len j,e];simp [zdn,Value.cells]
 have ht':TyOk P t (zdn v):=⟨fun w=>by rw [a.agg w,b];rfl,fun w=>by rw [a.size w,i]⟩
 obtain⟨w,k,h⟩:=z7a (ρ:=ρ) (O:=O) ht' c d
 obtain rfl:=zny k
 exact h _ _ _ _ _
theorem um{α:Type}{P:Program}{ρ:Option Nat}{n:Nat}{ops:Array Oper}{Q:Po}{rest:List Oper}{l:Nat→Value}{D:List Nat}{R:RH}{O:List Frag}{ty:TypeId}{pos:String}{after:Array Go.Edge}{d:Nat}{T:Ty α}{e:TypeId}{x:Operand}{v:Value}{y:α}(g:Nat.blt d n=true)(h:ev l x=v)(b:T.agg=true)(c:VRep T R v y)
 (i: ∀ u R',RH.le R R'→PRep (zdn v) R' u ()→PRep T R' u y→wo P ρ n ops Q rest (upd l d u) D R' O):wo P ρ n ops Q (⟨some d,.box e x,ty,pos,after,none⟩::rest) l D R O:=
 z1g g h (ztu b c) fun u R' a f=>i u R' a f (zo0 b f (c.mono a))
/-! ### A part of a box that is an array of values of one cell-/
def zrf(n:Nat)(g:Nat→Value):List Value:=(List.range n).map g
def AG{α:Type}[Inhabited α](T:Ty α)(R:RH)(n:Nat)(g:Nat→Value)(X:List α):Prop:=X.length=n∧ ∀ k,k<n→VRep T R (g k) (X.getD k default)∧(g k).oneCell'=true
theorem AG.mono{α:Type}[Inhabited α]{T:Ty α}{R R':RH}{n:Nat}{g:Nat→Value}{X:List α}(h:AG T R n g X)(a:RH.le R R'):AG T R' n g X:=⟨h.1,fun k b=>⟨(h.2 k b).1.mono a,(h.2 k b).2⟩⟩
theorem zo6(n:Nat)(g:Nat→Value):(zrf n g).length=n:=by simp [zrf]
section g
variable {P : Program} {ρ : Option Nat} {n : Nat} {ops : Array Oper} {Q : Po} {rest : List Oper} {l : Nat → Value} {D : List Nat} {R : RH} {O : List Frag} {ty : TypeId} {pos : String} {after : Array Go.Edge} {dst : Option Tmp} {g0 : Option (Nat × Bool)}
end g
/-! ### A slice that keeps its capacity;a new slice that only is read-/
section c
variable {P : Program} {ρ : Option Nat} {n : Nat} {ops : Array Oper} {Q : Po} {rest : List Oper} {l : Nat → Value} {D : List Nat} {R : RH} {O : List Frag} {ty : TypeId} {pos : String} {after : Array Go.Edge} {dst : Option Tmp} {g : Option (Nat × Bool)}
end c
end GV
end Go.Proofs.YtkkcidhcfkmbjaaGreatDoor

namespace Go.Proofs.YtkkcidhcfkmbjaaGreatDoor
namespace GV
def EV(P:Program)(ρ:Option Nat)(o:Oper)(l:Nat→Value)(R:RH)(O:List Frag)(φ:Value→RH→Prop):Prop:= ∃ v,φ v R∧Val P ρ o l R O v
theorem zh0{l:Nat→Value}{a:Operand}{az:List Operand}{v:Value}{vs:List Value}(h:ev l a=v)(k:az.map (ev l)=vs):(a::az).map (ev l)=v::vs:=by rw [List.map_cons,h,k]
section ev
variable {P : Program} {ρ : Option Nat} {l : Nat → Value} {R : RH} {O : List Frag} {dst : Option Tmp} {ty : TypeId} {pos : String} {after : Array Go.Edge} {g : Option (Nat × Bool)}
theorem j4{o:Oper}{v:Value}(h:Val P ρ o l R O v):EV P ρ o l R O (phX v):=⟨v,rfl,h⟩
theorem zuu{o:Oper}{v:Value}(h:EV P ρ o l R O (phX v)):Val P ρ o l R O v:=by
 obtain⟨u,a,b⟩:=h
 obtain rfl:u=v:=a
 exact b
theorem z9j{o:Oper}{α:Type}{T:Ty α}{x:α}{a:Value}(h:EV P ρ o l R O (phR T x))(b: ∀ R v,VRep T R v x→v=a):Val P ρ o l R O a:=by
 obtain⟨v,c,d⟩:=h
 rwa [b _ _ c] at d
theorem z15{o:Oper}{k:IntKind}{x:Int}(h:EV P ρ o l R O (phR (zw k) x)):Val P ρ o l R O (.int k x):=z9j h fun _ _ h=>ql.1 h
theorem zf6{o:Oper}{x:Bool}(h:EV P ρ o l R O (phR yt x)):Val P ρ o l R O (.bool x):=z9j h fun _ _ h=>z0o.1 h
theorem xk{α:Type}{T:Ty α}{t:TypeId}{x:Operand}{v:Value}{y:α}(a:TyOk P t T)(b:ev l x=v)(c:PRep T R v y):EV P ρ ⟨dst,.load t x,ty,pos,after,g⟩ l R O (phR T y):=
 let⟨u,d,e⟩:=z7a a b c
 ⟨u,d,e _ _ _ _ _⟩
theorem mg{α β:Type}{A:Ty α}{B:Ty β}{s:TypeId}{x:Operand}{f o:Nat}{v:Value}{y:α}{pr:α→β}(a:FieldOk P s f o)(hpart:Part A o B pr)(b:ev l x=v)(c:PRep A R v y):
 EV P ρ ⟨dst,.fieldAddr s x f,ty,pos,after,g⟩ l R O (phP B (pr y)):=
 let⟨u,d,e⟩:=z88 a hpart b c
 ⟨u,d,e _ _ _ _ _⟩
theorem z4s{α:Type}[Inhabited α]{T:Ty α}{t e:TypeId}{x ix:Operand}{v:Value}{X:List α}{k:IntKind}{i:Nat}(a:SlOk P t e T)(b:ev l x=v)(c:VRep (uq T) R v X)(hi:ev l ix= .int k i)(d:i<X.length):
 EV P ρ ⟨dst,.indexAddr t x ix,ty,pos,after,g⟩ l R O (phP T (X.getD i default)):=
 let⟨u,f,h⟩:=z7x a b c hi (getD_some d)
 ⟨u,f,h _ _ _ _ _⟩
theorem zaa{α:Type}{T:Ty α}{t e:TypeId}{x ix:Operand}{v:Value}{X:List α}{k:IntKind}{i:Nat}{f:Frag}(a:SlOk P t e T)(c:ev l x=v)(d:ORep T R f v X)(hi:ev l ix= .int k i)(h:i<X.length):
 EV P ρ ⟨dst,.indexAddr t x ix,ty,pos,after,g⟩ l R O (fun u _=>z14 T v X u i):=
 let⟨b,off,j,m⟩:=z7w (O:=O) a c d hi h
 ⟨_,⟨b,off,j,rfl⟩,m _ _ _ _ _⟩
theorem zmb{α:Type}[Inhabited α]{T:Ty α}{t:TypeId}{x:Operand}{f:Frag}{v u:Value}{X:List α}{i j:Nat}(a:TyOk P t T)(c:ORep T R f v X)(d:O[j]? =some f)(e:ev l x=u)(h:z14 T v X u i)(k:i<X.length):
 EV P ρ ⟨dst,.load t x,ty,pos,after,g⟩ l R O (phR T (X.getD i default)):=by
 obtain⟨b,off,m,rfl⟩:=h
 obtain⟨y,hy',n⟩:=z9t (ρ:=ρ) (P:=P) a c m d e (getD_some k)
 exact⟨y,hy',n _ _ _ _ _⟩
section nest
variable {α : Type} {t : Bool} {T : Ty α} {F : Frag} {v : Value} {Vs : List Value} {X : List (List α)}
theorem zkc{tt e:TypeId}{x ix:Operand}{k:IntKind}{i:Nat}(a:SlOk P tt e z1n)(b:ev l x=v)(h:N2 t T R F v Vs X)(hi:ev l ix= .int k i)(d:i<X.length):
 EV P ρ ⟨dst,.indexAddr tt x ix,ty,pos,after,g⟩ l R O (fun u _=>z14 z1n v Vs u i):=by
 obtain⟨f0,c,_,f⟩:=h.o
 exact zaa a b c hi (by omega)
theorem zm8{tt:TypeId}{x:Operand}{u:Value}{i j:Nat}(a:TyOk P tt z1n)(h:N2 t T R F v Vs X)(b:O[j]? =some F)(c:ev l x=u)(d:z14 z1n v Vs u i)(n:i<X.length):
 EV P ρ ⟨dst,.load tt x,ty,pos,after,g⟩ l R O (phX (Vs.getD i default)):=by
 obtain⟨f0,e,f,p⟩:=h.o
 obtain⟨w,k,m⟩:=zeb (ρ:=ρ) (P:=P) a e f b c d (getD_some (by omega))
 exact⟨w,zh2 k,m _ _ _ _ _⟩
theorem zhr{tt e:TypeId}{x ix:Operand}{k:IntKind}{i r:Nat}(a:SlOk P tt e T)(h:N2 t T R F v Vs X)(b:r<X.length)(c:ev l x=Vs.getD r default)(hi:ev l ix= .int k i)(d:i<(X.getD r default).length):
 EV P ρ ⟨dst,.indexAddr tt x ix,ty,pos,after,g⟩ l R O (fun u _=>z14 T (Vs.getD r default) (X.getD r default) u i):=
 let⟨fk,f,_⟩:=h.row b;zaa a c f hi d
end nest
section part
variable {α β : Type} {T : Ty α} {B : Ty β} {X : List α} {v u : Value} {x : Operand} {f : Frag} {i j o fld : Nat} {s t : TypeId} {pr : α → β}
end part
end ev
/-! ### In the text's order-/
section wo
variable {P : Program} {ρ : Option Nat} {n : Nat} {Q : Po} {l : Nat → Value} {D : List Nat} {R : RH} {O : List Frag} {ops : Array Oper} {rest : List Oper} {op : Op} {ty : TypeId} {pos : String} {after : Array Go.Edge} {d : Nat} {φ : Value → RH → Prop}
theorem zhh(a:Nat.blt d n=true)(h:EV P ρ ⟨some d,op,ty,pos,after,none⟩ l R O φ)(b: ∀ v,φ v R→wo P ρ n ops Q rest (upd l d v) D R O):wo P ρ n ops Q (⟨some d,op,ty,pos,after,none⟩::rest) l D R O:=
 let⟨v,c,e⟩:=h
 ji a e (b v c)
theorem zdr{a:Act}{j s:Nat}(d:Fr n l D a)(c:guardSlot ops j=some s)(f:l s=undef):yielded ops a.tmps j=none:=by
 unfold yielded
 unfold guardSlot at c
 rw [c]
 have b:=d.get s
 rw [f,Array.getD_eq_getD_getElem?] at b
 simp only [Option.bind_some]
 cases h:a.tmps[s]? with
 |none=>rfl
 |some v=>
  rw [h] at b
  have e:v=undef:=b
  rw [e];rfl
theorem zq9{j s:Nat}{want:Bool}(c:guardSlot ops j=some s)(e:Nat.blt s n=true)(f:l s=undef)(g:Nat.blt d n=true)(i:wo P ρ n ops Q rest (upd l d undef) D R O):
 wo P ρ n ops Q (⟨some d,op,ty,pos,after,some (j,want)⟩::rest) l D R O:=by
 intro a w b k
 have m:=zdr b c f
 have h:=i _ w (b.put (d:=some d) (fun t o=>by cases o;simpa using g) undef) k
 simp only [wlo]
 rw [if_neg (by simp [Region.wanted,m])]
 exact⟨fun _ _=>trivial,h⟩
theorem zsy{j s:Nat}{want Gj Bj:Bool}(b:guardSlot ops j=some s)(a:Nat.blt s n=true)(c:Nat.blt d n=true)(e:phG Gj (phX (.bool Bj)) (l s) R)
 (hyes:Gj=true→Bj=want→Eff P ρ ⟨some d,op,ty,pos,after,none⟩ l R O fun v R' O'=>O'=O∧φ v R') (f: ∀ v R',RH.le R R'→phG (Gj&&(Bj==want)) φ v R'→wo P ρ n ops Q rest (upd l d v) D R' O):
 wo P ρ n ops Q (⟨some d,op,ty,pos,after,some (j,want)⟩::rest) l D R O:=by
 cases Gj with
 |false=>exact zq9 b a (e.2 rfl) c (f _ _ (RH.le.refl _) ⟨fun h=>by(cases h),fun _=>rfl⟩)
 |true=>
  by_cases i:Bj=want
  ·subst i
   refine zqb b a (e.1 rfl) (zm4 c (hyes rfl rfl) fun v R' g h=>f v R' g ⟨fun _=>h,fun h=>by simp at h⟩)
  ·have hb':(Bj==want)=false:=by simpa using i
   exact zq5 b a (e.1 rfl) hb' c (f _ _ (RH.le.refl _) (by rw [hb'];exact⟨fun h=>by simp at h,fun _=>rfl⟩))
theorem zut{j s:Nat}{want Gj Bj:Bool}(b:guardSlot ops j=some s)(a:Nat.blt s n=true)(c:Nat.blt d n=true)(e:phG Gj (phX (.bool Bj)) (l s) R)
 (hyes:Gj=true→Bj=want→EV P ρ ⟨some d,op,ty,pos,after,none⟩ l R O φ) (f: ∀ v,phG (Gj&&(Bj==want)) φ v R→wo P ρ n ops Q rest (upd l d v) D R O):
 wo P ρ n ops Q (⟨some d,op,ty,pos,after,some (j,want)⟩::rest) l D R O:=by
 cases Gj with
 |false=>exact zq9 b a (e.2 rfl) c (f _ ⟨fun h=>by(cases h),fun _=>rfl⟩)
 |true=>
  by_cases g:Bj=want
  ·subst g
   obtain⟨v,i,k⟩:=hyes rfl rfl
   exact zqb b a (e.1 rfl) (ji c k (f v ⟨fun _=>i,fun h=>by simp at h⟩))
  ·have hb':(Bj==want)=false:=by simpa using g
   exact zq5 b a (e.1 rfl) hb' c (f _ (by rw [hb'];exact⟨fun h=>by simp at h,fun _=>rfl⟩))
theorem ja{j s:Nat}{want Bj:Bool}(b:guardSlot ops j=some s)(a:Nat.blt s n=true)(c:Nat.blt d n=true)(e:l s= .bool Bj)
 (hyes:Bj=want→EV P ρ ⟨some d,op,ty,pos,after,none⟩ l R O φ) (f: ∀ v,phG (true&&(Bj==want)) φ v R→wo P ρ n ops Q rest (upd l d v) D R O):
 wo P ρ n ops Q (⟨some d,op,ty,pos,after,some (j,want)⟩::rest) l D R O:=zut b a c (z6n e) (fun _=>hyes) f
theorem zbt{j s:Nat}{want Bj:Bool}(b:guardSlot ops j=some s)(a:Nat.blt s n=true)(c:Nat.blt d n=true)(e:l s= .bool Bj)
 (hyes:Bj=want→Eff P ρ ⟨some d,op,ty,pos,after,none⟩ l R O fun v R' O'=>O'=O∧φ v R') (f: ∀ v R',RH.le R R'→phG (true&&(Bj==want)) φ v R'→wo P ρ n ops Q rest (upd l d v) D R' O):
 wo P ρ n ops Q (⟨some d,op,ty,pos,after,some (j,want)⟩::rest) l D R O:=zsy b a c (z6n e) (fun _=>hyes) f
end wo
end GV
end Go.Proofs.YtkkcidhcfkmbjaaGreatDoor

namespace Go.Proofs.YtkkcidhcfkmbjaaGreatDoor
namespace GV
def opds:Op→Option (List Operand)
 | .move x| .assign x| .load _ x| .nilCheck x| .unOp _ _ x| .convert _ _ x| .fieldAddr _ x _| .field _ x _| .extract x _=>some [x]
 | .pick c a b=>some [c,a,b]
 | .binOp _ _ x y _| .indexAddr _ x y| .index _ x y| .lookup _ x y _=>some [x,y]
 | .build _ ps=>some (ps.toList.map (·.2))
 | .makeFunc _ fs cs=>some (fs.toList++cs.toList)
 | .slice _ x lo hi mx=>some (x::(lo.toList++(hi.toList++mx.toList)))
 | .call c=>match c.callee with
  | .builtin _=>some c.args.toList
  |_=>none
 |_=>none
theorem z9w{ρ1 ρ2:Operand→Value}{x:Option Operand}(h: ∀ y∈x.toList,ρ1 y=ρ2 y):x.map ρ1=x.map ρ2:=by
 cases x with
 |none=>rfl
 |some y=>simp [h y (by simp)]
theorem z9v{ρ1 ρ2:Operand→Value}{xs:Array Operand}(h: ∀ y∈xs.toList,ρ1 y=ρ2 y):xs.map ρ1=xs.map ρ2:=by
 apply Array.ext'
 rw [Array.toList_map,Array.toList_map]
 exact List.map_congr_left h
theorem zku{ρ1 ρ2:Operand→Value}{xs:Array (Nat×Operand)}(h: ∀ y∈xs.toList.map (·.2),ρ1 y=ρ2 y):(xs.map fun(i,x)=>(i,ρ1 x))=xs.map fun(i,x)=>(i,ρ2 x):=by
 apply Array.ext'
 rw [Array.toList_map,Array.toList_map]
 refine List.map_congr_left fun p a=>?_
 obtain⟨i,x⟩:=p
 have:=h x (List.mem_map.2 ⟨(i,x),a,rfl⟩)
 simp only [this]
theorem zi6{o:Oper}{xs:List Operand}{ρ1 ρ2:Operand→Value}(h:opds o.op=some xs)(a: ∀ x∈xs,ρ1 x=ρ2 x):execOp ρ1 o=execOp ρ2 o:=by
 obtain⟨dst,op,ty,pos,after,g⟩:=o
 dsimp only at h
 cases op<;>simp only [opds,Option.some.injEq,reduceCtorEq] at h
 case call c=>
  obtain⟨cal,args,at'⟩:=c
  cases cal<;>simp only [Option.some.injEq,reduceCtorEq] at h
  subst h
  simp only [execOp,resolve,z9v a]
 case build t ps=>subst h;simp only [execOp,zku a]
 case makeFunc f fs cs=>
  subst h
  simp only [execOp,z9v (xs:=fs) (fun y b=>a y (List.mem_append_left _ b)),z9v (xs:=cs) (fun y b=>a y (List.mem_append_right _ b))]
 case slice t x lo hi mx=>
  subst h
  simp only [execOp,a x (List.mem_cons_self ..),z9w (x:=lo) (fun y b=>a y (by simp [b])),z9w (x:=hi) (fun y b=>a y (by simp [b])),z9w (x:=mx) (fun y b=>a y (by simp [b]))]
 all_goals subst h;simp only [List.mem_cons,List.not_mem_nil,or_false,forall_eq_or_imp,forall_eq] at a;simp only [execOp,a]
theorem zfd{op:Op}{xs:List Operand}(h:opds op=some xs): ∀ c,op≠ .defer c:=by
 intro c e;subst e;simp [opds] at h
theorem zis{R R':RH}{O:List Frag}{w:World}(h:Holds R' O w)(a:R.le R'):Holds R O w:=by
 refine⟨fun k o b=>h.ro k o (a.blk k o b),fun f c k o b=>⟨(h.own f c k o b).1,?_⟩,h.sep,by rw [←a.os];exact h.os,by rw [←a.out];exact h.out⟩
 cases e:R.blk k with
 |none=>rfl
 |some o'=>
  have:=a.blk k o' e
  rw [(h.own f c k o b).2] at this;cases this
theorem zkb{P:Program}{ρ:Option Nat}{o:Oper}{l l':Nat→Value}{R R':RH}{O:List Frag}{v:Value}{xs:List Operand}(h:Val P ρ o l R O v)(c:opds o.op=some xs)(e: ∀ s,.tmp s∈xs→l' s=l s)(a:R.le R'):Val P ρ o l' R' O v:=by
 intro A w f
 have d:=h A w (zis f a)
 have g:=zfd c
 rw [qi g] at d⊢
 rw [zi6 c (ρ2:=ev l) fun x b=>?_]
 ·exact d
 ·cases x with
  |tmp s=>exact e s b
  |_=>rfl
def wv(P:Program)(ρ:Option Nat)(R:RH)(O:List Frag):List Oper→(Nat→Value)→((Nat→Value)→Prop)→Prop
 | [],l,K=>K l
 |o::r,l,K=> ∃ d v,o.dst=some d∧Val P ρ o l R O v∧wv P ρ R O r (upd l d v) K
section wv
variable {P : Program} {ρ : Option Nat} {n : Nat} {Q : Po} {l : Nat → Value} {D : List Nat} {R : RH} {O : List Frag} {rest : List Oper} {op : Op} {ty : TypeId} {pos : String} {after : Array Go.Edge} {d : Nat} {φ : Value → RH → Prop} {K : (Nat → Value) → Prop} {g : Option (Nat × Bool)}
theorem z4j{v:Value}(h:Val P ρ ⟨some d,op,ty,pos,after,g⟩ l R O v)(a:wv P ρ R O rest (upd l d v) K):wv P ρ R O (⟨some d,op,ty,pos,after,g⟩::rest) l K:=⟨d,v,rfl,h,a⟩
theorem zrk(h:EV P ρ ⟨some d,op,ty,pos,after,g⟩ l R O φ)(a: ∀ v,φ v R→wv P ρ R O rest (upd l d v) K):wv P ρ R O (⟨some d,op,ty,pos,after,g⟩::rest) l K:=
 let⟨v,b,c⟩:=h
 ⟨d,v,rfl,c,a v b⟩
def zm0(gs:List Oper)(s:Nat):Option Nat:=gs.findIdx? fun o=>o.dst==some s
def clV(gs:List Oper):Bool:=gs.zipIdx.all fun(o,i)=>o.guard.isNone&&(match opds o.op with
 |none=>false
 |some xs=>xs.all fun x=>match x with
  | .tmp s=>(match zm0 gs s with|none=>true|some j=>Nat.blt j i&&o.after.toList.any fun e=>Nat.beq e.on j&&Region.binds .any e)
  |_=>true)
def zd4(l:Nat→Value):List (Nat×Value)→Nat→Value
 | []=>l
 |(d,v)::r=>zd4 (upd l d v) r
theorem zft{s d:Nat}{v:Value}(h:s≠d):upd l d v s=l s:=by
 unfold upd
 have:Nat.beq s d=false:=by
  cases hb:Nat.beq s d
  ·rfl
  ·exact absurd (Nat.eq_of_beq_eq_true hb) h
 rw [this];rfl
theorem zju{d:Nat}{v:Value}:upd l d v d=v:=by unfold upd;simp
theorem z90{s:Nat}: ∀ {acc:List (Nat×Value)} {l:Nat→Value},s∉acc.map (·.1)→zd4 l acc s=l s
 | [],_,_=>rfl
 |(d,v)::r,l,h=>by
  simp only [List.map_cons,List.mem_cons,not_or] at h
  rw [zd4,z90 h.2,zft h.1]
theorem zew{s:Nat}{v:Value}: ∀ {acc:List (Nat×Value)} {l:Nat→Value} {j:Nat},acc[j]? =some (s,v)→(acc.map (·.1)).Nodup→zd4 l acc s=v
 | [],_,_,h,_=>by simp at h
 |(d,u)::r,l,0,h,a=>by
  simp only [List.getElem?_cons_zero,Option.some.injEq,Prod.mk.injEq] at h
  obtain⟨rfl,rfl⟩:=h
  simp only [List.map_cons,List.nodup_cons] at a
  rw [zd4,z90 a.1,zju]
 |(d,u)::r,l,j+1,h,a=>by
  simp only [List.map_cons,List.nodup_cons] at a
  rw [zd4]
  exact zew (j:=j) (by simpa using h) a.2
theorem zgp{s:Nat}: ∀ {acc:List (Nat×Value)},s∉acc.map (·.1)→l7 l acc s=l s
 | [],_=>rfl
 |(d,v)::r,h=>by
  simp only [List.map_cons,List.mem_cons,not_or] at h
  rw [l7,zft h.1,zgp h.2]
theorem zjb{s:Nat}{v:Value}: ∀ {acc:List (Nat×Value)} {j:Nat},acc[j]? =some (s,v)→(acc.map (·.1)).Nodup→l7 l acc s=v
 | [],_,h,_=>by simp at h
 |(d,u)::r,0,h,a=>by
  simp only [List.getElem?_cons_zero,Option.some.injEq,Prod.mk.injEq] at h
  obtain⟨rfl,rfl⟩:=h
  rw [l7,zju]
 |(d,u)::r,j+1,h,a=>by
  simp only [List.map_cons,List.nodup_cons] at a
  have h':r[j]? =some (s,v):=by simpa using h
  have b:s∈r.map (·.1):=List.mem_map.2 ⟨_,List.mem_of_getElem? h',rfl⟩
  rw [l7,zft (fun e=>a.1 (by rw [←e];exact b))]
  exact zjb h' a.2
theorem zmc{acc:List (Nat×Value)}(a:(acc.map (·.1)).Nodup):zd4 l acc=l7 l acc:=by
 funext s
 by_cases h:s∈acc.map (·.1)
 ·obtain⟨⟨d,v⟩,b,rfl⟩:=List.mem_map.1 h
  obtain⟨j,c,e⟩:=List.mem_iff_getElem.1 b
  have h':acc[j]? =some (d,v):=by rw [List.getElem?_eq_getElem c,e]
  rw [zew h' a,zjb h' a]
 ·rw [z90 h,zgp h]
def zcg(gs:List Oper)(vs:List Value):List (Nat×Value):=(gs.zip vs).map fun p=>(p.1.dst.getD 0,p.2)
theorem zj4: ∀ {os:List Oper} {l:Nat→Value},wv P ρ R O os l K→ ∃ vs:List Value,vs.length=os.length∧(∀ o∈os,o.dst.isSome=true)∧
 (∀ (i:Nat) o v,os[i]? =some o→vs[i]? =some v→Val P ρ o (zd4 l ((zcg os vs).take i)) R O v)∧K (zd4 l (zcg os vs))
 | [],l,h=>⟨[],rfl,fun o c=>by simp at c,fun i o v h=>by simp at h,h⟩
 |o::r,l,⟨d,v,a,e,f⟩=>by
  obtain⟨vs,g,j,k,m⟩:=zj4 f
  refine⟨v::vs,by simp [g],fun o' ho'=>?_,fun i o' u hi b=>?_,?_⟩
  ·rcases List.mem_cons.1 ho' with rfl|ho'
   ·rw [a];rfl
   ·exact j o' ho'
  ·cases i with
   |zero=>
    simp only [List.getElem?_cons_zero,Option.some.injEq] at hi b
    subst hi;subst b
    exact e
   |succ i=>
    have:=k i o' u (by simpa using hi) (by simpa using b)
    simpa [zcg,zd4,a] using this
  ·simpa [zcg,zd4,a] using m
theorem zgi{gs:List Oper}{φs:List (Value→RH→Prop)}{l:Nat→Value}{R:RH}: ∀ {es:List Go.Edge},zkm gs φs l R es→ ∀ e∈es,Region.binds .any e=true→ ∀ d,ug gs e.on=some d→phi φs e.on (l d) R
 | [],_,e,a,_,_,_=>by simp at a
 |e'::es,h,e,a,b,d,c=>by
  rcases List.mem_cons.1 a with rfl|a
  ·have:=h.1
   rw [c] at this
   exact this b
  ·exact zgi h.2 e a b d c
theorem zk1{gs:List Oper}{al:List NewBox}{φs:List (Value→RH→Prop)}{l0:Nat→Value}{R0:RH}: ∀ {os:List Oper} {k:Nat},
 (∀ (i:Nat) (o:Oper),os[i]? =some o→ ∀ l R,RH.le R0 R→Agree gs l0 l→zkm gs φs l R o.after.toList→GStep P ρ gs al φs O (k+i) o l R)→zik P ρ gs al φs l0 R0 O k os
 | [],_,_=>trivial
 |o::os,k,h=>⟨h 0 o rfl,zk1 fun i o' hi=>by have:=h (i+1) o' (by simpa using hi);rwa [show k+(i+1)=k+1+i from by omega] at this⟩
theorem zjo{φs:List (Value→RH→Prop)}{R:RH}: ∀ {os:List Oper} {vs:List Value} {k:Nat} {K:List (Nat×Value)→Prop},vs.length=os.length→(∀ (i:Nat) v,vs[i]? =some v→phi φs (k+i)=phX v)→K (zcg os vs)→zhs φs R K k os
 | [],vs,k,K,a,_,h=>by
  have:vs=[]:=List.length_eq_zero_iff.1 a
  subst this;exact h
 |o::os,[],k,K,a,_,_=>by simp at a
 |o::os,v::vs,k,K,a,b,h=>fun u c=>by
  rw [show k=k+0 from rfl,b 0 v rfl] at c
  obtain rfl:u=v:=c
  exact zjo (vs:=vs) (by simpa using a) (fun i w hi=>by have:=b (i+1) w (by simpa using hi);rwa [show k+(i+1)=k+1+i from by omega] at this) h
theorem zbm{id:Nat}{os:List Oper}(m:Nat)(V:P.follows .mixedOrders=true)(c:z6f (os.take m) [] n (os.drop m)=true)(r:clV (os.take m)=true)
 (h:wv P ρ R O (os.take m) l fun l'=> ∀ R',RH.le R R'→wo P ρ n os.toArray Q (os.drop m) l' D R' O):wg P ρ n (.region id os.toArray true) Q l D R O:=by
 obtain⟨vs,C,M,N,S⟩:=zj4 h
 have f:=(z3g c).2.1
 generalize hg:os.take m=gs at C M N S f r c
 have hacc:(zcg gs vs).map (·.1)=z5n gs:=by
  unfold zcg z5n
  rw [List.map_map]
  have: ∀ (gs:List Oper) (vs:List Value),vs.length=gs.length→(∀ o∈gs,o.dst.isSome=true)→(gs.zip vs).map ((fun x:Nat×Value=>x.1)∘fun p=>(p.1.dst.getD 0,p.2))=gs.filterMap (·.dst):=by
   intro gs
   induction gs with
   |nil=>intro vs _ _;simp
   |cons o gs ih=>
    intro vs T A
    cases vs with
    |nil=>simp at T
    |cons v vs=>
     obtain⟨d,E⟩:=Option.isSome_iff_exists.1 (A o (List.mem_cons_self ..))
     simp only [List.zip_cons_cons,List.map_cons,List.filterMap_cons,E,Function.comp_apply,Option.getD_some]
     rw [ih vs (by simpa using T) (fun o' ho'=>A o' (List.mem_cons_of_mem _ ho'))]
  exact this gs vs C M
 have hphi: ∀ (i:Nat) v,vs[i]? =some v→phi (vs.map phX) i=phX v:=fun i v hi=>by
  unfold phi
  rw [List.getD_eq_getElem?_getD,List.getElem?_map,hi];rfl
 have hmono:zau (vs.map phX):=fun k v R R' a q=>by
  unfold phi at q⊢
  rw [List.getD_eq_getElem?_getD,List.getElem?_map] at q⊢
  cases e:vs[k]? with
  |none=>trivial
  |some u=>rw [e] at q;exact q
 have haget: ∀ (i:Nat) o v,gs[i]? =some o→vs[i]? =some v→ ∀ d,o.dst=some d→(zcg gs vs)[i]? =some (d,v):=fun i o v hi B d E=>by
  unfold zcg
  rw [List.getElem?_map,List.getElem?_zip_eq_some (z:=(o,v))|>.2 ⟨hi,B⟩]
  simp [E]
 refine ru (m:=m) [] (vs.map phX) V (by rw [hg];exact c) hmono (by
  rw [hg]
  refine zk1 fun i o hi l' R' a F hdep=>?_
  rw [Nat.zero_add]
  have W:i<gs.length:=(List.getElem?_eq_some_iff.1 hi).1
  obtain⟨v,B⟩: ∃ v,vs[i]? =some v:=⟨vs[i]'(by omega),List.getElem?_eq_getElem (by omega)⟩
  have g:=List.all_eq_true.1 r (o,i) (List.mem_iff_getElem?.2 ⟨i,by rw [List.getElem?_zipIdx,hi];simp⟩)
  simp only [Bool.and_eq_true] at g
  obtain⟨G,g⟩:=g
  refine zf (Option.isNone_iff_eq_none.1 G) rfl (hphi i v B) (zu ?_)
  cases hx:opds o.op with
  |none=>rw [hx] at g;exact absurd g Bool.false_ne_true
  |some xs=>
   rw [hx] at g
   refine zkb (N i o v hi B) hx (fun s A=>?_) a
   have b:=List.all_eq_true.1 g (.tmp s) A
   dsimp only at b
   have t:((zcg gs vs).take i).map (·.1)=(z5n gs).take i:=by rw [List.map_take,hacc]
   cases hsl:zm0 gs s with
   |none=>
    have w:s∉z5n gs:=fun hm'=>by
     obtain⟨o',ho',e⟩:=List.mem_filterMap.1 hm'
     have:=List.findIdx?_eq_none_iff.1 hsl o' ho'
     rw [e] at this;simp at this
    rw [F s (by simpa using w),z90 (by rw [t];exact fun h=>w (List.mem_of_mem_take h))]
   |some j=>
    rw [hsl] at b
    simp only [Bool.and_eq_true,List.any_eq_true] at b
    obtain⟨H,e,X,I,J⟩:=b
    have hji':j<i:=by simpa using H
    have hej':e.on=j:=Nat.eq_of_beq_eq_true I
    obtain⟨o',ho',hd'⟩: ∃ o',gs[j]? =some o'∧o'.dst=some s:=by
     have:=List.findIdx?_eq_some_iff_getElem.1 hsl
     obtain⟨Y,q,_⟩:=this
     exact⟨gs[j],List.getElem?_eq_getElem Y,by simpa using q⟩
    have Z:j<gs.length:=(List.getElem?_eq_some_iff.1 ho').1
    obtain⟨u,U⟩: ∃ u,vs[j]? =some u:=⟨vs[j]'(by omega),List.getElem?_eq_getElem (by omega)⟩
    have K:ug gs e.on=some s:=by unfold ug;rw [hej',ho'];exact hd'
    have y:=zgi hdep e X J s K
    rw [hej',hphi j u U] at y
    have L:((zcg gs vs).take i)[j]? =some (s,u):=by rw [List.getElem?_take,if_pos hji'];exact haget j o' u ho' U s hd'
    rw [zew L (by rw [t];exact List.Nodup.sublist (List.take_sublist _ _) f)]
    exact y) fun R' a=>?_
 rw [hg]
 refine zjo C (fun i v hi=>by rw [Nat.zero_add];exact hphi i v hi) ?_
 rw [←zmc (by rw [hacc];exact f)]
 exact S R' a
end wv
/-! ### Shorter laws-/
section short
variable {P : Program} {ρ : Option Nat} {n : Nat} {Q : Po} {l : Nat → Value} {D : List Nat} {R : RH} {O : List Frag} {γ : Type} {ops : Array Oper} {rest : List Oper} {d : Nat} {ty : TypeId} {pos : String} {after : Array Go.Edge}
theorem zx{c:Operand}{x y:Code}{α:Type}{b:Bool}{p q:Option α}{r:α}(d:ev l c= .bool b)(a:(bif b then p else q)=some r)(f:p=some r→wg P ρ n x Q l D R O)(g:q=some r→wg P ρ n y Q l D R O):wg P ρ n (.cond c x y) Q l D R O:=
 zk4 d (fun e=>f (zme e a)) (fun e=>g (znp e a))
theorem kg{x y:Code}(W:List Nat)(S:γ→List (Nat×Value))(F:γ→List Frag)(K:γ→RH→Prop)(b:wg P ρ n x (thn (zop true D W l R S F K) Q) l D R O)
 (c: ∀ g j R',RH.le R R'→K g R'→wg P ρ n y Q (l7 (mask W j l) (S g)) D R' (F g)):wg P ρ n (.seq x y) Q l D R O:=
 zp0 true W S F K b fun g j D' R' d a e=>by obtain rfl:=d rfl;exact c g j R' a e
theorem zl2{x:Code}{Y:(Nat→Value)→List Nat→RH→List Frag→Prop}(W:List Nat)(S:γ→List (Nat×Value))(F:γ→List Frag)(K:γ→RH→Prop)
 (b: ∀ l D R O J F,O.Perm (J++F)→Y l D R F→Y l D R O) (c:wg P ρ n x (thn (zop true D W l R S F K) Q) l D R O)
 (d: ∀ g j R',RH.le R R'→K g R'→Y (l7 (mask W j l) (S g)) D R' (F g)):wg P ρ n x (thn Y Q) l D R O:=
 zma true W S F K b c fun g j D' R' e a f=>by obtain rfl:=e rfl;exact d g j R' a f
theorem uo{c:Code}(W:List Nat)(S:γ→List (Nat×Value))(F:γ→List Frag)(K:γ→RH→Prop)(μ:γ→Nat)(a:γ)
 (d: ∃ J,O.Perm (J++F a)) (e:K a R)
 (round: ∀ g j R',RH.le R R'→K g R'→wg P ρ n c (thn (zjt true D W (l7 (mask W j l) (S g)) R' S F K μ (μ g)) Q) (l7 (mask W j l) (S g)) D R' (F g))
 (f:zg1 l (S a):=by repeat (first|exact trivial|refine⟨rfl,?_⟩)) (h: ∀ g,((S g).all fun p=>W.elem p.1)=true:=by exact fun _=>rfl):wg P ρ n (.loop c) Q l D R O:=
 zmp true W S F K μ a f d e h fun g j D' R' i b k=>by obtain rfl:=i rfl;exact round g j R' b k
theorem zl{op:Op}{v:Value}(h:Val P ρ ⟨some d,op,ty,pos,after,none⟩ l R O v)(a:wo P ρ n ops Q rest (upd l d v) D R O)(b:Nat.blt d n=true:=by exact rfl):wo P ρ n ops Q (⟨some d,op,ty,pos,after,none⟩::rest) l D R O:=ji b h a
theorem ze{x:Operand}(v:Value)(a:wo P ρ n ops Q rest (upd l d v) D R O)(b:ev l x=v:=by exact rfl)(c:Nat.blt d n=true:=by exact rfl):wo P ρ n ops Q (⟨some d,.move x,ty,pos,after,none⟩::rest) l D R O:=ji c (zk b) a
theorem zb{x:Operand}(v:Value)(a:wo P ρ n ops Q rest (upd l d v) D R O)(b:ev l x=v:=by exact rfl)(c:Nat.blt d n=true:=by exact rfl):wo P ρ n ops Q (⟨some d,.assign x,ty,pos,after,none⟩::rest) l D R O:=ji c (gq b) a
theorem zg{id:Nat}{os:List Oper}{y:Code}(h:wo P ρ n os.toArray (thn (wg P ρ n y Q) Q) os l D R O):wg P ρ n (.seq (.region id os.toArray false) y) Q l D R O:=qc (qj h)
theorem qo{id:Nat}{os:List Oper}{y:Code}{Q':Po}(h:wo P ρ n os.toArray (thn (wg P ρ n y Q) Q) os l D R O):wo P ρ n ops (thn (wg P ρ n (.seq (.region id os.toArray false) y) Q) Q') [] l D R O:=z8 (zg h)
def rs:List Nat→List Nat|a::b::r=>List.range' a (b-a)++rs r|_=>[]
abbrev vi (x:Int):Value:= .int .i64 x
abbrev vs0:Value:= .slice none 0 0
theorem dkt{c:Prop}{α:Type}{x:α}:c→x=x:=fun _=>rfl
theorem zmu{a b:Prop}[Decidable a][Decidable b]{α:Type}{k:Option α}{r:α}(h:gd a (gd b k)=some r):a∧b∧k=some r:=⟨(zi h).1,zi (zi h).2⟩
theorem zng{a b c:Prop}[Decidable a][Decidable b][Decidable c]{α:Type}{k:Option α}{r:α}(h:gd a (gd b (gd c k))=some r):a∧b∧c∧k=some r:=⟨(zi h).1,zmu (zi h).2⟩
theorem zmn{a b c d:Prop}[Decidable a][Decidable b][Decidable c][Decidable d]{α:Type}{k:Option α}{r:α}(h:gd a (gd b (gd c (gd d k)))=some r):a∧b∧c∧d∧k=some r:=⟨(zi h).1,zng (zi h).2⟩
theorem zmz{a b c d e:Prop}[Decidable a][Decidable b][Decidable c][Decidable d][Decidable e]{α:Type}{k:Option α}{r:α}(h:gd a (gd b (gd c (gd d (gd e k))))=some r):a∧b∧c∧d∧e∧k=some r:=⟨(zi h).1,zmn (zi h).2⟩
theorem prm{O:List Frag}: ∃ J,O.Perm (J++O):=⟨[],List.Perm.refl _⟩
end short
end GV
end Go.Proofs.YtkkcidhcfkmbjaaGreatDoor

namespace Go.Proofs.YtkkcidhcfkmbjaaGreatDoor
namespace GV
section a
variable {P : Program} {ρ : Option Nat} {l : Nat → Value} {R : RH} {O : List Frag} {ty : TypeId} {pos : String} {after : Array Go.Edge} {dst : Option Tmp} {g : Option (Nat × Bool)}
variable {α : Type} {T : Ty α} {X : List α} {v : Value} {x y : Operand} {f : Frag} {t e : TypeId}
end a
end GV
end Go.Proofs.YtkkcidhcfkmbjaaGreatDoor

namespace Go.Proofs.YtkkcidhcfkmbjaaGreatDoor
namespace GV
section a
variable {P : Program} {ρ : Option Nat} {l : Nat → Value} {R : RH} {O : List Frag} {ty : TypeId} {pos : String} {after : Array Go.Edge} {dst : Option Tmp} {g : Option (Nat × Bool)}
end a
end GV
end Go.Proofs.YtkkcidhcfkmbjaaGreatDoor

namespace Go.Proofs.YtkkcidhcfkmbjaaGreatDoor
namespace GV
section a
variable {P : Program} {ρ : Option Nat} {l : Nat → Value} {R : RH} {O : List Frag} {dst : Option Tmp} {ty : TypeId} {pos : String} {after : Array Go.Edge} {g : Option (Nat × Bool)}
end a
end GV
end Go.Proofs.YtkkcidhcfkmbjaaGreatDoor

namespace Go.Proofs.YtkkcidhcfkmbjaaGreatDoor
namespace GV
end GV
end Go.Proofs.YtkkcidhcfkmbjaaGreatDoor

namespace Go.Proofs.YtkkcidhcfkmbjaaGreatDoor
namespace GV
theorem zej{α β γ:Type}{A:Ty α}{B:Ty β}{C:Ty γ}{o b:Nat}{f:α→β}{g:β→γ}(c:Part A o B f)(a:Part B b C g):Part A (o+b) C (fun x=>g (f x)):=
 ⟨by have:=c.1;have:=a.1;omega,fun R cs x h=>by
  have:=a.2 R _ _ (c.2 R cs x h)
  rw [List.drop_take,List.drop_drop,List.take_take,Nat.min_eq_left (by have:=a.1;omega)] at this
  exact this⟩
section p
variable {P : Program} {ρ : Option Nat} {l : Nat → Value} {R : RH} {O : List Frag} {ty : TypeId} {pos : String} {after : Array Go.Edge} {dst : Option Tmp} {g : Option (Nat × Bool)}
variable {α : Type} {T : Ty α} {X : List α} {v u : Value} {x y : Operand} {i o q m sz : Nat} {t : TypeId} {k : IntKind}
theorem zcw(d:ArrOk P t m sz)(e:ev l x=u)(f:ev l y= .int k q)(h:q<m)(j:z3f T o v X u i):
 Eff P ρ ⟨dst,.indexAddr t x y,ty,pos,after,g⟩ l R O (fun v' R' O'=>O'=O∧z3f T (o+q*sz) v X v' i):=by
 obtain⟨b,off,n,rfl⟩:=j
 refine(z5w (P:=P) (ρ:=ρ) (R:=R) (O:=O) d e f h).eff.mono fun v' R' O' _ ⟨a,_,c⟩=>?_
 subst a
 exact⟨c,b,off,n,by rw [show off+i*T.size+o+q*sz=off+i*T.size+(o+q*sz) from by omega]⟩
end p
end GV
end Go.Proofs.YtkkcidhcfkmbjaaGreatDoor

namespace Go.Proofs.YtkkcidhcfkmbjaaGreatDoor
namespace GV
def zmk(P:Program)(f:FuncId)(cs:List Value)(R:RH){α:Type}(enc:α→List Value→RH→List Frag→Prop)(IT:(σ:Type)→(α→σ→Option (Bool×σ))→σ→Option σ):Prop:=
 ∀ (yv:Value) (σ:Type) (B:α→σ→Option (Bool×σ)) (I:σ→RH→List Frag→Prop) (c:RH) (O:List Frag) (s0 e:σ),RH.le R c→
  (∀ s a d O2,RH.le a d→I s a O2→I s d O2)→I s0 c O→IT σ B s0=some e→
  (∀ x s b s' a F O2 vs,RH.le c a→enc x vs a F→I s a O2→B x s=some (b,s')→CallV P yv vs.toArray a (F++O2) (fun v d g=>v= .bool b∧ ∃ O',g.Perm (F++O')∧I s' d O'))→yv.oneCell'=true→
  CallG P f (yv::cs).toArray c O (fun v R' O'=>I e R' O')
theorem zlv{P:Program}{ρ:Option Nat}{n:Nat}{Q:Po}{l:Nat→Value}{D:List Nat}{R:RH}{O:List Frag}{ops:Array Oper}{rest:List Oper}{ty:TypeId}{pos:String}{after:Array Go.Edge}{d:Nat}
 {c:Operand} {args:List Operand} {at':Array TypeId} {fv:Value} {vs:List Value} {F J Oc A:List Frag} {b:Bool} {I:RH→List Frag→Prop} (e:Nat.blt d n=true) (f:ev l c=fv) (g:args.map (ev l)=vs) (i:O=F++(J++(Oc++A)))
 (h:CallV P fv vs.toArray R (F++Oc) (fun v R' O'=>v= .bool b∧ ∃ O'',O'.Perm (F++O'')∧I R' O''))
 (j: ∀ R' Oc',RH.le R R'→I R' Oc'→wo P ρ n ops Q rest (upd l d (.bool b)) D R' (F++(J++(Oc'++A)))):wo P ρ n ops Q (⟨some d,.call ⟨.value c,args.toArray,at'⟩,ty,pos,after,none⟩::rest) l D R O:=by
 have pt: ∀ Oc:List Frag,(F++(J++(Oc++A))).Perm ((F++Oc)++(J++A)):=fun Oc=>by
  rw [List.append_assoc];exact List.Perm.append_left F za4
 refine z9m (Oc:=F++Oc) (Or:=J++A) e f g (by subst i;exact pt Oc) h fun v R' Oc' a ⟨k,O'',m,o⟩=>?_
 subst k
 exact zfu ((pt O'').trans (m.symm.append_right _)) (j R' O'' a o)
theorem zn6{P:Program}{ρ:Option Nat}{n:Nat}{Q:Po}{l:Nat→Value}{D:List Nat}{R:RH}{O:List Frag}{ops:Array Oper}{rest:List Oper}(O':List Frag)(a:O.Perm O')(h:wo P ρ n ops Q rest l D R O'):wo P ρ n ops Q rest l D R O:=zfu a.symm h
theorem zk8{O J F X L:List Frag}(h:O.Perm (J++F)):(L++(O++X)).Perm (J++(L++F++X)):=by
 refine(List.Perm.append_left L (z3z h)).trans ?_
 rw [List.append_assoc L F X,←List.append_assoc L J,←List.append_assoc J L]
 exact List.perm_append_comm.append_right _
theorem zlr{P:Program}{n:Nat}{Q:Po}{l:Nat→Value}{D:List Nat}{R:RH}{O:List Frag}{gv:Operand}{ps:List Nat}{assign body:Code}{f:FuncId}{cs:List Value}{Oc Or:List Frag}{α σ:Type}{enc:α→List Value→RH→List Frag→Prop}
 {IT:(σ:Type)→(α→σ→Option (Bool×σ))→σ→Option σ} (B:α→σ→Option (Bool×σ)) (I:σ→RH→List Frag→Prop) (E:σ→Code→RH→List Frag→Prop) (s0 T:σ)
 (hg:ev l gv= .func (.func f) #[] cs.toArray) (he:Enters P f) (U:zmk P f cs R enc IT) (V:O.Perm (Oc++Or)) (W:(ps.all fun p=>Nat.blt p n)=true)
 (hlen: ∀ x R vs F,enc x vs R F→vs.length=ps.length) (Y: ∀ s k i O2,RH.le k i→I s k O2→I s i O2) (Z: ∀ s c k i O2,RH.le k i→E s c k O2→E s c i O2)
 (aa: ∀ s c R O x,E s c R O→B x s=none) (h0:I s0 R Oc) (hrun:IT σ B s0=some T)
 (hround: ∀ x s b s' lb m vs F g,RH.le R m→enc x vs m F→I s m g→B x s=some (b,s')→ ∀ X,wg P (some lb) n assign (fun e l1 D1 k O1=>e= .normal∧D1=[]∧RH.le m k∧ ∃ Oa,O1.Perm (Oa++X)∧
  ∀ X',wg P (some lb) n body (zid m X' (fun p i z=>match p with|none=>b=true∧ ∃ j,z.Perm (F++j)∧I s' i j|some c=>b=false∧ ∃ j,z.Perm (F++j)∧E s' c i j)) l1 [] k (Oa++X')) (z9e (ps.zip vs) l) [] m (F++(g++X)))
 (hend: ∀ dd m g,RH.le R m→I T m g→ ∃ J F,g.Perm (J++F)∧Q .normal l (dd::D) m (F++Or))
 (hexit: ∀ c dd m g,RH.le R m→E T c m g→wg P none n c Q l (dd::D) m (g++Or)):wg P none n (.rangeFunc gv ps.toArray assign body) Q l D R O:=by
 refine z9q (f:=f) (fs:= #[]) (cs:=cs.toArray) hg he V fun lb dd fn t ab=>?_
 have hargs:(#[]++ #[Value.func (Fn.yield lb) #[] #[]]++cs.toArray:Array Value)=(Value.func (Fn.yield lb) #[] #[]::cs).toArray:=by simp
 rw [hargs]
 have hpn': ∀ p∈ps,p<n:=fun p V=>by simpa [Nat.blt_eq] using List.all_eq_true.1 W p V
 refine CallG.mono2 (U (.func (.yield lb) #[] #[]) σ B (zra R lb n l ps assign body I E) R _ s0 T (RH.le.refl _) ?_ ⟨RH.le.refl _,_,_,rfl,.inl ⟨⟨ab,rfl,rfl,rfl⟩,rfl,rfl,h0⟩⟩ hrun ?_ rfl) ?_
 ·rintro s k i O2 q ⟨r,L,Oc',h2,G⟩
  refine⟨r.trans q,L,Oc',h2,?_⟩
  rcases G with⟨a,b,c,d⟩|⟨c,a,b,d⟩
  ·exact .inl ⟨a,b,c,Y _ _ _ _ q d⟩
  ·exact .inr ⟨c,a,b,Z _ _ _ _ _ q d⟩
 ·rintro x s b s' k F O2 vs q hA ⟨r,L,Oc',rfl,G⟩ hB
  rcases G with⟨⟨H,K,M,N⟩,hst',u,hI⟩|⟨c,_,_,hE⟩
  ·have key:CallV P (.func (.yield lb) #[] #[]) vs.toArray k (z3d lb L::(F++Oc')) (fun v i z=>v= .bool b∧ ∃ O',z.Perm (F++O')∧zra R lb n l ps assign body I E s' i O'):=by
    refine CallV.mono (zb4 (n:=n) (l:=l) (ps:=ps) (RP:=fun p i z=>RH.le R i∧(match p with|none=>b=true∧ ∃ j,z.Perm (F++j)∧I s' i j|some c=>b=false∧ ∃ j,z.Perm (F++j)∧E s' c i j)) hst' K (hlen x k vs F hA).symm hpn' H ?_) ?_
    ·intro X
     have:=hround x s b s' lb k vs F Oc' r hA hI hB X
     rw [M,N,List.append_assoc]
     refine z5b this ?_
     rintro e l1 D1 i O1 ⟨he',hD,o,Oa,af,hb⟩
     refine⟨he',hD,o,Oa,af,fun X'=>z5b (hb X') ?_⟩
     intro e l2 D2 R4 j y
     cases e with
     |normal=>obtain⟨a,b,O',c,d⟩:=y;exact⟨a,b,O',c,r.trans b,d⟩
     |ret=>obtain⟨a,b,O',c,d⟩:=y;exact⟨a,b,O',c,r.trans b,d⟩
     |exit id=>obtain⟨a,b,O',c,d⟩:=y;exact⟨a,b,O',c,r.trans b,d⟩
     |goto _=>exact y
     |panic _=>exact y
     |outgrown=>exact y
    ·rintro v R' O' ak ⟨pend,O'',rfl,rfl,o,S⟩
     cases pend with
     |none=>obtain⟨rfl,j,C,hI'⟩:=S;exact⟨rfl,_,((C.cons _).trans List.perm_middle.symm),o,_,j,rfl,.inl ⟨⟨H,K,M,N⟩,rfl,rfl,hI'⟩⟩
     |some c=>obtain⟨rfl,j,C,hE'⟩:=S;exact⟨rfl,_,((C.cons _).trans List.perm_middle.symm),o,_,j,rfl,.inr ⟨c,rfl,rfl,hE'⟩⟩
   intro A w hh
   exact key A w (jo hh ((List.perm_middle (l₁:=F) (l₂:=Oc') (a:=z3d lb L)).append_right A))
  ·rw [aa s c k Oc' x hE] at hB;cases hB
 ·rintro v R' O' q ⟨r,L,Oc',rfl,G⟩
  rcases G with⟨hL,hst',u,hI⟩|⟨c,hst',u,hE⟩
  ·obtain⟨J,F,ag,y⟩:=hend dd R' Oc' r hI
   refine⟨J,z3d lb L::F,(ag.cons _).trans List.perm_middle.symm,L,F,rfl,by rw [hst'];exact fun h=>(by cases h),?_⟩
   rw [u];exact y
  ·refine⟨[],_,List.Perm.refl _,L,Oc',rfl,by rw [hst'];exact fun h=>(by cases h),?_⟩
   rw [u];exact hexit c dd R' Oc' r hE
/-! ### A call that takes some of what is owned,and for the time of which the rest is lent-/
section lh
variable {Oc Or : List Frag}
variable {P : Program} {ρ : Option Nat} {l : Nat → Value} {R : RH} {O : List Frag} {ty : TypeId} {pos : String} {after : Array Go.Edge} {dst : Option Tmp} {g : Option (Nat × Bool)}
variable {α : Type} {T : Ty α} {X : List α} {v : Value} {x y : Operand} {f : Frag} {t e : TypeId}
theorem zlb{f:FuncId}{c:Operand}{args:List Operand}{at':Array TypeId}{cs vs:List Value}{ψ:Value→Prop}(B: ∀ (R R':RH) (f:Frag) (v:Value) (X:List α),ORep T R f v X→ORep T R' f v X)
 (C:Enters P f) (D:ev l c= .func (.func f) #[] cs.toArray) (E:args.map (ev l)=vs)
 (t:O.Perm (Oc++Or)) (h: ∀ r,RH.le R r→(∀ f∈Or,∀ k o,f k=some o→r.blk k=some o)→CallG P f (vs++cs).toArray r Oc fun u R' O'=> ∃ i,O'=[i]∧ORep T R' i u X∧ψ u):
 Eff P ρ ⟨dst,.call ⟨.value c,args.toArray,at'⟩,ty,pos,after,g⟩ l R O (fun v R' O'=>R'=R∧ ∃ i,O'=i::Or∧ORep T R i v X∧ψ v):=by
 intro A w y;rw [qi (by intro c h;cases h),z7g C D (z0a E)]
 have G:Holds R (Or++(Oc++A)) w:=jo y ((t.append_right A).trans (by rw [←List.append_assoc];exact List.perm_append_comm.append_right A))
 have n:Holds R (Or++A) w:=z4y (J:=Oc) (F:=Or) (O:=O) t y
 obtain⟨H,s⟩:=zc6 G
 have I:=h (R.lend Or) (RH.le_lend _ _) s A w H
 rw [show (#[]++vs.toArray++cs.toArray:Array Value)=(vs++cs).toArray from by simp]
 refine Calls.mono I ?_
 rintro e w' ⟨v,rfl,R',O',d,hh',i,rfl,K,hψ⟩
 have q:RH.le R R':=(RH.le_lend R Or).trans d
 refine⟨v,rfl,R,i::Or,RH.le.refl _,?_,rfl,i,rfl,B _ _ _ _ _ K,hψ⟩
 have z:=hh'.own i (List.mem_append.2 (.inl (List.mem_singleton.2 rfl)))
 refine⟨fun k o j=>hh'.ro k o (q.blk k o j),fun f p k o j=>?_,?_,by have:=hh'.os;rw [d.os] at this;exact this,hh'.out.trans d.out⟩
 ·rw [List.cons_append] at p
  rcases List.mem_cons.1 p with rfl|p
  ·obtain⟨a,b⟩:=z k o j
   refine⟨a,?_⟩
   cases hR:R.blk k with
   |none=>rfl
   |some x=>rw [q.blk k x hR] at b;cases b
  ·rcases List.mem_append.1 p with m|m
   ·exact⟨hh'.ro k o (d.blk k o (s f m k o j)),(n.own f (List.mem_append.2 (.inl m)) k o j).2⟩
   ·exact⟨(hh'.own f (List.mem_append.2 (.inr m)) k o j).1,(n.own f (List.mem_append.2 (.inr m)) k o j).2⟩
 ·rw [List.cons_append]
  refine List.pairwise_cons.2 ⟨fun f p k=>?_,n.sep⟩
  rcases List.mem_append.1 p with m|m
  ·cases j:f k with
   |none=>exact .inr rfl
   |some o=>
    left
    cases hk0:i k with
    |none=>rfl
    |some o'=>have:=(z k o' hk0).2;rw [d.blk k o (s f m k o j)] at this;cases this
  ·exact(List.pairwise_cons.1 hh'.sep).1 f m k
theorem zni{n:Nat}{Q:Po}{D:List Nat}{ops:Array Oper}{rest:List Oper}{d:Nat}{f:FuncId}{c:Operand}{args:List Operand}{at':Array TypeId}{cs vs:List Value}{ψ:Value→Prop}
 (e: ∀ (R R':RH) (f:Frag) (v:Value) (X:List α),ORep T R f v X→ORep T R' f v X) (g:Nat.blt d n=true) (i:Enters P f) (j:ev l c= .func (.func f) #[] cs.toArray) (m:args.map (ev l)=vs)
 (p:O.Perm (Oc++Or)) (h: ∀ b,RH.le R b→(∀ f∈Or,∀ k o,f k=some o→b.blk k=some o)→CallG P f (vs++cs).toArray b Oc fun u R' O'=> ∃ a,O'=[a]∧ORep T R' a u X∧ψ u)
 (q: ∀ v a,ORep T R a v X→ψ v→wo P ρ n ops Q rest (upd l d v) D R (a::Or)):wo P ρ n ops Q (⟨some d,.call ⟨.value c,args.toArray,at'⟩,ty,pos,after,none⟩::rest) l D R O:=by
 refine zdk rfl (fun t r=>by cases r;simpa using g) (zlb e i j m p h) ?_
 rintro v R' O' _ ⟨rfl,a,rfl,s,w⟩
 exact q v a s w
end lh
end GV
end Go.Proofs.YtkkcidhcfkmbjaaGreatDoor

namespace Go.Proofs.YtkkcidhcfkmbjaaGreatDoor
namespace GV
section nz
variable {α : Type} {T : Ty α} {b : Bool} {R : RH} {v : Value} {X : List α}
end nz
def i2(s t:Int):Int:=s*64+t
def zti{α:Type}[Inhabited α](T:Ty α)(n:Nat):Ty (List α) where
 size:=n
 agg:=true
 rep R cs X:= ∃ g,cs=zrf n g∧AG T R n g X
 len:=by rintro _ _ _ ⟨g,rfl,_⟩;exact zo6 _ _
 mono:=fun hle ⟨g,a,b⟩=>⟨g,a,b.mono hle⟩
 one:=fun h=>nomatch h
 cell:=by
  rintro R cs X ⟨g,rfl,h⟩ v hv
  obtain⟨k,hk,rfl⟩:=List.mem_map.1 hv
  exact(h.2 k (List.mem_range.1 hk)).2
def PRow{α:Type}[Inhabited α](T:Ty α)(R:RH)(u:Value)(X:List α)(s:Int):Prop:=
 ∃ b off c ty fr,u= .pointer (some ⟨b,off+s.toNat*64,none⟩)∧R.blk b=some (.cells c ty fr)∧(zti T 4096).rep R (cellsAt c off 4096) X
theorem PRow.mono{α:Type}[Inhabited α]{T:Ty α}{R R':RH}{u:Value}{X:List α}{s:Int}(h:PRow T R u X s)(a:RH.le R R'):PRow T R' u X s:=
 let⟨b,off,c,ty,fr,d,e,f⟩:=h;⟨b,off,c,ty,fr,d,a.blk _ _ e,(zti T 4096).mono a f⟩
section
variable {P : Program} {ρ : Option Nat} {n : Nat} {ops : Array Oper} {Q : Po} {rest : List Oper} {l : Nat → Value} {D : List Nat} {R : RH} {O : List Frag} {ty : TypeId} {pos : String} {after : Array Go.Edge} {dst : Option Tmp} {d : Nat} {gg : Option (Nat × Bool)}
variable {α : Type} [Inhabited α] {T : Ty α} {X : List α} {v : Value} {x y : Operand} {t0 : TypeId} {k : IntKind} {s t : Int} {b o : Nat}
end
end GV
end Go.Proofs.YtkkcidhcfkmbjaaGreatDoor

namespace Go.Proofs.YtkkcidhcfkmbjaaGreatDoor
namespace GV
section
variable {P : Program} {ρ : Option Nat} {n : Nat} {ops : Array Oper} {Q : Po} {rest : List Oper} {l : Nat → Value} {D : List Nat} {R : RH} {O : List Frag} {ty : TypeId} {pos : String} {after : Array Go.Edge} {dst : Option Tmp} {d : Nat} {g : Option (Nat × Bool)}
variable {α : Type} {T : Ty α} {z : α} {bytes m : Nat} {t t2 e : TypeId} {x y : Operand} {k : IntKind}
end
/-! ### Scopes into which nothing jumps-/
section sc
variable {P : Program} {F : Fence} {n : Nat} {Q : Exit → Act → World → Prop} {a : Act} {w : World} {c : Code}
end sc
end GV
end Go.Proofs.YtkkcidhcfkmbjaaGreatDoor

namespace Go.Proofs.YtkkcidhcfkmbjaaGreatDoor
namespace GV
end GV
end Go.Proofs.YtkkcidhcfkmbjaaGreatDoor

namespace Go.Proofs.YtkkcidhcfkmbjaaGreatDoor
namespace GV
def zj0(P:Program){α β:Type}(A:Ty α)(B:Ty β):Ty (α→Option β) where
 size:=1
 agg:=false
 rep:=fun R cs p=> ∃ v,cs=[v]∧v.oneCell'=true∧FOk1 P R v A B p
 len:=by rintro _ _ _ ⟨v,rfl,_⟩;rfl
 mono:=fun hle ⟨v,e,h,k⟩=>⟨v,e,h,k.mono hle⟩
 one:=fun _=>rfl
 cell:=by rintro _ _ _ ⟨v,rfl,h,_⟩ u hu;rw [List.mem_singleton] at hu;subst hu;exact h
theorem zod{P:Program}{α β:Type}{A:Ty α}{B:Ty β}{R:RH}{u:Value}{p:α→Option β}(h:VRep (zj0 P A B) R u p):FOk1 P R u A B p:=by
 obtain⟨_,⟨v,rfl,_,k⟩,rfl⟩:=h;exact k
theorem zla{P:Program}{ρ:Option Nat}{l:Nat→Value}{R:RH}{O:List Frag}{ty:TypeId}{pos:String}{after:Array Go.Edge}{dst:Option Tmp}{g:Option (Nat×Bool)}{α β:Type}{A:Ty α}{B:Ty β}{p:α→Option β}{t:TypeId}{x:Operand}{v:Value}
 (c:TyOk P t (zj0 P A B)) (d:ev l x=v) (e:PRep (zj0 P A B) R v p):Eff P ρ ⟨dst,.load t x,ty,pos,after,g⟩ l R O (fun v' R' O'=>O'=O∧FOk1 P R' v' A B p):=
 (wy c d e).mono fun _ _ _ _ ⟨a,b⟩=>⟨a,zod b⟩
theorem zk2{b:Bool}{p:Prop}(a:b=true→p)(c:b=false→p):p:=by
 cases b
 ·exact c rfl
 ·exact a rfl
end GV
end Go.Proofs.YtkkcidhcfkmbjaaGreatDoor

namespace Go.Proofs.YtkkcidhcfkmbjaaGreatDoor
namespace GV
theorem z7p{P:Program}{k:Nat}(w:World)(dT sT ty elem:TypeId)(g o dLen dCap:Nat)(a:Addr)(sLen sCap:Nat)(cur:Array Value)(t:TypeId)(cs:List Value)
 (d:P.underlying dT=some (.slice elem)) (c:(P.info? elem).map (·.size)=some k)
 (e:w.heap[g]? =some (.cells cur t (0,0))) (f:cs.length=Nat.min sLen dLen*k)
 (hsrc: ∀ j v,cs[j]? =some v→w.cell? (a.add j)=some v) (hfit:o+cs.length≤cur.size) (h: ∀ v∈cs,v.oneCell'=true):
 (Builtin.copy_ #[dT,sT] ty #[.slice (some ⟨g,o,none⟩) dLen dCap,.slice (some a) sLen sCap]).run P w=
  .ok (goInt (Nat.min sLen dLen:Nat)) (w.setRow g (cur.toList.take o++cs++cur.toList.drop (o+cs.length)).toArray):=by
 have l:=run_loadCells_list (P:=P) w a cs hsrc
 have b:=run_storeCells_at P g o t cs 0 cur w e (by simpa using hfit) h
 cases hq:P.info? elem with
 |none=>simp [hq] at c
 |some i=>
  have hi:i.size=k:=by simpa [hq] using c
  simp [Builtin.copy_,run_underlying d,Builtin.lenOf,Builtin.firstCells,sizeOf,typeInfo,hq,hi,←f,l,b]
theorem z6h{P:Program}{k:Nat}(w:World)(dT sT ty elem:TypeId)(d a:Option Addr)(dLen dCap sLen sCap:Nat)(b:P.underlying dT=some (.slice elem))(c:(P.info? elem).map (·.size)=some k)(e:Nat.min sLen dLen=0):
 (Builtin.copy_ #[dT,sT] ty #[.slice d dLen dCap,.slice a sLen sCap]).run P w= .ok (goInt 0) w:=by
 cases hq:P.info? elem with
 |none=>simp [hq] at c
 |some i=>
  have f: ∀ (x:Addr),(loadCells x 0).run P w= .ok #[] w:=fun x=>by simpa using run_loadCells_list (P:=P) w x [] (by simp)
  cases d<;>cases a<;>simp [Builtin.copy_,run_underlying b,Builtin.lenOf,Builtin.firstCells,sizeOf,typeInfo,hq,e,storeCells,f]
theorem zch{cs ys:List Value}{o j:Nat}(h:o+ys.length≤cs.length):(over cs o ys)[j]? =if j<o then cs[j]? else if j<o+ys.length then ys[j-o]? else cs[j]? :=by
 unfold over
 by_cases h1:j<o
 ·rw [if_pos h1,List.append_assoc,List.getElem?_append_left (by rw [List.length_take];omega),List.getElem?_take,if_pos h1]
 ·rw [if_neg h1]
  by_cases h2:j<o+ys.length
  ·rw [if_pos h2,List.append_assoc,List.getElem?_append_right (by rw [List.length_take];omega),List.length_take,Nat.min_eq_left (by omega),List.getElem?_append_left (by omega)]
  ·rw [if_neg h2,List.getElem?_append_right (by rw [List.length_append,List.length_take];omega),List.length_append,List.length_take,Nat.min_eq_left (by omega),List.getElem?_drop,show o+ys.length+(j-(o+ys.length))=j by omega]
theorem ik{l:List Value}{a k j:Nat}:((l.drop a).take k)[j]? =if j<k then l[a+j]? else none:=by
 rw [List.getElem?_take]
 split
 ·rw [List.getElem?_drop]
 ·rfl
section c
variable {P : Program} {ρ : Option Nat} {l : Nat → Value} {R : RH} {O : List Frag} {ty : TypeId} {pos : String} {after : Array Go.Edge} {dst : Option Tmp} {g : Option (Nat × Bool)}
variable {α : Type} {T : Ty α} {X Y : List α} {v u : Value} {x y : Operand} {f : Frag} {t e : TypeId}
theorem zd2{b:Nat}{pre cs ys:List Value}{cap lo:Nat}{bt:TypeId}(n:X.length≤cap)(g:cap*T.size≤cs.length)(d: ∀ v∈pre++cs,v.oneCell'=true)(h: ∀ (i:Nat) x,X[i]? =some x→T.rep R ((cs.drop (i*T.size)).take T.size) x)
 (hfit:lo+Y.length≤X.length) (o:ys.length=Y.length*T.size) (p: ∀ (i:Nat) y,Y[i]? =some y→T.rep R ((ys.drop (i*T.size)).take T.size) y) (r: ∀ v∈ys,v.oneCell'=true):
 ORep T R (box b (pre++over cs (lo*T.size) ys) bt) (.slice (some ⟨b,pre.length,none⟩) X.length cap) (z3q X lo Y):=by
 have f:lo*T.size+ys.length≤cs.length:=by
  rw [o,←Nat.add_mul];exact Nat.le_trans (Nat.mul_le_mul_right _ (by omega)) g
 have l:(over cs (lo*T.size) ys).length=cs.length:=by
  simp only [over,List.length_append,List.length_take,List.length_drop];omega
 refine .inr ⟨b,pre,over cs (lo*T.size) ys,cap,bt,by rw [zav hfit],rfl,by rw [zav hfit];exact n,by rw [l];exact g,fun q a=>?_,fun i x c=>?_⟩
 ·rcases List.mem_append.1 a with a|a
  ·exact d q (List.mem_append.2 (.inl a))
  ·simp only [over,List.mem_append] at a
   rcases a with(a|a)|a
   ·exact d q (List.mem_append.2 (.inr (List.mem_of_mem_take a)))
   ·exact r q a
   ·exact d q (List.mem_append.2 (.inr (List.mem_of_mem_drop a)))
 ·have hi:i<X.length:=by have:=(List.getElem?_eq_some_iff.1 c).1;rwa [zav hfit] at this
  unfold z3q at c
  by_cases ha:i<lo
  ·rw [List.append_assoc,List.getElem?_append_left (by rw [List.length_take];omega),List.getElem?_take,if_pos ha] at c
   have k:(i+1)*T.size≤lo*T.size:=Nat.mul_le_mul_right _ ha
   rw [Nat.add_mul,Nat.one_mul] at k
   have e:((over cs (lo*T.size) ys).drop (i*T.size)).take T.size=(cs.drop (i*T.size)).take T.size:=by
    apply List.ext_getElem?
    intro j
    rw [ik,ik]
    by_cases hj:j<T.size
    ·rw [if_pos hj,if_pos hj,zch f,if_pos (by omega)]
    ·rw [if_neg hj,if_neg hj]
   rw [e];exact h i x c
  ·by_cases hb:i<lo+Y.length
   ·rw [List.append_assoc,List.getElem?_append_right (by rw [List.length_take];omega),List.length_take,Nat.min_eq_left (by omega),List.getElem?_append_left (by omega)] at c
    have k:lo*T.size≤i*T.size:=Nat.mul_le_mul_right _ (by omega)
    have m:(i-lo+1)*T.size≤Y.length*T.size:=Nat.mul_le_mul_right _ (by omega)
    have s:(i-lo)*T.size=i*T.size-lo*T.size:=Nat.sub_mul _ _ _
    rw [Nat.add_mul,Nat.one_mul] at m
    have e:((over cs (lo*T.size) ys).drop (i*T.size)).take T.size=(ys.drop ((i-lo)*T.size)).take T.size:=by
     apply List.ext_getElem?
     intro j
     rw [ik,ik]
     by_cases hj:j<T.size
     ·rw [if_pos hj,if_pos hj,zch f,if_neg (by omega),if_pos (by omega),show i*T.size+j-lo*T.size=(i-lo)*T.size+j by omega]
     ·rw [if_neg hj,if_neg hj]
    rw [e];exact p (i-lo) x c
   ·rw [List.getElem?_append_right (by rw [List.length_append,List.length_take];omega),List.length_append,List.length_take,Nat.min_eq_left (by omega),List.getElem?_drop,show lo+Y.length+(i-(lo+Y.length))=i by omega] at c
    have k:(lo+Y.length)*T.size≤i*T.size:=Nat.mul_le_mul_right _ (by omega)
    rw [Nat.add_mul] at k
    have e:((over cs (lo*T.size) ys).drop (i*T.size)).take T.size=(cs.drop (i*T.size)).take T.size:=by
     apply List.ext_getElem?
     intro j
     rw [ik,ik]
     by_cases hj:j<T.size
     ·rw [if_pos hj,if_pos hj,zch f,if_neg (by omega),if_neg (by omega)]
     ·rw [if_neg hj,if_neg hj]
    rw [e];exact h i x c
theorem ziw{lo1 hi1 lo2 hi2:Nat}(E:P.underlying t=some (.slice e))(hi:(P.info? e).map (·.size)=some T.size)(h:ORep T R f v X)(M:lo1≤hi1)(G:hi1≤X.length)(N:lo2≤hi2)(H:hi2≤X.length)(F:ev l x=zde T.size v lo1 hi1)(n:ev l y=zde T.size v lo2 hi2):
 Eff P ρ ⟨dst,.call ⟨.builtin .copy,#[x,y],#[t,t]⟩,ty,pos,after,g⟩ l R ([f]++O) (fun v' R' O'=> ∃ Oc,O'=Oc++O∧R'=R∧ ∃ f',Oc=[f']∧v'= .int .i64 ((min (hi2-lo2) (hi1-lo1):Nat):Int)∧ORep T R f' v (z3q X lo1 ((X.drop lo2).take (min (hi2-lo2) (hi1-lo1))))):=by
 intro A w z
 obtain⟨p,I,hcap⟩:=z1d h
 by_cases hm:min (hi2-lo2) (hi1-lo1)=0
 ·have hrun:(Builtin.copy_ #[t,t] ty #[zde T.size v lo1 hi1,zde T.size v lo2 hi2]).run P w= .ok (goInt 0) w:=by
   rw [I];exact z6h w t t ty e _ _ _ _ _ _ E hi hm
  rw [z9g F n hrun]
  refine⟨R,_,RH.le.refl _,z,_,rfl,rfl,f,rfl,by rw [hm];rfl,?_⟩
  rw [hm,List.take_zero]
  simpa [z3q] using h
 ·rcases h with⟨rfl,rfl,rfl⟩|⟨b,pre,cs,cap,bt,rfl,rfl,J,B,c,o⟩
  ·simp at G H;omega
  have hblk:w.heap[b]? =some (.cells (pre++cs).toArray bt (0,0)):=ng z (i:=0) rfl (single_same _ _)
  generalize hmm:min (hi2-lo2) (hi1-lo1)=m at hm⊢
  have C:(lo2+m)*T.size≤cap*T.size:=Nat.mul_le_mul_right _ (by omega)
  have r:(lo1+m)*T.size≤cap*T.size:=Nat.mul_le_mul_right _ (by omega)
  rw [Nat.add_mul] at C r
  have d:((cs.drop (lo2*T.size)).take (m*T.size)).length=m*T.size:=by rw [List.length_take,List.length_drop];omega
  have K:zde T.size (.slice (some ⟨b,pre.length,none⟩) X.length cap) lo1 hi1= .slice (some ⟨b,pre.length+lo1*T.size,none⟩) (hi1-lo1) (cap-lo1):=by
   simp only [zde];rw [if_neg (by omega)];simp [addr_add]
  have L:zde T.size (.slice (some ⟨b,pre.length,none⟩) X.length cap) lo2 hi2= .slice (some ⟨b,pre.length+lo2*T.size,none⟩) (hi2-lo2) (cap-lo2):=by
   simp only [zde];rw [if_neg (by omega)];simp [addr_add]
  have hrun:=z7p (P:=P) w t t ty e b (pre.length+lo1*T.size) (hi1-lo1) (cap-lo1) ⟨b,pre.length+lo2*T.size,none⟩ (hi2-lo2) (cap-lo2) (pre++cs).toArray bt ((cs.drop (lo2*T.size)).take (m*T.size)) E hi hblk (by rw [d,←hmm])
   (fun j q k=>by
    rw [addr_add,cell_of_block hblk]
    have s:=(List.getElem?_eq_some_iff.1 k).1
    rw [List.getElem?_take,if_pos (by omega),List.getElem?_drop] at k
    simp only [List.getElem?_toArray]
    rw [List.getElem?_append_right (by omega),show pre.length+lo2*T.size+j-pre.length=lo2*T.size+j by omega];exact k)
   (by simp only [List.size_toArray,List.length_append,d];omega)
   (fun q k=>c q (List.mem_append.2 (.inr (List.mem_of_mem_drop (List.mem_of_mem_take k)))))
  rw [←K,←L] at hrun
  rw [z9g F n hrun]
  have hlist:(pre++cs).take (pre.length+lo1*T.size)++(cs.drop (lo2*T.size)).take (m*T.size)++(pre++cs).drop (pre.length+lo1*T.size+((cs.drop (lo2*T.size)).take (m*T.size)).length)=pre++over cs (lo1*T.size) ((cs.drop (lo2*T.size)).take (m*T.size)):=z9n
  simp only at hlist⊢
  rw [hlist]
  have u:((X.drop lo2).take m).length=m:=by rw [List.length_take,List.length_drop];omega
  refine⟨R,_,RH.le.refl _,zem _ z,_,rfl,rfl,_,rfl,by rw [show Nat.min (hi2-lo2) (hi1-lo1)=m from hmm];rfl,?_⟩
  refine zd2 J B c o (by rw [u];omega) (by rw [d,u]) (fun i y n=>?_) (fun q k=>c q (List.mem_append.2 (.inr (List.mem_of_mem_drop (List.mem_of_mem_take k)))))
  have hi':i<m:=by have:=(List.getElem?_eq_some_iff.1 n).1;omega
  rw [List.getElem?_take,if_pos hi',List.getElem?_drop] at n
  have D:(i+1)*T.size≤m*T.size:=Nat.mul_le_mul_right _ hi'
  rw [Nat.add_mul,Nat.one_mul] at D
  have e:(((cs.drop (lo2*T.size)).take (m*T.size)).drop (i*T.size)).take T.size=(cs.drop ((lo2+i)*T.size)).take T.size:=by
   apply List.ext_getElem?
   intro j
   rw [ik (l:=(cs.drop (lo2*T.size)).take (m*T.size)),ik (l:=cs) (a:=(lo2+i)*T.size)]
   by_cases s:j<T.size
   ·rw [if_pos s,if_pos s,ik,if_pos (by omega),Nat.add_mul,Nat.add_assoc]
   ·rw [if_neg s,if_neg s]
  rw [e];exact o (lo2+i) y n
theorem zic(J:P.underlying t=some (.slice e))(hi:(P.info? e).map (·.size)=some T.size)(h:ORep T R f v X)(N:VRep (uq T) R u Y)(K:ev l x=v)(k:ev l y=u):
 Eff P ρ ⟨dst,.call ⟨.builtin .copy,#[x,y],#[t,t]⟩,ty,pos,after,g⟩ l R ([f]++O) (fun v' R' O'=> ∃ Oc,O'=Oc++O∧R'=R∧ ∃ f',Oc=[f']∧v'= .int .i64 ((min Y.length X.length:Nat):Int)∧ORep T R f' v (z3q X 0 (Y.take (min Y.length X.length)))):=by
 intro A w C
 obtain⟨p,Q,hcap⟩:=z1d h
 obtain⟨q,n,rfl,W,L,S⟩:=wz.1 N
 by_cases hm:min Y.length X.length=0
 ·have hrun:(Builtin.copy_ #[t,t] ty #[v,.slice q Y.length n]).run P w= .ok (goInt 0) w:=by
   rw [Q];exact z6h w t t ty e _ _ _ _ _ _ J hi hm
  rw [z9g K k hrun]
  refine⟨R,_,RH.le.refl _,C,_,rfl,rfl,f,rfl,by rw [hm];rfl,?_⟩
  rw [hm,List.take_zero]
  simpa [z3q] using h
 ·rcases S with rfl|⟨b',off,c,ty',fr,rfl,hb',hrep⟩
  ·simp at hm
  rcases h with⟨rfl,rfl,rfl⟩|⟨b,pre,cs,cap,bt,rfl,rfl,U,F,G,H⟩
  ·simp at hm
  have hblk:w.heap[b]? =some (.cells (pre++cs).toArray bt (0,0)):=ng C (i:=0) rfl (single_same _ _)
  have hsrc:w.heap[b']? =some (.cells c ty' fr):=C.ro _ _ hb'
  generalize hmm:min Y.length X.length=m at hm⊢
  have hrep': ∀ i y,Y[i]? =some y→T.rep R ((c.toList.drop (off+i*T.size)).take T.size) y:=fun i y h=>hrep i y h
  have hlast:m*T.size≤c.toList.length-off∧(0<T.size→off≤c.toList.length):=by
   have D:=T.len (hrep' (m-1) Y[m-1] (List.getElem?_eq_getElem (by omega)))
   rw [List.length_take,List.length_drop] at D
   have e:m*T.size=(m-1)*T.size+T.size:=by
    rw [←Nat.succ_mul,Nat.succ_eq_add_one,Nat.sub_add_cancel (by omega)]
   have E:T.size=0→m*T.size=0:=fun h=>by rw [h];rfl
   constructor<;>omega
  have d:((c.toList.drop off).take (m*T.size)).length=m*T.size:=by
   rw [List.length_take,List.length_drop];omega
  have hpart: ∀ i,i<m→(((c.toList.drop off).take (m*T.size)).drop (i*T.size)).take T.size=(c.toList.drop (off+i*T.size)).take T.size:=by
   intro i hi
   have I:(i+1)*T.size≤m*T.size:=Nat.mul_le_mul_right _ hi
   rw [Nat.add_mul,Nat.one_mul] at I
   apply List.ext_getElem?
   intro j
   rw [ik (l:=(c.toList.drop off).take (m*T.size)),ik (l:=c.toList) (a:=off+i*T.size)]
   by_cases o:j<T.size
   ·rw [if_pos o,if_pos o,ik,if_pos (by omega),Nat.add_assoc]
   ·rw [if_neg o,if_neg o]
  have D: ∀ z∈(c.toList.drop off).take (m*T.size),z.oneCell'=true:=by
   intro z r
   obtain⟨a,V,rfl⟩:=List.mem_iff_getElem.1 r
   have s:0<T.size:=by
    rcases Nat.eq_zero_or_pos T.size with E|E
    ·have:m*T.size=0:=by rw [E];rfl
     omega
    ·exact E
   have L:a/T.size<m:=by rw [Nat.div_lt_iff_lt_mul s];omega
   have M:=hrep' (a/T.size) Y[a/T.size] (List.getElem?_eq_getElem (by omega))
   rw [←hpart _ L] at M
   refine T.cell M _ (List.mem_iff_getElem?.2 ⟨a%T.size,?_⟩)
   rw [ik,if_pos (Nat.mod_lt _ s),show a/T.size*T.size+a%T.size=a by rw [Nat.mul_comm];exact Nat.div_add_mod _ _,List.getElem?_eq_getElem V]
  have hrun:=z7p (P:=P) w t t ty e b pre.length X.length cap ⟨b',off,none⟩ Y.length n (pre++cs).toArray bt ((c.toList.drop off).take (m*T.size)) J hi hblk (by rw [d,←hmm])
   (fun j z r=>by
    rw [addr_add,cell_of_block hsrc]
    have o:=(List.getElem?_eq_some_iff.1 r).1
    rw [List.getElem?_take,if_pos (by omega),List.getElem?_drop] at r
    simpa using r)
   (by
    have:m*T.size≤cap*T.size:=Nat.mul_le_mul_right _ (by omega)
    simp only [List.size_toArray,List.length_append,d];omega) D
  rw [z9g K k hrun]
  have hlist:(pre++cs).take (pre.length+0*T.size)++(c.toList.drop off).take (m*T.size)++(pre++cs).drop (pre.length+0*T.size+((c.toList.drop off).take (m*T.size)).length)=pre++over cs (0*T.size) ((c.toList.drop off).take (m*T.size)):=z9n
  simp only [Nat.zero_mul,Nat.add_zero] at hlist⊢
  rw [hlist]
  have B:(Y.take m).length=m:=by rw [List.length_take];omega
  have key:=zd2 (b:=b) (bt:=bt) (lo:=0) (Y:=Y.take m) (ys:=(c.toList.drop off).take (m*T.size)) U F G H (by rw [B];omega) (by rw [d,B]) (fun i y k=>by
   have hi':i<m:=by have:=(List.getElem?_eq_some_iff.1 k).1;omega
   rw [List.getElem?_take,if_pos hi'] at k
   rw [hpart i hi'];exact hrep' i y k) D
  rw [Nat.zero_mul] at key
  exact⟨R,_,RH.le.refl _,zem _ C,_,rfl,rfl,_,rfl,by rw [show Nat.min Y.length X.length=m from hmm];rfl,key⟩
end c
end GV
end Go.Proofs.YtkkcidhcfkmbjaaGreatDoor
