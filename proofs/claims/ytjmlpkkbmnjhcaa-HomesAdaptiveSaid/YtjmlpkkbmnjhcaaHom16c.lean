
import Derived.Test.YtjmlpkkbmnjhcaaHom16a
import Derived.Test.YtjmlpkkbmnjhcaaSpec06l
set_option linter.unusedVariables false
set_option linter.unusedSimpArgs false
set_option linter.unusedSectionVars false
namespace Go.Proofs.Ytjmlpkkbmnjhcaa
namespace GV
set_option maxRecDepth 100000
theorem zev{σ ρ:Type}(L:Nat→Nat→σ→Option ρ)(n:Nat)(st:Nat→σ)(r:ρ)(step: ∀ F k,k<n→L (F+1) k (st k)=L F (k+1) (st (k+1)))(fin: ∀ F,L (F+1) n (st n)=some r){F:Nat}(c:n<F):L F 0 (st 0)=some r:=
 z5z L n (fun k s=>s=st k) r (fun F k s b a=> .inr ⟨_,rfl,by rw [a];exact step F k b⟩) (fun F s a=>by rw [a];exact fin F) F 0 (st 0) (Nat.zero_le _) (by omega) rfl
theorem zcu{α:Type}{b:Bool}{e:Option α}{x:α}(h:b=true)(a:e=some x):gop b e=some (some x):=by rw [zv1 h,a];rfl
structure CM (m:Mach):Prop where
 ok:MOk m
 full: ∀ s i,s<m.rows.length→i<(m.rows.getD s default).length→0≤((m.rows.getD s default).getD i default).to
def InS(m:Mach)(s:Int):Prop:=0≤s∧s<(m.rows.length:Int)
def edI(m:Mach)(s i:Int):Edge:=ix (ix m.rows s) i
abbrev nIn (m:Mach):Nat:=m.inputs.toNat
theorem CM.nin{m:Mach}(h:CM m):((nIn m:Nat):Int)=m.inputs:=by have:=h.ok.i1;show ((m.inputs.toNat:Nat):Int)=_;omega
theorem CMach.cm{m:Mach}(h:CMach m):CM m:=⟨h.ok,h.full⟩
theorem CM.row{m:Mach}(h:CM m){s:Int}(c:InS m s):((ix m.rows s).length:Int)=m.inputs:=by
 obtain⟨a,b⟩:=c
 exact h.ok.row s.toNat (by omega)
theorem CM.edge{m:Mach}(h:CM m){s i:Int}(d:InS m s)(j:0≤i)(k:i<m.inputs):InS m (edI m s i).to∧0≤(edI m s i).out∧(edI m s i).out<m.outputs:=by
 obtain⟨a,b⟩:=d
 have l:((m.rows.getD s.toNat default).length:Int)=m.inputs:=h.ok.row s.toNat (by omega)
 have n:=h.full s.toNat i.toNat (by omega) (by omega)
 rcases h.ok.edge s.toNat i.toNat (by omega) (by omega) with⟨c,_⟩|⟨c,e,f,g⟩
 ·omega
 ·exact⟨⟨c,e⟩,f,g⟩
theorem CM.okr{m:Mach}(h:CM m){s i:Int}(a:InS m s)(b:0≤i)(c:i<m.inputs):okI (ix m.rows s) i:=⟨b,by rw [h.row a];exact c⟩
theorem zb8{m:Mach}{s i:Int}(c:InS m s):z4w m s i=edI m s i:=by
 obtain⟨a,b⟩:=c
 unfold z4w;rw [if_neg (by omega)];rfl
theorem WIn.head{n:Nat}{i:Int}{w:List Int}(h:WIn n (i::w)):0≤i∧i<(n:Int):=h i (List.mem_cons_self ..)
theorem WIn.tail{n:Nat}{i:Int}{w:List Int}(h:WIn n (i::w)):WIn n w:=fun j a=>h j (List.mem_cons_of_mem _ a)
theorem WIn.cons{n:Nat}{i:Int}{w:List Int}(b:0≤i)(c:i<(n:Int))(h:WIn n w):WIn n (i::w):=fun j a=>by
 rcases List.mem_cons.1 a with rfl|a
 ·exact⟨b,c⟩
 ·exact h j a
theorem WIn.nil{n:Nat}:WIn n []:=fun j a=>absurd a List.not_mem_nil
theorem CM.aft{m:Mach}(h:CM m): ∀ {w:List Int} {s:Int},InS m s→WIn (nIn m) w→InS m (z2a m s w)
 | [],s,a,_=>a
 |i::w,s,a,b=>by
  have:=b.head
  rw [h.nin] at this
  have:=(h.edge a this.1 this.2).1
  unfold z2a
  rw [zb8 a]
  exact h.aft this b.tail
/-! ### pairs-/
def pnx(m:Mach)(x:Int×Int)(i:Int):Int×Int:=((edI m x.1 i).to,(edI m x.2 i).to)
def peq(x:Int×Int):Bool:=decide (x.1=x.2)
def pkf(x:Int×Int):List UInt8:=za7 ([IntKind.u8.wrap x.1,IntKind.u8.wrap x.2]:List Int)
def InP(m:Mach)(x:Int×Int):Prop:=InS m x.1∧InS m x.2
theorem CM.pnx{m:Mach}(h:CM m){x:Int×Int}{i:Int}(a:InP m x)(b:0≤i)(c:i<m.inputs):InP m (pnx m x i):=⟨(h.edge a.1 b c).1,(h.edge a.2 b c).1⟩
theorem CM.runp{m:Mach}(h:CM m): ∀ {w:List Int} {x:Int×Int},InP m x→WIn (nIn m) w→runT (GV.pnx m) x w=(z2a m x.1 w,z2a m x.2 w)
 | [],x,a,_=>rfl
 |i::w,x,a,c=>by
  have b:=c.head
  rw [h.nin] at b
  have:=h.runp (w:=w) (h.pnx a b.1 b.2) c.tail
  unfold z2a
  rw [zb8 a.1,zb8 a.2]
  exact this
theorem ziw{a b:Int}(c:0≤a∧a<256)(d:0≤b∧b<256)(h:UInt8.ofNat a.toNat=UInt8.ofNat b.toNat):a=b:=by
 have:=congrArg UInt8.toNat h
 rw [UInt8.toNat_ofNat',UInt8.toNat_ofNat'] at this
 omega
theorem znt{a:Int}(b:0≤a∧a<256):IntKind.u8.wrap a=a:=z4h _ b.1 (by have:=b.2;show a≤255;omega)
theorem zt6{m:Mach}(a:MOk m)(x y:Int×Int)(b:InP m x)(c:InP m y)(h:pkf x=pkf y):x=y:=by
 have d:=a.r2
 obtain⟨⟨e,f⟩,g,i⟩:=b
 obtain⟨⟨j,b2⟩,k,l⟩:=c
 unfold pkf za7 at h
 rw [znt (by omega),znt (by omega),znt (by omega),znt (by omega)] at h
 simp only [List.map_cons,List.map_nil,List.cons.injEq,and_true] at h
 exact Prod.ext (ziw (by omega) (by omega) h.1) (ziw (by omega) (by omega) h.2)
theorem zfy{α:Type}{S:List α}(f:α→Nat){B:Nat}(g:S.Nodup)(hi: ∀ x∈S,∀ y∈S,f x=f y→x=y)(h: ∀ x∈S,f x<B):S.length≤B:=by
 have c:(S.map f).Nodup:=by
  rw [List.nodup_iff_pairwise_ne,List.pairwise_map]
  exact List.Pairwise.imp_of_mem (fun {a b} i j d e=>d (hi a i b j e)) (List.nodup_iff_pairwise_ne.1 g)
 have hsub:(S.map f)⊆List.range B:=fun x k=>by
  obtain⟨e,l,rfl⟩:=List.mem_map.1 k
  exact List.mem_range.2 (h e l)
 have:=List.Nodup.length_le_of_subset c hsub
 simpa using this
theorem zkl{a b c d n:Nat}(e:b<n)(hd:d<n)(h:a*n+b=c*n+d):a=c∧b=d:=by
 have f:(a*n+b)/n=a:=by rw [Nat.mul_comm,Nat.mul_add_div (by omega),Nat.div_eq_of_lt e,Nat.add_zero]
 have g:(c*n+d)/n=c:=by rw [Nat.mul_comm,Nat.mul_add_div (by omega),Nat.div_eq_of_lt hd,Nat.add_zero]
 have:a=c:=by rw [←f,h,g]
 subst this
 exact⟨rfl,by omega⟩
theorem zht{m:Mach}(S:List (Int×Int))(c:S.Nodup)(a: ∀ x∈S,InP m x):S.length≤m.rows.length*m.rows.length:=by
 refine zfy (fun x=>x.1.toNat*m.rows.length+x.2.toNat) c (fun x b y d e=>?_) fun x b=>?_
 ·obtain⟨⟨f,g⟩,h,i⟩:=a x b
  obtain⟨⟨l,b2⟩,n,o⟩:=a y d
  obtain⟨p,q⟩:=zkl (by omega) (by omega) e
  exact Prod.ext (by omega) (by omega)
 ·obtain⟨⟨f,g⟩,h,i⟩:=a x b
  have j:x.1.toNat+1≤m.rows.length:=by omega
  have k:=Nat.mul_le_mul_right m.rows.length j
  rw [Nat.add_mul,Nat.one_mul] at k
  show x.1.toNat*m.rows.length+x.2.toNat<_
  omega
theorem ztr{N:Nat}{m:Mach}(h:CM m)(j:5000≤N):SeaOk N (nIn m) (m.rows.length*m.rows.length) m.inputs (fun b=>z6c N b) (fun b=>z6a N b) (fun b d=>z13 N (⟨(⟨m.inputs,m.outputs,m.rows⟩:Mach)⟩:Sg) b d) pkf peq (pnx m) (InP m):=by
 have c:=h.ok.r2;have e:=h.ok.i2;have f:=h.nin
 have g:m.rows.length*m.rows.length≤64*64:=Nat.mul_le_mul c c
 refine⟨f.symm,fun x a=>rfl,zt6 h.ok,fun x a=>rfl,fun x i a hi=>?_,fun x i a hi=>h.pnx a (by omega) (by omega),fun S=>zht S,by omega,by omega,by omega,by omega,by omega⟩
 show z13 N ⟨m⟩ x (i:Int)=_
 unfold z13
 rw [zk (show okI m.rows x.1 from a.1),zk (h.okr a.1 (by omega) (by omega)),zk (show okI m.rows x.2 from a.2),zk (h.okr a.2 (by omega) (by omega))];rfl
theorem CM.mrg{m:Mach}(h:CM m){s t:Int}(a:InS m s)(b:InS m t){w:List Int}(c:WIn (nIn m) w):peq (runT (GV.pnx m) (s,t) w)=true↔z2a m s w=z2a m t w:=by
 rw [h.runp (x:=(s,t)) ⟨a,b⟩ c]
 show decide (_=_)=true↔_
 rw [decide_eq_true_iff]
/-! ### a machine is ready-/
theorem CM.undef{m:Mach}(h:CM m):zio m=[]:=by
 have b:=h.ok.i1
 unfold zio z9o
 rw [List.map_eq_nil_iff,List.filter_eq_nil_iff]
 intro k a
 have a:=List.mem_range.1 a
 have hpos:0<m.inputs.toNat:=by omega
 have hd:k/m.inputs.toNat<m.rows.length:=Nat.div_lt_of_lt_mul (by rw [Nat.mul_comm];exact a)
 have hmod:=Nat.mod_lt k hpos
 have c:=h.ok.row _ hd
 have:=h.full (k/m.inputs.toNat) (k%m.inputs.toNat) hd (by omega)
 unfold zac
 rw [decide_eq_true_iff]
 omega
theorem CM.ready{N:Nat}{m:Mach}(h:CM m)(a:200≤N):z11 N m=some 0:=by
 unfold z11
 rw [qh (zkm h.ok.small a),(zch m).2 h.ok]
 unfold zmi
 rw [if_neg (by rw [(zch m).2 h.ok];simp),h.undef];rfl
theorem zq0{N:Nat}{m:Mach}(h:CM m)(c:5000≤N){s t:Int}(a:InS m s)(b:InS m t):z2n N m s t=some (match z6q (pnx m) peq (nIn m) 257 [((s,t),[])] [(s,t)] with|some w=>(w,0)|none=>([],7)):=by
 have d:InP m (s,t):=⟨a,b⟩
 obtain⟨e,f⟩:=a;obtain⟨g,i⟩:=b
 unfold z2n
 rw [qh (h.ready (by omega)),di (by decide),decide_eq_false (show¬s<0 by omega),decide_eq_false (show¬t<0 by omega),decide_eq_false (show¬(m.rows.length:Int)≤s by omega),decide_eq_false (show¬(m.rows.length:Int)≤t by omega)]
 simp only [Bool.or_false,cond_false]
 rw [qh (zmq (ztr h c) d)];rfl
/-! ### there is a short one-/
theorem zkv{T:Type}[DecidableEq T]{next:T→Int→T}{isb:T→Bool}{ni:Nat}{a:T}{w:List Int}: ∀ {g k:Nat} {L:List (T×List Int)} {S:List T},LI next isb ni a k L S→z6q next isb ni g L S=some w→w.length<k+g
 |0,k,L,S,h,e=>by cases e
 |g+1,k,L,S,h,e=>by
  unfold z6q at e
  by_cases hL:L=[]
  ·rw [if_pos hL] at e;cases e
  ·rw [if_neg hL] at e
   cases hf:L.find? (fun p=>isb p.1) with
   |some p=>
    rw [hf] at e
    obtain rfl:=Option.some.inj e
    rw [(h.wd p (List.mem_of_find?_eq_some hf)).1];omega
   |none=>
    rw [hf] at e
    have:=zkv (zes h fun p b=>by simpa using List.find?_eq_none.1 hf p b) e
    omega
theorem zm8{T:Type}[DecidableEq T]{next:T→Int→T}{isb:T→Bool}{ni:Nat}{a:T}{B:Nat}(c: ∀ S:List T,S.Nodup→(∀ x∈S,∃ v,WIn ni v∧x=runT next a v)→S.length≤B){v:List Int}(d:WIn ni v)(b:isb (runT next a v)=true):
 ∃ w,Lst next isb ni a w∧w.length<B:=by
 cases e:z6q next isb ni B [(a,[])] [a] with
 |none=>
  have:=zl6 c z7h (by omega) e v d
  rw [this] at b;cases b
 |some w=>exact⟨w,z9e z7h e,by have:=zkv z7h e;omega⟩
theorem znh{T:Type}{next:T→Int→T}{ni:Nat}{P:T→Prop}(cl: ∀ x (i:Nat),P x→i<ni→P (next x (i:Int))): ∀ {w:List Int} {x:T},P x→WIn ni w→P (runT next x w)
 | [],x,a,_=>a
 |i::w,x,a,b=>by
  obtain⟨c,d⟩:=b.head
  have:=cl x i.toNat a (by omega)
  rw [show ((i.toNat:Nat):Int)=i by omega] at this
  exact znh (x:=next x i) cl this b.tail
theorem CM.mrg_short{m:Mach}(h:CM m){s t:Int}(b:InS m s)(c:InS m t){v:List Int}(d:WIn (nIn m) v)(e:z2a m s v=z2a m t v):
 ∃ w,Lst (GV.pnx m) peq (nIn m) (s,t) w∧w.length<m.rows.length*m.rows.length:=by
 have k:=h.nin
 refine zm8 (fun S f g=>zht S f fun x a=>?_) d ((h.mrg b c d).2 e)
 obtain⟨u,j,rfl⟩:=g x a
 exact znh (P:=InP m) (fun x i a hi=>h.pnx a (by omega) (by omega)) ⟨b,c⟩ j
end GV
end Go.Proofs.Ytjmlpkkbmnjhcaa

namespace Go.Proofs.Ytjmlpkkbmnjhcaa
namespace GV
set_option maxRecDepth 100000
theorem zn0{N:Nat}{a b:List Int}(f:a.length<N)(g:a.length≤4611686018427387904):si N a b=some (cmpL a b):=by
 unfold si cmpL
 by_cases h0:a.length≠b.length
 ·rw [ny (by omega)]
  by_cases h1:a.length<b.length
  ·rw [ny (by omega),if_pos h1]
  ·rw [di (by omega),if_neg h1,if_pos (by omega)]
 ·rw [di (by omega),if_neg (by omega),if_neg (by omega)]
  have h:a.length=b.length:=by omega
  have e:xw N a b N 0=some (if zdz a b=0 then Ex.go () else Ex.rt (zdz a b)):=by
   refine z5z (σ:=Unit) (fun F k _=>xw N a b F (k:Int)) a.length (fun k _=>zdz (a.drop k) (b.drop k)=zdz a b) _ (fun F k _ d hi=>?_) (fun F _ hi=>?_) N 0 () (Nat.zero_le _) (by omega) rfl
   ·simp only [xw]
    rw [ny (by omega),zk (wh d),zk (wh (by omega))]
    have c:=zom d (show k<b.length by omega)
    rw [hi] at c
    by_cases h3:a.getD k default<b.getD k default
    ·left
     refine Eq.trans (ny h3) ?_
     rw [if_pos h3] at c;rw [c];rfl
    ·refine(show _∨_ from ?_)
     rw [if_neg h3] at c
     by_cases h4:b.getD k default<a.getD k default
     ·left
      refine Eq.trans (di h3) ?_
      rw [zk (wh d),zk (wh (by omega))]
      refine Eq.trans (ny h4) ?_
      rw [if_pos h4] at c;rw [c];rfl
     ·right
      rw [if_neg h4] at c
      refine⟨(),c.symm,Eq.trans (di h3) ?_⟩
      rw [zk (wh d),zk (wh (by omega))]
      refine Eq.trans (di h4) ?_
      rw [zk (jc (by omega))];rfl
   ·simp only [xw]
    rw [di (by omega)]
    have:zdz a b=0:=by rw [←hi,List.drop_of_length_le (Nat.le_refl _)];rfl
    rw [if_pos this]
  rw [qh e]
  by_cases h5:zdz a b=0
  ·rw [if_pos h5,h5];rfl
  ·rw [if_neg h5];rfl
end GV
end Go.Proofs.Ytjmlpkkbmnjhcaa

namespace Go.Proofs.Ytjmlpkkbmnjhcaa
namespace GV
set_option maxRecDepth 100000
def ib(X:List (List Int))(s t:Nat):Int:=(X.getD s default).getD t default
structure TSh (n:Nat) (X:List (List Int)):Prop where
 len:X.length=n
 row: ∀ s,s<n→(X.getD s default).length=n
theorem z3n{α:Type}[Inhabited α](X:List α)(k j:Nat)(v:α)(a:k<X.length):(X.set k v).getD j default=if j=k then v else X.getD j default:=by
 rw [List.getD_eq_getElem?_getD,List.getElem?_set]
 by_cases e:k=j
 ·subst e;rw [if_pos rfl,if_pos rfl,if_pos a];rfl
 ·rw [if_neg e,if_neg (fun h=>e h.symm),List.getD_eq_getElem?_getD]
theorem zic{n:Nat}{X:List (List Int)}(h:TSh n X){s t:Nat}(c:s<n)(d:t<n)(v:Int)(a b:Nat)(f:b<n):ib (up X (s:Int) (up (ix X (s:Int)) (t:Int) v)) a b=if a=s∧b=t then v else ib X a b:=by
 show ((X.set s ((X.getD s default).set t v)).getD a default).getD b default=_
 rw [z3n _ _ _ _ (by rw [h.len];exact c)]
 by_cases e:a=s
 ·subst e
  rw [if_pos rfl,z3n _ _ _ _ (by rw [h.row a c];exact d)]
  by_cases e2:b=t
  ·rw [if_pos e2,if_pos ⟨rfl,e2⟩]
  ·rw [if_neg e2,if_neg (fun h=>e2 h.2)];rfl
 ·rw [if_neg e,if_neg (fun h=>e h.1)];rfl
theorem zvq{n:Nat}{X:List (List Int)}(h:TSh n X){s t:Nat}(b:s<n)(d:t<n)(v:Int):TSh n (up X (s:Int) (up (ix X (s:Int)) (t:Int) v)):=by
 refine⟨by show (X.set _ _).length=n;rw [List.length_set,h.len],fun a c=>?_⟩
 show ((X.set s ((X.getD s default).set t v)).getD a default).length=n
 rw [z3n _ _ _ _ (by rw [h.len];exact b)]
 by_cases e:a=s
 ·rw [if_pos e,List.length_set];exact h.row s b
 ·rw [if_neg e];exact h.row a c
def tgt(m:Mach)(s i:Nat):Nat:=(edI m (s:Int) (i:Int)).to.toNat
theorem CM.tgt{m:Mach}(h:CM m){s i:Nat}(c:s<m.rows.length)(hi:i<nIn m):GV.tgt m s i<m.rows.length∧(edI m (s:Int) (i:Int)).to=(GV.tgt m s i:Int):=by
 have d:=h.nin
 obtain⟨⟨a,b⟩,_⟩:=h.edge (s:=(s:Int)) (i:=(i:Int)) ⟨by omega,by omega⟩ (by omega) (by omega)
 unfold GV.tgt
 exact⟨by omega,by omega⟩
def gdP(m:Mach)(D:List (List Int))(n:Int)(a b k:Nat):Prop:= ∃ i,i<k∧ib D (tgt m a i) (tgt m b i)=n-1
structure PT (m:Mach) (D:List (List Int)) (n:Int) (Q:Nat→Nat→Prop) (X:List (List Int)):Prop where
 sh:TSh m.rows.length X
 val: ∀ a b,a<m.rows.length→b<m.rows.length→ib X a b=ib D a b∨(ib D a b= -1∧ib X a b=n∧gdP m D n a b (nIn m))
 done: ∀ a b,a<m.rows.length→b<m.rows.length→Q a b→ib D a b= -1→gdP m D n a b (nIn m)→ib X a b=n
theorem PT.weak{m:Mach}{D:List (List Int)}{n:Int}{Q Q':Nat→Nat→Prop}{X:List (List Int)}(h:PT m D n Q X)(e: ∀ a b,a<m.rows.length→b<m.rows.length→Q' a b→Q a b):PT m D n Q' X:=⟨h.sh,h.val,fun a b c d q=>h.done a b c d (e a b c d q)⟩
theorem zqv{N:Nat}{m:Mach}(o:CM m)(T:5000≤N){D X:List (List Int)}{n s t:Nat}(U:1≤n)(C:n≤100000)(z: ∀ a b,a<m.rows.length→b<m.rows.length→ -1≤ib D a b)(d:s<m.rows.length)(f:t<m.rows.length){Q:Nat→Nat→Prop}(c:PT m D n Q X):
 ∃ r,bu N m n s t N 0 X=some r∧PT m D n (fun a b=>Q a b∨(a=s∧b=t)) r:=by
 have E:=o.nin
 have G:=o.ok.i2
 have hs':okI m.rows (s:Int):=wh d
 have ht':okI m.rows (t:Int):=wh f
 refine l7 (fun F k X=>bu N m n s t F (k:Int) X) (nIn m) (fun j X=>PT m D n Q X∧(ib D s t= -1→gdP m D n s t j→ib X s t=n)) _ (fun F j X u c=> .inr ?_) (fun F X c=>?_) N 0 X (Nat.zero_le _) (by show m.inputs.toNat-0<N;omega) ⟨c,fun _ ⟨i,hi,_⟩=>by omega⟩
 ·obtain⟨c,hd⟩:=c
  obtain⟨ts,es⟩:=o.tgt d u
  obtain⟨tt,et⟩:=o.tgt f u
  have H:(ix (ix m.rows (s:Int)) (j:Int)).to=(tgt m s j:Int):=es
  have I:(ix (ix m.rows (t:Int)) (j:Int)).to=(tgt m t j:Int):=et
  have J:okI (ix m.rows (s:Int)) (j:Int):=o.okr ⟨by omega,by omega⟩ (by omega) (by omega)
  have K:okI (ix m.rows (t:Int)) (j:Int):=o.okr ⟨by omega,by omega⟩ (by omega) (by omega)
  have A:okI X (s:Int):=wh (by rw [c.sh.len];exact d)
  have B:okI (ix X (s:Int)) (t:Int):=wh (by rw [z0o,c.sh.row s d];exact f)
  have L:okI X (tgt m s j:Int):=wh (by rw [c.sh.len];exact ts)
  have M:okI (ix X (tgt m s j:Int)) (tgt m t j:Int):=wh (by rw [z0o,c.sh.row _ ts];exact tt)
  have O:ix (ix X (s:Int)) (t:Int)=ib X s t:=rfl
  have P:ix (ix X (tgt m s j:Int)) (tgt m t j:Int)=ib X (tgt m s j) (tgt m t j):=rfl
  simp only [bu]
  rw [ny (by omega),zk A,zk B,zk (fun _=>hs'),zk (fun _=>J),H,zk (fun _=>L),zk (fun _=>ht'),zk (fun _=>K),I,zk (fun _=>M),zk (fun _=>jc (by omega)),O,P]
  have V:=c.val s t d f
  have R:=c.val _ _ ts tt
  have W:=z s t d f
  have Y:=z _ _ ts tt
  by_cases hc:ib X s t<0∧ib X (tgt m s j) (tgt m t j)=(n:Int)-1
  ·obtain⟨v,w⟩:=hc
   rw [decide_eq_true v,decide_eq_true w]
   simp only [Bool.and_self,cond_true]
   rw [zk A,zk B,z2z,zk (jc (by omega)),yn]
   have x:ib D s t= -1:=by omega
   have y:ib D (tgt m s j) (tgt m t j)=(n:Int)-1:=by omega
   refine⟨_,⟨⟨zvq c.sh d f _,fun a b p h=>?_,fun a b p h q g l=>?_⟩,fun _ _=>?_⟩,rfl⟩
   ·rw [zic c.sh d f _ a b h]
    by_cases e:a=s∧b=t
    ·rw [if_pos e];obtain⟨rfl,rfl⟩:=e
     exact .inr ⟨x,rfl,j,u,y⟩
    ·rw [if_neg e];exact c.val a b p h
   ·rw [zic c.sh d f _ a b h]
    by_cases e:a=s∧b=t
    ·rw [if_pos e]
    ·rw [if_neg e];exact c.done a b p h q g l
   ·rw [zic c.sh d f _ s t f,if_pos ⟨rfl,rfl⟩]
  ·have h:(decide (ib X s t<0)&&decide (ib X (tgt m s j) (tgt m t j)=(n:Int)-1))=false:=by
    by_cases g:ib X s t<0
    ·rw [decide_eq_true g,Bool.true_and];exact decide_eq_false fun l=>hc ⟨g,l⟩
    ·rw [decide_eq_false g,Bool.false_and]
   rw [h,cond_false,z2z,zk (jc (by omega)),yn]
   refine⟨X,⟨c,fun g ⟨i,hi,l⟩=>?_⟩,rfl⟩
   by_cases e:i=j
   ·subst e
    have: ¬ib X s t<0:=fun S=>hc ⟨S,by omega⟩
    omega
   ·exact hd g ⟨i,by omega,l⟩
 ·obtain⟨c,hd⟩:=c
  simp only [bu]
  rw [di (by omega)]
  refine⟨X,rfl,c.sh,c.val,fun a b p h q g l=>?_⟩
  rcases q with q|⟨rfl,rfl⟩
  ·exact c.done a b p h q g l
  ·exact hd g l
theorem zqu{N:Nat}{m:Mach}(e:CM m)(f:5000≤N){D X:List (List Int)}{n s:Nat}(g:1≤n)(d:n≤100000)(h: ∀ a b,a<m.rows.length→b<m.rows.length→ -1≤ib D a b)(i:s<m.rows.length)(c:PT m D n (fun a b=>a<s) X):
 ∃ r,p8 N m n s N 0 X=some r∧PT m D n (fun a b=>a<s+1) r:=by
 have l:=e.ok.r2
 refine l7 (fun F k X=>p8 N m n s F (k:Int) X) m.rows.length (fun j X=>PT m D n (fun a b=>a<s∨(a=s∧b<j)) X) _ (fun F j X o c=> .inr ?_) (fun F X c=>?_) N 0 X (Nat.zero_le _) (by omega) (c.weak fun a b _ _ q=>by omega)
 ·obtain⟨r,p,t⟩:=zqv e f g d h i o c
  simp only [p8]
  rw [ny (by omega),qh p,zk (jc (by omega)),yn]
  exact⟨r,t.weak fun a b _ _ q=>by omega,rfl⟩
 ·simp only [p8]
  rw [di (by omega)]
  exact⟨X,rfl,c.weak fun a b _ u q=>by omega⟩
theorem zsp{N:Nat}{m:Mach}(f:CM m)(g:5000≤N){D:List (List Int)}{n:Nat}(h:1≤n)(c:n≤100000)(i: ∀ a b,a<m.rows.length→b<m.rows.length→ -1≤ib D a b)(d:TSh m.rows.length D):
 ∃ r,bz N m n N 0 D=some r∧PT m D n (fun a b=>True) r:=by
 have l:=f.ok.r2
 refine l7 (fun F k X=>bz N m n F (k:Int) X) m.rows.length (fun j X=>PT m D n (fun a b=>a<j) X) _ (fun F j X o e=> .inr ?_) (fun F X e=>?_) N 0 D (Nat.zero_le _) (by omega) ⟨d,fun a b _ _=> .inl rfl,fun a b _ _ q=>by omega⟩
 ·obtain⟨r,p,s⟩:=zqu f g h c i o e
  simp only [bz]
  rw [ny (by omega),qh p,zk (jc (by omega)),yn]
  exact⟨r,s,rfl⟩
 ·simp only [bz]
  rw [di (by omega)]
  exact⟨X,rfl,e.weak fun a b t _ _=>t⟩
structure DT (m:Mach) (k:Nat) (D:List (List Int)):Prop where
 sh:TSh m.rows.length D
 val: ∀ s t:Nat,s<m.rows.length→t<m.rows.length→(ib D s t= -1∧ ∀ w,WIn (nIn m) w→w.length≤k→z2a m s w≠z2a m t w)∨(0≤ib D s t∧ib D s t≤k∧ ∃ w,WIn (nIn m) w∧z2a m s w=z2a m t w∧(w.length:Int)=ib D s t∧ ∀ v,WIn (nIn m) v→z2a m s v=z2a m t v→w.length≤v.length)
theorem z03{m:Mach}(a:CM m){s:Nat}(b:s<m.rows.length){i:Nat}(hi:i<nIn m)(w:List Int):z2a m (s:Int) ((i:Int)::w)=z2a m (tgt m s i:Int) w:=by
 have:=(a.tgt b hi).2
 show z2a m (z4w m s i).to w=_
 rw [zb8 ⟨by omega,by omega⟩,this]
theorem ztb{m:Mach}(a:CM m){k:Nat}{D X:List (List Int)}(q:DT m k D)(r:PT m D ((k+1:Nat):Int) (fun _ _=>True) X):DT m (k+1) X:=by
 refine⟨r.sh,fun s t c d=>?_⟩
 have f:=r.val s t c d
 rcases q.val s t c d with⟨x,o⟩|⟨x,o,w,g,l,p,hmin⟩
 ·by_cases hg:gdP m D ((k+1:Nat):Int) s t (nIn m)
  ·have G:=r.done s t c d trivial x hg
   right
   obtain⟨i,hi,C⟩:=hg
   have ts:=(a.tgt c hi).1
   have tt:=(a.tgt d hi).1
   rcases q.val _ _ ts tt with⟨y,_⟩|⟨y,z,w,g,l,p,hmin⟩
   ·omega
   ·refine⟨by omega,by omega,(i:Int)::w,g.cons (by omega) (by omega),?_,by simp only [List.length_cons];omega,fun v f A=>?_⟩
    ·rw [z03 a c hi,z03 a d hi,l]
    ·have: ¬v.length≤k:=fun h=>o v f h A
     simp only [List.length_cons];omega
  ·left
   refine⟨?_,fun w g p b=>?_⟩
   ·rcases f with f|⟨_,_,hg'⟩
    ·omega
    ·exact absurd hg' hg
   ·by_cases hlk:w.length≤k
    ·exact o w g hlk b
    ·cases w with
     |nil=>simp at hlk
     |cons i w=>
      simp only [List.length_cons] at p hlk
      obtain⟨H,I⟩:=g.head
      obtain⟨j,rfl⟩: ∃ j:Nat,i=(j:Int):=⟨i.toNat,by omega⟩
      have n:j<nIn m:=by omega
      rw [z03 a c n,z03 a d n] at b
      have ts:=(a.tgt c n).1
      have tt:=(a.tgt d n).1
      rcases q.val _ _ ts tt with⟨y,z⟩|⟨y,z,u,E,B,F,hmin⟩
      ·exact z w g.tail (by omega) b
      ·have:=hmin w g.tail b
       by_cases e:u.length=k
       ·exact hg ⟨j,n,by omega⟩
       ·exact o ((j:Int)::u) (E.cons (by omega) (by omega)) (by simp only [List.length_cons];omega) (by rw [z03 a c n,z03 a d n,B])
 ·right
  have e:ib X s t=ib D s t:=by
   rcases f with f|⟨f,_⟩
   ·exact f
   ·omega
  rw [e]
  exact⟨x,by omega,w,g,l,p,hmin⟩
theorem DT.ge{m:Mach}{k:Nat}{D:List (List Int)}(h:DT m k D): ∀ a b,a<m.rows.length→b<m.rows.length→ -1≤ib D a b:=fun a b c d=>by
 rcases h.val a b c d with⟨e,_⟩|⟨e,_⟩<;>omega
theorem zr3{N:Nat}{m:Mach}(a:CM m)(c:5000≤N):xq N m N 0 (List.replicate m.rows.length 0)=some (List.replicate m.rows.length (-1)):=by
 have b:=a.ok.r2
 have h:=zev (fun F k X=>xq N m F (k:Int) X) m.rows.length (fun k=>List.replicate k (-1)++List.replicate (m.rows.length-k) (0:Int)) (List.replicate m.rows.length (-1)) (fun F k d=>?_) (fun F=>?_) (F:=N) (by omega)
 ·simpa using h
 ·simp only [xq]
  rw [ny (by omega),zk (wh (by simp;omega)),zk (jc (by omega)),yn]
  show xq N m F _ ((List.replicate k (-1)++List.replicate (m.rows.length-k) (0:Int)).set k (-1))=_
  rw [show m.rows.length-k=(m.rows.length-(k+1))+1 by omega,List.replicate_succ,List.set_append_right _ _ (by simp)]
  simp [List.replicate_succ',List.append_assoc]
 ·simp only [xq]
  rw [di (by omega)]
  simp
def zad(n s:Nat):List Int:=(List.replicate n (-1)).set s 0
theorem zqy{N:Nat}{m:Mach}(a:CM m)(b:5000≤N):pg N m N [] 0=some ((List.range m.rows.length).map (zad m.rows.length)):=by
 have c:=a.ok.r2
 refine zev (fun F k X=>pg N m F X (k:Int)) m.rows.length (fun k=>(List.range k).map (zad m.rows.length)) _ (fun F k d=>?_) (fun F=>?_) (by omega)
 ·simp only [pg]
  rw [ny (by omega),zk ⟨by omega,by omega,by omega⟩,zil,qh (zr3 a b),zk (wh (by simp;exact d)),zk ⟨by simp;omega,by simp;omega⟩,zk (jc (by omega)),yn,List.range_succ,List.map_append];rfl
 ·simp only [pg]
  rw [di (by omega)]
theorem zqp{n s t:Nat}(a:s<n)(b:t<n):ib ((List.range n).map (zad n)) s t=if s=t then 0 else-1:=by
 unfold ib
 rw [show ((List.range n).map (zad n)).getD s default=zad n s by simp [List.getD_eq_getElem?_getD,a]]
 unfold zad
 rw [z3n _ _ _ _ (by simpa using a)]
 by_cases e:s=t
 ·rw [if_pos e,if_pos e.symm]
 ·rw [if_neg e,if_neg (fun h=>e h.symm)];simp [List.getD_eq_getElem?_getD,b]
theorem zqg{m:Mach}:DT m 0 ((List.range m.rows.length).map (zad m.rows.length)):=by
 refine⟨⟨by simp,fun s a=>?_⟩,fun s t a c=>?_⟩
 ·rw [show ((List.range m.rows.length).map (zad m.rows.length)).getD s default=zad m.rows.length s by simp [List.getD_eq_getElem?_getD,a]]
  simp [zad]
 ·rw [zqp a c]
  by_cases e:s=t
  ·subst e;rw [if_pos rfl]
   exact .inr ⟨by omega,by omega,[],WIn.nil,rfl,rfl,fun v _ _=>Nat.zero_le _⟩
  ·rw [if_neg e]
   refine .inl ⟨rfl,fun w _ d b=>?_⟩
   rw [List.length_eq_zero_iff.1 (Nat.le_zero.1 d)] at b
   have:(s:Int)=(t:Int):=b
   omega
structure PD (m:Mach) (D:List (List Int)):Prop where
 sh:TSh m.rows.length D
 val: ∀ s t:Nat,s<m.rows.length→t<m.rows.length→(ib D s t= -1∧ ∀ w,WIn (nIn m) w→z2a m s w≠z2a m t w)∨(∃ w,Lst (pnx m) peq (nIn m) (s,t) w∧(w.length:Int)=ib D s t)
theorem zqi{N:Nat}{m:Mach}(a:CM m)(i:5000≤N): ∃ D,z0w N m=some D∧PD m D:=by
 have d:=a.ok.r2
 have v:m.rows.length*m.rows.length≤64*64:=Nat.mul_le_mul d d
 have l:(m.rows.length:Int)*(m.rows.length:Int)=((m.rows.length*m.rows.length:Nat):Int):=by rw [Int.natCast_mul]
 have x: ∃ r,pz N m N 1 ((List.range m.rows.length).map (zad m.rows.length))=some r∧DT m (m.rows.length*m.rows.length) r:=by
  have:=l7 (fun F k X=>pz N m F ((k+1:Nat):Int) X) (m.rows.length*m.rows.length) (fun j X=>DT m j X) (fun r=>DT m (m.rows.length*m.rows.length) r) (fun F j X B e=> .inr ?_) (fun F X e=>?_) N 0 ((List.range m.rows.length).map (zad m.rows.length)) (Nat.zero_le _) (by omega) zqg
  ·exact this
  ·obtain⟨r,g,y⟩:=zsp a i (n:=j+1) (by omega) (by omega) e.ge e.sh
   simp only [pz]
   rw [l,zk (jc (by omega)),ny (by omega),qh g,zk (jc (by omega)),yn]
   exact⟨r,ztb a e y,rfl⟩
  ·simp only [pz]
   rw [l,zk (jc (by omega)),di (by omega)]
   exact⟨X,rfl,e⟩
 obtain⟨r,g,o⟩:=x
 refine⟨r,?_,o.sh,fun s t z A=>?_⟩
 ·unfold z0w
  rw [qh (zqy a i),qh g]
 ·have is:InS m (s:Int):=⟨by omega,by omega⟩
  have it:InS m (t:Int):=⟨by omega,by omega⟩
  rcases o.val s t z A with⟨p,q⟩|⟨p,q,w,f,b,C,hmin⟩
  ·refine .inl ⟨p,fun w f b=>?_⟩
   obtain⟨u,c,h⟩:=a.mrg_short is it f b
   exact q u c.1 (by omega) ((a.mrg is it c.1).1 c.2.1)
  ·obtain⟨u,c,h⟩:=a.mrg_short is it f b
   refine .inr ⟨u,c,?_⟩
   have E:=hmin u c.1 ((a.mrg is it c.1).1 c.2.1)
   have G:=zd0 (c.2.2 w f ((a.mrg is it f).2 b))
   omega
end GV
end Go.Proofs.Ytjmlpkkbmnjhcaa
