
import Derived.Test.YtjmlpkkbmnjhcaaHom16a
import Derived.Test.YtjmlpkkbmnjhcaaSpec06l
import Derived.Test.YtjmlpkkbmnjhcaaShPlain
set_option linter.unusedVariables false
set_option linter.unusedSimpArgs false
set_option linter.unusedSectionVars false
namespace Go.Proofs.Ytjmlpkkbmnjhcaa
namespace GV
set_option maxRecDepth 100000
theorem zmt{σ ρ:Type}(L:Nat→Nat→σ→Option ρ)(n:Nat)(st:Nat→σ)(r:ρ)(step: ∀ F k,k<n→L (F+1) k (st k)=L F (k+1) (st (k+1)))(fin: ∀ F,L (F+1) n (st n)=some r){F:Nat}(c:n<F):L F 0 (st 0)=some r:=
 z6w L n (fun k s=>s=st k) r (fun F k s b a=> .inr ⟨_,rfl,by rw [a];exact step F k b⟩) (fun F s a=>by rw [a];exact fin F) F 0 (st 0) (Nat.zero_le _) (by omega) rfl
theorem zjd{α:Type}{b:Bool}{e:Option α}{x:α}(h:b=true)(a:e=some x):gop b e=some (some x):=by rw [zul h,a];rfl
structure CM (m:Mach):Prop where
 ok:MOk m
 full: ∀ s i,s<m.rows.length→i<(m.rows.getD s default).length→0≤((m.rows.getD s default).getD i default).to
def InS(m:Mach)(s:Int):Prop:=0≤s∧s<(m.rows.length:Int)
def edI(m:Mach)(s i:Int):Edge:=ix (ix m.rows s) i
abbrev nIn (m:Mach):Nat:=m.inputs.toNat
theorem CM.nin{m:Mach}(h:CM m):((nIn m:Nat):Int)=m.inputs:=by have:=h.ok.i1;show ((m.inputs.toNat:Nat):Int)=_;omega
theorem CM.row{m:Mach}(h:CM m){s:Int}(c:InS m s):((ix m.rows s).length:Int)=m.inputs:=by
 obtain⟨a,b⟩:=c
 exact h.ok.row s.toNat (by omega)
theorem CM.edge{m:Mach}(h:CM m){s i:Int}(d:InS m s)(j:0≤i)(k:i<m.inputs):InS m (edI m s i).to∧0≤(edI m s i).out∧(edI m s i).out<m.outputs:=by
 obtain⟨a,b⟩:=d
 have l:((m.rows.getD s.toNat default).length:Int)=m.inputs:=h.ok.row s.toNat (by omega)
 have n:=h.full s.toNat i.toNat (by omega) (by omega)
 rcases h.ok.edge s.toNat i.toNat (by omega) (by omega) with⟨c,_⟩|⟨c,e,f,g⟩
 ·omega
 ·exact⟨⟨c,e⟩,f,g⟩
theorem CM.okr{m:Mach}(h:CM m){s i:Int}(a:InS m s)(b:0≤i)(c:i<m.inputs):okI (ix m.rows s) i:=⟨b,by rw [h.row a];exact c⟩
theorem zj3{m:Mach}{s i:Int}(c:InS m s):z4w m s i=edI m s i:=by
 obtain⟨a,b⟩:=c
 unfold z4w;rw [if_neg (by omega)];rfl
theorem WIn.head{n:Nat}{i:Int}{w:List Int}(h:WIn n (i::w)):0≤i∧i<(n:Int):=h i (List.mem_cons_self ..)
theorem WIn.tail{n:Nat}{i:Int}{w:List Int}(h:WIn n (i::w)):WIn n w:=fun j a=>h j (List.mem_cons_of_mem _ a)
theorem WIn.cons{n:Nat}{i:Int}{w:List Int}(b:0≤i)(c:i<(n:Int))(h:WIn n w):WIn n (i::w):=fun j a=>by
 rcases List.mem_cons.1 a with rfl|a
 ·exact⟨b,c⟩
 ·exact h j a
theorem WIn.nil{n:Nat}:WIn n []:=fun j a=>absurd a List.not_mem_nil
theorem CM.wok{m:Mach}(h:CM m){w:List Int}:WIn (nIn m) w↔WOk m.inputs w:=by
 have c:=h.nin
 constructor
 ·intro b k a
  have:=b _ (z6k a)
  rw [c] at this;exact this
 ·intro b i hi
  obtain⟨k,a,rfl⟩:=List.mem_iff_getElem.1 hi
  have:=b k a
  rw [List.getD_eq_getElem?_getD,List.getElem?_eq_getElem a] at this
  rw [c];exact this
theorem CM.aft{m:Mach}(h:CM m): ∀ {w:List Int} {s:Int},InS m s→WIn (nIn m) w→InS m (z1a m s w)
 | [],s,a,_=>a
 |i::w,s,a,b=>by
  have:=b.head
  rw [h.nin] at this
  have:=(h.edge a this.1 this.2).1
  unfold z1a
  rw [zj3 a]
  exact h.aft this b.tail
/-! ### pairs-/
def pnx(m:Mach)(x:Int×Int)(i:Int):Int×Int:=((edI m x.1 i).to,(edI m x.2 i).to)
def peq(x:Int×Int):Bool:=decide (x.1=x.2)
def pkf(x:Int×Int):List UInt8:=z81 ([IntKind.u8.wrap x.1,IntKind.u8.wrap x.2]:List Int)
def InP(m:Mach)(x:Int×Int):Prop:=InS m x.1∧InS m x.2
theorem CM.pnx{m:Mach}(h:CM m){x:Int×Int}{i:Int}(a:InP m x)(b:0≤i)(c:i<m.inputs):InP m (pnx m x i):=⟨(h.edge a.1 b c).1,(h.edge a.2 b c).1⟩
theorem zhu{a b:Int}(c:0≤a∧a<256)(d:0≤b∧b<256)(h:UInt8.ofNat a.toNat=UInt8.ofNat b.toNat):a=b:=by
 have:=congrArg UInt8.toNat h
 rw [UInt8.toNat_ofNat',UInt8.toNat_ofNat'] at this
 omega
theorem zlx{a:Int}(b:0≤a∧a<256):IntKind.u8.wrap a=a:=z2w _ b.1 (by have:=b.2;show a≤255;omega)
theorem zt9{m:Mach}(a:MOk m)(x y:Int×Int)(b:InP m x)(c:InP m y)(h:pkf x=pkf y):x=y:=by
 have d:=a.r2
 obtain⟨⟨e,f⟩,g,i⟩:=b
 obtain⟨⟨j,b2⟩,k,l⟩:=c
 unfold pkf z81 at h
 rw [zlx (by omega),zlx (by omega),zlx (by omega),zlx (by omega)] at h
 simp only [List.map_cons,List.map_nil,List.cons.injEq,and_true] at h
 exact Prod.ext (zhu (by omega) (by omega) h.1) (zhu (by omega) (by omega) h.2)
theorem zah{α:Type}{S:List α}(f:α→Nat){B:Nat}(g:S.Nodup)(hi: ∀ x∈S,∀ y∈S,f x=f y→x=y)(h: ∀ x∈S,f x<B):S.length≤B:=by
 have c:(S.map f).Nodup:=by
  rw [List.nodup_iff_pairwise_ne,List.pairwise_map]
  exact List.Pairwise.imp_of_mem (fun {a b} i j d e=>d (hi a i b j e)) (List.nodup_iff_pairwise_ne.1 g)
 have hsub:(S.map f)⊆List.range B:=fun x k=>by
  obtain⟨e,l,rfl⟩:=List.mem_map.1 k
  exact List.mem_range.2 (h e l)
 have:=List.Nodup.length_le_of_subset c hsub
 simpa using this
theorem zjn{a b c d n:Nat}(e:b<n)(hd:d<n)(h:a*n+b=c*n+d):a=c∧b=d:=by
 have f:(a*n+b)/n=a:=by rw [Nat.mul_comm,Nat.mul_add_div (by omega),Nat.div_eq_of_lt e,Nat.add_zero]
 have g:(c*n+d)/n=c:=by rw [Nat.mul_comm,Nat.mul_add_div (by omega),Nat.div_eq_of_lt hd,Nat.add_zero]
 have:a=c:=by rw [←f,h,g]
 subst this
 exact⟨rfl,by omega⟩
theorem znv{m:Mach}(S:List (Int×Int))(c:S.Nodup)(a: ∀ x∈S,InP m x):S.length≤m.rows.length*m.rows.length:=by
 refine zah (fun x=>x.1.toNat*m.rows.length+x.2.toNat) c (fun x b y d e=>?_) fun x b=>?_
 ·obtain⟨⟨f,g⟩,h,i⟩:=a x b
  obtain⟨⟨l,b2⟩,n,o⟩:=a y d
  obtain⟨p,q⟩:=zjn (by omega) (by omega) e
  exact Prod.ext (by omega) (by omega)
 ·obtain⟨⟨f,g⟩,h,i⟩:=a x b
  have j:x.1.toNat+1≤m.rows.length:=by omega
  have k:=Nat.mul_le_mul_right m.rows.length j
  rw [Nat.add_mul,Nat.one_mul] at k
  show x.1.toNat*m.rows.length+x.2.toNat<_
  omega
theorem zt3{N:Nat}{m:Mach}(h:CM m)(j:5000≤N):SeaOk N (nIn m) (m.rows.length*m.rows.length) m.inputs (fun b=>z4r N b) (fun b=>z4q N b) (fun b d=>z08 N (⟨(⟨m.inputs,m.outputs,m.rows⟩:Mach)⟩:Sd) b d) pkf peq (pnx m) (InP m):=by
 have c:=h.ok.r2;have e:=h.ok.i2;have f:=h.nin
 have g:m.rows.length*m.rows.length≤64*64:=Nat.mul_le_mul c c
 refine⟨f.symm,fun x a=>rfl,zt9 h.ok,fun x a=>rfl,fun x i a hi=>?_,fun x i a hi=>h.pnx a (by omega) (by omega),fun S=>znv S,by omega,by omega,by omega,by omega,by omega⟩
 show z08 N ⟨m⟩ x (i:Int)=_
 unfold z08
 rw [zn (show okI m.rows x.1 from a.1),zn (h.okr a.1 (by omega) (by omega)),zn (show okI m.rows x.2 from a.2),zn (h.okr a.2 (by omega) (by omega))];rfl
/-! ### a machine is ready-/
theorem CM.undef{m:Mach}(h:CM m):zh8 m=[]:=by
 have b:=h.ok.i1
 unfold zh8 z8l
 rw [List.map_eq_nil_iff,List.filter_eq_nil_iff]
 intro k a
 have a:=List.mem_range.1 a
 have hpos:0<m.inputs.toNat:=by omega
 have hd:k/m.inputs.toNat<m.rows.length:=Nat.div_lt_of_lt_mul (by rw [Nat.mul_comm];exact a)
 have hmod:=Nat.mod_lt k hpos
 have c:=h.ok.row _ hd
 have:=h.full (k/m.inputs.toNat) (k%m.inputs.toNat) hd (by omega)
 unfold z8t
 rw [decide_eq_true_iff]
 omega
theorem CM.ready{N:Nat}{m:Mach}(h:CM m)(a:200≤N):z07 N m=some 0:=by
 unfold z07
 rw [qg (zi9 h.ok.small a),(zb2 m).2 h.ok]
 unfold zl0
 rw [if_neg (by rw [(zb2 m).2 h.ok];simp),h.undef];rfl
theorem ze4{N:Nat}{m:Mach}(h:CM m)(c:5000≤N){s t:Int}(a:InS m s)(b:InS m t):dw N m s t=some (match z4u (pnx m) peq (nIn m) 257 [((s,t),[])] [(s,t)] with|some w=>(w,0)|none=>([],7)):=by
 have d:InP m (s,t):=⟨a,b⟩
 obtain⟨e,f⟩:=a;obtain⟨g,i⟩:=b
 unfold dw
 rw [qg (h.ready (by omega)),cu (by decide),decide_eq_false (show¬s<0 by omega),decide_eq_false (show¬t<0 by omega),decide_eq_false (show¬(m.rows.length:Int)≤s by omega),decide_eq_false (show¬(m.rows.length:Int)≤t by omega)]
 simp only [Bool.or_false,cond_false]
 rw [qg (zko (zt3 h c) d)];rfl
/-! ### there is a short one-/
theorem zdz{T:Type}{next:T→Int→T}{ni:Nat}{P:T→Prop}(cl: ∀ x (i:Nat),P x→i<ni→P (next x (i:Int))): ∀ {w:List Int} {x:T},P x→WIn ni w→P (runT next x w)
 | [],x,a,_=>a
 |i::w,x,a,b=>by
  obtain⟨c,d⟩:=b.head
  have:=cl x i.toNat a (by omega)
  rw [show ((i.toNat:Nat):Int)=i by omega] at this
  exact zdz (x:=next x i) cl this b.tail
end GV
end Go.Proofs.Ytjmlpkkbmnjhcaa

namespace Go.Proofs.Ytjmlpkkbmnjhcaa
namespace GV
set_option maxRecDepth 100000
theorem zm3{N:Nat}{a b:List Int}(f:a.length<N)(g:a.length≤4611686018427387904):oh N a b=some (cmpL a b):=by
 unfold oh cmpL
 by_cases h0:a.length≠b.length
 ·rw [eu (by omega)]
  by_cases h1:a.length<b.length
  ·rw [eu (by omega),if_pos h1]
  ·rw [cu (by omega),if_neg h1,if_pos (by omega)]
 ·rw [cu (by omega),if_neg (by omega),if_neg (by omega)]
  have h:a.length=b.length:=by omega
  have e:yo N a b N 0=some (if zd3 a b=0 then Ex.go () else Ex.rt (zd3 a b)):=by
   refine z6w (σ:=Unit) (fun F k _=>yo N a b F (k:Int)) a.length (fun k _=>zd3 (a.drop k) (b.drop k)=zd3 a b) _ (fun F k _ d hi=>?_) (fun F _ hi=>?_) N 0 () (Nat.zero_le _) (by omega) rfl
   ·simp only [yo]
    rw [eu (by omega),zn (ib d),zn (ib (by omega))]
    have c:=zoz d (show k<b.length by omega)
    rw [hi] at c
    by_cases h3:a.getD k default<b.getD k default
    ·left
     refine Eq.trans (eu h3) ?_
     rw [if_pos h3] at c;rw [c];rfl
    ·refine(show _∨_ from ?_)
     rw [if_neg h3] at c
     by_cases h4:b.getD k default<a.getD k default
     ·left
      refine Eq.trans (cu h3) ?_
      rw [zn (ib d),zn (ib (by omega))]
      refine Eq.trans (eu h4) ?_
      rw [if_pos h4] at c;rw [c];rfl
     ·right
      rw [if_neg h4] at c
      refine⟨(),c.symm,Eq.trans (cu h3) ?_⟩
      rw [zn (ib d),zn (ib (by omega))]
      refine Eq.trans (cu h4) ?_
      rw [zn (ui (by omega))];rfl
   ·simp only [yo]
    rw [cu (by omega)]
    have:zd3 a b=0:=by rw [←hi,List.drop_of_length_le (Nat.le_refl _)];rfl
    rw [if_pos this]
  rw [qg e]
  by_cases h5:zd3 a b=0
  ·rw [if_pos h5,h5];rfl
  ·rw [if_neg h5];rfl
end GV
end Go.Proofs.Ytjmlpkkbmnjhcaa

namespace Go.Proofs.Ytjmlpkkbmnjhcaa
namespace GV
set_option maxRecDepth 100000
def z8b(X:List (List Int))(s t:Nat):Int:=(X.getD s default).getD t default
structure TSh (n:Nat) (X:List (List Int)):Prop where
 len:X.length=n
 row: ∀ s,s<n→(X.getD s default).length=n
theorem z96{α:Type}[Inhabited α](X:List α)(k j:Nat)(v:α)(a:k<X.length):(X.set k v).getD j default=if j=k then v else X.getD j default:=by
 rw [List.getD_eq_getElem?_getD,List.getElem?_set]
 by_cases e:k=j
 ·subst e;rw [if_pos rfl,if_pos rfl,if_pos a];rfl
 ·rw [if_neg e,if_neg (fun h=>e h.symm),List.getD_eq_getElem?_getD]
def tgt(m:Mach)(s i:Nat):Nat:=(edI m (s:Int) (i:Int)).to.toNat
theorem CM.tgt{m:Mach}(h:CM m){s i:Nat}(c:s<m.rows.length)(hi:i<nIn m):GV.tgt m s i<m.rows.length∧(edI m (s:Int) (i:Int)).to=(GV.tgt m s i:Int):=by
 have d:=h.nin
 obtain⟨⟨a,b⟩,_⟩:=h.edge (s:=(s:Int)) (i:=(i:Int)) ⟨by omega,by omega⟩ (by omega) (by omega)
 unfold GV.tgt
 exact⟨by omega,by omega⟩
def gdP(m:Mach)(D:List (List Int))(n:Int)(a b k:Nat):Prop:= ∃ i,i<k∧z8b D (tgt m a i) (tgt m b i)=n-1
structure PT (m:Mach) (D:List (List Int)) (n:Int) (Q:Nat→Nat→Prop) (X:List (List Int)):Prop where
 sh:TSh m.rows.length X
 val: ∀ a b,a<m.rows.length→b<m.rows.length→z8b X a b=z8b D a b∨(z8b D a b= -1∧z8b X a b=n∧gdP m D n a b (nIn m))
 done: ∀ a b,a<m.rows.length→b<m.rows.length→Q a b→z8b D a b= -1→gdP m D n a b (nIn m)→z8b X a b=n
structure DT (m:Mach) (k:Nat) (D:List (List Int)):Prop where
 sh:TSh m.rows.length D
 val: ∀ s t:Nat,s<m.rows.length→t<m.rows.length→(z8b D s t= -1∧ ∀ w,WIn (nIn m) w→w.length≤k→z1a m s w≠z1a m t w)∨(0≤z8b D s t∧z8b D s t≤k∧ ∃ w,WIn (nIn m) w∧z1a m s w=z1a m t w∧(w.length:Int)=z8b D s t∧ ∀ v,WIn (nIn m) v→z1a m s v=z1a m t v→w.length≤v.length)
theorem zje{m:Mach}(a:CM m){s:Nat}(b:s<m.rows.length){i:Nat}(hi:i<nIn m)(w:List Int):z1a m (s:Int) ((i:Int)::w)=z1a m (tgt m s i:Int) w:=by
 have:=(a.tgt b hi).2
 show z1a m (z4w m s i).to w=_
 rw [zj3 ⟨by omega,by omega⟩,this]
structure PD (m:Mach) (D:List (List Int)):Prop where
 sh:TSh m.rows.length D
 val: ∀ s t:Nat,s<m.rows.length→t<m.rows.length→(z8b D s t= -1∧ ∀ w,WIn (nIn m) w→z1a m s w≠z1a m t w)∨(∃ w,Lst (pnx m) peq (nIn m) (s,t) w∧(w.length:Int)=z8b D s t)
end GV
end Go.Proofs.Ytjmlpkkbmnjhcaa

namespace Go.Proofs.Ytjmlpkkbmnjhcaa
namespace GV
set_option maxRecDepth 1000000
end GV
end Go.Proofs.Ytjmlpkkbmnjhcaa

namespace Go.Proofs.Ytjmlpkkbmnjhcaa
namespace GV
set_option maxRecDepth 100000
theorem zqb{N:Nat}{a b:List Int}(f:5000≤N)(c:a.length<N)(d:a.length≤1000000):z0a N ([a]:List (List Int)) [b]=some (decide (a=b)):=by
 obtain⟨N,rfl⟩: ∃ M,N=M+2:=⟨N-2,by omega⟩
 unfold z0a
 rw [cu (by simp)]
 by_cases h:a=b
 ·have:bz (N+2) [a] [b] (N+2) 0=some (Ex.go ()):=by
   simp only [bz]
   rw [eu (by simp),zn ⟨by omega,by simp⟩,zn ⟨by omega,by simp⟩,qg (show oh (N+2) (ix [a] 0) (ix [b] 0)=some (cmpL a b) from zm3 (a:=a) (b:=b) c (by omega)),(cmpL_eq a b).2 h,cu (by decide),zn (ui (by decide)),cu (by simp)]
  rw [qg this,zau,decide_eq_true h]
 ·have:bz (N+2) [a] [b] (N+2) 0=some (Ex.rt false):=by
   simp only [bz]
   rw [eu (by simp),zn ⟨by omega,by simp⟩,zn ⟨by omega,by simp⟩,qg (show oh (N+2) (ix [a] 0) (ix [b] 0)=some (cmpL a b) from zm3 (a:=a) (b:=b) c (by omega)),eu (show cmpL a b≠0 from fun e=>h ((cmpL_eq a b).1 e))]
  rw [qg this,zdn,decide_eq_false h]
theorem zs1{N:Nat}{a b:List Int}(d:5000≤N)(e:a.length<N)(c:a.length≤1000000):bu N a b=some (decide (a=b)):=by
 unfold bu
 rw [qg (zqb d e c),decide_eq_true (rfl:(a.length:Int)=(a.length:Int)),Bool.and_true]
theorem ztp{T:Type}[DecidableEq T]{next:T→Int→T}{isb:T→Bool}{ni g:Nat}{x0:T}(h: ∀ v,WIn ni v→isb (runT next x0 v)=false):z4u next isb ni g [(x0,[])] [x0]=none:=by
 cases e:z4u next isb ni g [(x0,[])] [x0] with
 |none=>rfl
 |some w=>
  have:=zd6 zeh e
  have a:=this.2.1
  rw [h w this.1] at a;cases a
end GV
end Go.Proofs.Ytjmlpkkbmnjhcaa
