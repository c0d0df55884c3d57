
import Derived.Test.YtjmlpkkbmnjhcaaGreatHom16a
import Derived.Test.YtjmlpkkbmnjhcaaGreatSpec06l
set_option linter.unusedVariables false
set_option linter.unusedSimpArgs false
set_option linter.unusedSectionVars false
namespace Go.Proofs.YtjmlpkkbmnjhcaaGreat
namespace GV
set_option maxRecDepth 100000
theorem zhq{σ ρ:Type}(L:Nat→Nat→σ→Option ρ)(n:Nat)(st:Nat→σ)(r:ρ)(step: ∀ F k,k<n→L (F+1) k (st k)=L F (k+1) (st (k+1)))(fin: ∀ F,L (F+1) n (st n)=some r){F:Nat}(c:n<F):L F 0 (st 0)=some r:=
 z19 L n (fun k s=>s=st k) r (fun F k s b a=> .inr ⟨_,rfl,by rw [a];exact step F k b⟩) (fun F s a=>by rw [a];exact fin F) F 0 (st 0) (Nat.zero_le _) (by omega) rfl
theorem z9n{α:Type}{b:Bool}{e:Option α}{x:α}(h:b=true)(a:e=some x):gop b e=some (some x):=by rw [q4w h,a];rfl
structure CM (m:Mach):Prop where
 ok:MOk m
 full: ∀ s i,s<m.rows.length→i<(m.rows.getD s default).length→0≤((m.rows.getD s default).getD i default).to
def InS(m:Mach)(s:Int):Prop:=0≤s∧s<(m.rows.length:Int)
def edI(m:Mach)(s i:Int):Edge:=ix (ix m.rows s) i
abbrev nIn (m:Mach):Nat:=m.inputs.toNat
theorem CM.nin{m:Mach}(h:CM m):((nIn m:Nat):Int)=m.inputs:=by have:=h.ok.i1;show ((m.inputs.toNat:Nat):Int)=_;omega
theorem CMach.cm{m:Mach}(h:CMach m):CM m:=⟨h.ok,h.full⟩
theorem CM.row{m:Mach}(h:CM m){s:Int}(c:InS m s):((ix m.rows s).length:Int)=m.inputs:=by
 obtain⟨a,b⟩:=c
 exact h.ok.row s.toNat (by omega)
theorem CM.edge{m:Mach}(h:CM m){s i:Int}(d:InS m s)(j:0≤i)(k:i<m.inputs):InS m (edI m s i).to∧0≤(edI m s i).out∧(edI m s i).out<m.outputs:=by
 obtain⟨a,b⟩:=d
 have l:((m.rows.getD s.toNat default).length:Int)=m.inputs:=h.ok.row s.toNat (by omega)
 have n:=h.full s.toNat i.toNat (by omega) (by omega)
 rcases h.ok.edge s.toNat i.toNat (by omega) (by omega) with⟨c,_⟩|⟨c,e,f,g⟩
 ·omega
 ·exact⟨⟨c,e⟩,f,g⟩
theorem CM.okr{m:Mach}(h:CM m){s i:Int}(a:InS m s)(b:0≤i)(c:i<m.inputs):okI (ix m.rows s) i:=⟨b,by rw [h.row a];exact c⟩
theorem zcy{m:Mach}{s i:Int}(c:InS m s):z5c m s i=edI m s i:=by
 obtain⟨a,b⟩:=c
 unfold z5c;rw [if_neg (by omega)];rfl
theorem WIn.head{n:Nat}{i:Int}{w:List Int}(h:WIn n (i::w)):0≤i∧i<(n:Int):=h i (List.mem_cons_self ..)
theorem WIn.tail{n:Nat}{i:Int}{w:List Int}(h:WIn n (i::w)):WIn n w:=fun j a=>h j (List.mem_cons_of_mem _ a)
theorem WIn.cons{n:Nat}{i:Int}{w:List Int}(b:0≤i)(c:i<(n:Int))(h:WIn n w):WIn n (i::w):=fun j a=>by
 rcases List.mem_cons.1 a with rfl|a
 ·exact⟨b,c⟩
 ·exact h j a
theorem WIn.nil{n:Nat}:WIn n []:=fun j a=>absurd a List.not_mem_nil
theorem CM.wok{m:Mach}(h:CM m){w:List Int}:WIn (nIn m) w↔WOk m.inputs w:=by
 have c:=h.nin
 constructor
 ·intro b k a
  have:=b _ (z4m a)
  rw [c] at this;exact this
 ·intro b i hi
  obtain⟨k,a,rfl⟩:=List.mem_iff_getElem.1 hi
  have:=b k a
  rw [List.getD_eq_getElem?_getD,List.getElem?_eq_getElem a] at this
  rw [c];exact this
theorem CM.aft{m:Mach}(h:CM m): ∀ {w:List Int} {s:Int},InS m s→WIn (nIn m) w→InS m (yo m s w)
 | [],s,a,_=>a
 |i::w,s,a,b=>by
  have:=b.head
  rw [h.nin] at this
  have:=(h.edge a this.1 this.2).1
  unfold yo
  rw [zcy a]
  exact h.aft this b.tail
/-! ### pairs-/
def pnx(m:Mach)(x:Int×Int)(i:Int):Int×Int:=((edI m x.1 i).to,(edI m x.2 i).to)
def peq(x:Int×Int):Bool:=decide (x.1=x.2)
def pkf(x:Int×Int):List UInt8:=zcq ([IntKind.u8.wrap x.1,IntKind.u8.wrap x.2]:List Int)
def InP(m:Mach)(x:Int×Int):Prop:=InS m x.1∧InS m x.2
theorem CM.pnx{m:Mach}(h:CM m){x:Int×Int}{i:Int}(a:InP m x)(b:0≤i)(c:i<m.inputs):InP m (pnx m x i):=⟨(h.edge a.1 b c).1,(h.edge a.2 b c).1⟩
theorem CM.runp{m:Mach}(h:CM m): ∀ {w:List Int} {x:Int×Int},InP m x→WIn (nIn m) w→runT (GV.pnx m) x w=(yo m x.1 w,yo m x.2 w)
 | [],x,a,_=>rfl
 |i::w,x,a,c=>by
  have b:=c.head
  rw [h.nin] at b
  have:=h.runp (w:=w) (h.pnx a b.1 b.2) c.tail
  unfold yo
  rw [zcy a.1,zcy a.2]
  exact this
theorem zpq{a b:Int}(c:0≤a∧a<256)(d:0≤b∧b<256)(h:UInt8.ofNat a.toNat=UInt8.ofNat b.toNat):a=b:=by
 have:=congrArg UInt8.toNat h
 rw [UInt8.toNat_ofNat',UInt8.toNat_ofNat'] at this
 omega
theorem zv7{a:Int}(b:0≤a∧a<256):IntKind.u8.wrap a=a:=z8r _ b.1 (by have:=b.2;show a≤255;omega)
theorem q3x{m:Mach}(a:MOk m)(x y:Int×Int)(b:InP m x)(c:InP m y)(h:pkf x=pkf y):x=y:=by
 have d:=a.r2
 obtain⟨⟨e,f⟩,g,i⟩:=b
 obtain⟨⟨j,b2⟩,k,l⟩:=c
 unfold pkf zcq at h
 rw [zv7 (by omega),zv7 (by omega),zv7 (by omega),zv7 (by omega)] at h
 simp only [List.map_cons,List.map_nil,List.cons.injEq,and_true] at h
 exact Prod.ext (zpq (by omega) (by omega) h.1) (zpq (by omega) (by omega) h.2)
theorem zi4{α:Type}{S:List α}(f:α→Nat){B:Nat}(g:S.Nodup)(hi: ∀ x∈S,∀ y∈S,f x=f y→x=y)(h: ∀ x∈S,f x<B):S.length≤B:=by
 have c:(S.map f).Nodup:=by
  rw [List.nodup_iff_pairwise_ne,List.pairwise_map]
  exact List.Pairwise.imp_of_mem (fun {a b} i j d e=>d (hi a i b j e)) (List.nodup_iff_pairwise_ne.1 g)
 have hsub:(S.map f)⊆List.range B:=fun x k=>by
  obtain⟨e,l,rfl⟩:=List.mem_map.1 k
  exact List.mem_range.2 (h e l)
 have:=List.Nodup.length_le_of_subset c hsub
 simpa using this
theorem zqb{a b c d n:Nat}(e:b<n)(hd:d<n)(h:a*n+b=c*n+d):a=c∧b=d:=by
 have f:(a*n+b)/n=a:=by rw [Nat.mul_comm,Nat.mul_add_div (by omega),Nat.div_eq_of_lt e,Nat.add_zero]
 have g:(c*n+d)/n=c:=by rw [Nat.mul_comm,Nat.mul_add_div (by omega),Nat.div_eq_of_lt hd,Nat.add_zero]
 have:a=c:=by rw [←f,h,g]
 subst this
 exact⟨rfl,by omega⟩
theorem zol{m:Mach}(S:List (Int×Int))(c:S.Nodup)(a: ∀ x∈S,InP m x):S.length≤m.rows.length*m.rows.length:=by
 refine zi4 (fun x=>x.1.toNat*m.rows.length+x.2.toNat) c (fun x b y d e=>?_) fun x b=>?_
 ·obtain⟨⟨f,g⟩,h,i⟩:=a x b
  obtain⟨⟨l,b2⟩,n,o⟩:=a y d
  obtain⟨p,q⟩:=zqb (by omega) (by omega) e
  exact Prod.ext (by omega) (by omega)
 ·obtain⟨⟨f,g⟩,h,i⟩:=a x b
  have j:x.1.toNat+1≤m.rows.length:=by omega
  have k:=Nat.mul_le_mul_right m.rows.length j
  rw [Nat.add_mul,Nat.one_mul] at k
  show x.1.toNat*m.rows.length+x.2.toNat<_
  omega
theorem q36{N:Nat}{m:Mach}(h:CM m)(j:5000≤N):SeaOk N (nIn m) (m.rows.length*m.rows.length) m.inputs (fun b=>zad N b) (fun b=>zah N b) (fun b d=>z5b N (⟨(⟨m.inputs,m.outputs,m.rows⟩:Mach)⟩:Sg) b d) pkf peq (pnx m) (InP m):=by
 have c:=h.ok.r2;have e:=h.ok.i2;have f:=h.nin
 have g:m.rows.length*m.rows.length≤64*64:=Nat.mul_le_mul c c
 refine⟨f.symm,fun x a=>rfl,q3x h.ok,fun x a=>rfl,fun x i a hi=>?_,fun x i a hi=>h.pnx a (by omega) (by omega),fun S=>zol S,by omega,by omega,by omega,by omega,by omega⟩
 show z5b N ⟨m⟩ x (i:Int)=_
 unfold z5b
 rw [zm (show okI m.rows x.1 from a.1),zm (h.okr a.1 (by omega) (by omega)),zm (show okI m.rows x.2 from a.2),zm (h.okr a.2 (by omega) (by omega))];rfl
theorem CM.mrg{m:Mach}(h:CM m){s t:Int}(a:InS m s)(b:InS m t){w:List Int}(c:WIn (nIn m) w):peq (runT (GV.pnx m) (s,t) w)=true↔yo m s w=yo m t w:=by
 rw [h.runp (x:=(s,t)) ⟨a,b⟩ c]
 show decide (_=_)=true↔_
 rw [decide_eq_true_iff]
/-! ### a machine is ready-/
theorem CM.undef{m:Mach}(h:CM m):ziw m=[]:=by
 have b:=h.ok.i1
 unfold ziw z9m
 rw [List.map_eq_nil_iff,List.filter_eq_nil_iff]
 intro k a
 have a:=List.mem_range.1 a
 have hpos:0<m.inputs.toNat:=by omega
 have hd:k/m.inputs.toNat<m.rows.length:=Nat.div_lt_of_lt_mul (by rw [Nat.mul_comm];exact a)
 have hmod:=Nat.mod_lt k hpos
 have c:=h.ok.row _ hd
 have:=h.full (k/m.inputs.toNat) (k%m.inputs.toNat) hd (by omega)
 unfold za9
 rw [decide_eq_true_iff]
 omega
theorem CM.ready{N:Nat}{m:Mach}(h:CM m)(a:200≤N):z3i N m=some 0:=by
 unfold z3i
 rw [qh (zjq h.ok.small a),(z6w m).2 h.ok]
 unfold zhh
 rw [if_neg (by rw [(z6w m).2 h.ok];simp),h.undef];rfl
theorem zrs{N:Nat}{m:Mach}(h:CM m)(c:5000≤N){s t:Int}(a:InS m s)(b:InS m t):z1w N m s t=some (match z8z (pnx m) peq (nIn m) 257 [((s,t),[])] [(s,t)] with|some w=>(w,0)|none=>([],7)):=by
 have d:InP m (s,t):=⟨a,b⟩
 obtain⟨e,f⟩:=a;obtain⟨g,i⟩:=b
 unfold z1w
 rw [qh (h.ready (by omega)),ul (by decide),decide_eq_false (show¬s<0 by omega),decide_eq_false (show¬t<0 by omega),decide_eq_false (show¬(m.rows.length:Int)≤s by omega),decide_eq_false (show¬(m.rows.length:Int)≤t by omega)]
 simp only [Bool.or_false,cond_false]
 rw [qh (zsl (q36 h c) d)];rfl
/-! ### there is a short one-/
theorem zs8{T:Type}[DecidableEq T]{next:T→Int→T}{isb:T→Bool}{ni:Nat}{a:T}{w:List Int}: ∀ {g k:Nat} {L:List (T×List Int)} {S:List T},LI next isb ni a k L S→z8z next isb ni g L S=some w→w.length<k+g
 |0,k,L,S,h,e=>by cases e
 |g+1,k,L,S,h,e=>by
  unfold z8z at e
  by_cases hL:L=[]
  ·rw [if_pos hL] at e;cases e
  ·rw [if_neg hL] at e
   cases hf:L.find? (fun p=>isb p.1) with
   |some p=>
    rw [hf] at e
    obtain rfl:=Option.some.inj e
    rw [(h.wd p (List.mem_of_find?_eq_some hf)).1];omega
   |none=>
    rw [hf] at e
    have:=zs8 (zk7 h fun p b=>by simpa using List.find?_eq_none.1 hf p b) e
    omega
theorem zha{T:Type}[DecidableEq T]{next:T→Int→T}{isb:T→Bool}{ni:Nat}{a:T}{B:Nat}(c: ∀ S:List T,S.Nodup→(∀ x∈S,∃ v,WIn ni v∧x=runT next a v)→S.length≤B){v:List Int}(d:WIn ni v)(b:isb (runT next a v)=true):
 ∃ w,Lst next isb ni a w∧w.length<B:=by
 cases e:z8z next isb ni B [(a,[])] [a] with
 |none=>
  have:=zr0 c zbv (by omega) e v d
  rw [this] at b;cases b
 |some w=>exact⟨w,zcz zbv e,by have:=zs8 zbv e;omega⟩
theorem zic{T:Type}{next:T→Int→T}{ni:Nat}{P:T→Prop}(cl: ∀ x (i:Nat),P x→i<ni→P (next x (i:Int))): ∀ {w:List Int} {x:T},P x→WIn ni w→P (runT next x w)
 | [],x,a,_=>a
 |i::w,x,a,b=>by
  obtain⟨c,d⟩:=b.head
  have:=cl x i.toNat a (by omega)
  rw [show ((i.toNat:Nat):Int)=i by omega] at this
  exact zic (x:=next x i) cl this b.tail
theorem CM.mrg_short{m:Mach}(h:CM m){s t:Int}(b:InS m s)(c:InS m t){v:List Int}(d:WIn (nIn m) v)(e:yo m s v=yo m t v):
 ∃ w,Lst (GV.pnx m) peq (nIn m) (s,t) w∧w.length<m.rows.length*m.rows.length:=by
 have k:=h.nin
 refine zha (fun S f g=>zol S f fun x a=>?_) d ((h.mrg b c d).2 e)
 obtain⟨u,j,rfl⟩:=g x a
 exact zic (P:=InP m) (fun x i a hi=>h.pnx a (by omega) (by omega)) ⟨b,c⟩ j
end GV
end Go.Proofs.YtjmlpkkbmnjhcaaGreat

namespace Go.Proofs.YtjmlpkkbmnjhcaaGreat
namespace GV
set_option maxRecDepth 100000
theorem zve{N:Nat}{a b:List Int}(f:a.length<N)(g:a.length≤4611686018427387904):z0u N a b=some (cmpL a b):=by
 unfold z0u cmpL
 by_cases h0:a.length≠b.length
 ·rw [ut (by omega)]
  by_cases h1:a.length<b.length
  ·rw [ut (by omega),if_pos h1]
  ·rw [ul (by omega),if_neg h1,if_pos (by omega)]
 ·rw [ul (by omega),if_neg (by omega),if_neg (by omega)]
  have h:a.length=b.length:=by omega
  have e:nk N a b N 0=some (if ze1 a b=0 then Ex.go () else Ex.rt (ze1 a b)):=by
   refine z19 (σ:=Unit) (fun F k _=>nk N a b F (k:Int)) a.length (fun k _=>ze1 (a.drop k) (b.drop k)=ze1 a b) _ (fun F k _ d hi=>?_) (fun F _ hi=>?_) N 0 () (Nat.zero_le _) (by omega) rfl
   ·simp only [nk]
    rw [ut (by omega),zm (ky d),zm (ky (by omega))]
    have c:=zo7 d (show k<b.length by omega)
    rw [hi] at c
    by_cases h3:a.getD k default<b.getD k default
    ·left
     refine Eq.trans (ut h3) ?_
     rw [if_pos h3] at c;rw [c];rfl
    ·refine(show _∨_ from ?_)
     rw [if_neg h3] at c
     by_cases h4:b.getD k default<a.getD k default
     ·left
      refine Eq.trans (ul h3) ?_
      rw [zm (ky d),zm (ky (by omega))]
      refine Eq.trans (ut h4) ?_
      rw [if_pos h4] at c;rw [c];rfl
     ·right
      rw [if_neg h4] at c
      refine⟨(),c.symm,Eq.trans (ul h3) ?_⟩
      rw [zm (ky d),zm (ky (by omega))]
      refine Eq.trans (ul h4) ?_
      rw [zm (j3 (by omega))];rfl
   ·simp only [nk]
    rw [ul (by omega)]
    have:ze1 a b=0:=by rw [←hi,List.drop_of_length_le (Nat.le_refl _)];rfl
    rw [if_pos this]
  rw [qh e]
  by_cases h5:ze1 a b=0
  ·rw [if_pos h5,h5];rfl
  ·rw [if_neg h5];rfl
theorem zrp{N:Nat}{m:Mach}(a:Small m)(b:200≤N)(s:Int):z6l N m s=some (z9g m s):=by
 unfold z6l z9g
 rw [qh (zra a b)]
 by_cases h:z2l m≠0
 ·rw [ut h,if_pos h]
 ·rw [ul h,if_neg h]
  by_cases h1:s<0∨(m.rows.length:Int)≤s
  ·rw [ct (by simpa using h1),if_pos h1]
  ·rw [cf (by simpa using h1),if_neg h1]
theorem z9y{N:Nat}{w:List Int}{n:Int}(b:w.length<N)(c:w.length≤4611686018427387904):z6u N w n=some (z0f w n):=by
 unfold z6u
 by_cases h:16<n∨256<w.length
 ·rw [ct (by simp;omega),zqv h]
 ·rw [cf (by simp;omega)]
  rw [q1j (fun _=>zws (p:=z8v n) (fun j d=>rfl) b c)]
  by_cases h1:n<1∨w.any (z8v n)=true
  ·rw [zrl h h1]
   refine ct ?_
   by_cases a:n<1
   ·rw [decide_eq_true a];rfl
   ·rw [decide_eq_false a];exact h1.resolve_left a
  ·rw [zr6 h h1]
   refine cf ?_
   rw [decide_eq_false (fun a=>h1 (.inl a))]
   exact Bool.eq_false_iff.2 fun a=>h1 (.inr a)
theorem zy9{N:Nat}{m:Mach}(e:MOk m){s:Int}{w:List Int}(g:SOk m s)(f:WOk m.inputs w)(j:w.length<N)(l:w.length≤1000000):z8e N m s w=some (yx m s w,yo m s w):=by
 unfold z8e
 rw [zm ⟨by omega,by omega,by omega⟩,zl4]
 refine Eq.trans (qh (x:=(yo m s w,yx m s w)) ?_) rfl
 refine z19 (σ:=Int×List Int) (fun F k x=>z3h N m w F x.1 (k:Int) x.2) w.length (fun k x=>x.1=yo m s (w.take k)∧x.2=yx m s (w.take k)++List.replicate (w.length-k) (0:Int)) _ (fun F k x a hi=> .inr ?_) (fun F x hi=>?_) N 0 (s,List.replicate w.length 0) (Nat.zero_le _) (by omega) (by simp [yo,yx])
 ·obtain⟨t,X⟩:=x
  obtain⟨rfl,rfl⟩:=hi
  have d:=zp5 m e s (w.take k) g (zqw f k)
  have b:=f k a
  refine⟨(yo m s (w.take (k+1)),yx m s (w.take (k+1))++List.replicate (w.length-(k+1)) (0:Int)),⟨rfl,rfl⟩,?_⟩
  simp only [z3h]
  rw [ut (by omega),zm (ky a),show z4y N=some ⟨-1,-1⟩ from rfl,z2r]
  have i:(bif decide (yo m s (w.take k)≠ -1) then gd (okI m.rows (yo m s (w.take k)))<|gd (okI (ix m.rows (yo m s (w.take k))) (ix w (k:Int)))<|some ((ix (ix m.rows (yo m s (w.take k))) (ix w (k:Int))).to,(ix (ix m.rows (yo m s (w.take k))) (ix w (k:Int))).out) else some ((-1:Int),(-1:Int)))=
   some ((z5c m (yo m s (w.take k)) (w.getD k default)).to,(z5c m (yo m s (w.take k)) (w.getD k default)).out):=by
   rcases d with h|h
   ·rw [h];rfl
   ·have hrow:=e.row (yo m s (w.take k)).toNat (by omega)
    rw [ut (by omega),zm h,zm (show okI (ix m.rows (yo m s (w.take k))) (ix w (k:Int)) from⟨b.1,show w.getD k default<((m.rows.getD (yo m s (w.take k)).toNat default).length:Int) from by rw [hrow];exact b.2⟩)]
    unfold z5c
    rw [if_neg (by omega)];rfl
  refine Eq.trans (qh i) ?_
  have c:=z1g m s (w.take k)
  rw [List.length_take] at c
  rw [zm (ky (by rw [List.length_append,List.length_replicate,c];omega)),zm (j3 (by omega)),zt0,q0l _ _ _ _ (by omega) a,←znz m s w k a,←znb m s w k a];rfl
 ·obtain⟨t,X⟩:=x
  obtain⟨rfl,rfl⟩:=hi
  simp only [z3h]
  rw [ul (by omega),List.take_length,Nat.sub_self,List.replicate_zero,List.append_nil]
theorem q5c{N:Nat}{m:Mach}(c:Small m){s:Int}{w:List Int}(e:400≤N)(a:w.length<N)(hl':w.length≤1000000):z8b N m s w=some (q61 m s w,zwo m s w):=by
 unfold z8b q61 zwo
 rw [qh (zrp c (by omega) s)]
 by_cases h:z9g m s≠0
 ·rw [ut h,if_pos h,if_pos h]
 ·rw [ul h,if_neg h,if_neg h,qh (z9y a (by omega))]
  by_cases h1:z0f w m.inputs≠0
  ·rw [ut h1,if_pos h1]
  ·have b:=zrr (m:=m) (s:=s) (by simpa using h)
   have d:=zd2 (w:=w) (n:=m.inputs) (by simpa using h1)
   rw [ul h1,if_neg h1,qh (zy9 b.1 (.inr b.2) d.1 a hl'),show z0f w m.inputs=0 by simpa using h1]
theorem q0c{N:Nat}{m:Mach}(c:Small m){s:Int}{w:List Int}(e:400≤N)(a:w.length<N)(hl':w.length≤1000000):z5h N m s w=some (q69 m s w,zwo m s w):=by
 unfold z5h q69 zwo
 rw [qh (zrp c (by omega) s)]
 by_cases h:z9g m s≠0
 ·rw [ut h,if_pos h,if_pos h]
 ·rw [ul h,if_neg h,if_neg h,qh (z9y a (by omega))]
  by_cases h1:z0f w m.inputs≠0
  ·rw [ut h1,if_pos h1]
  ·have b:=zrr (m:=m) (s:=s) (by simpa using h)
   have d:=zd2 (w:=w) (n:=m.inputs) (by simpa using h1)
   rw [ul h1,if_neg h1,qh (zy9 b.1 (.inr b.2) d.1 a hl'),show z0f w m.inputs=0 by simpa using h1]
theorem zqj(m:Mach)(a:MOk m): ∀ k,k≤m.rows.length→zd6 m k≤m.inputs.toNat*k
 |0,_=>by simp [zd6]
 |k+1,h=>by
  have b:=zqj m a k (by omega)
  have c:=a.row k (by omega)
  have d:=zk9 (m.rows.getD k default) (m.rows.getD k default).length
  rw [zd4 m k (by omega),Nat.mul_succ]
  omega
theorem zvg{m:Mach}(a:MOk m){k i:Nat}(b:k<m.rows.length)(hi:i<(m.rows.getD k default).length)(c:((m.rows.getD k default).getD i default).to<0): ∀ j,k<j→j≤m.rows.length→zd6 m j<m.inputs.toNat*j
 |0,h,_=>by omega
 |j+1,h,g=>by
  have hrow:=a.row j (by omega)
  have l:=zk9 (m.rows.getD j default) (m.rows.getD j default).length
  rw [zd4 m j (by omega),Nat.mul_succ]
  by_cases e:k=j
  ·subst e
   have n:zd6 m k≤m.inputs.toNat*k:=zqj m a k (by omega)
   have o:zh8 (m.rows.getD k default) (m.rows.getD k default).length<(m.rows.getD k default).length:=by
    unfold zh8
    rw [List.take_length]
    refine Nat.lt_of_le_of_ne List.countP_le_length fun d=>?_
    have f:=List.countP_eq_length.1 d _ (z2e hi)
    exact absurd (of_decide_eq_true f) (by omega)
   omega
  ·have:=zvg a b hi c j (by omega) (by omega)
   omega
theorem zxd{m:Mach}(a:MOk m)(h:zdx m=true){k i:Nat}(b:k<m.rows.length)(hi:i<(m.rows.getD k default).length):0≤((m.rows.getD k default).getD i default).to:=by
 by_cases hn:((m.rows.getD k default).getD i default).to<0
 ·have e:=zvg a b hi hn m.rows.length b (Nat.le_refl _)
  unfold zdx at h
  have c:=of_decide_eq_true h
  rw [a.mul.2] at c
  have d:zxj m=m.rows.length*m.inputs.toNat:=Int.ofNat.inj c
  unfold zxj at d
  rw [Nat.mul_comm] at d
  omega
 ·omega
theorem q1u{m:Mach}(a:MOk m){k i:Nat}(b:k<m.rows.length)(hi:i<m.inputs.toNat):(za9 m (k*m.inputs.toNat+i)).to= -1∧(za9 m (k*m.inputs.toNat+i)).out= -1∧ ¬0≤((m.rows.getD k default).getD i default).to∨
 ¬((za9 m (k*m.inputs.toNat+i)).to= -1∧(za9 m (k*m.inputs.toNat+i)).out= -1)∧0≤((m.rows.getD k default).getD i default).to:=by
 rw [zi2 hi]
 have hrow:=a.row k b
 rcases a.edge k i b (by omega) with h|h
 ·left;omega
 ·right;omega
theorem zoj{m:Mach}(a:MOk m): ∀ k,k≤m.rows.length→zd6 m k+(z9m m (k*m.inputs.toNat)).length=k*m.inputs.toNat
 |0,_=>by simp [zd6,z9m]
 |k+1,f=>by
  have ih:=zoj a k (by omega)
  have hrow:=a.row k (by omega)
  have inner: ∀ i,i≤m.inputs.toNat→zh8 (m.rows.getD k default) i+(z9m m (k*m.inputs.toNat+i)).length=(z9m m (k*m.inputs.toNat)).length+i:=by
   intro i
   induction i with
   |zero=>intro _;simp [znf]
   |succ i ih'=>
    intro hi
    have g:=ih' (by omega)
    have b:i<(m.rows.getD k default).length:=by omega
    rw [zn6 _ _ b,←Nat.add_assoc,zjj,List.length_append]
    rcases q1u a (by omega:k<m.rows.length) (by omega:i<m.inputs.toNat) with⟨c,d,e⟩|⟨c,d⟩
    ·rw [if_neg e,if_pos ⟨c,d⟩,List.length_singleton];omega
    ·rw [if_pos d,if_neg c,List.length_nil];omega
  have:=inner m.inputs.toNat (Nat.le_refl _)
  rw [zd4 m k (by omega),Nat.succ_mul,show (m.rows.getD k default).length=m.inputs.toNat by omega]
  omega
theorem q0q{m:Mach}(a:MOk m):zhh m=zdx m:=by
 have b:z2l m=0:=(z6w m).2 a
 have hmul:=a.mul
 have c:=zoj a m.rows.length (Nat.le_refl _)
 have d:(ziw m).length=(z9m m (m.rows.length*m.inputs.toNat)).length:=rfl
 have e:zxj m=zd6 m m.rows.length:=rfl
 unfold zhh zdx
 rw [if_neg (by rw [b];simp),hmul.2]
 by_cases h:(ziw m).length=0
 ·rw [decide_eq_true (by omega),decide_eq_true (by omega)]
 ·rw [decide_eq_false (by omega),decide_eq_false (by omega)]
end GV
end Go.Proofs.YtjmlpkkbmnjhcaaGreat

namespace Go.Proofs.YtjmlpkkbmnjhcaaGreat
namespace GV
set_option maxRecDepth 100000
def z2u(X:List (List Int))(s t:Nat):Int:=(X.getD s default).getD t default
structure TSh (n:Nat) (X:List (List Int)):Prop where
 len:X.length=n
 row: ∀ s,s<n→(X.getD s default).length=n
theorem z7o{α:Type}[Inhabited α](X:List α)(k j:Nat)(v:α)(a:k<X.length):(X.set k v).getD j default=if j=k then v else X.getD j default:=by
 rw [List.getD_eq_getElem?_getD,List.getElem?_set]
 by_cases e:k=j
 ·subst e;rw [if_pos rfl,if_pos rfl,if_pos a];rfl
 ·rw [if_neg e,if_neg (fun h=>e h.symm),List.getD_eq_getElem?_getD]
theorem zps{n:Nat}{X:List (List Int)}(h:TSh n X){s t:Nat}(c:s<n)(d:t<n)(v:Int)(a b:Nat)(f:b<n):z2u (up X (s:Int) (up (ix X (s:Int)) (t:Int) v)) a b=if a=s∧b=t then v else z2u X a b:=by
 show ((X.set s ((X.getD s default).set t v)).getD a default).getD b default=_
 rw [z7o _ _ _ _ (by rw [h.len];exact c)]
 by_cases e:a=s
 ·subst e
  rw [if_pos rfl,z7o _ _ _ _ (by rw [h.row a c];exact d)]
  by_cases e2:b=t
  ·rw [if_pos e2,if_pos ⟨rfl,e2⟩]
  ·rw [if_neg e2,if_neg (fun h=>e2 h.2)];rfl
 ·rw [if_neg e,if_neg (fun h=>e h.1)];rfl
theorem q5n{n:Nat}{X:List (List Int)}(h:TSh n X){s t:Nat}(b:s<n)(d:t<n)(v:Int):TSh n (up X (s:Int) (up (ix X (s:Int)) (t:Int) v)):=by
 refine⟨by show (X.set _ _).length=n;rw [List.length_set,h.len],fun a c=>?_⟩
 show ((X.set s ((X.getD s default).set t v)).getD a default).length=n
 rw [z7o _ _ _ _ (by rw [h.len];exact b)]
 by_cases e:a=s
 ·rw [if_pos e,List.length_set];exact h.row s b
 ·rw [if_neg e];exact h.row a c
def tgt(m:Mach)(s i:Nat):Nat:=(edI m (s:Int) (i:Int)).to.toNat
theorem CM.tgt{m:Mach}(h:CM m){s i:Nat}(c:s<m.rows.length)(hi:i<nIn m):GV.tgt m s i<m.rows.length∧(edI m (s:Int) (i:Int)).to=(GV.tgt m s i:Int):=by
 have d:=h.nin
 obtain⟨⟨a,b⟩,_⟩:=h.edge (s:=(s:Int)) (i:=(i:Int)) ⟨by omega,by omega⟩ (by omega) (by omega)
 unfold GV.tgt
 exact⟨by omega,by omega⟩
def gdP(m:Mach)(D:List (List Int))(n:Int)(a b k:Nat):Prop:= ∃ i,i<k∧z2u D (tgt m a i) (tgt m b i)=n-1
structure PT (m:Mach) (D:List (List Int)) (n:Int) (Q:Nat→Nat→Prop) (X:List (List Int)):Prop where
 sh:TSh m.rows.length X
 val: ∀ a b,a<m.rows.length→b<m.rows.length→z2u X a b=z2u D a b∨(z2u D a b= -1∧z2u X a b=n∧gdP m D n a b (nIn m))
 done: ∀ a b,a<m.rows.length→b<m.rows.length→Q a b→z2u D a b= -1→gdP m D n a b (nIn m)→z2u X a b=n
theorem PT.weak{m:Mach}{D:List (List Int)}{n:Int}{Q Q':Nat→Nat→Prop}{X:List (List Int)}(h:PT m D n Q X)(e: ∀ a b,a<m.rows.length→b<m.rows.length→Q' a b→Q a b):PT m D n Q' X:=⟨h.sh,h.val,fun a b c d q=>h.done a b c d (e a b c d q)⟩
theorem q0p{N:Nat}{m:Mach}(o:CM m)(T:5000≤N){D X:List (List Int)}{n s t:Nat}(U:1≤n)(C:n≤100000)(z: ∀ a b,a<m.rows.length→b<m.rows.length→ -1≤z2u D a b)(d:s<m.rows.length)(f:t<m.rows.length){Q:Nat→Nat→Prop}(c:PT m D n Q X):
 ∃ r,ax N m n s t N 0 X=some r∧PT m D n (fun a b=>Q a b∨(a=s∧b=t)) r:=by
 have E:=o.nin
 have G:=o.ok.i2
 have hs':okI m.rows (s:Int):=ky d
 have ht':okI m.rows (t:Int):=ky f
 refine rq (fun F k X=>ax N m n s t F (k:Int) X) (nIn m) (fun j X=>PT m D n Q X∧(z2u D s t= -1→gdP m D n s t j→z2u X s t=n)) _ (fun F j X u c=> .inr ?_) (fun F X c=>?_) N 0 X (Nat.zero_le _) (by show m.inputs.toNat-0<N;omega) ⟨c,fun _ ⟨i,hi,_⟩=>by omega⟩
 ·obtain⟨c,hd⟩:=c
  obtain⟨ts,es⟩:=o.tgt d u
  obtain⟨tt,et⟩:=o.tgt f u
  have H:(ix (ix m.rows (s:Int)) (j:Int)).to=(tgt m s j:Int):=es
  have I:(ix (ix m.rows (t:Int)) (j:Int)).to=(tgt m t j:Int):=et
  have J:okI (ix m.rows (s:Int)) (j:Int):=o.okr ⟨by omega,by omega⟩ (by omega) (by omega)
  have K:okI (ix m.rows (t:Int)) (j:Int):=o.okr ⟨by omega,by omega⟩ (by omega) (by omega)
  have A:okI X (s:Int):=ky (by rw [c.sh.len];exact d)
  have B:okI (ix X (s:Int)) (t:Int):=ky (by rw [lg,c.sh.row s d];exact f)
  have L:okI X (tgt m s j:Int):=ky (by rw [c.sh.len];exact ts)
  have M:okI (ix X (tgt m s j:Int)) (tgt m t j:Int):=ky (by rw [lg,c.sh.row _ ts];exact tt)
  have O:ix (ix X (s:Int)) (t:Int)=z2u X s t:=rfl
  have P:ix (ix X (tgt m s j:Int)) (tgt m t j:Int)=z2u X (tgt m s j) (tgt m t j):=rfl
  simp only [ax]
  rw [ut (by omega),zm A,zm B,zm (fun _=>hs'),zm (fun _=>J),H,zm (fun _=>L),zm (fun _=>ht'),zm (fun _=>K),I,zm (fun _=>M),zm (fun _=>j3 (by omega)),O,P]
  have V:=c.val s t d f
  have R:=c.val _ _ ts tt
  have W:=z s t d f
  have Y:=z _ _ ts tt
  by_cases hc:z2u X s t<0∧z2u X (tgt m s j) (tgt m t j)=(n:Int)-1
  ·obtain⟨v,w⟩:=hc
   rw [decide_eq_true v,decide_eq_true w]
   simp only [Bool.and_self,cond_true]
   rw [zm A,zm B,z2r,zm (j3 (by omega)),uf]
   have x:z2u D s t= -1:=by omega
   have y:z2u D (tgt m s j) (tgt m t j)=(n:Int)-1:=by omega
   refine⟨_,⟨⟨q5n c.sh d f _,fun a b p h=>?_,fun a b p h q g l=>?_⟩,fun _ _=>?_⟩,rfl⟩
   ·rw [zps c.sh d f _ a b h]
    by_cases e:a=s∧b=t
    ·rw [if_pos e];obtain⟨rfl,rfl⟩:=e
     exact .inr ⟨x,rfl,j,u,y⟩
    ·rw [if_neg e];exact c.val a b p h
   ·rw [zps c.sh d f _ a b h]
    by_cases e:a=s∧b=t
    ·rw [if_pos e]
    ·rw [if_neg e];exact c.done a b p h q g l
   ·rw [zps c.sh d f _ s t f,if_pos ⟨rfl,rfl⟩]
  ·have h:(decide (z2u X s t<0)&&decide (z2u X (tgt m s j) (tgt m t j)=(n:Int)-1))=false:=by
    by_cases g:z2u X s t<0
    ·rw [decide_eq_true g,Bool.true_and];exact decide_eq_false fun l=>hc ⟨g,l⟩
    ·rw [decide_eq_false g,Bool.false_and]
   rw [h,cond_false,z2r,zm (j3 (by omega)),uf]
   refine⟨X,⟨c,fun g ⟨i,hi,l⟩=>?_⟩,rfl⟩
   by_cases e:i=j
   ·subst e
    have: ¬z2u X s t<0:=fun S=>hc ⟨S,by omega⟩
    omega
   ·exact hd g ⟨i,by omega,l⟩
 ·obtain⟨c,hd⟩:=c
  simp only [ax]
  rw [ul (by omega)]
  refine⟨X,rfl,c.sh,c.val,fun a b p h q g l=>?_⟩
  rcases q with q|⟨rfl,rfl⟩
  ·exact c.done a b p h q g l
  ·exact hd g l
theorem zyv{N:Nat}{m:Mach}(e:CM m)(f:5000≤N){D X:List (List Int)}{n s:Nat}(g:1≤n)(d:n≤100000)(h: ∀ a b,a<m.rows.length→b<m.rows.length→ -1≤z2u D a b)(i:s<m.rows.length)(c:PT m D n (fun a b=>a<s) X):
 ∃ r,ai N m n s N 0 X=some r∧PT m D n (fun a b=>a<s+1) r:=by
 have l:=e.ok.r2
 refine rq (fun F k X=>ai N m n s F (k:Int) X) m.rows.length (fun j X=>PT m D n (fun a b=>a<s∨(a=s∧b<j)) X) _ (fun F j X o c=> .inr ?_) (fun F X c=>?_) N 0 X (Nat.zero_le _) (by omega) (c.weak fun a b _ _ q=>by omega)
 ·obtain⟨r,p,t⟩:=q0p e f g d h i o c
  simp only [ai]
  rw [ut (by omega),qh p,zm (j3 (by omega)),uf]
  exact⟨r,t.weak fun a b _ _ q=>by omega,rfl⟩
 ·simp only [ai]
  rw [ul (by omega)]
  exact⟨X,rfl,c.weak fun a b _ u q=>by omega⟩
theorem zzt{N:Nat}{m:Mach}(f:CM m)(g:5000≤N){D:List (List Int)}{n:Nat}(h:1≤n)(c:n≤100000)(i: ∀ a b,a<m.rows.length→b<m.rows.length→ -1≤z2u D a b)(d:TSh m.rows.length D):
 ∃ r,ah N m n N 0 D=some r∧PT m D n (fun a b=>True) r:=by
 have l:=f.ok.r2
 refine rq (fun F k X=>ah N m n F (k:Int) X) m.rows.length (fun j X=>PT m D n (fun a b=>a<j) X) _ (fun F j X o e=> .inr ?_) (fun F X e=>?_) N 0 D (Nat.zero_le _) (by omega) ⟨d,fun a b _ _=> .inl rfl,fun a b _ _ q=>by omega⟩
 ·obtain⟨r,p,s⟩:=zyv f g h c i o e
  simp only [ah]
  rw [ut (by omega),qh p,zm (j3 (by omega)),uf]
  exact⟨r,s,rfl⟩
 ·simp only [ah]
  rw [ul (by omega)]
  exact⟨X,rfl,e.weak fun a b t _ _=>t⟩
structure DT (m:Mach) (k:Nat) (D:List (List Int)):Prop where
 sh:TSh m.rows.length D
 val: ∀ s t:Nat,s<m.rows.length→t<m.rows.length→(z2u D s t= -1∧ ∀ w,WIn (nIn m) w→w.length≤k→yo m s w≠yo m t w)∨(0≤z2u D s t∧z2u D s t≤k∧ ∃ w,WIn (nIn m) w∧yo m s w=yo m t w∧(w.length:Int)=z2u D s t∧ ∀ v,WIn (nIn m) v→yo m s v=yo m t v→w.length≤v.length)
theorem z7h{m:Mach}(a:CM m){s:Nat}(b:s<m.rows.length){i:Nat}(hi:i<nIn m)(w:List Int):yo m (s:Int) ((i:Int)::w)=yo m (tgt m s i:Int) w:=by
 have:=(a.tgt b hi).2
 show yo m (z5c m s i).to w=_
 rw [zcy ⟨by omega,by omega⟩,this]
theorem q31{m:Mach}(a:CM m){k:Nat}{D X:List (List Int)}(q:DT m k D)(r:PT m D ((k+1:Nat):Int) (fun _ _=>True) X):DT m (k+1) X:=by
 refine⟨r.sh,fun s t c d=>?_⟩
 have f:=r.val s t c d
 rcases q.val s t c d with⟨x,o⟩|⟨x,o,w,g,l,p,hmin⟩
 ·by_cases hg:gdP m D ((k+1:Nat):Int) s t (nIn m)
  ·have G:=r.done s t c d trivial x hg
   right
   obtain⟨i,hi,C⟩:=hg
   have ts:=(a.tgt c hi).1
   have tt:=(a.tgt d hi).1
   rcases q.val _ _ ts tt with⟨y,_⟩|⟨y,z,w,g,l,p,hmin⟩
   ·omega
   ·refine⟨by omega,by omega,(i:Int)::w,g.cons (by omega) (by omega),?_,by simp only [List.length_cons];omega,fun v f A=>?_⟩
    ·rw [z7h a c hi,z7h a d hi,l]
    ·have: ¬v.length≤k:=fun h=>o v f h A
     simp only [List.length_cons];omega
  ·left
   refine⟨?_,fun w g p b=>?_⟩
   ·rcases f with f|⟨_,_,hg'⟩
    ·omega
    ·exact absurd hg' hg
   ·by_cases hlk:w.length≤k
    ·exact o w g hlk b
    ·cases w with
     |nil=>simp at hlk
     |cons i w=>
      simp only [List.length_cons] at p hlk
      obtain⟨H,I⟩:=g.head
      obtain⟨j,rfl⟩: ∃ j:Nat,i=(j:Int):=⟨i.toNat,by omega⟩
      have n:j<nIn m:=by omega
      rw [z7h a c n,z7h a d n] at b
      have ts:=(a.tgt c n).1
      have tt:=(a.tgt d n).1
      rcases q.val _ _ ts tt with⟨y,z⟩|⟨y,z,u,E,B,F,hmin⟩
      ·exact z w g.tail (by omega) b
      ·have:=hmin w g.tail b
       by_cases e:u.length=k
       ·exact hg ⟨j,n,by omega⟩
       ·exact o ((j:Int)::u) (E.cons (by omega) (by omega)) (by simp only [List.length_cons];omega) (by rw [z7h a c n,z7h a d n,B])
 ·right
  have e:z2u X s t=z2u D s t:=by
   rcases f with f|⟨f,_⟩
   ·exact f
   ·omega
  rw [e]
  exact⟨x,by omega,w,g,l,p,hmin⟩
theorem DT.ge{m:Mach}{k:Nat}{D:List (List Int)}(h:DT m k D): ∀ a b,a<m.rows.length→b<m.rows.length→ -1≤z2u D a b:=fun a b c d=>by
 rcases h.val a b c d with⟨e,_⟩|⟨e,_⟩<;>omega
theorem zzz{N:Nat}{m:Mach}(a:CM m)(c:5000≤N):dx N m N 0 (List.replicate m.rows.length 0)=some (List.replicate m.rows.length (-1)):=by
 have b:=a.ok.r2
 have h:=zhq (fun F k X=>dx N m F (k:Int) X) m.rows.length (fun k=>List.replicate k (-1)++List.replicate (m.rows.length-k) (0:Int)) (List.replicate m.rows.length (-1)) (fun F k d=>?_) (fun F=>?_) (F:=N) (by omega)
 ·simpa using h
 ·simp only [dx]
  rw [ut (by omega),zm (ky (by simp;omega)),zm (j3 (by omega)),uf]
  show dx N m F _ ((List.replicate k (-1)++List.replicate (m.rows.length-k) (0:Int)).set k (-1))=_
  rw [show m.rows.length-k=(m.rows.length-(k+1))+1 by omega,List.replicate_succ,List.set_append_right _ _ (by simp)]
  simp [List.replicate_succ',List.append_assoc]
 ·simp only [dx]
  rw [ul (by omega)]
  simp
def zef(n s:Nat):List Int:=(List.replicate n (-1)).set s 0
theorem zyi{N:Nat}{m:Mach}(a:CM m)(b:5000≤N):ic N m N [] 0=some ((List.range m.rows.length).map (zef m.rows.length)):=by
 have c:=a.ok.r2
 refine zhq (fun F k X=>ic N m F X (k:Int)) m.rows.length (fun k=>(List.range k).map (zef m.rows.length)) _ (fun F k d=>?_) (fun F=>?_) (by omega)
 ·simp only [ic]
  rw [ut (by omega),zm ⟨by omega,by omega,by omega⟩,zl4,qh (zzz a b),zm (ky (by simp;exact d)),zm ⟨by simp;omega,by simp;omega⟩,zm (j3 (by omega)),uf,List.range_succ,List.map_append];rfl
 ·simp only [ic]
  rw [ul (by omega)]
theorem q0h{n s t:Nat}(a:s<n)(b:t<n):z2u ((List.range n).map (zef n)) s t=if s=t then 0 else-1:=by
 unfold z2u
 rw [show ((List.range n).map (zef n)).getD s default=zef n s by simp [List.getD_eq_getElem?_getD,a]]
 unfold zef
 rw [z7o _ _ _ _ (by simpa using a)]
 by_cases e:s=t
 ·rw [if_pos e,if_pos e.symm]
 ·rw [if_neg e,if_neg (fun h=>e h.symm)];simp [List.getD_eq_getElem?_getD,b]
theorem zzu{m:Mach}:DT m 0 ((List.range m.rows.length).map (zef m.rows.length)):=by
 refine⟨⟨by simp,fun s a=>?_⟩,fun s t a c=>?_⟩
 ·rw [show ((List.range m.rows.length).map (zef m.rows.length)).getD s default=zef m.rows.length s by simp [List.getD_eq_getElem?_getD,a]]
  simp [zef]
 ·rw [q0h a c]
  by_cases e:s=t
  ·subst e;rw [if_pos rfl]
   exact .inr ⟨by omega,by omega,[],WIn.nil,rfl,rfl,fun v _ _=>Nat.zero_le _⟩
  ·rw [if_neg e]
   refine .inl ⟨rfl,fun w _ d b=>?_⟩
   rw [List.length_eq_zero_iff.1 (Nat.le_zero.1 d)] at b
   have:(s:Int)=(t:Int):=b
   omega
structure PD (m:Mach) (D:List (List Int)):Prop where
 sh:TSh m.rows.length D
 val: ∀ s t:Nat,s<m.rows.length→t<m.rows.length→(z2u D s t= -1∧ ∀ w,WIn (nIn m) w→yo m s w≠yo m t w)∨(∃ w,Lst (pnx m) peq (nIn m) (s,t) w∧(w.length:Int)=z2u D s t)
theorem q04{N:Nat}{m:Mach}(a:CM m)(i:5000≤N): ∃ D,z4u N m=some D∧PD m D:=by
 have d:=a.ok.r2
 have v:m.rows.length*m.rows.length≤64*64:=Nat.mul_le_mul d d
 have l:(m.rows.length:Int)*(m.rows.length:Int)=((m.rows.length*m.rows.length:Nat):Int):=by rw [Int.natCast_mul]
 have x: ∃ r,oo N m N 1 ((List.range m.rows.length).map (zef m.rows.length))=some r∧DT m (m.rows.length*m.rows.length) r:=by
  have:=rq (fun F k X=>oo N m F ((k+1:Nat):Int) X) (m.rows.length*m.rows.length) (fun j X=>DT m j X) (fun r=>DT m (m.rows.length*m.rows.length) r) (fun F j X B e=> .inr ?_) (fun F X e=>?_) N 0 ((List.range m.rows.length).map (zef m.rows.length)) (Nat.zero_le _) (by omega) zzu
  ·exact this
  ·obtain⟨r,g,y⟩:=zzt a i (n:=j+1) (by omega) (by omega) e.ge e.sh
   simp only [oo]
   rw [l,zm (j3 (by omega)),ut (by omega),qh g,zm (j3 (by omega)),uf]
   exact⟨r,q31 a e y,rfl⟩
  ·simp only [oo]
   rw [l,zm (j3 (by omega)),ul (by omega)]
   exact⟨X,rfl,e⟩
 obtain⟨r,g,o⟩:=x
 refine⟨r,?_,o.sh,fun s t z A=>?_⟩
 ·unfold z4u
  rw [qh (zyi a i),qh g]
 ·have is:InS m (s:Int):=⟨by omega,by omega⟩
  have it:InS m (t:Int):=⟨by omega,by omega⟩
  rcases o.val s t z A with⟨p,q⟩|⟨p,q,w,f,b,C,hmin⟩
  ·refine .inl ⟨p,fun w f b=>?_⟩
   obtain⟨u,c,h⟩:=a.mrg_short is it f b
   exact q u c.1 (by omega) ((a.mrg is it c.1).1 c.2.1)
  ·obtain⟨u,c,h⟩:=a.mrg_short is it f b
   refine .inr ⟨u,c,?_⟩
   have E:=hmin u c.1 ((a.mrg is it c.1).1 c.2.1)
   have G:=zhl (c.2.2 w f ((a.mrg is it f).2 b))
   omega
end GV
end Go.Proofs.YtjmlpkkbmnjhcaaGreat
