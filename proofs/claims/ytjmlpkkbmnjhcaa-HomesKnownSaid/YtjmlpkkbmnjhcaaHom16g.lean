
import Derived.Test.YtjmlpkkbmnjhcaaBit16
set_option linter.unusedVariables false
set_option linter.unusedSimpArgs false
set_option linter.unusedSectionVars false
namespace Go.Proofs.Ytjmlpkkbmnjhcaa
namespace GV
set_option maxRecDepth 100000
abbrev allQ:Nat→Bool:=fun _=>true
theorem z5n{σ ρ:Type}(L:Nat→Nat→σ→Option ρ)(n:Nat)(inv:Nat→σ→Prop)(r:ρ)(step: ∀ F k s,k<n→inv k s→ ∃ s',inv (k+1) s'∧L (F+1) k s=L F (k+1) s')(fin: ∀ F s,inv n s→L (F+1) n s=some r)(F:Nat)(s:σ)(c:n<F)(hi:inv 0 s):L F 0 s=some r:=
 z6w L n inv r (fun F k s a b=> .inr (step F k s a b)) fin F 0 s (Nat.zero_le _) (by omega) hi
theorem ztk{N:Nat}{m:Mach}(h:CM m)(t:5000≤N){x:Int}(d:0≤x∧x≤65535){i:Nat}(hi:i<nIn m)(b:m.rows.length≤16):lw N ⟨m⟩ x (i:Int)=some (zg2 m x i allQ):=by
 have f:=h.nin
 have g:mr N ⟨m⟩ x (i:Int) N 0 0=some (zg2 m x i allQ):=by
  refine z5n (fun F k y=>mr N ⟨m⟩ x (i:Int) F y (k:Int)) m.rows.length (fun k y=>y=bmk (z5g m x i allQ k) m.rows.length) _ (fun F k y e c=>?_) (fun F y c=>?_) N 0 (by omega) ?_
  ·subst c
   obtain⟨j,et⟩:=h.tgt e hi
   obtain⟨l,u⟩:=z5e (z5g m x i allQ k) m.rows.length
   have v:=za7 b
   have o:=zbs (show tgt m k i<16 by omega)
   have et':(ix (ix m.rows (k:Int)) (i:Int)).to=(tgt m k i:Int):=et
   have p:okI m.rows (k:Int):=ib e
   have r:okI (ix m.rows (k:Int)) (i:Int):=h.okr ⟨by omega,by omega⟩ (by omega) (by omega)
   have a:=zep (m:=m) (x:=x) (i:=i) (k:=k) (q:=allQ) j b
   simp only [mr]
   rw [eu (by omega),zn p,zn ⟨by omega,by show (k:Int)≤16;omega⟩,zn ⟨zmc d k,by decide,by decide⟩,zqm d.1]
   cases hb:tb x k with
   |true=>
    rw [cond_true,zn r,et',zn ⟨by omega,by show (tgt m k i:Int)≤16;omega⟩,z6c (by omega),zn ⟨⟨l,by show _≤(65535:Int);omega⟩,by omega,by show _≤(65535:Int);omega⟩,z3y,zn (ui (by omega)),bn]
    rw [hb,if_pos (show (true&&allQ k)=true from rfl),z6c (by omega)] at a
    exact⟨_,a,rfl⟩
   |false=>
    rw [cond_false,z3y,zn (ui (by omega)),bn]
    rw [hb,if_neg (by simp)] at a
    exact⟨_,a,rfl⟩
  ·simp only [mr]
   rw [cu (by omega),c];rfl
  ·exact zel (Int.le_refl _) (by have:=Nat.one_le_two_pow (n:=m.rows.length);omega) fun s _=>by rw [zci];rfl
 unfold lw
 rw [qg g]
/-! ### keys-/
def b2(x:Int):List Int:=[IntKind.u8.wrap (zo x (8:Int)),IntKind.u8.wrap x]
theorem zhp{N:Nat}{l:List Int}(d:l.length<N)(e:l.length≤100000):z1q N l=some (z81 (l.flatMap b2)):=by
 have c:lc N l N [] 0=some (l.flatMap b2):=by
  refine z5n (fun F k y=>lc N l F y (k:Int)) l.length (fun k y=>y=(l.take k).flatMap b2∧y.length≤2*k) _ (fun F k y b a=>?_) (fun F y a=>?_) N [] (by omega) ⟨rfl,Nat.zero_le _⟩
  ·obtain⟨a,hlen⟩:=a
   simp only [lc]
   rw [eu (by omega),zn (ib b),zn ⟨by decide,by decide⟩,zn ⟨by simp only [List.length_cons,List.length_nil];omega,by simp only [List.length_cons,List.length_nil];omega⟩,zn (ui (by omega)),bn,z2j]
   refine⟨_,⟨?_,?_⟩,rfl⟩
   ·rw [z5m b,List.flatMap_append,a];rfl
   ·simp only [List.length_append,List.length_cons,List.length_nil];omega
  ·simp only [lc]
   rw [cu (by omega),a.1,List.take_length]
 unfold z1q
 rw [qg c]
theorem zg8{x:Int}(a:0≤x):IntKind.u8.wrap x=x%256:=by
 simp [IntKind.wrap,IntKind.signed,IntKind.bits]
theorem zu4{k:Nat}(c:k<65536):b2 (k:Int)=[((k/256:Nat):Int),((k%256:Nat):Int)]:=by
 unfold b2
 rw [show (8:Int)=((8:Nat):Int) from rfl,zbl,zg8 (Int.natCast_nonneg _),zg8 (Int.natCast_nonneg _)]
 have a:(((k/2^8:Nat):Int)%256)=((k/256:Nat):Int):=by rw [show (2:Nat)^8=256 from rfl];omega
 have b:((k:Int)%256)=((k%256:Nat):Int):=by omega
 rw [a,b]
theorem zck: ∀ {l l':List Int},(∀ x∈l,0≤x∧x≤65535)→(∀ x∈l',0≤x∧x≤65535)→z81 (l.flatMap b2)=z81 (l'.flatMap b2)→l=l'
 | [],[],_,_,_=>rfl
 | [],y::l',_,_,h=>by simp [z81,b2] at h
 |x::l,[],_,_,h=>by simp [z81,b2] at h
 |x::l,y::l',d,hl',h=>by
  have i:=d x (List.mem_cons_self ..)
  have j:=hl' y (List.mem_cons_self ..)
  obtain⟨a,rfl⟩: ∃ k:Nat,x=(k:Int):=⟨x.toNat,by omega⟩
  obtain⟨b,rfl⟩: ∃ k:Nat,y=(k:Int):=⟨y.toNat,by omega⟩
  rw [List.flatMap_cons,List.flatMap_cons,zu4 (by omega),zu4 (by omega)] at h
  simp only [z81,List.cons_append,List.nil_append,List.map_cons,List.cons.injEq] at h
  obtain⟨e,f,g⟩:=h
  have m:=zhu (by omega) (by omega) e
  have n:=zhu (by omega) (by omega) f
  have:=zck (l:=l) (l':=l') (fun z c=>d z (List.mem_cons_of_mem _ c)) (fun z c=>hl' z (List.mem_cons_of_mem _ c)) g
  rw [this]
  congr 1
  omega
/-! ### all states-/
def z2y(n:Nat):Int:=bmk (fun _=>true) n
theorem zm7: ∀ n,z2y n=((2^n-1:Nat):Int):=fun n=>by
 refine zh7 (z5e _ _).1 (Int.natCast_nonneg _) fun s=>?_
 unfold z2y
 rw [z9v,Bool.and_true]
 unfold tb
 rw [Int.toNat_natCast,Nat.testBit_two_pow_sub_one]
theorem zvk{n s:Nat}:tb (z2y n) s=decide (s<n):=by unfold z2y;rw [z9v,Bool.and_true]
theorem zhy{N:Nat}{m:Mach}(h:m.rows.length≤15):z4i N m=some (z2y m.rows.length):=by
 unfold z4i
 have a:=zbs (show m.rows.length<16 by omega)
 rw [zn ⟨by omega,by show (m.rows.length:Int)≤16;omega⟩,z6c (by omega),z2w _ (by omega) (by show _≤(65535:Int);omega),zm7]
 congr 1
 omega
/-! ### synchronizing-/
def stx(m:Mach)(x i:Int):Int:=zg2 m x i.toNat allQ
def zjv(x:Int):Bool:=decide ((pcB x:Int)=1)
def skf(x:Int):List UInt8:=z81 (b2 x)
def InB(n:Nat)(x:Int):Prop:=0≤x∧x<((2^n:Nat):Int)
theorem zsi{N:Nat}{m:Mach}(h:CM m)(p:5000≤N)(c:m.rows.length≤12):SeaOk N (nIn m) (2^m.rows.length) m.inputs (fun b=>z1x N b) (fun b=>z2g N b) (fun b q=>lw N (⟨(⟨m.inputs,m.outputs,m.rows⟩:Mach)⟩:Sd) b q) skf zjv (stx m) (InB m.rows.length):=by
 have r:=h.ok.i2;have s:=h.nin
 have u:=za7 (show m.rows.length≤16 by omega)
 have j:2^m.rows.length≤2^12:=Nat.pow_le_pow_right (by decide) c
 refine⟨s.symm,fun x a=>?_,fun x y a d e=>?_,fun x a=>?_,fun x i a hi=>?_,fun x i a hi=>z6y m x _ _,fun S t f=>?_,by omega,by omega,by omega,by omega,by omega⟩
 ·show z1x N x=_
  unfold z1x
  rw [qg (zhp (l:=[x]) (by simp;omega) (by simp))]
  simp [skf]
 ·obtain⟨x0,k⟩:=a;obtain⟨v,w⟩:=d
  have:=zck (l:=[x]) (l':=[y]) (fun z g=>by rw [List.mem_singleton.1 g];omega) (fun z g=>by rw [List.mem_singleton.1 g];omega) (by simpa [skf] using e)
  simpa using this
 ·obtain⟨x0,k⟩:=a
  show z2g N x=_
  unfold z2g
  rw [qg (zg9 (by omega))];rfl
 ·obtain⟨x0,k⟩:=a
  show lw N ⟨m⟩ x (i:Int)=_
  rw [ztk h p (by omega) hi (by omega)];rfl
 ·refine zah (fun x=>x.toNat) t (fun x a y d e=>?_) fun x a=>?_
  ·have n:=f x a;have o:=f y d
   have A:=n.1;have B:=o.1
   have e':x.toNat=y.toNat:=e
   omega
  ·obtain⟨n,o⟩:=f x a
   show x.toNat<_
   omega
theorem z8o(n:Nat):InB n (z2y n):=z5e _ _
theorem zmi{N:Nat}{m:Mach}(h:CM m)(b:5000≤N)(a:m.rows.length≤12):ru N m=some (match z4u (stx m) zjv (nIn m) 257 [(z2y m.rows.length,[])] [z2y m.rows.length] with|some w=>(w,0)|none=>([],7)):=by
 unfold ru
 rw [qg (h.ready (by omega)),cu (by decide),cu (by omega),qg (zhy (N:=N) (m:=(⟨m.inputs,m.outputs,m.rows⟩:Mach)) (by show m.rows.length≤15;omega)),qg (zld (zsi h b a) (z8o m.rows.length))];rfl
theorem zdy{m:Mach}(h:CM m): ∀ {w:List Int} {x:Int} {t:Nat},InB m.rows.length x→WIn (nIn m) w→(tb (runT (stx m) x w) t=true↔ ∃ s:Nat,s<m.rows.length∧tb x s=true∧z1a m s w=(t:Int))
 | [],x,t,k,_=>by
  show tb x t=true↔_
  constructor
  ·intro c
   refine⟨t,?_,c,rfl⟩
   by_cases e:t<m.rows.length
   ·exact e
   ·rw [zim k.2 (by omega)] at c;cases c
  ·rintro⟨s,p,d,f⟩
   have l:(s:Int)=(t:Int):=f
   have:s=t:=by omega
   rw [←this];exact d
 |i::w,x,t,k,n=>by
  obtain⟨q,r⟩:=n.head
  obtain⟨j,rfl⟩: ∃ j:Nat,i=(j:Int):=⟨i.toNat,by omega⟩
  have b:j<nIn m:=by omega
  have d:=zdy h (w:=w) (x:=stx m x (j:Int)) (t:=t) (z6y m x _ _) n.tail
  show tb (runT (stx m) (stx m x (j:Int)) w) t=true↔_
  rw [d]
  constructor
  ·rintro⟨s,p,f,l⟩
   obtain⟨u,a,g,_,rfl⟩:=(z9r h b).1 f
   exact⟨u,a,g,by rw [zje h a b];exact l⟩
  ·rintro⟨u,a,g,o⟩
   rw [zje h a b] at o
   exact⟨tgt m u j,(h.tgt a b).1,(z9r h b).2 ⟨u,a,g,rfl,rfl⟩,o⟩
def Syn(m:Mach)(w:List Int):Prop:= ∀ s:Nat,s<m.rows.length→z1a m s w=z1a m 0 w
theorem zlz{m:Mach}(h:CM m)(l:m.rows.length≤12){w:List Int}(g:WIn (nIn m) w):zjv (runT (stx m) (z2y m.rows.length) w)=true↔Syn m w:=by
 have n:=h.ok.r1
 have A:=za7 (show m.rows.length≤16 by omega)
 have o:InB m.rows.length (runT (stx m) (z2y m.rows.length) w):=zdz (next:=stx m) (P:=InB m.rows.length) (ni:=nIn m) (fun x i B hi=>z6y m x _ _) (z8o _) g
 obtain⟨C,D⟩:=o
 have hall: ∀ s:Nat,s<m.rows.length→ ∃ t:Nat,z1a m s w=(t:Int):=fun s c=>by
  obtain⟨j,_⟩:=h.aft (s:=(s:Int)) ⟨by omega,by omega⟩ g
  exact⟨(z1a m s w).toNat,by omega⟩
 have d: ∀ s:Nat,s<m.rows.length→ ∀ t:Nat,z1a m s w=(t:Int)→tb (runT (stx m) (z2y m.rows.length) w) t=true:=fun s c t f=>(zdy h (z8o _) g).2 ⟨s,c,by rw [zvk,decide_eq_true c],f⟩
 unfold zjv
 rw [decide_eq_true_iff]
 constructor
 ·intro j s c
  obtain⟨t,f⟩:=hall s c
  obtain⟨u,k⟩:=hall 0 (by omega)
  have hu':z1a m 0 w=(u:Int):=k
  rw [f,hu']
  by_cases e:t=u
  ·rw [e]
  ·have:=(zdv (by omega)).2 ⟨t,u,e,d s c t f,d 0 (by omega) u k⟩
   omega
 ·intro j
  obtain⟨u,k⟩:=hall 0 (by omega)
  have hpos:=(zlv (by omega)).2 ⟨u,d 0 (by omega) u k⟩
  have: ¬1<pcB (runT (stx m) (z2y m.rows.length) w):=fun p=>by
   obtain⟨a,b,q,r,v⟩:=(zdv (by omega)).1 p
   obtain⟨s,c,_,y⟩:=(zdy h (z8o _) g).1 r
   obtain⟨t,f,_,z⟩:=(zdy h (z8o _) g).1 v
   rw [j s c] at y
   rw [j t f] at z
   omega
  omega
end GV
end Go.Proofs.Ytjmlpkkbmnjhcaa

namespace Go.Proofs.Ytjmlpkkbmnjhcaa
namespace GV
set_option maxRecDepth 100000
def oq(m:Mach)(i o s:Nat):Bool:=decide ((edI m (s:Int) (i:Int)).out=(o:Int))
def zbz(m:Mach)(x:Int)(i o:Nat):Int:=zg2 m x i (oq m i o)
def G1(m:Mach)(i:Nat)(x:Int):List Int:=((List.range 16).map (zbz m x i)).filter fun p=>decide (1<pcB p)
theorem CM.out{m:Mach}(h:CM m){s i:Nat}(a:s<m.rows.length)(hi:i<nIn m): ∃ o:Nat,o<16∧(edI m (s:Int) (i:Int)).out=(o:Int):=by
 have b:=h.nin;have c:=h.ok.o2
 obtain⟨_,d,e⟩:=h.edge (s:=(s:Int)) (i:=(i:Int)) ⟨by omega,by omega⟩ (by omega) (by omega)
 exact⟨(edI m (s:Int) (i:Int)).out.toNat,by omega,by omega⟩
theorem zt6{N:Nat}{m:Mach}(h:CM m)(E:5000≤N){x:Int}(t:0≤x∧x≤65535){i:Nat}(hi:i<nIn m)(d:m.rows.length≤16){l:List Int}{x16:Int}(w:ix l x16=x):
 ∃ a,ng N ⟨m⟩ l (i:Int) x16 N 0 (zgq 16 (List.replicate 16 (0:Int)))=some a∧ ∀ o,o<16→a.1.getD o default=zbz m x i o:=by
 have z:=h.nin
 refine z1o (fun F k y=>ng N ⟨m⟩ l (i:Int) x16 F (k:Int) y) m.rows.length (fun k y=> ∀ o,o<16→y.1.getD o default=bmk (z5g m x i (oq m i o) k) m.rows.length) _ (fun F k y j f=> .inr ?_) (fun F y f=>?_) N 0 _ (Nat.zero_le _) (by omega) fun o b=>?_
 ·obtain⟨A,et⟩:=h.tgt j hi
  obtain⟨o0,c,eo⟩:=h.out j hi
  obtain⟨B,G⟩:=z5e (z5g m x i (oq m i o0) k) m.rows.length
  have H:=za7 d
  have C:=zbs (show tgt m k i<16 by omega)
  have et':(ix (ix m.rows (k:Int)) (i:Int)).to=(tgt m k i:Int):=et
  have eo':(ix (ix m.rows (k:Int)) (i:Int)).out=(o0:Int):=eo
  have D:okI m.rows (k:Int):=ib j
  have u:okI (ix m.rows (k:Int)) (i:Int):=h.okr ⟨by omega,by omega⟩ (by omega) (by omega)
  have v:okI y.1 (o0:Int):=ib (by rw [y.2];exact c)
  have g:=zep (m:=m) (x:=x) (i:=i) (k:=k) (q:=oq m i o0) A d
  have p:oq m i o0 k=true:=decide_eq_true eo
  have r: ∀ o,o≠o0→oq m i o k=false:=fun o b=>decide_eq_false (by rw [eo];omega)
  have hstn: ∀ o,o≠o0→bmk (z5g m x i (oq m i o) (k+1)) m.rows.length=bmk (z5g m x i (oq m i o) k) m.rows.length:=fun o b=>z7o fun s _=>by rw [z5s,r o b,Bool.and_false,Bool.false_and,Bool.or_false]
  simp only [ng]
  rw [eu (by omega),zn D,zn ⟨by omega,by show (k:Int)≤16;omega⟩,w,zn ⟨zmc t k,by decide,by decide⟩,zqm t.1]
  cases hb:tb x k with
  |true=>
   rw [cond_true,zn u,eo',zn v,zn u,et',zn ⟨by omega,by show (tgt m k i:Int)≤16;omega⟩,z6c (by omega),z2j,f o0 c,zn ⟨⟨B,by show _≤(65535:Int);omega⟩,by omega,by show _≤(65535:Int);omega⟩,zn v,z3y,zn (ui (by omega)),bn]
   rw [hb,p,if_pos (show (true&&true)=true from rfl),z6c (by omega)] at g
   refine⟨_,fun o b=>?_,rfl⟩
   show (y.1.set o0 _).getD o default=_
   rw [z96 _ _ _ _ (by rw [y.2];exact c)]
   by_cases e:o=o0
   ·subst e;rw [if_pos rfl];exact g
   ·rw [if_neg e,f o b,hstn o e]
  |false=>
   rw [cond_false,z3y,zn (ui (by omega)),bn]
   refine⟨y,fun o b=>?_,rfl⟩
   rw [f o b]
   exact(z7o fun s _=>by rw [z5s,hb,Bool.false_and,Bool.false_and,Bool.or_false]).symm
 ·simp only [ng]
  rw [cu (by omega)]
  exact⟨y,rfl,f⟩
 ·have e:(zgq 16 (List.replicate 16 (0:Int))).1=List.replicate 16 (0:Int):=by unfold zgq;rw [dif_pos (List.length_replicate ..)]
  rw [e]
  rw [show (List.replicate 16 (0:Int)).getD o default=0 by rw [List.getD_eq_getElem?_getD,List.getElem?_replicate,if_pos b];rfl]
  exact zel (Int.le_refl _) (by have:=Nat.one_le_two_pow (n:=m.rows.length);omega) fun s _=>by rw [zci];rfl
theorem zhd(m:Mach)(x:Int)(i o:Nat):InB m.rows.length (zbz m x i o):=z6y m x i _
theorem ztf{N:Nat}{m:Mach}{x:Int}{i:Nat}(h:5000≤N)(d:m.rows.length≤16){a:Arr 16 Int}(f: ∀ o,o<16→a.1.getD o default=zbz m x i o){b:List Int}(g:b.length≤100000):cz N a N 0 b=some (b++G1 m i x):=by
 have j:=za7 d
 refine z5n (fun F k y=>cz N a F (k:Int) y) 16 (fun k y=>y=b++((List.range k).map (zbz m x i)).filter (fun p=>decide (1<pcB p))∧y.length≤b.length+k) _ (fun F k y e c=>?_) (fun F y c=>?_) N b (by omega) ⟨by simp,by omega⟩
 ·obtain⟨c,l⟩:=c
  obtain⟨n,q⟩:=zhd m x i k
  simp only [cz]
  rw [eu (by omega),zn (ib (by rw [a.2];exact e)),z2j,f k e,qg (zg9 (by omega))]
  by_cases hc:1<pcB (zbz m x i k)
  ·rw [eu (by omega),zn ⟨by simp only [List.length_singleton];omega,by simp only [List.length_singleton];omega⟩,z3y,zn (ui (by omega)),bn]
   refine⟨_,⟨?_,by simp only [List.length_append,List.length_singleton];omega⟩,rfl⟩
   rw [c,List.range_succ,List.map_append,List.filter_append,List.append_assoc]
   congr 2
   show [zbz m x i k]=List.filter _ [zbz m x i k]
   rw [List.filter_cons,if_pos (decide_eq_true hc)];rfl
  ·rw [cu (by omega),z3y,zn (ui (by omega)),bn]
   refine⟨_,⟨?_,by omega⟩,rfl⟩
   rw [c,List.range_succ,List.map_append,List.filter_append]
   congr 1
   show _=_++List.filter _ [zbz m x i k]
   rw [List.filter_cons,if_neg (by simpa using hc)];simp
 ·simp only [cz]
  rw [cu (by omega),c.1];rfl
def GL(m:Mach)(i:Nat)(l:List Int):List Int:=l.flatMap (G1 m i)
theorem zm4{N:Nat}{m:Mach}(h:CM m)(f:5000≤N){i:Nat}(hi:i<nIn m)(b:m.rows.length≤16){l:List Int}(g: ∀ x∈l,0≤x∧x≤65535)(hlen:l.length≤1000):nk N ⟨m⟩ l (i:Int) N [] 0=some (GL m i l):=by
 refine z5n (fun F k y=>nk N ⟨m⟩ l (i:Int) F y (k:Int)) l.length (fun k y=>y=(l.take k).flatMap (G1 m i)∧y.length≤16*k) _ (fun F k y d c=>?_) (fun F y c=>?_) N [] (by omega) ⟨rfl,Nat.zero_le _⟩
 ·obtain⟨c,j⟩:=c
  obtain⟨a,n,e⟩:=zt6 h f (g _ (z6k d)) hi b (l:=l) (x16:=(k:Int)) rfl
  simp only [nk]
  rw [eu (by omega),zn (ib d),qg n,ztf f b e (by omega),z3y,zn (ui (by omega)),bn]
  refine⟨_,⟨?_,?_⟩,rfl⟩
  ·rw [c,z5m d,List.flatMap_append];simp
  ·have:(G1 m i (l.getD k default)).length≤16:=by
    refine Nat.le_trans (List.length_filter_le _ _) ?_
    simp
   rw [List.length_append];omega
 ·simp only [nk]
  rw [cu (by omega),c.1,List.take_length];rfl
/-! ### how many states they have in all-/
theorem zgs{p:Nat→Bool}{t:Nat}: ∀ l:List Nat,l.countP (fun s=>p s||decide (s=t))≤l.countP p+l.countP (fun s=>decide (s=t))
 | []=>Nat.le_refl _
 |a::l=>by
  have:=zgs (p:=p) (t:=t) l
  rw [List.countP_cons,List.countP_cons,List.countP_cons]
  cases p a<;>by_cases e:a=t<;>simp [e]<;>omega
theorem zv0{x:Int}(d:0≤x)(t:Nat):pcB (ior x ((2^t:Nat):Int))≤pcB x+1:=by
 have i:(List.range 16).countP (fun s=>decide (s=t))≤1:=by
  refine Nat.le_of_not_lt fun h=>?_
  obtain⟨a,b,_,_,c,e,f⟩:=(zb4 List.nodup_range).1 h
  exact c ((of_decide_eq_true e).trans (of_decide_eq_true f).symm)
 have j:=zgs (p:=tb x) (t:=t) (List.range 16)
 have g:pcB (ior x ((2^t:Nat):Int))=(List.range 16).countP (fun s=>tb x s||decide (s=t)):=by
  unfold pcB
  exact List.countP_congr fun s _=>by rw [zr3 d]
 rw [g]
 unfold pcB
 omega
theorem zn6{f g:Nat→Nat}{o0:Nat}: ∀ {l:List Nat},l.Nodup→(∀ o∈l,o≠o0→g o=f o)→g o0≤f o0+1→(l.map g).sum≤(l.map f).sum+1
 | [],_,_,_=>Nat.zero_le _
 |a::l,d,c,h=>by
  obtain⟨i,j⟩:=List.nodup_cons.1 d
  rw [List.map_cons,List.map_cons,List.sum_cons,List.sum_cons]
  by_cases e:a=o0
  ·have:l.map g=l.map f:=List.map_congr_left fun o b=>c o (List.mem_cons_of_mem _ b) fun k=>i (by rw [e,←k];exact b)
   rw [this,e];omega
  ·have:=zn6 j (fun o b=>c o (List.mem_cons_of_mem _ b)) h
   rw [c a (List.mem_cons_self ..) e];omega
theorem zgo{m:Mach}(h:CM m){x:Int}{i:Nat}(hi:i<nIn m)(a:m.rows.length≤16): ∀ k,k≤m.rows.length→((List.range 16).map fun o=>pcB (bmk (z5g m x i (oq m i o) k) m.rows.length)).sum≤(List.range k).countP (tb x)
 |0,_=>by
  have:((List.range 16).map fun o=>pcB (bmk (z5g m x i (oq m i o) 0) m.rows.length))=(List.range 16).map fun _=>0:=List.map_congr_left fun o _=>by
   have e:bmk (z5g m x i (oq m i o) 0) m.rows.length=0:=(zel (Int.le_refl _) (by have:=Nat.one_le_two_pow (n:=m.rows.length);omega) fun s _=>by rw [zci];rfl).symm
   rw [e];unfold pcB;exact List.countP_eq_zero.2 fun s _=>by rw [zci];simp
  rw [this,show ((List.range 16).map (fun _=>0)).sum=0 from by decide];exact Nat.zero_le _
 |k+1,j=>by
  have ih:=zgo h (x:=x) hi a k (by omega)
  obtain⟨c,et⟩:=h.tgt (show k<m.rows.length by omega) hi
  obtain⟨o0,d,eo⟩:=h.out (show k<m.rows.length by omega) hi
  rw [List.range_succ (n:=k),List.countP_append]
  cases hb:tb x k with
  |true=>
   have b:=zep (m:=m) (x:=x) (i:=i) (k:=k) (q:=oq m i o0) c a
   rw [hb,show oq m i o0 k=true from decide_eq_true eo,if_pos (show (true&&true)=true from rfl),z6c (by omega)] at b
   have:=zn6 (f:=fun o=>pcB (bmk (z5g m x i (oq m i o) k) m.rows.length)) (g:=fun o=>pcB (bmk (z5g m x i (oq m i o) (k+1)) m.rows.length)) (o0:=o0) (l:=List.range 16) List.nodup_range (fun o _ p=>?_) ?_
   ·simp only [List.countP_singleton,hb,if_true];omega
   ·show pcB (bmk (z5g m x i (oq m i o) (k+1)) m.rows.length)=_
    rw [z7o fun s _=>by rw [z5s,show oq m i o k=false from decide_eq_false (by rw [eo];omega),Bool.and_false,Bool.false_and,Bool.or_false]]
   ·show pcB (bmk (z5g m x i (oq m i o0) (k+1)) m.rows.length)≤_
    rw [←b];exact zv0 (z5e _ _).1 _
  |false=>
   have:((List.range 16).map fun o=>pcB (bmk (z5g m x i (oq m i o) (k+1)) m.rows.length))=(List.range 16).map fun o=>pcB (bmk (z5g m x i (oq m i o) k) m.rows.length):=List.map_congr_left fun o _=>by
    rw [z7o fun s _=>by rw [z5s,hb,Bool.false_and,Bool.false_and,Bool.or_false]]
   rw [this];omega
theorem zls{p:Nat→Bool}{n k:Nat}(h:n≤k):(List.range n).countP p≤(List.range k).countP p:=
 List.Sublist.countP_le (by
  obtain⟨d,rfl⟩: ∃ d,k=n+d:=⟨k-n,by omega⟩
  rw [List.range_add];exact List.sublist_append_left ..)
theorem ze8{f:Int→Nat}{q:Int→Bool}: ∀ l:List Int,((l.filter q).map f).sum≤(l.map f).sum
 | []=>Nat.le_refl _
 |a::l=>by
  have:=ze8 (f:=f) (q:=q) l
  rw [List.filter_cons]
  split<;>simp only [List.map_cons,List.sum_cons]<;>omega
theorem zve{m:Mach}(h:CM m){x:Int}{i:Nat}(hi:i<nIn m)(a:m.rows.length≤16):((G1 m i x).map pcB).sum≤pcB x:=by
 have c:=zgo h (x:=x) hi a m.rows.length (Nat.le_refl _)
 have b:=ze8 (f:=pcB) (q:=fun p=>decide (1<pcB p)) ((List.range 16).map (zbz m x i))
 have d:=zls (p:=tb x) a
 rw [List.map_map] at b
 exact Nat.le_trans b (Nat.le_trans c d)
theorem zrc{m:Mach}(h:CM m){i:Nat}(hi:i<nIn m)(a:m.rows.length≤16): ∀ l:List Int,((GL m i l).map pcB).sum≤(l.map pcB).sum
 | []=>Nat.le_refl _
 |x::l=>by
  have c:=zve h (x:=x) hi a
  have b:=zrc h hi a l
  unfold GL at b⊢
  rw [List.flatMap_cons,List.map_append,List.sum_append,List.map_cons,List.sum_cons]
  omega
theorem zq1{m:Mach}{i:Nat}{x p:Int}:p∈G1 m i x↔ ∃ o,o<16∧p=zbz m x i o∧1<pcB p:=by
 unfold G1
 rw [List.mem_filter,List.mem_map,decide_eq_true_iff]
 constructor
 ·rintro⟨⟨o,a,rfl⟩,h⟩;exact⟨o,List.mem_range.1 a,rfl,h⟩
 ·rintro⟨o,a,rfl,h⟩;exact⟨⟨o,List.mem_range.2 a,rfl⟩,h⟩
theorem zv6{m:Mach}{i:Nat}{l:List Int}{p:Int}:p∈GL m i l↔ ∃ x∈l,∃ o,o<16∧p=zbz m x i o∧1<pcB p:=by
 unfold GL
 rw [List.mem_flatMap]
 constructor
 ·rintro⟨x,a,h⟩;exact⟨x,a,zq1.1 h⟩
 ·rintro⟨x,a,h⟩;exact⟨x,a,zq1.2 h⟩
theorem zho: ∀ {l:List Int},(∀ x∈l,1<pcB x)→2*l.length≤(l.map pcB).sum
 | [],_=>Nat.le_refl _
 |x::l,h=>by
  have b:=h x (List.mem_cons_self ..)
  have c:=zho (l:=l) fun y a=>h y (List.mem_cons_of_mem _ a)
  rw [List.map_cons,List.sum_cons,List.length_cons];omega
theorem znb{f:Int→Nat}{s:List Int}: ∀ {n:Nat},n≤s.length→((z7l s n).map f).sum≤((s.take n).map f).sum
 |0,_=>Nat.zero_le _
 |n+1,h=>by
  have ih:=znb (f:=f) (s:=s) (n:=n) (by omega)
  rw [z5m (show n<s.length by omega),List.map_append,List.sum_append]
  by_cases e:0<n∧s.getD n default=s.getD (n-1) default
  ·rw [zcc e.1 e.2];omega
  ·have:z7l s (n+1)=z7l s n++[s.getD n default]:=by
    rw [z7l]
    rw [if_neg e]
   rw [this,List.map_append,List.sum_append]
   simp only [List.map_cons,List.map_nil,List.sum_cons,List.sum_nil];omega
theorem zro{f:Int→Nat}{a b:List Int}(h:a.Perm b):(a.map f).sum=(b.map f).sum:=by
 induction h with
 |nil=>rfl
 |cons x _ ih=>simp [ih]
 |swap x y l=>simp;omega
 |trans _ _ c d=>rw [c,d]
structure PL (n:Nat) (l:List Int):Prop where
 el: ∀ x∈l,InB n x∧1<pcB x
 sum:(l.map pcB).sum≤n
theorem PL.len{n:Nat}{l:List Int}(h:PL n l):2*l.length≤n:=Nat.le_trans (zho fun x a=>(h.el x a).2) h.sum
theorem zs5{m:Mach}(h:CM m){i:Nat}(hi:i<nIn m)(a:m.rows.length≤16){l:List Int}(d:PL m.rows.length l): ∃ r,bf 1000000 ⟨m⟩ l (i:Int)=some r∧(∀ p,p∈r↔p∈GL m i l)∧PL m.rows.length r:=by
 have c:=za7 a
 have hlen:=d.len
 have e: ∀ x∈l,0≤x∧x≤65535:=fun x g=>by obtain⟨⟨v,w⟩,_⟩:=d.el x g;omega
 have j: ∀ p∈GL m i l,InB m.rows.length p∧1<pcB p:=fun p c=>by
  obtain⟨x,g,o,y,rfl,k⟩:=zv6.1 c
  exact⟨zhd m x i o,k⟩
 have z:=zrc h hi a l
 have n:=d.sum
 have q:=zho fun p c=>(j p c).2
 obtain⟨Y,t,b⟩:=zjq (X:=GL m i l) (by omega)
 have u:=b.length_eq
 have hmem: ∀ p,p∈cpt Y↔p∈GL m i l:=fun p=>by rw [zsp];exact b.mem_iff
 refine⟨cpt Y,?_,hmem,fun p c=>j p ((hmem p).1 c),?_⟩
 ·unfold bf
  rw [qg (zm4 h (by omega) hi a e (by omega)),qg t,qg (zuk (by omega))]
 ·have:=znb (f:=pcB) (s:=Y) (Nat.le_refl _)
  rw [List.take_length,zro b] at this
  have A:((cpt Y).map pcB).sum≤((GL m i l).map pcB).sum:=this
  omega
def htx(m:Mach)(l:List Int)(i:Int):List Int:=(bf 1000000 ⟨m⟩ l i).getD []
theorem zd5{m:Mach}(h:CM m){i:Nat}(hi:i<nIn m)(a:m.rows.length≤16){l:List Int}(c:PL m.rows.length l):bf 1000000 ⟨m⟩ l (i:Int)=some (htx m l (i:Int))∧(∀ p,p∈htx m l (i:Int)↔p∈GL m i l)∧PL m.rows.length (htx m l (i:Int)):=by
 obtain⟨r,b,d,f⟩:=zs5 h hi a c
 have e:htx m l (i:Int)=r:=by unfold htx;rw [b];rfl
 rw [e];exact⟨b,d,f⟩
def zow(l:List Int):Bool:=decide ((l.length:Int)=0)
def hkf(l:List Int):List UInt8:=z81 (l.flatMap b2)
def l0(n:Nat):List Int:=if n=1 then [] else [z2y n]
theorem zml: ∀ n,n≤16→pcB (z2y n)=n:=by
 have h:(List.range 17).all (fun n=>decide (pcB (z2y n)=n))=true:=by decide+kernel
 intro n a
 exact of_decide_eq_true (List.all_eq_true.1 h n (List.mem_range.2 (by omega)))
theorem zi8{n:Nat}(c:1≤n)(a:n≤16):PL n (l0 n):=by
 unfold l0
 by_cases e:n=1
 ·rw [if_pos e];exact⟨fun x b=>absurd b List.not_mem_nil,Nat.zero_le _⟩
 ·rw [if_neg e]
  refine⟨fun x b=>?_,?_⟩
  ·rw [List.mem_singleton.1 b,zml n a];exact⟨z8o n,by omega⟩
  ·simp [zml n a]
theorem code_inj: ∀ {l l':List Int},(∀ x∈l,1≤x∧x<64)→(∀ x∈l',1≤x∧x<64)→l.foldr (fun x a=>x.toNat+64*a) 0=l'.foldr (fun x a=>x.toNat+64*a) 0→l=l'
 | [],[],_,_,_=>rfl
 | [],y::l',_,h,e=>by have:=h y (List.mem_cons_self ..);simp only [List.foldr_cons,List.foldr_nil] at e;omega
 |x::l,[],h,_,e=>by have:=h x (List.mem_cons_self ..);simp only [List.foldr_cons,List.foldr_nil] at e;omega
 |x::l,y::l',h,h',e=>by
  have c:=h x (List.mem_cons_self ..);have d:=h' y (List.mem_cons_self ..)
  simp only [List.foldr_cons] at e
  have:=code_inj (l:=l) (l':=l') (fun z b=>h z (List.mem_cons_of_mem _ b)) (fun z b=>h' z (List.mem_cons_of_mem _ b)) (by omega)
  rw [this];congr 1;rw [this] at e;omega
theorem zna: ∀ {l:List Int},(∀ x∈l,1≤x∧x<64)→l.foldr (fun x a=>x.toNat+64*a) 0<64^l.length
 | [],_=>by decide
 |x::l,h=>by
  have c:=h x (List.mem_cons_self ..)
  have d:=zna (l:=l) fun z b=>h z (List.mem_cons_of_mem _ b)
  simp only [List.foldr_cons,List.length_cons,Nat.pow_succ]
  omega
theorem zvr{n:Nat}(i:n≤6)(S:List (List Int))(j:S.Nodup)(f: ∀ l∈S,PL n l):S.length≤262144:=by
 have q:2^n≤2^6:=Nat.pow_le_pow_right (by decide) i
 have c: ∀ l∈S,∀ x∈l,1≤x∧x<64:=fun l d x k=>by
  obtain⟨⟨r,g⟩,h⟩:=(f l d).el x k
  have:x≠0:=fun e=>by subst e;rw [show pcB 0=0 by decide+kernel] at h;omega
  omega
 refine zah (fun l=>l.foldr (fun x a=>x.toNat+64*a) 0) j (fun a m b o e=>code_inj (c a m) (c b o) e) fun l d=>?_
 have g:=zna (c l d)
 have h:=(f l d).len
 have p:64^l.length≤64^3:=Nat.pow_le_pow_right (by decide) (by omega)
 exact Nat.lt_of_lt_of_le g p
theorem zvm{m:Mach}(h:CM m)(d:m.rows.length≤6):SeaOk 1000000 (nIn m) 262144 m.inputs (fun b=>z1q 1000000 b) (fun b=>z1w 1000000 b) (fun b f=>bf 1000000 (⟨(⟨m.inputs,m.outputs,m.rows⟩:Mach)⟩:Sd) b f) hkf zow (htx m) (PL m.rows.length):=by
 have g:=h.ok.i2;have j:=h.nin
 have p:=za7 (show m.rows.length≤16 by omega)
 have c: ∀ {l:List Int},PL m.rows.length l→ ∀ x∈l,0≤x∧x≤65535:=fun a x k=>by obtain⟨⟨q,r⟩,_⟩:=a.el x k;omega
 refine⟨j.symm,fun l a=>?_,fun l l' a hl' e=>zck (c a) (c hl') e,fun l a=>rfl,fun l i a hi=>(zd5 h hi (by omega) a).1,fun l i a hi=>(zd5 h hi (by omega) a).2.2,fun S n o=>zvr d S n o,by omega,by omega,by omega,by omega,by omega⟩
 have:=a.len
 exact zhp (by omega) (by omega)
theorem zno{m:Mach}(h:CM m)(b:m.rows.length≤6):ou 1000000 m=some (match z4u (htx m) zow (nIn m) 257 [(l0 m.rows.length,[])] [l0 m.rows.length] with|some w=>(w,0)|none=>([],7)):=by
 have a:=h.ok.r1
 have c:=zdf (zvm h b) (zi8 a (by omega))
 have e:(bif decide ((m.rows.length:Int)=1) then some ([]:List Int) else some ([z2y m.rows.length]:List Int))=some (l0 m.rows.length):=by
  unfold l0
  by_cases e:m.rows.length=1
  ·rw [eu (by omega),if_pos e]
  ·rw [cu (by omega),if_neg e]
 unfold ou
 rw [qg (h.ready (by omega)),cu (by decide),cu (by omega),qg (zhy (by omega)),qg e,qg c];rfl
end GV
end Go.Proofs.Ytjmlpkkbmnjhcaa

namespace Go.Proofs.Ytjmlpkkbmnjhcaa
namespace GV
set_option maxRecDepth 100000
theorem zq6: ∀ k:Nat,k<1024→z05 1000000 (IntKind.u64.wrap (k:Int))=some (pcB (k:Int):Int):=by
 have h:(List.range 1024).all (fun(k:Nat)=>decide (z05 1000000 (IntKind.u64.wrap (k:Int))=some (pcB (k:Int):Int)))=true:=by decide+kernel
 intro k a
 exact of_decide_eq_true (List.all_eq_true.1 h k (List.mem_range.2 a))
theorem zoq{N:Nat}{s:List Bool}(a:s.length≤1000000):z02 N s=some s:=by
 unfold z02
 rw [zn ⟨by simp only [List.length_nil];omega,by simp only [List.length_nil];omega⟩,List.nil_append]
def hd(m:Mach):Nat→Int→Bool
 |0,x=>decide (pcB x<2)
 |d+1,x=>hd m d x||(List.range (nIn m)).any fun i=> !((htx m [x] (i:Int)).any fun p=> !hd m d p)
theorem zn1{m:Mach}{x:Int}{d:Nat}(h:hd m d x=true): ∀ {e},d≤e→hd m e x=true:=by
 intro e a
 induction a with
 |refl=>exact h
 |step _ ih=>unfold hd;rw [ih,Bool.true_or]
theorem zfp{m:Mach}{x:Int}(h:pcB x<2)(d:Nat):hd m d x=true:=zn1 (d:=0) (decide_eq_true h) (Nat.zero_le _)
theorem zpu{n:Nat}{x:Int}(b:n≤16)(a:InB n x)(c:1<pcB x):PL n [x]:=by
 refine⟨fun y f=>by rw [List.mem_singleton.1 f];exact⟨a,c⟩,?_⟩
 simp only [List.map_cons,List.map_nil,List.sum_cons,List.sum_nil]
 have:(List.range 16).countP (tb x)≤n:=by
  have e:(List.range 16).countP (tb x)=(List.range n).countP (tb x):=by
   obtain⟨d,hd⟩: ∃ d,16=n+d:=⟨16-n,by omega⟩
   rw [hd,List.range_add,List.countP_append]
   have:((List.range d).map (n+ ·)).countP (tb x)=0:=List.countP_eq_zero.2 fun s g=>by
    obtain⟨j,_,rfl⟩:=List.mem_map.1 g
    rw [zim a.2 (by omega)];simp
   omega
  rw [e]
  exact Nat.le_trans List.countP_le_length (by simp)
 exact this
def TBn(m:Mach)(d:Nat):List Bool:=(List.range (2^m.rows.length)).map fun(k:Nat)=>hd m d (k:Int)
theorem af{m:Mach}{d:Nat}:(TBn m d).length=2^m.rows.length:=by simp [TBn]
theorem zce{m:Mach}{d k:Nat}(h:k<2^m.rows.length):(TBn m d).getD k default=hd m d (k:Int):=by simp [TBn,List.getD_eq_getElem?_getD,h]
theorem zhz{m:Mach}{d:Nat}{x:Int}(h:InB m.rows.length x):ix (TBn m d) x=hd m d x:=by
 obtain⟨a,b⟩:=h
 obtain⟨k,rfl⟩: ∃ k:Nat,x=(k:Int):=⟨x.toNat,by omega⟩
 rw [z2j,zce (by omega)]
theorem zbv{α:Type}[Inhabited α]{X Y:List α}{n k j:Nat}(a:X.length=n)(b:Y.length=n)(c:k≤n):(X.take k++Y.drop k).getD j default=if j<k then X.getD j default else Y.getD j default:=by
 rw [List.getD_eq_getElem?_getD]
 by_cases h:j<k
 ·rw [if_pos h,List.getElem?_append_left (by rw [List.length_take];omega),List.getElem?_take,if_pos h,List.getD_eq_getElem?_getD]
 ·rw [if_neg h,List.getElem?_append_right (by rw [List.length_take];omega),List.length_take,Nat.min_eq_left (by omega),List.getElem?_drop,List.getD_eq_getElem?_getD]
  congr 2;omega
theorem zuv{x:Int}(a:0≤x)(b:x≤65535):IntKind.u16.wrap x=x:=z2w _ a b
theorem zvw{F0:Nat}(z:1000<F0){m:Mach}(h:CM m)(g:m.rows.length≤10){d k:Nat}(A:k<2^m.rows.length){T:List Bool}(B:T.length=2^m.rows.length)(l:T.getD k default=hd m d (k:Int)):
 om 1000000 m (TBn m d) (k:Int) F0 0 T=some (T.set k (hd m (d+1) (k:Int))):=by
 have C:=h.nin;have D:=h.ok.i2
 have u:2^m.rows.length≤2^10:=Nat.pow_le_pow_right (by decide) g
 have f:k<T.length:=by rw [B];exact A
 have n:InB m.rows.length (k:Int):=⟨by omega,by omega⟩
 have hset: ∀ b,(T.set k b).getD k default=b:=fun b=>by rw [z96 _ _ _ _ f,if_pos rfl]
 have hself:T=T.set k (hd m d (k:Int)):=by
  refine List.ext_getElem (by simp) fun j E L=>?_
  by_cases e:j=k
  ·subst e
   rw [List.getElem_set,if_pos rfl,←l,List.getD_eq_getElem?_getD,List.getElem?_eq_getElem E];rfl
  ·rw [List.getElem_set,if_neg (fun v=>e v.symm)]
 have o: ∀ i,(hd m d (k:Int)||(List.range (i+1)).any fun i=> !((htx m [(k:Int)] (i:Int)).any fun p=> !hd m d p))=((hd m d (k:Int)||(List.range i).any fun i=> !((htx m [(k:Int)] (i:Int)).any fun p=> !hd m d p))|| !((htx m [(k:Int)] (i:Int)).any fun p=> !hd m d p)):=fun i=>by
  rw [List.range_succ,List.any_append,←Bool.or_assoc];simp
 rw [show hd m (d+1) (k:Int)=(hd m d (k:Int)||(List.range (nIn m)).any fun i=> !((htx m [(k:Int)] (i:Int)).any fun p=> !hd m d p)) from rfl]
 refine z5n (fun F i s=>om 1000000 m (TBn m d) (k:Int) F (i:Int) s) (nIn m) (fun i s=>s=T.set k (hd m d (k:Int)||(List.range i).any fun i=> !((htx m [(k:Int)] (i:Int)).any fun p=> !hd m d p))) _ (fun F i s hi q=>?_) (fun F s q=>?_) F0 T (by show m.inputs.toNat<_;omega) ?_
 ·subst q
  have a:okI (T.set k (hd m d (k:Int)||(List.range i).any fun i=> !((htx m [(k:Int)] (i:Int)).any fun p=> !hd m d p))) (k:Int):=ib (by rw [List.length_set];exact f)
  simp only [om]
  rw [eu (by omega),zn a,z2j,hset]
  generalize hc:(hd m d (k:Int)||(List.range i).any fun i=> !((htx m [(k:Int)] (i:Int)).any fun p=> !hd m d p))=c at a⊢
  have hav':=o i
  rw [hc] at hav'
  cases c with
  |true=>
   rw [qg (zn0 (b:=(true&&((!true)==true))) rfl),qg (zn0 (b:=(true&&((!true)==true))) rfl),Bool.not_true,Bool.false_and,cond_false,z3y,zn (ui (by omega)),bn,hav',Bool.true_or]
   exact⟨_,rfl,rfl⟩
  |false=>
   have r:1<pcB (k:Int):=by
    refine Nat.lt_of_not_le fun G=>?_
    rw [zfp (by omega) d,Bool.true_or] at hc;cases hc
   have t:=zpu (by omega) n r
   obtain⟨H,v,w⟩:=zd5 h hi (by omega) t
   have hsets:bf 1000000 (⟨(⟨m.inputs,m.outputs,m.rows⟩:Mach)⟩:Sd) ([IntKind.u16.wrap (k:Int)]:List Int) (i:Int)=some (htx m [(k:Int)] (i:Int)):=by
    rw [zuv (by omega) (by omega)];exact H
   have hcon:mf 1000000 (htx m [(k:Int)] (i:Int)) (fun I=>z11 1000000 I (TBn m d))=some ((htx m [(k:Int)] (i:Int)).any fun p=> !hd m d p):=by
    have J:=w.len
    refine zhw (by omega) (by omega) fun p K=>?_
    obtain⟨⟨x,y⟩,_⟩:=w.el p K
    unfold z11
    rw [zn ⟨x,by rw [af];exact y⟩,zhz ⟨x,y⟩]
   rw [qg (zjd (b:=(true&&((!false)==true))) rfl hsets),Option.getD_some,qg (zjd (b:=(true&&((!false)==true))) rfl hcon),Option.getD_some,Bool.not_false,Bool.true_and,hav',Bool.false_or]
   cases hv:((htx m [(k:Int)] (i:Int)).any fun p=> !hd m d p) with
   |true=>
    rw [Bool.not_true,cond_false,z3y,zn (ui (by omega)),bn]
    exact⟨_,rfl,rfl⟩
   |false=>
    rw [Bool.not_false,cond_true,zn a,z3y,zn (ui (by omega)),bn,zv1,List.set_set]
    exact⟨_,rfl,rfl⟩
 ·simp only [om]
  rw [cu (by omega),q]
 ·simp only [List.range_zero,List.any_nil,Bool.or_false]
  exact hself
theorem zuz{m:Mach}(h:CM m)(a:m.rows.length≤10){d:Nat}:ol 1000000 m (TBn m d) (TBn m d) 1000000 0 (TBn m d)=some (TBn m (d+1)):=by
 have f:2^m.rows.length≤2^10:=Nat.pow_le_pow_right (by decide) a
 refine z5n (fun F k s=>ol 1000000 m (TBn m d) (TBn m d) F (k:Int) s) (2^m.rows.length) (fun k s=>s=(TBn m (d+1)).take k++(TBn m d).drop k) _ (fun F k s c b=>?_) (fun F s b=>?_) 1000000 (TBn m d) (by omega) (by simp)
 ·have g:=zbv (X:=TBn m (d+1)) (Y:=TBn m d) (n:=2^m.rows.length) (k:=k) (j:=k) af af (by omega)
  rw [if_neg (by omega),zce c,←b] at g
  have i:s.length=2^m.rows.length:=by rw [b,List.length_append,List.length_take,List.length_drop,af,af];omega
  simp only [ol]
  rw [eu (by rw [af];omega),qg (zvw (F0:=1000000) (by decide) h a c i g),zn (ui (by omega)),bn]
  refine⟨_,?_,rfl⟩
  refine ze2 (by rw [List.length_set,i,List.length_append,List.length_take,List.length_drop,af,af];omega) fun j l=>?_
  rw [z96 _ _ _ _ (by omega),b,zbv (n:=2^m.rows.length) af af (by omega),zbv (n:=2^m.rows.length) af af (by omega)]
  by_cases e:j=k
  ·subst e;rw [if_pos rfl,if_pos (by omega),zce c]
  ·rw [if_neg e]
   by_cases e2:j<k
   ·rw [if_pos e2,if_pos (by omega)]
   ·rw [if_neg e2,if_neg (by omega)]
 ·simp only [ol]
  rw [cu (by rw [af];omega),b,List.drop_of_length_le (by rw [af];omega),List.append_nil,List.take_of_length_le (by rw [af];omega)]
theorem zv9{m:Mach}(a:m.rows.length≤10)(b:mq .i64 (1:Int) (m.rows.length:Int)=((2^m.rows.length:Nat):Int)):ow 1000000 m 1000000 0 (List.replicate (2^m.rows.length) false)=some (TBn m 0):=by
 have c:2^m.rows.length≤2^10:=Nat.pow_le_pow_right (by decide) a
 refine z5n (fun F k s=>ow 1000000 m F (k:Int) s) (2^m.rows.length) (fun k s=>s=(TBn m 0).take k++(List.replicate (2^m.rows.length) false).drop k) _ (fun F k s d hs'=>?_) (fun F s hs'=>?_) 1000000 _ (by omega) (by simp)
 ·have f:s.length=2^m.rows.length:=by rw [hs',List.length_append,List.length_take,List.length_drop,af,List.length_replicate];omega
  simp only [ow]
  rw [b,zli,List.length_replicate,eu (by omega),qg (zq6 k (by omega)),zn (ib (by omega)),zn (ui (by omega)),bn]
  refine⟨_,?_,rfl⟩
  show s.set k _=_
  refine ze2 (by rw [List.length_set,f,List.length_append,List.length_take,List.length_drop,af,List.length_replicate];omega) fun j g=>?_
  rw [z96 _ _ _ _ (by omega),hs',zbv (n:=2^m.rows.length) af (List.length_replicate ..) (by omega),zbv (n:=2^m.rows.length) af (List.length_replicate ..) (by omega)]
  by_cases e:j=k
  ·subst e;rw [if_pos rfl,if_pos (by omega),zce d]
   show decide ((pcB (j:Int):Int)<2)=decide (pcB (j:Int)<2)
   by_cases h2:pcB (j:Int)<2
   ·rw [decide_eq_true h2,decide_eq_true (by omega)]
   ·rw [decide_eq_false h2,decide_eq_false (by omega)]
  ·rw [if_neg e]
   by_cases e2:j<k
   ·rw [if_pos e2,if_pos (by omega)]
   ·rw [if_neg e2,if_neg (by omega)]
 ·simp only [ow]
  rw [b,zli,List.length_replicate,cu (by omega),hs',List.drop_of_length_le (by rw [List.length_replicate];omega),List.append_nil,List.take_of_length_le (by rw [af];omega)]
/-! ### it comes to an end-/
theorem zrm{m:Mach}{d:Nat}(b:TBn m (d+1)=TBn m d): ∀ {x:Int},InB m.rows.length x→hd m (d+1) x=hd m d x:=fun {x} a=>by rw [←zhz a,b,zhz a]
theorem zsr{m:Mach}(h:CM m)(c:m.rows.length≤16){d:Nat}(j:TBn m (d+1)=TBn m d): ∀ e,d≤e→ ∀ {x:Int},InB m.rows.length x→hd m e x=hd m d x:=by
 intro e n
 induction n with
 |refl=>intro x _;rfl
 | @step e n ih=>
  intro x k
  rw [←zrm j k]
  show (hd m e x||_)=(hd m d x||_)
  by_cases h2:1<pcB x
  ·rw [ih k]
   congr 1
   refine any_congr16 fun i hi=>?_
   have o:=(zd5 h (List.mem_range.1 hi) c (zpu c k h2)).2.2
   congr 1
   exact any_congr16 fun p q=>by rw [ih (o.el p q).1]
  ·rw [zfp (by omega) e,zfp (by omega) d,Bool.true_or,Bool.true_or]
where
 any_congr16 {α:Type} {l:List α} {f g:α→Bool} (h: ∀ a∈l,f a=g a):l.any f=l.any g:=by
  induction l with
  |nil=>rfl
  |cons a l ih=>rw [List.any_cons,List.any_cons,h a (List.mem_cons_self ..),ih fun b j=>h b (List.mem_cons_of_mem _ j)]
theorem zkh{X Y:List Bool}:X.length=Y.length→(∀ j,X.getD j default=true→Y.getD j default=true)→X.count true≤Y.count true∧(X≠Y→X.count true<Y.count true):=by
 induction X generalizing Y with
 |nil=>
  intro d _
  cases Y with
  |nil=>exact⟨Nat.le_refl _,fun h=>absurd rfl h⟩
  |cons b Y=>simp at d
 |cons a X ih=>
  intro d c
  cases Y with
  |nil=>simp at d
  |cons b Y=>
   obtain⟨f,g⟩:=ih (Y:=Y) (by simpa using d) fun j i=>c (j+1) i
   have k:a=true→b=true:=c 0
   rw [List.count_cons,List.count_cons]
   cases a<;>cases b
   ·refine⟨by simpa using f,fun h=>?_⟩
    have:=g fun e=>h (by rw [e])
    simpa using this
   ·exact⟨by simp;omega,fun _=>by simp;omega⟩
   ·cases k rfl
   ·refine⟨by simpa using f,fun h=>?_⟩
    have:=g fun e=>h (by rw [e])
    simpa using this
theorem zph{m:Mach}(h:CM m)(b:m.rows.length≤10): ∀ (g d F:Nat),2^m.rows.length-(TBn m d).count true<g→g<F→d+g≤100000→(∀ e,e<d→hd m e (z2y m.rows.length)=false)→
 ∃ r,rf 1000000 m F (d:Int) (TBn m d)=some r∧((∃ e:Nat,hd m e (z2y m.rows.length)=true∧(∀ e',e'<e→hd m e' (z2y m.rows.length)=false)∧r=((e:Int),0))∨((∀ e,hd m e (z2y m.rows.length)=false)∧r=(0,7)))
 |0,d,F,o,_,_,_=>by omega
 |g+1,d,F,o,q,hd',c=>by
  have k:2^m.rows.length≤2^10:=Nat.pow_le_pow_right (by decide) b
  obtain⟨F,rfl⟩: ∃ F',F=F'+1:=⟨F-1,by omega⟩
  have hall:=z8o m.rows.length
  simp only [rf]
  rw [qg (zhy (N:=1000000) (m:=(⟨m.inputs,m.outputs,m.rows⟩:Mach)) (by show m.rows.length≤15;omega)),zn (⟨hall.1,by rw [af];exact hall.2⟩:okI (TBn m d) (z2y m.rows.length))]
  rw [show ix (TBn m d) (z2y (⟨m.inputs,m.outputs,m.rows⟩:Mach).rows.length)=hd m d (z2y m.rows.length) from zhz hall]
  cases hc:hd m d (z2y m.rows.length) with
  |true=>
   rw [cond_true]
   exact⟨_,rfl,.inl ⟨d,hc,c,rfl⟩⟩
  |false=>
   rw [cond_false,qg (zoq (by rw [af];omega)),qg (zuz h b),qg (zny (by rw [af];omega) (by rw [af];omega))]
   have hno': ∀ e,e<d+1→hd m e (z2y m.rows.length)=false:=fun e n=>by
    by_cases e1:e=d
    ·subst e1;exact hc
    ·exact c e (by omega)
   by_cases hb:TBn m d=TBn m (d+1)
   ·rw [decide_eq_true hb,cond_true]
    refine⟨_,rfl,.inr ⟨fun e=>?_,rfl⟩⟩
    by_cases n:e<d
    ·exact c e n
    ·rw [zsr h (by omega) hb.symm e (by omega) hall];exact hc
   ·rw [decide_eq_false hb,cond_false,zn (ui (by omega)),bn]
    have p:=(zkh (X:=TBn m d) (Y:=TBn m (d+1)) (by rw [af,af]) fun j f=>?_).2 hb
    ·have i:=List.count_le_length (a:=true) (l:=TBn m (d+1))
     rw [af] at i
     exact zph h b g (d+1) F (by omega) (by omega) (by omega) hno'
    ·by_cases hj2:j<2^m.rows.length
     ·rw [zce hj2] at f⊢
      exact zn1 f (Nat.le_succ d)
     ·rw [List.getD_eq_getElem?_getD,List.getElem?_eq_none (by rw [af];omega)] at f
      cases f
theorem zdj{m:Mach}(h:CM m)(a:m.rows.length≤10): ∃ r,nz 1000000 m=some r∧((∃ e:Nat,hd m e (z2y m.rows.length)=true∧(∀ e',e'<e→hd m e' (z2y m.rows.length)=false)∧r=((e:Int),0))∨((∀ e,hd m e (z2y m.rows.length)=false)∧r=(0,7))):=by
 have b:2^m.rows.length≤2^10:=Nat.pow_le_pow_right (by decide) a
 have c:mq .i64 (1:Int) (m.rows.length:Int)=((2^m.rows.length:Nat):Int):=by
  unfold mq
  rw [Int.toNat_natCast,Int.one_mul,show ((2:Int)^m.rows.length)=((2^m.rows.length:Nat):Int) by norm_cast]
  exact z2w _ (Int.natCast_nonneg _) (by show ((2^m.rows.length:Nat):Int)≤(9223372036854775807:Int);omega)
 obtain⟨r,d,f⟩:=zph h a 2000 0 1000000 (by omega) (by omega) (by omega) fun e g=>by omega
 refine⟨r,?_,f⟩
 unfold nz
 rw [qg (h.ready (by omega)),cu (by decide),cu (by omega),zn ⟨by omega,by show (m.rows.length:Int)≤64;omega⟩,c,zn ⟨Int.natCast_nonneg _,by omega,by omega⟩,zli,qg (zv9 a c)]
 exact d
end GV
end Go.Proofs.Ytjmlpkkbmnjhcaa
