
import Derived.Test.YtjmlpkkbmnjhcaaGreatBit16
set_option linter.unusedVariables false
set_option linter.unusedSimpArgs false
set_option linter.unusedSectionVars false
namespace Go.Proofs.YtjmlpkkbmnjhcaaGreat
namespace GV
set_option maxRecDepth 100000
abbrev allQ:Nat→Bool:=fun _=>true
theorem z7n{σ ρ:Type}(L:Nat→Nat→σ→Option ρ)(n:Nat)(inv:Nat→σ→Prop)(r:ρ)(step: ∀ F k s,k<n→inv k s→ ∃ s',inv (k+1) s'∧L (F+1) k s=L F (k+1) s')(fin: ∀ F s,inv n s→L (F+1) n s=some r)(F:Nat)(s:σ)(c:n<F)(hi:inv 0 s):L F 0 s=some r:=
 z19 L n inv r (fun F k s a b=> .inr (step F k s a b)) fin F 0 s (Nat.zero_le _) (by omega) hi
theorem q23{N:Nat}{m:Mach}(h:CM m)(t:5000≤N){x:Int}(d:0≤x∧x≤65535){i:Nat}(hi:i<nIn m)(b:m.rows.length≤16):z4n N ⟨m⟩ x (i:Int)=some (zqt m x i allQ):=by
 have f:=h.nin
 have g:z0l N ⟨m⟩ x (i:Int) N 0 0=some (zqt m x i allQ):=by
  refine z7n (fun F k y=>z0l N ⟨m⟩ x (i:Int) F y (k:Int)) m.rows.length (fun k y=>y=bmk (zb2 m x i allQ k) m.rows.length) _ (fun F k y e c=>?_) (fun F y c=>?_) N 0 (by omega) ?_
  ·subst c
   obtain⟨j,et⟩:=h.tgt e hi
   obtain⟨l,u⟩:=zb1 (zb2 m x i allQ k) m.rows.length
   have v:=zie b
   have o:=zir (show tgt m k i<16 by omega)
   have et':(ix (ix m.rows (k:Int)) (i:Int)).to=(tgt m k i:Int):=et
   have p:okI m.rows (k:Int):=ky e
   have r:okI (ix m.rows (k:Int)) (i:Int):=h.okr ⟨by omega,by omega⟩ (by omega) (by omega)
   have a:=zku (m:=m) (x:=x) (i:=i) (k:=k) (q:=allQ) j b
   simp only [z0l]
   rw [ut (by omega),zm p,zm ⟨by omega,by show (k:Int)≤16;omega⟩,zm ⟨zw5 d k,by decide,by decide⟩,zym d.1]
   cases hb:tb x k with
   |true=>
    rw [cond_true,zm r,et',zm ⟨by omega,by show (tgt m k i:Int)≤16;omega⟩,zbo (by omega),zm ⟨⟨l,by show _≤(65535:Int);omega⟩,by omega,by show _≤(65535:Int);omega⟩,z2r,zm (j3 (by omega)),uf]
    rw [hb,if_pos (show (true&&allQ k)=true from rfl),zbo (by omega)] at a
    exact⟨_,a,rfl⟩
   |false=>
    rw [cond_false,z2r,zm (j3 (by omega)),uf]
    rw [hb,if_neg (by simp)] at a
    exact⟨_,a,rfl⟩
  ·simp only [z0l]
   rw [ul (by omega),c];rfl
  ·exact zkz (Int.le_refl _) (by have:=Nat.one_le_two_pow (n:=m.rows.length);omega) fun s _=>by rw [zhz];rfl
 unfold z4n
 rw [qh g]
/-! ### keys-/
def b2(x:Int):List Int:=[IntKind.u8.wrap (qg x (8:Int)),IntKind.u8.wrap x]
theorem zvy{N:Nat}{l:List Int}(d:l.length<N)(e:l.length≤100000):z8u N l=some (zcq (l.flatMap b2)):=by
 have c:z3z N l N [] 0=some (l.flatMap b2):=by
  refine z7n (fun F k y=>z3z N l F y (k:Int)) l.length (fun k y=>y=(l.take k).flatMap b2∧y.length≤2*k) _ (fun F k y b a=>?_) (fun F y a=>?_) N [] (by omega) ⟨rfl,Nat.zero_le _⟩
  ·obtain⟨a,hlen⟩:=a
   simp only [z3z]
   rw [ut (by omega),zm (ky b),zm ⟨by decide,by decide⟩,zm ⟨by simp only [List.length_cons,List.length_nil];omega,by simp only [List.length_cons,List.length_nil];omega⟩,zm (j3 (by omega)),uf,lg]
   refine⟨_,⟨?_,?_⟩,rfl⟩
   ·rw [z7d b,List.flatMap_append,a];rfl
   ·simp only [List.length_append,List.length_cons,List.length_nil];omega
  ·simp only [z3z]
   rw [ul (by omega),a.1,List.take_length]
 unfold z8u
 rw [qh c]
theorem znq{x:Int}(a:0≤x):IntKind.u8.wrap x=x%256:=by
 simp [IntKind.wrap,IntKind.signed,IntKind.bits]
theorem q4m{k:Nat}(c:k<65536):b2 (k:Int)=[((k/256:Nat):Int),((k%256:Nat):Int)]:=by
 unfold b2
 rw [show (8:Int)=((8:Nat):Int) from rfl,zg0,znq (Int.natCast_nonneg _),znq (Int.natCast_nonneg _)]
 have a:(((k/2^8:Nat):Int)%256)=((k/256:Nat):Int):=by rw [show (2:Nat)^8=256 from rfl];omega
 have b:((k:Int)%256)=((k%256:Nat):Int):=by omega
 rw [a,b]
theorem zm2: ∀ {l l':List Int},(∀ x∈l,0≤x∧x≤65535)→(∀ x∈l',0≤x∧x≤65535)→zcq (l.flatMap b2)=zcq (l'.flatMap b2)→l=l'
 | [],[],_,_,_=>rfl
 | [],y::l',_,_,h=>by simp [zcq,b2] at h
 |x::l,[],_,_,h=>by simp [zcq,b2] at h
 |x::l,y::l',d,hl',h=>by
  have i:=d x (List.mem_cons_self ..)
  have j:=hl' y (List.mem_cons_self ..)
  obtain⟨a,rfl⟩: ∃ k:Nat,x=(k:Int):=⟨x.toNat,by omega⟩
  obtain⟨b,rfl⟩: ∃ k:Nat,y=(k:Int):=⟨y.toNat,by omega⟩
  rw [List.flatMap_cons,List.flatMap_cons,q4m (by omega),q4m (by omega)] at h
  simp only [zcq,List.cons_append,List.nil_append,List.map_cons,List.cons.injEq] at h
  obtain⟨e,f,g⟩:=h
  have m:=zpq (by omega) (by omega) e
  have n:=zpq (by omega) (by omega) f
  have:=zm2 (l:=l) (l':=l') (fun z c=>d z (List.mem_cons_of_mem _ c)) (fun z c=>hl' z (List.mem_cons_of_mem _ c)) g
  rw [this]
  congr 1
  omega
/-! ### all states-/
def z8k(n:Nat):Int:=bmk (fun _=>true) n
theorem q3w: ∀ n,z8k n=((2^n-1:Nat):Int):=fun n=>by
 refine zz8 (zb1 _ _).1 (Int.natCast_nonneg _) fun s=>?_
 unfold z8k
 rw [zey,Bool.and_true]
 unfold tb
 rw [Int.toNat_natCast,Nat.testBit_two_pow_sub_one]
theorem zou{n s:Nat}:tb (z8k n) s=decide (s<n):=by unfold z8k;rw [zey,Bool.and_true]
theorem ztx{N:Nat}{m:Mach}(h:m.rows.length≤15):za2 N m=some (z8k m.rows.length):=by
 unfold za2
 have a:=zir (show m.rows.length<16 by omega)
 rw [zm ⟨by omega,by show (m.rows.length:Int)≤16;omega⟩,zbo (by omega),z8r _ (by omega) (by show _≤(65535:Int);omega),q3w]
 congr 1
 omega
/-! ### synchronizing-/
def stx(m:Mach)(x i:Int):Int:=zqt m x i.toNat allQ
def zxs(x:Int):Bool:=decide ((pcB x:Int)=1)
def skf(x:Int):List UInt8:=zcq (b2 x)
def InB(n:Nat)(x:Int):Prop:=0≤x∧x<((2^n:Nat):Int)
theorem zvu{N:Nat}{m:Mach}(h:CM m)(q:5000≤N)(c:m.rows.length≤12):SeaOk N (nIn m) (2^m.rows.length) m.inputs (fun b=>z7x N b) (fun b=>z8d N b) (fun b r=>z4n N (⟨(⟨m.inputs,m.outputs,m.rows⟩:Mach)⟩:Sg) b r) skf zxs (stx m) (InB m.rows.length):=by
 have s:=h.ok.i2;have t:=h.nin
 have v:=zie (show m.rows.length≤16 by omega)
 have j:2^m.rows.length≤2^12:=Nat.pow_le_pow_right (by decide) c
 refine⟨t.symm,fun x a=>?_,fun x y a d e=>?_,fun x a=>?_,fun x i a hi=>?_,fun x i a hi=>zi7 m x _ _,fun S u f=>?_,by omega,by omega,by omega,by omega,by omega⟩
 ·show z7x N x=_
  unfold z7x
  rw [qh (zvy (l:=[x]) (by simp;omega) (by simp))]
  simp [skf]
 ·obtain⟨k,n⟩:=a;obtain⟨w,A⟩:=d
  have:=zm2 (l:=[x]) (l':=[y]) (fun z g=>by rw [List.mem_singleton.1 g];omega) (fun z g=>by rw [List.mem_singleton.1 g];omega) (by simpa [skf] using e)
  simpa using this
 ·obtain⟨k,n⟩:=a
  show z8d N x=_
  unfold z8d
  rw [qh (znv (by omega))];rfl
 ·obtain⟨k,n⟩:=a
  show z4n N ⟨m⟩ x (i:Int)=_
  rw [q23 h q (by omega) hi (by omega)];rfl
 ·refine zi4 (fun x=>x.toNat) u (fun x a y d e=>?_) fun x a=>?_
  ·have o:=f x a;have p:=f y d
   have B:=o.1;have C:=p.1
   have e':x.toNat=y.toNat:=e
   omega
  ·obtain⟨o,p⟩:=f x a
   show x.toNat<_
   omega
theorem zc7(n:Nat):InB n (z8k n):=zb1 _ _
theorem q3r{N:Nat}{m:Mach}(h:CM m)(b:5000≤N)(a:m.rows.length≤12):z2m N m=some (match z8z (stx m) zxs (nIn m) 257 [(z8k m.rows.length,[])] [z8k m.rows.length] with|some w=>(w,0)|none=>([],7)):=by
 unfold z2m
 rw [qh (h.ready (by omega)),ul (by decide),ul (by omega),qh (ztx (N:=N) (m:=(⟨m.inputs,m.outputs,m.rows⟩:Mach)) (by show m.rows.length≤15;omega)),qh (zt8 (zvu h b a) (zc7 m.rows.length))];rfl
theorem zkb{m:Mach}(h:CM m): ∀ {w:List Int} {x:Int} {t:Nat},InB m.rows.length x→WIn (nIn m) w→(tb (runT (stx m) x w) t=true↔ ∃ s:Nat,s<m.rows.length∧tb x s=true∧yo m s w=(t:Int))
 | [],x,t,k,_=>by
  show tb x t=true↔_
  constructor
  ·intro c
   refine⟨t,?_,c,rfl⟩
   by_cases e:t<m.rows.length
   ·exact e
   ·rw [znj k.2 (by omega)] at c;cases c
  ·rintro⟨s,p,d,f⟩
   have l:(s:Int)=(t:Int):=f
   have:s=t:=by omega
   rw [←this];exact d
 |i::w,x,t,k,n=>by
  obtain⟨q,r⟩:=n.head
  obtain⟨j,rfl⟩: ∃ j:Nat,i=(j:Int):=⟨i.toNat,by omega⟩
  have b:j<nIn m:=by omega
  have d:=zkb h (w:=w) (x:=stx m x (j:Int)) (t:=t) (zi7 m x _ _) n.tail
  show tb (runT (stx m) (stx m x (j:Int)) w) t=true↔_
  rw [d]
  constructor
  ·rintro⟨s,p,f,l⟩
   obtain⟨u,a,g,_,rfl⟩:=(zdc h b).1 f
   exact⟨u,a,g,by rw [z7h h a b];exact l⟩
  ·rintro⟨u,a,g,o⟩
   rw [z7h h a b] at o
   exact⟨tgt m u j,(h.tgt a b).1,(zdc h b).2 ⟨u,a,g,rfl,rfl⟩,o⟩
def Syn(m:Mach)(w:List Int):Prop:= ∀ s:Nat,s<m.rows.length→yo m s w=yo m 0 w
theorem zos{m:Mach}(h:CM m)(l:m.rows.length≤12){w:List Int}(g:WIn (nIn m) w):zxs (runT (stx m) (z8k m.rows.length) w)=true↔Syn m w:=by
 have n:=h.ok.r1
 have A:=zie (show m.rows.length≤16 by omega)
 have o:InB m.rows.length (runT (stx m) (z8k m.rows.length) w):=zic (next:=stx m) (P:=InB m.rows.length) (ni:=nIn m) (fun x i B hi=>zi7 m x _ _) (zc7 _) g
 obtain⟨C,D⟩:=o
 have hall: ∀ s:Nat,s<m.rows.length→ ∃ t:Nat,yo m s w=(t:Int):=fun s c=>by
  obtain⟨j,_⟩:=h.aft (s:=(s:Int)) ⟨by omega,by omega⟩ g
  exact⟨(yo m s w).toNat,by omega⟩
 have d: ∀ s:Nat,s<m.rows.length→ ∀ t:Nat,yo m s w=(t:Int)→tb (runT (stx m) (z8k m.rows.length) w) t=true:=fun s c t f=>(zkb h (zc7 _) g).2 ⟨s,c,by rw [zou,decide_eq_true c],f⟩
 unfold zxs
 rw [decide_eq_true_iff]
 constructor
 ·intro j s c
  obtain⟨t,f⟩:=hall s c
  obtain⟨u,k⟩:=hall 0 (by omega)
  have hu':yo m 0 w=(u:Int):=k
  rw [f,hu']
  by_cases e:t=u
  ·rw [e]
  ·have:=(zki (by omega)).2 ⟨t,u,e,d s c t f,d 0 (by omega) u k⟩
   omega
 ·intro j
  obtain⟨u,k⟩:=hall 0 (by omega)
  have hpos:=(q2h (by omega)).2 ⟨u,d 0 (by omega) u k⟩
  have: ¬1<pcB (runT (stx m) (z8k m.rows.length) w):=fun p=>by
   obtain⟨a,b,q,r,v⟩:=(zki (by omega)).1 p
   obtain⟨s,c,_,y⟩:=(zkb h (zc7 _) g).1 r
   obtain⟨t,f,_,z⟩:=(zkb h (zc7 _) g).1 v
   rw [j s c] at y
   rw [j t f] at z
   omega
  omega
theorem zlr{m:Mach}(h:CM m)(a:m.rows.length≤12){v:List Int}(b:WIn (nIn m) v)(d:Syn m v): ∃ w,Lst (stx m) zxs (nIn m) (z8k m.rows.length) w∧w.length<2^m.rows.length:=by
 refine zha (fun S e f=>?_) b ((zos h a b).2 d)
 refine(zvu (N:=5000) h (Nat.le_refl _) a).num S e fun x c=>?_
 obtain⟨u,g,rfl⟩:=f x c
 exact zic (next:=stx m) (P:=InB m.rows.length) (ni:=nIn m) (fun x i c hi=>zi7 m x _ _) (zc7 _) g
end GV
end Go.Proofs.YtjmlpkkbmnjhcaaGreat

namespace Go.Proofs.YtjmlpkkbmnjhcaaGreat
namespace GV
set_option maxRecDepth 100000
def oq(m:Mach)(i o s:Nat):Bool:=decide ((edI m (s:Int) (i:Int)).out=(o:Int))
def zh6(m:Mach)(x:Int)(i o:Nat):Int:=zqt m x i (oq m i o)
def G1(m:Mach)(i:Nat)(x:Int):List Int:=((List.range 16).map (zh6 m x i)).filter fun p=>decide (1<pcB p)
theorem CM.out{m:Mach}(h:CM m){s i:Nat}(a:s<m.rows.length)(hi:i<nIn m): ∃ o:Nat,o<16∧(edI m (s:Int) (i:Int)).out=(o:Int):=by
 have b:=h.nin;have c:=h.ok.o2
 obtain⟨_,d,e⟩:=h.edge (s:=(s:Int)) (i:=(i:Int)) ⟨by omega,by omega⟩ (by omega) (by omega)
 exact⟨(edI m (s:Int) (i:Int)).out.toNat,by omega,by omega⟩
theorem q2f{N:Nat}{m:Mach}(h:CM m)(E:5000≤N){x:Int}(t:0≤x∧x≤65535){i:Nat}(hi:i<nIn m)(d:m.rows.length≤16){l:List Int}{x16:Int}(w:ix l x16=x):
 ∃ a,z08 N ⟨m⟩ l (i:Int) x16 N 0 (zn9 16 (List.replicate 16 (0:Int)))=some a∧ ∀ o,o<16→a.1.getD o default=zh6 m x i o:=by
 have z:=h.nin
 refine rq (fun F k y=>z08 N ⟨m⟩ l (i:Int) x16 F (k:Int) y) m.rows.length (fun k y=> ∀ o,o<16→y.1.getD o default=bmk (zb2 m x i (oq m i o) k) m.rows.length) _ (fun F k y j f=> .inr ?_) (fun F y f=>?_) N 0 _ (Nat.zero_le _) (by omega) fun o b=>?_
 ·obtain⟨A,et⟩:=h.tgt j hi
  obtain⟨o0,c,eo⟩:=h.out j hi
  obtain⟨B,G⟩:=zb1 (zb2 m x i (oq m i o0) k) m.rows.length
  have H:=zie d
  have C:=zir (show tgt m k i<16 by omega)
  have et':(ix (ix m.rows (k:Int)) (i:Int)).to=(tgt m k i:Int):=et
  have eo':(ix (ix m.rows (k:Int)) (i:Int)).out=(o0:Int):=eo
  have D:okI m.rows (k:Int):=ky j
  have u:okI (ix m.rows (k:Int)) (i:Int):=h.okr ⟨by omega,by omega⟩ (by omega) (by omega)
  have v:okI y.1 (o0:Int):=ky (by rw [y.2];exact c)
  have g:=zku (m:=m) (x:=x) (i:=i) (k:=k) (q:=oq m i o0) A d
  have p:oq m i o0 k=true:=decide_eq_true eo
  have r: ∀ o,o≠o0→oq m i o k=false:=fun o b=>decide_eq_false (by rw [eo];omega)
  have hstn: ∀ o,o≠o0→bmk (zb2 m x i (oq m i o) (k+1)) m.rows.length=bmk (zb2 m x i (oq m i o) k) m.rows.length:=fun o b=>zcp fun s _=>by rw [zbb,r o b,Bool.and_false,Bool.false_and,Bool.or_false]
  simp only [z08]
  rw [ut (by omega),zm D,zm ⟨by omega,by show (k:Int)≤16;omega⟩,w,zm ⟨zw5 t k,by decide,by decide⟩,zym t.1]
  cases hb:tb x k with
  |true=>
   rw [cond_true,zm u,eo',zm v,zm u,et',zm ⟨by omega,by show (tgt m k i:Int)≤16;omega⟩,zbo (by omega),lg,f o0 c,zm ⟨⟨B,by show _≤(65535:Int);omega⟩,by omega,by show _≤(65535:Int);omega⟩,zm v,z2r,zm (j3 (by omega)),uf]
   rw [hb,p,if_pos (show (true&&true)=true from rfl),zbo (by omega)] at g
   refine⟨_,fun o b=>?_,rfl⟩
   show (y.1.set o0 _).getD o default=_
   rw [z7o _ _ _ _ (by rw [y.2];exact c)]
   by_cases e:o=o0
   ·subst e;rw [if_pos rfl];exact g
   ·rw [if_neg e,f o b,hstn o e]
  |false=>
   rw [cond_false,z2r,zm (j3 (by omega)),uf]
   refine⟨y,fun o b=>?_,rfl⟩
   rw [f o b]
   exact(zcp fun s _=>by rw [zbb,hb,Bool.false_and,Bool.false_and,Bool.or_false]).symm
 ·simp only [z08]
  rw [ul (by omega)]
  exact⟨y,rfl,f⟩
 ·have e:(zn9 16 (List.replicate 16 (0:Int))).1=List.replicate 16 (0:Int):=by unfold zn9;rw [dif_pos (List.length_replicate ..)]
  rw [e]
  rw [show (List.replicate 16 (0:Int)).getD o default=0 by rw [List.getD_eq_getElem?_getD,List.getElem?_replicate,if_pos b];rfl]
  exact zkz (Int.le_refl _) (by have:=Nat.one_le_two_pow (n:=m.rows.length);omega) fun s _=>by rw [zhz];rfl
theorem zoz(m:Mach)(x:Int)(i o:Nat):InB m.rows.length (zh6 m x i o):=zi7 m x i _
theorem q34{N:Nat}{m:Mach}{x:Int}{i:Nat}(h:5000≤N)(d:m.rows.length≤16){a:Arr 16 Int}(f: ∀ o,o<16→a.1.getD o default=zh6 m x i o){b:List Int}(g:b.length≤100000):z0a N a N 0 b=some (b++G1 m i x):=by
 have j:=zie d
 refine z7n (fun F k y=>z0a N a F (k:Int) y) 16 (fun k y=>y=b++((List.range k).map (zh6 m x i)).filter (fun p=>decide (1<pcB p))∧y.length≤b.length+k) _ (fun F k y e c=>?_) (fun F y c=>?_) N b (by omega) ⟨by simp,by omega⟩
 ·obtain⟨c,l⟩:=c
  obtain⟨n,q⟩:=zoz m x i k
  simp only [z0a]
  rw [ut (by omega),zm (ky (by rw [a.2];exact e)),lg,f k e,qh (znv (by omega))]
  by_cases hc:1<pcB (zh6 m x i k)
  ·rw [ut (by omega),zm ⟨by simp only [List.length_singleton];omega,by simp only [List.length_singleton];omega⟩,z2r,zm (j3 (by omega)),uf]
   refine⟨_,⟨?_,by simp only [List.length_append,List.length_singleton];omega⟩,rfl⟩
   rw [c,List.range_succ,List.map_append,List.filter_append,List.append_assoc]
   congr 2
   show [zh6 m x i k]=List.filter _ [zh6 m x i k]
   rw [List.filter_cons,if_pos (decide_eq_true hc)];rfl
  ·rw [ul (by omega),z2r,zm (j3 (by omega)),uf]
   refine⟨_,⟨?_,by omega⟩,rfl⟩
   rw [c,List.range_succ,List.map_append,List.filter_append]
   congr 1
   show _=_++List.filter _ [zh6 m x i k]
   rw [List.filter_cons,if_neg (by simpa using hc)];simp
 ·simp only [z0a]
  rw [ul (by omega),c.1];rfl
def GL(m:Mach)(i:Nat)(l:List Int):List Int:=l.flatMap (G1 m i)
theorem q3n{N:Nat}{m:Mach}(h:CM m)(f:5000≤N){i:Nat}(hi:i<nIn m)(b:m.rows.length≤16){l:List Int}(g: ∀ x∈l,0≤x∧x≤65535)(hlen:l.length≤1000):z06 N ⟨m⟩ l (i:Int) N [] 0=some (GL m i l):=by
 refine z7n (fun F k y=>z06 N ⟨m⟩ l (i:Int) F y (k:Int)) l.length (fun k y=>y=(l.take k).flatMap (G1 m i)∧y.length≤16*k) _ (fun F k y d c=>?_) (fun F y c=>?_) N [] (by omega) ⟨rfl,Nat.zero_le _⟩
 ·obtain⟨c,j⟩:=c
  obtain⟨a,n,e⟩:=q2f h f (g _ (z4m d)) hi b (l:=l) (x16:=(k:Int)) rfl
  simp only [z06]
  rw [ut (by omega),zm (ky d),qh n,q34 f b e (by omega),z2r,zm (j3 (by omega)),uf]
  refine⟨_,⟨?_,?_⟩,rfl⟩
  ·rw [c,z7d d,List.flatMap_append];simp
  ·have:(G1 m i (l.getD k default)).length≤16:=by
    refine Nat.le_trans (List.length_filter_le _ _) ?_
    simp
   rw [List.length_append];omega
 ·simp only [z06]
  rw [ul (by omega),c.1,List.take_length];rfl
/-! ### how many states they have in all-/
theorem zo2{p:Nat→Bool}{t:Nat}: ∀ l:List Nat,l.countP (fun s=>p s||decide (s=t))≤l.countP p+l.countP (fun s=>decide (s=t))
 | []=>Nat.le_refl _
 |a::l=>by
  have:=zo2 (p:=p) (t:=t) l
  rw [List.countP_cons,List.countP_cons,List.countP_cons]
  cases p a<;>by_cases e:a=t<;>simp [e]<;>omega
theorem q6h{x:Int}(d:0≤x)(t:Nat):pcB (ior x ((2^t:Nat):Int))≤pcB x+1:=by
 have i:(List.range 16).countP (fun s=>decide (s=t))≤1:=by
  refine Nat.le_of_not_lt fun h=>?_
  obtain⟨a,b,_,_,c,e,f⟩:=(zhd List.nodup_range).1 h
  exact c ((of_decide_eq_true e).trans (of_decide_eq_true f).symm)
 have j:=zo2 (p:=tb x) (t:=t) (List.range 16)
 have g:pcB (ior x ((2^t:Nat):Int))=(List.range 16).countP (fun s=>tb x s||decide (s=t)):=by
  unfold pcB
  exact List.countP_congr fun s _=>by rw [q0n d]
 rw [g]
 unfold pcB
 omega
theorem zvm{f g:Nat→Nat}{o0:Nat}: ∀ {l:List Nat},l.Nodup→(∀ o∈l,o≠o0→g o=f o)→g o0≤f o0+1→(l.map g).sum≤(l.map f).sum+1
 | [],_,_,_=>Nat.zero_le _
 |a::l,d,c,h=>by
  obtain⟨i,j⟩:=List.nodup_cons.1 d
  rw [List.map_cons,List.map_cons,List.sum_cons,List.sum_cons]
  by_cases e:a=o0
  ·have:l.map g=l.map f:=List.map_congr_left fun o b=>c o (List.mem_cons_of_mem _ b) fun k=>i (by rw [e,←k];exact b)
   rw [this,e];omega
  ·have:=zvm j (fun o b=>c o (List.mem_cons_of_mem _ b)) h
   rw [c a (List.mem_cons_self ..) e];omega
theorem zom{m:Mach}(h:CM m){x:Int}{i:Nat}(hi:i<nIn m)(a:m.rows.length≤16): ∀ k,k≤m.rows.length→((List.range 16).map fun o=>pcB (bmk (zb2 m x i (oq m i o) k) m.rows.length)).sum≤(List.range k).countP (tb x)
 |0,_=>by
  have:((List.range 16).map fun o=>pcB (bmk (zb2 m x i (oq m i o) 0) m.rows.length))=(List.range 16).map fun _=>0:=List.map_congr_left fun o _=>by
   have e:bmk (zb2 m x i (oq m i o) 0) m.rows.length=0:=(zkz (Int.le_refl _) (by have:=Nat.one_le_two_pow (n:=m.rows.length);omega) fun s _=>by rw [zhz];rfl).symm
   rw [e];unfold pcB;exact List.countP_eq_zero.2 fun s _=>by rw [zhz];simp
  rw [this,show ((List.range 16).map (fun _=>0)).sum=0 from by decide];exact Nat.zero_le _
 |k+1,j=>by
  have ih:=zom h (x:=x) hi a k (by omega)
  obtain⟨c,et⟩:=h.tgt (show k<m.rows.length by omega) hi
  obtain⟨o0,d,eo⟩:=h.out (show k<m.rows.length by omega) hi
  rw [List.range_succ (n:=k),List.countP_append]
  cases hb:tb x k with
  |true=>
   have b:=zku (m:=m) (x:=x) (i:=i) (k:=k) (q:=oq m i o0) c a
   rw [hb,show oq m i o0 k=true from decide_eq_true eo,if_pos (show (true&&true)=true from rfl),zbo (by omega)] at b
   have:=zvm (f:=fun o=>pcB (bmk (zb2 m x i (oq m i o) k) m.rows.length)) (g:=fun o=>pcB (bmk (zb2 m x i (oq m i o) (k+1)) m.rows.length)) (o0:=o0) (l:=List.range 16) List.nodup_range (fun o _ p=>?_) ?_
   ·simp only [List.countP_singleton,hb,if_true];omega
   ·show pcB (bmk (zb2 m x i (oq m i o) (k+1)) m.rows.length)=_
    rw [zcp fun s _=>by rw [zbb,show oq m i o k=false from decide_eq_false (by rw [eo];omega),Bool.and_false,Bool.false_and,Bool.or_false]]
   ·show pcB (bmk (zb2 m x i (oq m i o0) (k+1)) m.rows.length)≤_
    rw [←b];exact q6h (zb1 _ _).1 _
  |false=>
   have:((List.range 16).map fun o=>pcB (bmk (zb2 m x i (oq m i o) (k+1)) m.rows.length))=(List.range 16).map fun o=>pcB (bmk (zb2 m x i (oq m i o) k) m.rows.length):=List.map_congr_left fun o _=>by
    rw [zcp fun s _=>by rw [zbb,hb,Bool.false_and,Bool.false_and,Bool.or_false]]
   rw [this];omega
theorem zsx{p:Nat→Bool}{n k:Nat}(h:n≤k):(List.range n).countP p≤(List.range k).countP p:=
 List.Sublist.countP_le (by
  obtain⟨d,rfl⟩: ∃ d,k=n+d:=⟨k-n,by omega⟩
  rw [List.range_add];exact List.sublist_append_left ..)
theorem zlg{f:Int→Nat}{q:Int→Bool}: ∀ l:List Int,((l.filter q).map f).sum≤(l.map f).sum
 | []=>Nat.le_refl _
 |a::l=>by
  have:=zlg (f:=f) (q:=q) l
  rw [List.filter_cons]
  split<;>simp only [List.map_cons,List.sum_cons]<;>omega
theorem q64{m:Mach}(h:CM m){x:Int}{i:Nat}(hi:i<nIn m)(a:m.rows.length≤16):((G1 m i x).map pcB).sum≤pcB x:=by
 have c:=zom h (x:=x) hi a m.rows.length (Nat.le_refl _)
 have b:=zlg (f:=pcB) (q:=fun p=>decide (1<pcB p)) ((List.range 16).map (zh6 m x i))
 have d:=zsx (p:=tb x) a
 rw [List.map_map] at b
 exact Nat.le_trans b (Nat.le_trans c d)
theorem zy5{m:Mach}(h:CM m){i:Nat}(hi:i<nIn m)(a:m.rows.length≤16): ∀ l:List Int,((GL m i l).map pcB).sum≤(l.map pcB).sum
 | []=>Nat.le_refl _
 |x::l=>by
  have c:=q64 h (x:=x) hi a
  have b:=zy5 h hi a l
  unfold GL at b⊢
  rw [List.flatMap_cons,List.map_append,List.sum_append,List.map_cons,List.sum_cons]
  omega
theorem q0d{m:Mach}{i:Nat}{x p:Int}:p∈G1 m i x↔ ∃ o,o<16∧p=zh6 m x i o∧1<pcB p:=by
 unfold G1
 rw [List.mem_filter,List.mem_map,decide_eq_true_iff]
 constructor
 ·rintro⟨⟨o,a,rfl⟩,h⟩;exact⟨o,List.mem_range.1 a,rfl,h⟩
 ·rintro⟨o,a,rfl,h⟩;exact⟨⟨o,List.mem_range.2 a,rfl⟩,h⟩
theorem zsw{m:Mach}{i:Nat}{l:List Int}{p:Int}:p∈GL m i l↔ ∃ x∈l,∃ o,o<16∧p=zh6 m x i o∧1<pcB p:=by
 unfold GL
 rw [List.mem_flatMap]
 constructor
 ·rintro⟨x,a,h⟩;exact⟨x,a,q0d.1 h⟩
 ·rintro⟨x,a,h⟩;exact⟨x,a,q0d.2 h⟩
theorem zpe: ∀ {l:List Int},(∀ x∈l,1<pcB x)→2*l.length≤(l.map pcB).sum
 | [],_=>Nat.le_refl _
 |x::l,h=>by
  have b:=h x (List.mem_cons_self ..)
  have c:=zpe (l:=l) fun y a=>h y (List.mem_cons_of_mem _ a)
  rw [List.map_cons,List.sum_cons,List.length_cons];omega
theorem zvj{f:Int→Nat}{s:List Int}: ∀ {n:Nat},n≤s.length→((zay s n).map f).sum≤((s.take n).map f).sum
 |0,_=>Nat.zero_le _
 |n+1,h=>by
  have ih:=zvj (f:=f) (s:=s) (n:=n) (by omega)
  rw [z7d (show n<s.length by omega),List.map_append,List.sum_append]
  by_cases e:0<n∧s.getD n default=s.getD (n-1) default
  ·rw [zbf e.1 e.2];omega
  ·have:zay s (n+1)=zay s n++[s.getD n default]:=by
    rw [zay]
    rw [if_neg e]
   rw [this,List.map_append,List.sum_append]
   simp only [List.map_cons,List.map_nil,List.sum_cons,List.sum_nil];omega
theorem q0v{f:Int→Nat}{a b:List Int}(h:a.Perm b):(a.map f).sum=(b.map f).sum:=by
 induction h with
 |nil=>rfl
 |cons x _ ih=>simp [ih]
 |swap x y l=>simp;omega
 |trans _ _ c d=>rw [c,d]
structure PL (n:Nat) (l:List Int):Prop where
 el: ∀ x∈l,InB n x∧1<pcB x
 sum:(l.map pcB).sum≤n
theorem PL.len{n:Nat}{l:List Int}(h:PL n l):2*l.length≤n:=Nat.le_trans (zpe fun x a=>(h.el x a).2) h.sum
theorem q3t{m:Mach}(h:CM m){i:Nat}(hi:i<nIn m)(a:m.rows.length≤16){l:List Int}(d:PL m.rows.length l): ∃ r,z0r 1000000 ⟨m⟩ l (i:Int)=some r∧(∀ p,p∈r↔p∈GL m i l)∧PL m.rows.length r:=by
 have c:=zie a
 have hlen:=d.len
 have e: ∀ x∈l,0≤x∧x≤65535:=fun x g=>by obtain⟨⟨v,w⟩,_⟩:=d.el x g;omega
 have j: ∀ p∈GL m i l,InB m.rows.length p∧1<pcB p:=fun p c=>by
  obtain⟨x,g,o,y,rfl,k⟩:=zsw.1 c
  exact⟨zoz m x i o,k⟩
 have z:=zy5 h hi a l
 have n:=d.sum
 have q:=zpe fun p c=>(j p c).2
 obtain⟨Y,t,b⟩:=zy8 (X:=GL m i l) (by omega)
 have u:=b.length_eq
 have hmem: ∀ p,p∈cpt Y↔p∈GL m i l:=fun p=>by rw [zvz];exact b.mem_iff
 refine⟨cpt Y,?_,hmem,fun p c=>j p ((hmem p).1 c),?_⟩
 ·unfold z0r
  rw [qh (q3n h (by omega) hi a e (by omega)),qh t,qh (q8k (by omega))]
 ·have:=zvj (f:=pcB) (s:=Y) (Nat.le_refl _)
  rw [List.take_length,q0v b] at this
  have A:((cpt Y).map pcB).sum≤((GL m i l).map pcB).sum:=this
  omega
def htx(m:Mach)(l:List Int)(i:Int):List Int:=(z0r 1000000 ⟨m⟩ l i).getD []
theorem zlo{m:Mach}(h:CM m){i:Nat}(hi:i<nIn m)(a:m.rows.length≤16){l:List Int}(c:PL m.rows.length l):z0r 1000000 ⟨m⟩ l (i:Int)=some (htx m l (i:Int))∧(∀ p,p∈htx m l (i:Int)↔p∈GL m i l)∧PL m.rows.length (htx m l (i:Int)):=by
 obtain⟨r,b,d,f⟩:=q3t h hi a c
 have e:htx m l (i:Int)=r:=by unfold htx;rw [b];rfl
 rw [e];exact⟨b,d,f⟩
def q9f(m:Mach)(l:List Int)(w:List Int):Prop:= ∀ x∈l,∀ s t:Nat,tb x s=true→tb x t=true→yx m s w=yx m t w→yo m s w=yo m t w
theorem zhp{m:Mach}(a:CM m){s:Nat}(b:s<m.rows.length){i:Nat}(hi:i<nIn m)(w:List Int):yx m (s:Int) ((i:Int)::w)=(edI m (s:Int) (i:Int)).out::yx m (tgt m s i:Int) w:=by
 have:=(a.tgt b hi).2
 show (z5c m s i).out::yx m (z5c m s i).to w=_
 rw [zcy ⟨by omega,by omega⟩,this]
theorem q4r{n:Nat}{x:Int}(a:InB n x){s:Nat}(h:tb x s=true):s<n:=by
 by_cases e:s<n
 ·exact e
 ·rw [znj a.2 (by omega)] at h;cases h
theorem zpz{m:Mach}(h:CM m)(d:m.rows.length≤16): ∀ {w l:List Int},PL m.rows.length l→WIn (nIn m) w→(runT (htx m) l w=[]↔q9f m l w)
 | [],l,n,_=>by
  have E:=zie d
  show l=[]↔_
  constructor
  ·rintro rfl x f;exact absurd f List.not_mem_nil
  ·intro p
   cases l with
   |nil=>rfl
   |cons x l=>
    obtain⟨⟨L,M⟩,F⟩:=n.el x (List.mem_cons_self ..)
    obtain⟨a,b,G,H,I⟩:=(zki (by omega)).1 F
    have N:(a:Int)=(b:Int):=p x (List.mem_cons_self ..) a b H I rfl
    omega
 |i::w,l,n,A=>by
  have E:=zie d
  obtain⟨O,P⟩:=A.head
  obtain⟨j,rfl⟩: ∃ j:Nat,i=(j:Int):=⟨i.toNat,by omega⟩
  have c:j<nIn m:=by omega
  obtain⟨_,B,J⟩:=zlo h c d n
  have ih:=zpz h d (w:=w) J A.tail
  show runT (htx m) (htx m l (j:Int)) w=[]↔_
  rw [ih]
  constructor
  ·intro p x f s t q r u
   have g:=q4r (n.el x f).1 q
   have k:=q4r (n.el x f).1 r
   rw [zhp h g c,zhp h k c] at u
   rw [z7h h g c,z7h h k c]
   obtain⟨v,z⟩:=List.cons.inj u
   by_cases e:tgt m s j=tgt m t j
   ·rw [e]
   ·obtain⟨o,C,eo⟩:=h.out g c
    have D:tb (zh6 m x j o) (tgt m s j)=true:=(zdc h c).2 ⟨s,g,q,decide_eq_true eo,rfl⟩
    have b2:tb (zh6 m x j o) (tgt m t j)=true:=(zdc h c).2 ⟨t,k,r,decide_eq_true (by rw [←v];exact eo),rfl⟩
    obtain⟨Q,R⟩:=zoz m x j o
    exact p (zh6 m x j o) ((B _).2 (zsw.2 ⟨x,f,o,C,rfl,(zki (by omega)).2 ⟨_,_,e,D,b2⟩⟩)) _ _ D b2 z
  ·intro p y K s' t' hs' ht' u
   obtain⟨x,f,o,C,rfl,_⟩:=zsw.1 ((B y).1 K)
   obtain⟨s,g,q,qs,rfl⟩:=(zdc h c).1 hs'
   obtain⟨t,k,r,qt,rfl⟩:=(zdc h c).1 ht'
   have:=p x f s t q r (by rw [zhp h g c,zhp h k c,of_decide_eq_true qs,of_decide_eq_true qt,u])
   rw [z7h h g c,z7h h k c] at this
   exact this
def zzg(l:List Int):Bool:=decide ((l.length:Int)=0)
def hkf(l:List Int):List UInt8:=zcq (l.flatMap b2)
def l0(n:Nat):List Int:=if n=1 then [] else [z8k n]
theorem zup: ∀ n,n≤16→pcB (z8k n)=n:=by
 have h:(List.range 17).all (fun n=>decide (pcB (z8k n)=n))=true:=by decide+kernel
 intro n a
 exact of_decide_eq_true (List.all_eq_true.1 h n (List.mem_range.2 (by omega)))
theorem zqd{n:Nat}(c:1≤n)(a:n≤16):PL n (l0 n):=by
 unfold l0
 by_cases e:n=1
 ·rw [if_pos e];exact⟨fun x b=>absurd b List.not_mem_nil,Nat.zero_le _⟩
 ·rw [if_neg e]
  refine⟨fun x b=>?_,?_⟩
  ·rw [List.mem_singleton.1 b,zup n a];exact⟨zc7 n,by omega⟩
  ·simp [zup n a]
theorem code_inj: ∀ {l l':List Int},(∀ x∈l,1≤x∧x<64)→(∀ x∈l',1≤x∧x<64)→l.foldr (fun x a=>x.toNat+64*a) 0=l'.foldr (fun x a=>x.toNat+64*a) 0→l=l'
 | [],[],_,_,_=>rfl
 | [],y::l',_,h,e=>by have:=h y (List.mem_cons_self ..);simp only [List.foldr_cons,List.foldr_nil] at e;omega
 |x::l,[],h,_,e=>by have:=h x (List.mem_cons_self ..);simp only [List.foldr_cons,List.foldr_nil] at e;omega
 |x::l,y::l',h,h',e=>by
  have c:=h x (List.mem_cons_self ..);have d:=h' y (List.mem_cons_self ..)
  simp only [List.foldr_cons] at e
  have:=code_inj (l:=l) (l':=l') (fun z b=>h z (List.mem_cons_of_mem _ b)) (fun z b=>h' z (List.mem_cons_of_mem _ b)) (by omega)
  rw [this];congr 1;rw [this] at e;omega
theorem zuq: ∀ {l:List Int},(∀ x∈l,1≤x∧x<64)→l.foldr (fun x a=>x.toNat+64*a) 0<64^l.length
 | [],_=>by decide
 |x::l,h=>by
  have c:=h x (List.mem_cons_self ..)
  have d:=zuq (l:=l) fun z b=>h z (List.mem_cons_of_mem _ b)
  simp only [List.foldr_cons,List.length_cons,Nat.pow_succ]
  omega
theorem q59{n:Nat}(i:n≤6)(S:List (List Int))(j:S.Nodup)(f: ∀ l∈S,PL n l):S.length≤262144:=by
 have q:2^n≤2^6:=Nat.pow_le_pow_right (by decide) i
 have c: ∀ l∈S,∀ x∈l,1≤x∧x<64:=fun l d x k=>by
  obtain⟨⟨r,g⟩,h⟩:=(f l d).el x k
  have:x≠0:=fun e=>by subst e;rw [show pcB 0=0 by decide+kernel] at h;omega
  omega
 refine zi4 (fun l=>l.foldr (fun x a=>x.toNat+64*a) 0) j (fun a m b o e=>code_inj (c a m) (c b o) e) fun l d=>?_
 have g:=zuq (c l d)
 have h:=(f l d).len
 have p:64^l.length≤64^3:=Nat.pow_le_pow_right (by decide) (by omega)
 exact Nat.lt_of_lt_of_le g p
theorem q6q{m:Mach}(h:CM m)(d:m.rows.length≤6):SeaOk 1000000 (nIn m) 262144 m.inputs (fun b=>z8u 1000000 b) (fun b=>z99 1000000 b) (fun b f=>z0r 1000000 (⟨(⟨m.inputs,m.outputs,m.rows⟩:Mach)⟩:Sg) b f) hkf zzg (htx m) (PL m.rows.length):=by
 have g:=h.ok.i2;have j:=h.nin
 have p:=zie (show m.rows.length≤16 by omega)
 have c: ∀ {l:List Int},PL m.rows.length l→ ∀ x∈l,0≤x∧x≤65535:=fun a x k=>by obtain⟨⟨q,r⟩,_⟩:=a.el x k;omega
 refine⟨j.symm,fun l a=>?_,fun l l' a hl' e=>zm2 (c a) (c hl') e,fun l a=>rfl,fun l i a hi=>(zlo h hi (by omega) a).1,fun l i a hi=>(zlo h hi (by omega) a).2.2,fun S n o=>q59 d S n o,by omega,by omega,by omega,by omega,by omega⟩
 have:=a.len
 exact zvy (by omega) (by omega)
theorem zwl{m:Mach}(h:CM m)(b:m.rows.length≤6):z11 1000000 m=some (match z8z (htx m) zzg (nIn m) 257 [(l0 m.rows.length,[])] [l0 m.rows.length] with|some w=>(w,0)|none=>([],7)):=by
 have a:=h.ok.r1
 have c:=zsd (q6q h b) (zqd a (by omega))
 have e:(bif decide ((m.rows.length:Int)=1) then some ([]:List Int) else some ([z8k m.rows.length]:List Int))=some (l0 m.rows.length):=by
  unfold l0
  by_cases e:m.rows.length=1
  ·rw [ut (by omega),if_pos e]
  ·rw [ul (by omega),if_neg e]
 unfold z11
 rw [qh (h.ready (by omega)),ul (by decide),ul (by omega),qh (ztx (by omega)),qh e,qh c];rfl
def Hom(m:Mach)(w:List Int):Prop:= ∀ s t:Nat,s<m.rows.length→t<m.rows.length→yx m s w=yx m t w→yo m s w=yo m t w
theorem zkg{m:Mach}(h:CM m)(a:m.rows.length≤16){w:List Int}(j:WIn (nIn m) w):zzg (runT (htx m) (l0 m.rows.length) w)=true↔Hom m w:=by
 have d:=h.ok.r1
 unfold zzg
 rw [decide_eq_true_iff]
 have k:=zpz h a (zqd d a) j
 have l:((runT (htx m) (l0 m.rows.length) w).length:Int)=0↔runT (htx m) (l0 m.rows.length) w=[]:=by
  rw [←List.length_eq_zero_iff];omega
 rw [l,k]
 unfold q9f Hom l0
 by_cases e:m.rows.length=1
 ·rw [if_pos e]
  constructor
  ·intro _ s t b c _
   have:s=t:=by omega
   rw [this]
  ·intro _ x f;exact absurd f List.not_mem_nil
 ·rw [if_neg e]
  constructor
  ·intro g s t b c i
   exact g (z8k m.rows.length) (List.mem_singleton.2 rfl) s t (by rw [zou,decide_eq_true b]) (by rw [zou,decide_eq_true c]) i
  ·intro g x f s t b c i
   rw [List.mem_singleton.1 f,zou] at b c
   exact g s t (of_decide_eq_true b) (of_decide_eq_true c) i
end GV
end Go.Proofs.YtjmlpkkbmnjhcaaGreat

namespace Go.Proofs.YtjmlpkkbmnjhcaaGreat
namespace GV
set_option maxRecDepth 100000
theorem zzp: ∀ k:Nat,k<1024→z4p 1000000 (IntKind.u64.wrap (k:Int))=some (pcB (k:Int):Int):=by
 have h:(List.range 1024).all (fun(k:Nat)=>decide (z4p 1000000 (IntKind.u64.wrap (k:Int))=some (pcB (k:Int):Int)))=true:=by decide+kernel
 intro k a
 exact of_decide_eq_true (List.all_eq_true.1 h k (List.mem_range.2 a))
theorem zxt{N:Nat}{s:List Bool}(a:s.length≤1000000):z4t N s=some s:=by
 unfold z4t
 rw [zm ⟨by simp only [List.length_nil];omega,by simp only [List.length_nil];omega⟩,List.nil_append]
def hd(m:Mach):Nat→Int→Bool
 |0,x=>decide (pcB x<2)
 |d+1,x=>hd m d x||(List.range (nIn m)).any fun i=> !((htx m [x] (i:Int)).any fun p=> !hd m d p)
theorem zv5{m:Mach}{x:Int}{d:Nat}(h:hd m d x=true): ∀ {e},d≤e→hd m e x=true:=by
 intro e a
 induction a with
 |refl=>exact h
 |step _ ih=>unfold hd;rw [ih,Bool.true_or]
theorem zkm{m:Mach}{x:Int}(h:pcB x<2)(d:Nat):hd m d x=true:=zv5 (d:=0) (decide_eq_true h) (Nat.zero_le _)
theorem zzs{n:Nat}{x:Int}(b:n≤16)(a:InB n x)(c:1<pcB x):PL n [x]:=by
 refine⟨fun y f=>by rw [List.mem_singleton.1 f];exact⟨a,c⟩,?_⟩
 simp only [List.map_cons,List.map_nil,List.sum_cons,List.sum_nil]
 have:(List.range 16).countP (tb x)≤n:=by
  have e:(List.range 16).countP (tb x)=(List.range n).countP (tb x):=by
   obtain⟨d,hd⟩: ∃ d,16=n+d:=⟨16-n,by omega⟩
   rw [hd,List.range_add,List.countP_append]
   have:((List.range d).map (n+ ·)).countP (tb x)=0:=List.countP_eq_zero.2 fun s g=>by
    obtain⟨j,_,rfl⟩:=List.mem_map.1 g
    rw [znj a.2 (by omega)];simp
   omega
  rw [e]
  exact Nat.le_trans List.countP_le_length (by simp)
 exact this
def TBn(m:Mach)(d:Nat):List Bool:=(List.range (2^m.rows.length)).map fun(k:Nat)=>hd m d (k:Int)
theorem z18{m:Mach}{d:Nat}:(TBn m d).length=2^m.rows.length:=by simp [TBn]
theorem zib{m:Mach}{d k:Nat}(h:k<2^m.rows.length):(TBn m d).getD k default=hd m d (k:Int):=by simp [TBn,List.getD_eq_getElem?_getD,h]
theorem zov{m:Mach}{d:Nat}{x:Int}(h:InB m.rows.length x):ix (TBn m d) x=hd m d x:=by
 obtain⟨a,b⟩:=h
 obtain⟨k,rfl⟩: ∃ k:Nat,x=(k:Int):=⟨x.toNat,by omega⟩
 rw [lg,zib (by omega)]
theorem zia{α:Type}[Inhabited α]{X Y:List α}{n k j:Nat}(a:X.length=n)(b:Y.length=n)(c:k≤n):(X.take k++Y.drop k).getD j default=if j<k then X.getD j default else Y.getD j default:=by
 rw [List.getD_eq_getElem?_getD]
 by_cases h:j<k
 ·rw [if_pos h,List.getElem?_append_left (by rw [List.length_take];omega),List.getElem?_take,if_pos h,List.getD_eq_getElem?_getD]
 ·rw [if_neg h,List.getElem?_append_right (by rw [List.length_take];omega),List.length_take,Nat.min_eq_left (by omega),List.getElem?_drop,List.getD_eq_getElem?_getD]
  congr 2;omega
theorem q6a{x:Int}(a:0≤x)(b:x≤65535):IntKind.u16.wrap x=x:=z8r _ a b
theorem q6t{F0:Nat}(z:1000<F0){m:Mach}(h:CM m)(g:m.rows.length≤10){d k:Nat}(A:k<2^m.rows.length){T:List Bool}(B:T.length=2^m.rows.length)(l:T.getD k default=hd m d (k:Int)):
 z0y 1000000 m (TBn m d) (k:Int) F0 0 T=some (T.set k (hd m (d+1) (k:Int))):=by
 have C:=h.nin;have D:=h.ok.i2
 have u:2^m.rows.length≤2^10:=Nat.pow_le_pow_right (by decide) g
 have f:k<T.length:=by rw [B];exact A
 have n:InB m.rows.length (k:Int):=⟨by omega,by omega⟩
 have hset: ∀ b,(T.set k b).getD k default=b:=fun b=>by rw [z7o _ _ _ _ f,if_pos rfl]
 have hself:T=T.set k (hd m d (k:Int)):=by
  refine List.ext_getElem (by simp) fun j E L=>?_
  by_cases e:j=k
  ·subst e
   rw [List.getElem_set,if_pos rfl,←l,List.getD_eq_getElem?_getD,List.getElem?_eq_getElem E];rfl
  ·rw [List.getElem_set,if_neg (fun v=>e v.symm)]
 have o: ∀ i,(hd m d (k:Int)||(List.range (i+1)).any fun i=> !((htx m [(k:Int)] (i:Int)).any fun p=> !hd m d p))=((hd m d (k:Int)||(List.range i).any fun i=> !((htx m [(k:Int)] (i:Int)).any fun p=> !hd m d p))|| !((htx m [(k:Int)] (i:Int)).any fun p=> !hd m d p)):=fun i=>by
  rw [List.range_succ,List.any_append,←Bool.or_assoc];simp
 rw [show hd m (d+1) (k:Int)=(hd m d (k:Int)||(List.range (nIn m)).any fun i=> !((htx m [(k:Int)] (i:Int)).any fun p=> !hd m d p)) from rfl]
 refine z7n (fun F i s=>z0y 1000000 m (TBn m d) (k:Int) F (i:Int) s) (nIn m) (fun i s=>s=T.set k (hd m d (k:Int)||(List.range i).any fun i=> !((htx m [(k:Int)] (i:Int)).any fun p=> !hd m d p))) _ (fun F i s hi q=>?_) (fun F s q=>?_) F0 T (by show m.inputs.toNat<_;omega) ?_
 ·subst q
  have a:okI (T.set k (hd m d (k:Int)||(List.range i).any fun i=> !((htx m [(k:Int)] (i:Int)).any fun p=> !hd m d p))) (k:Int):=ky (by rw [List.length_set];exact f)
  simp only [z0y]
  rw [ut (by omega),zm a,lg,hset]
  generalize hc:(hd m d (k:Int)||(List.range i).any fun i=> !((htx m [(k:Int)] (i:Int)).any fun p=> !hd m d p))=c at a⊢
  have hav':=o i
  rw [hc] at hav'
  cases c with
  |true=>
   rw [qh (zaw (b:=(true&&((!true)==true))) rfl),qh (zaw (b:=(true&&((!true)==true))) rfl),Bool.not_true,Bool.false_and,cond_false,z2r,zm (j3 (by omega)),uf,hav',Bool.true_or]
   exact⟨_,rfl,rfl⟩
  |false=>
   have r:1<pcB (k:Int):=by
    refine Nat.lt_of_not_le fun G=>?_
    rw [zkm (by omega) d,Bool.true_or] at hc;cases hc
   have t:=zzs (by omega) n r
   obtain⟨H,v,w⟩:=zlo h hi (by omega) t
   have hsets:z0r 1000000 (⟨(⟨m.inputs,m.outputs,m.rows⟩:Mach)⟩:Sg) ([IntKind.u16.wrap (k:Int)]:List Int) (i:Int)=some (htx m [(k:Int)] (i:Int)):=by
    rw [q6a (by omega) (by omega)];exact H
   have hcon:z0e 1000000 (htx m [(k:Int)] (i:Int)) (fun I=>z6o 1000000 I (TBn m d))=some ((htx m [(k:Int)] (i:Int)).any fun p=> !hd m d p):=by
    have J:=w.len
    refine zph (by omega) (by omega) fun p K=>?_
    obtain⟨⟨x,y⟩,_⟩:=w.el p K
    unfold z6o
    rw [zm ⟨x,by rw [z18];exact y⟩,zov ⟨x,y⟩]
   rw [qh (z9n (b:=(true&&((!false)==true))) rfl hsets),Option.getD_some,qh (z9n (b:=(true&&((!false)==true))) rfl hcon),Option.getD_some,Bool.not_false,Bool.true_and,hav',Bool.false_or]
   cases hv:((htx m [(k:Int)] (i:Int)).any fun p=> !hd m d p) with
   |true=>
    rw [Bool.not_true,cond_false,z2r,zm (j3 (by omega)),uf]
    exact⟨_,rfl,rfl⟩
   |false=>
    rw [Bool.not_false,cond_true,zm a,z2r,zm (j3 (by omega)),uf,zt0,List.set_set]
    exact⟨_,rfl,rfl⟩
 ·simp only [z0y]
  rw [ul (by omega),q]
 ·simp only [List.range_zero,List.any_nil,Bool.or_false]
  exact hself
theorem q5m{m:Mach}(h:CM m)(a:m.rows.length≤10){d:Nat}:z10 1000000 m (TBn m d) (TBn m d) 1000000 0 (TBn m d)=some (TBn m (d+1)):=by
 have f:2^m.rows.length≤2^10:=Nat.pow_le_pow_right (by decide) a
 refine z7n (fun F k s=>z10 1000000 m (TBn m d) (TBn m d) F (k:Int) s) (2^m.rows.length) (fun k s=>s=(TBn m (d+1)).take k++(TBn m d).drop k) _ (fun F k s c b=>?_) (fun F s b=>?_) 1000000 (TBn m d) (by omega) (by simp)
 ·have g:=zia (X:=TBn m (d+1)) (Y:=TBn m d) (n:=2^m.rows.length) (k:=k) (j:=k) z18 z18 (by omega)
  rw [if_neg (by omega),zib c,←b] at g
  have i:s.length=2^m.rows.length:=by rw [b,List.length_append,List.length_take,List.length_drop,z18,z18];omega
  simp only [z10]
  rw [ut (by rw [z18];omega),qh (q6t (F0:=1000000) (by decide) h a c i g),zm (j3 (by omega)),uf]
  refine⟨_,?_,rfl⟩
  refine zid (by rw [List.length_set,i,List.length_append,List.length_take,List.length_drop,z18,z18];omega) fun j l=>?_
  rw [z7o _ _ _ _ (by omega),b,zia (n:=2^m.rows.length) z18 z18 (by omega),zia (n:=2^m.rows.length) z18 z18 (by omega)]
  by_cases e:j=k
  ·subst e;rw [if_pos rfl,if_pos (by omega),zib c]
  ·rw [if_neg e]
   by_cases e2:j<k
   ·rw [if_pos e2,if_pos (by omega)]
   ·rw [if_neg e2,if_neg (by omega)]
 ·simp only [z10]
  rw [ul (by rw [z18];omega),b,List.drop_of_length_le (by rw [z18];omega),List.append_nil,List.take_of_length_le (by rw [z18];omega)]
theorem q52{m:Mach}(a:m.rows.length≤10)(b:z0k .i64 (1:Int) (m.rows.length:Int)=((2^m.rows.length:Nat):Int)):z0z 1000000 m 1000000 0 (List.replicate (2^m.rows.length) false)=some (TBn m 0):=by
 have c:2^m.rows.length≤2^10:=Nat.pow_le_pow_right (by decide) a
 refine z7n (fun F k s=>z0z 1000000 m F (k:Int) s) (2^m.rows.length) (fun k s=>s=(TBn m 0).take k++(List.replicate (2^m.rows.length) false).drop k) _ (fun F k s d hs'=>?_) (fun F s hs'=>?_) 1000000 _ (by omega) (by simp)
 ·have f:s.length=2^m.rows.length:=by rw [hs',List.length_append,List.length_take,List.length_drop,z18,List.length_replicate];omega
  simp only [z0z]
  rw [b,zl4,List.length_replicate,ut (by omega),qh (zzp k (by omega)),zm (ky (by omega)),zm (j3 (by omega)),uf]
  refine⟨_,?_,rfl⟩
  show s.set k _=_
  refine zid (by rw [List.length_set,f,List.length_append,List.length_take,List.length_drop,z18,List.length_replicate];omega) fun j g=>?_
  rw [z7o _ _ _ _ (by omega),hs',zia (n:=2^m.rows.length) z18 (List.length_replicate ..) (by omega),zia (n:=2^m.rows.length) z18 (List.length_replicate ..) (by omega)]
  by_cases e:j=k
  ·subst e;rw [if_pos rfl,if_pos (by omega),zib d]
   show decide ((pcB (j:Int):Int)<2)=decide (pcB (j:Int)<2)
   by_cases h2:pcB (j:Int)<2
   ·rw [decide_eq_true h2,decide_eq_true (by omega)]
   ·rw [decide_eq_false h2,decide_eq_false (by omega)]
  ·rw [if_neg e]
   by_cases e2:j<k
   ·rw [if_pos e2,if_pos (by omega)]
   ·rw [if_neg e2,if_neg (by omega)]
 ·simp only [z0z]
  rw [b,zl4,List.length_replicate,ul (by omega),hs',List.drop_of_length_le (by rw [List.length_replicate];omega),List.append_nil,List.take_of_length_le (by rw [z18];omega)]
/-! ### it comes to an end-/
theorem zzn{m:Mach}{d:Nat}(b:TBn m (d+1)=TBn m d): ∀ {x:Int},InB m.rows.length x→hd m (d+1) x=hd m d x:=fun {x} a=>by rw [←zov a,b,zov a]
theorem q2k{m:Mach}(h:CM m)(c:m.rows.length≤16){d:Nat}(j:TBn m (d+1)=TBn m d): ∀ e,d≤e→ ∀ {x:Int},InB m.rows.length x→hd m e x=hd m d x:=by
 intro e n
 induction n with
 |refl=>intro x _;rfl
 | @step e n ih=>
  intro x k
  rw [←zzn j k]
  show (hd m e x||_)=(hd m d x||_)
  by_cases h2:1<pcB x
  ·rw [ih k]
   congr 1
   refine any_congr16 fun i hi=>?_
   have o:=(zlo h (List.mem_range.1 hi) c (zzs c k h2)).2.2
   congr 1
   exact any_congr16 fun p q=>by rw [ih (o.el p q).1]
  ·rw [zkm (by omega) e,zkm (by omega) d,Bool.true_or,Bool.true_or]
where
 any_congr16 {α:Type} {l:List α} {f g:α→Bool} (h: ∀ a∈l,f a=g a):l.any f=l.any g:=by
  induction l with
  |nil=>rfl
  |cons a l ih=>rw [List.any_cons,List.any_cons,h a (List.mem_cons_self ..),ih fun b j=>h b (List.mem_cons_of_mem _ j)]
theorem ztt{X Y:List Bool}:X.length=Y.length→(∀ j,X.getD j default=true→Y.getD j default=true)→X.count true≤Y.count true∧(X≠Y→X.count true<Y.count true):=by
 induction X generalizing Y with
 |nil=>
  intro d _
  cases Y with
  |nil=>exact⟨Nat.le_refl _,fun h=>absurd rfl h⟩
  |cons b Y=>simp at d
 |cons a X ih=>
  intro d c
  cases Y with
  |nil=>simp at d
  |cons b Y=>
   obtain⟨f,g⟩:=ih (Y:=Y) (by simpa using d) fun j i=>c (j+1) i
   have k:a=true→b=true:=c 0
   rw [List.count_cons,List.count_cons]
   cases a<;>cases b
   ·refine⟨by simpa using f,fun h=>?_⟩
    have:=g fun e=>h (by rw [e])
    simpa using this
   ·exact⟨by simp;omega,fun _=>by simp;omega⟩
   ·cases k rfl
   ·refine⟨by simpa using f,fun h=>?_⟩
    have:=g fun e=>h (by rw [e])
    simpa using this
theorem zz3{m:Mach}(h:CM m)(b:m.rows.length≤10): ∀ (g d F:Nat),2^m.rows.length-(TBn m d).count true<g→g<F→d+g≤100000→(∀ e,e<d→hd m e (z8k m.rows.length)=false)→
 ∃ r,z3c 1000000 m F (d:Int) (TBn m d)=some r∧((∃ e:Nat,hd m e (z8k m.rows.length)=true∧(∀ e',e'<e→hd m e' (z8k m.rows.length)=false)∧r=((e:Int),0))∨((∀ e,hd m e (z8k m.rows.length)=false)∧r=(0,7)))
 |0,d,F,o,_,_,_=>by omega
 |g+1,d,F,o,q,hd',c=>by
  have k:2^m.rows.length≤2^10:=Nat.pow_le_pow_right (by decide) b
  obtain⟨F,rfl⟩: ∃ F',F=F'+1:=⟨F-1,by omega⟩
  have hall:=zc7 m.rows.length
  simp only [z3c]
  rw [qh (ztx (N:=1000000) (m:=(⟨m.inputs,m.outputs,m.rows⟩:Mach)) (by show m.rows.length≤15;omega)),zm (⟨hall.1,by rw [z18];exact hall.2⟩:okI (TBn m d) (z8k m.rows.length))]
  rw [show ix (TBn m d) (z8k (⟨m.inputs,m.outputs,m.rows⟩:Mach).rows.length)=hd m d (z8k m.rows.length) from zov hall]
  cases hc:hd m d (z8k m.rows.length) with
  |true=>
   rw [cond_true]
   exact⟨_,rfl,.inl ⟨d,hc,c,rfl⟩⟩
  |false=>
   rw [cond_false,qh (zxt (by rw [z18];omega)),qh (q5m h b),qh (zwj (by rw [z18];omega) (by rw [z18];omega))]
   have hno': ∀ e,e<d+1→hd m e (z8k m.rows.length)=false:=fun e n=>by
    by_cases e1:e=d
    ·subst e1;exact hc
    ·exact c e (by omega)
   by_cases hb:TBn m d=TBn m (d+1)
   ·rw [decide_eq_true hb,cond_true]
    refine⟨_,rfl,.inr ⟨fun e=>?_,rfl⟩⟩
    by_cases n:e<d
    ·exact c e n
    ·rw [q2k h (by omega) hb.symm e (by omega) hall];exact hc
   ·rw [decide_eq_false hb,cond_false,zm (j3 (by omega)),uf]
    have p:=(ztt (X:=TBn m d) (Y:=TBn m (d+1)) (by rw [z18,z18]) fun j f=>?_).2 hb
    ·have i:=List.count_le_length (a:=true) (l:=TBn m (d+1))
     rw [z18] at i
     exact zz3 h b g (d+1) F (by omega) (by omega) (by omega) hno'
    ·by_cases hj2:j<2^m.rows.length
     ·rw [zib hj2] at f⊢
      exact zv5 f (Nat.le_succ d)
     ·rw [List.getD_eq_getElem?_getD,List.getElem?_eq_none (by rw [z18];omega)] at f
      cases f
theorem zqz{m:Mach}(h:CM m)(a:m.rows.length≤10): ∃ r,z2i 1000000 m=some r∧((∃ e:Nat,hd m e (z8k m.rows.length)=true∧(∀ e',e'<e→hd m e' (z8k m.rows.length)=false)∧r=((e:Int),0))∨((∀ e,hd m e (z8k m.rows.length)=false)∧r=(0,7))):=by
 have b:2^m.rows.length≤2^10:=Nat.pow_le_pow_right (by decide) a
 have c:z0k .i64 (1:Int) (m.rows.length:Int)=((2^m.rows.length:Nat):Int):=by
  unfold z0k
  rw [Int.toNat_natCast,Int.one_mul,show ((2:Int)^m.rows.length)=((2^m.rows.length:Nat):Int) by norm_cast]
  exact z8r _ (Int.natCast_nonneg _) (by show ((2^m.rows.length:Nat):Int)≤(9223372036854775807:Int);omega)
 obtain⟨r,d,f⟩:=zz3 h a 2000 0 1000000 (by omega) (by omega) (by omega) fun e g=>by omega
 refine⟨r,?_,f⟩
 unfold z2i
 rw [qh (h.ready (by omega)),ul (by decide),ul (by omega),zm ⟨by omega,by show (m.rows.length:Int)≤64;omega⟩,c,zm ⟨Int.natCast_nonneg _,by omega,by omega⟩,zl4,qh (q52 a c)]
 exact d
end GV
end Go.Proofs.YtjmlpkkbmnjhcaaGreat
