import Derived.Test.YtkkcidhcfkmbjaaGreatDoorRunt
set_option linter.unusedVariables false
set_option linter.unusedSimpArgs false
set_option linter.unusedSectionVars false
namespace Go.Proofs.YtkkcidhcfkmbjaaGreatDoor
namespace GV
theorem zki{a b:List Int}(h:lle a b)(k:lle b a):a=b:=by
 rcases h with h|h
 ·exact h
 ·rcases k with k|k
  ·exact k.symm
  ·exact absurd (zbp h k) (zg6 _)
theorem ziu{a b:List Int}(i:Int)(h:lle a b):lle (i::a) (i::b):=by
 rcases h with rfl|h|⟨c,d⟩
 ·exact .inl rfl
 ·exact .inr (.inl (by simpa using h))
 ·exact .inr (.inr ⟨by simp [c],.inr ⟨rfl,d⟩⟩)
theorem ze3{a b:List Int}(h:a.length<b.length):lle a b:= .inr (.inl h)
def Sep(m:Mach)(s t:Nat)(w:List Int):Prop:=WOk m.inputs w∧vw m (s:Int) w≠vw m (t:Int) w
def LSep(m:Mach)(s t:Nat)(w:List Int):Prop:=Sep m s t w∧ ∀ v,Sep m s t v→lle w v
section
variable {m : Mach} {s t : Nat} {w v : List Int}
theorem Sep.symm(h:Sep m s t w):Sep m t s w:=⟨h.1,h.2.symm⟩
theorem LSep.symm(h:LSep m s t w):LSep m t s w:=⟨h.1.symm,fun v a=>h.2 v a.symm⟩
theorem LSep.uniq(h:LSep m s t w)(k:LSep m s t v):w=v:=zki (h.2 v k.1) (k.2 w h.1)
theorem z7n{n:Int}{i:Nat}(hi:i<n.toNat)(h:WOk n w):WOk n ((i:Int)::w):=fun j a=>by
 cases j with
 |zero=>exact⟨by show 0≤(i:Int);omega,by show (i:Int)<n;omega⟩
 |succ j=>exact h j (by simpa using a)
theorem zds{n c:Int}(h:WOk n (c::w)): ∃ i:Nat,c=(i:Int)∧i<n.toNat∧WOk n w:=by
 have a:0≤c∧c<n:=h 0 (by simp)
 obtain⟨i,rfl⟩:=Int.eq_ofNat_of_zero_le a.1
 exact⟨i,rfl,by omega,fun j b=>h (j+1) (by simpa using b)⟩
theorem zh1{i:Nat}(hi:i<m.inputs.toNat)(h:ou m s i≠ou m t i):Sep m s t [(i:Int)]:=
 ⟨z7n hi fun j a=>by simp at a,by rw [pu,pu];exact fun e=>h (List.cons.inj e).1⟩
theorem z2e(c:MOk m)(d:s<m.rows.length)(f:t<m.rows.length){i:Nat}(hi:i<m.inputs.toNat)(g:ou m s i=ou m t i)(h:ed m s i≠ -1):
 ((ed m s i).toNat<m.rows.length∧(ed m t i).toNat<m.rows.length)∧(Sep m s t ((i:Int)::w)↔Sep m (ed m s i).toNat (ed m t i).toNat w):=by
 have k:=(z5g c d hi).1
 have l:=(z5g c f hi).1
 have n:ed m t i≠ -1:=fun e=>h (k.2 (by rw [g];exact l.1 e))
 have o:=(z4q c d hi).resolve_left h
 have p:=(z4q c f hi).resolve_left n
 refine⟨⟨by omega,by omega⟩,?_⟩
 unfold Sep
 rw [pu,pu,g,Int.toNat_of_nonneg o.1,Int.toNat_of_nonneg p.1]
 constructor
 ·rintro⟨a,b⟩
  exact⟨fun j q=>a (j+1) (by simpa using q),fun e=>b (by rw [e])⟩
 ·rintro⟨a,b⟩
  exact⟨z7n hi a,fun e=>b (List.cons.inj e).2⟩
theorem za7(a:MOk m)(b:s<m.rows.length)(d:t<m.rows.length)(h:Sep m s t v): ∃ (i:Nat) (u:List Int),v=(i:Int)::u∧i<m.inputs.toNat∧
 (ou m s i≠ou m t i∨(ou m s i=ou m t i∧ed m s i≠ -1∧Sep m (ed m s i).toNat (ed m t i).toNat u)):=by
 match v,h with
 | [],h=>exact absurd rfl h.2
 |c::u,h=>
  obtain⟨i,rfl,hi,_⟩:=zds h.1
  refine⟨i,u,rfl,hi,?_⟩
  by_cases ho:ou m s i=ou m t i
  ·refine .inr ⟨ho,?_⟩
   have g:=(z5g a b hi).1
   have j:=(z5g a d hi).1
   have f:ed m s i≠ -1:=fun e=>by
    have k:ed m t i= -1:=j.2 (by rw [←ho];exact g.1 e)
    refine h.2 ?_
    rw [pu,pu,ho,e,k]
   exact⟨f,(z2e a b d hi ho f).2.1 h⟩
  ·exact .inl ho
def z1h(m:Mach)(g:Nat→Nat→List Int)(n s t i:Nat):Bool:=(decide (1<n)&&decide (ed m s i≠ -1))&&decide ((g (ed m s i).toNat (ed m t i).toNat).length+1=n)
def z9j(m:Mach)(g:Nat→Nat→List Int)(n s t:Nat):Nat→Nat→List Int
 |0,_=>[]
 |k+1,i=>if ou m s i≠ou m t i then [(i:Int)] else if z1h m g n s t i=true then(i:Int)::g (ed m s i).toNat (ed m t i).toNat else z9j m g n s t k (i+1)
def za2(m:Mach)(g:Nat→Nat→List Int)(n s t:Nat):List Int:=
 if(z9j m g n s t m.inputs.toNat 0).length=n then z9j m g n s t m.inputs.toNat 0 else []
theorem zbf{g:Nat→Nat→List Int}{n:Nat}: ∀ k i,(z9j m g n s t k i=[]∧ ∀ j,i≤j→j<i+k→ou m s j=ou m t j∧z1h m g n s t j=false)∨
 ∃ j,i≤j∧j<i+k∧(∀ q,i≤q→q<j→ou m s q=ou m t q∧z1h m g n s t q=false)∧
  ((ou m s j≠ou m t j∧z9j m g n s t k i=[(j:Int)])∨(ou m s j=ou m t j∧z1h m g n s t j=true∧z9j m g n s t k i=(j:Int)::g (ed m s j).toNat (ed m t j).toNat))
 |0,i=> .inl ⟨rfl,fun j a b=>by omega⟩
 |k+1,i=>by
  unfold z9j
  by_cases ho:ou m s i=ou m t i
  ·rw [if_neg (by simpa using ho)]
   by_cases hc:z1h m g n s t i=true
   ·rw [if_pos hc]
    exact .inr ⟨i,Nat.le_refl _,by omega,fun q a b=>by omega,.inr ⟨ho,hc,rfl⟩⟩
   ·rw [if_neg hc]
    have c:=Bool.eq_false_iff.2 hc
    rcases zbf k (i+1) with⟨a,b⟩|⟨j,a,b,f,h⟩
    ·refine .inl ⟨a,fun j o l=>?_⟩
     by_cases e:j=i
     ·subst e;exact⟨ho,c⟩
     ·exact b j (by omega) (by omega)
    ·refine .inr ⟨j,by omega,by omega,fun q p d=>?_,h⟩
     by_cases e:q=i
     ·subst e;exact⟨ho,c⟩
     ·exact f q (by omega) d
  ·rw [if_pos ho]
   exact .inr ⟨i,Nat.le_refl _,by omega,fun q a b=>by omega,.inl ⟨ho,rfl⟩⟩
def sw(m:Mach):Nat→Nat→Nat→List Int
 |0,_,_=>[]
 |k+1,s,t=>if sw m k s t=[] then za2 m (sw m k) (k+1) s t else sw m k s t
structure SwOk (m:Mach) (k:Nat) (s t:Nat) (w:List Int):Prop where
 some:w≠[]→LSep m s t w∧w.length≤k
 none:w=[]→ ∀ v,Sep m s t v→k<v.length
theorem SwOk.uniq{k:Nat}(h:SwOk m k s t w)(h':SwOk m k s t v):w=v:=by
 by_cases e:w=[]
 ·by_cases e2:v=[]
  ·rw [e,e2]
  ·have:=h'.some e2
   have:=h.none e v this.1.1
   omega
 ·have a:=h.some e
  by_cases e2:v=[]
  ·have:=h'.none e2 w a.1.1
   omega
  ·exact a.1.uniq (h'.some e2).1
theorem SwOk.symm{k:Nat}(h:SwOk m k s t w):SwOk m k t s w:=
 ⟨fun e=>⟨(h.some e).1.symm,(h.some e).2⟩,fun e v a=>h.none e v a.symm⟩
theorem zlx(q:MOk m){k:Nat}{g:Nat→Nat→List Int}(J: ∀ a b,a<m.rows.length→b<m.rows.length→SwOk m k a b (g a b))(r:s<m.rows.length)(x:t<m.rows.length)(C: ∀ v,Sep m s t v→k<v.length):
 SwOk m (k+1) s t (za2 m g (k+1) s t):=by
 have D: ∀ i,i<m.inputs.toNat→ou m s i≠ou m t i→k=0:=fun i hi p=>by
  have:=C _ (zh1 hi p)
  simpa using this
 unfold za2
 rcases zbf (m:=m) (s:=s) (t:=t) (g:=g) (n:=k+1) m.inputs.toNat 0 with⟨V,W⟩|⟨j,V,W,I,X⟩
 ·rw [V,if_neg (by simp)]
  refine⟨fun e=>absurd rfl e,fun _ v y=>?_⟩
  have Y:=C v y
  refine Nat.lt_of_le_of_ne Y fun e=>?_
  obtain⟨i,u,rfl,hi,h⟩:=za7 q r x y
  obtain⟨p,A⟩:=W i (Nat.zero_le _) (by omega)
  rcases h with h|⟨_,f,l⟩
  ·exact h p
  ·have K:u.length=k:=by simpa using e.symm
   obtain⟨⟨L,M⟩,_⟩:=z2e (w:=u) q r x hi p f
   have ok:=J _ _ L M
   have c:g (ed m s i).toNat (ed m t i).toNat≠[]:=fun d=>by have:=ok.none d u l;omega
   have B:=ok.some c
   have hlen:(g (ed m s i).toNat (ed m t i).toNat).length=k:=by
    have:=B.1.2 u l
    have I:(g (ed m s i).toNat (ed m t i).toNat).length+1>k:=by
     have:=C _ ((z2e q r x hi p f).2.2 B.1.1)
     simpa using this
    have:=B.2
    omega
   have z:1<k+1:=by
    have:0<(g (ed m s i).toNat (ed m t i).toNat).length:=List.length_pos_iff.2 c
    omega
   have:z1h m g (k+1) s t i=true:=by
    unfold z1h;rw [decide_eq_true z,decide_eq_true f,decide_eq_true (by omega)];rfl
   rw [this] at A;cases A
 ·have N:j<m.inputs.toNat:=by omega
  rcases X with⟨p,e⟩|⟨p,A,e⟩
  ·have O:=D j N p
   subst O
   rw [e,if_pos (by simp)]
   refine⟨fun _=>⟨⟨zh1 N p,fun v y=>?_⟩,by simp⟩,fun d=>by cases d⟩
   obtain⟨i,u,rfl,hi,h⟩:=za7 q r x y
   by_cases K:u=[]
   ·subst K
    rcases h with h|⟨_,_,h⟩
    ·by_cases hij:i<j
     ·exact absurd (I i (Nat.zero_le _) hij).1 h
     ·by_cases d:i=j
      ·subst d;exact .inl rfl
      ·exact .inr (.inr ⟨rfl,.inl (by omega)⟩)
    ·exact absurd rfl h.2
   ·exact ze3 (by have:=List.length_pos_iff.2 K;simp;omega)
  ·unfold z1h at A
   simp only [Bool.and_eq_true,decide_eq_true_eq] at A
   obtain⟨⟨z,f⟩,hlen⟩:=A
   obtain⟨⟨L,M⟩,P⟩:=z2e (w:=g (ed m s j).toNat (ed m t j).toNat) q r x N p f
   have ok:=J _ _ L M
   have c:g (ed m s j).toNat (ed m t j).toNat≠[]:=fun d=>by rw [d] at hlen;simp at hlen;omega
   have B:=ok.some c
   rw [e,if_pos (by simpa using hlen)]
   refine⟨fun _=>⟨⟨P.2 B.1.1,fun v y=>?_⟩,by simp;omega⟩,fun d=>by cases d⟩
   obtain⟨i,u,rfl,hi,h⟩:=za7 q r x y
   have Q:=C _ y
   have hvl':k≤u.length:=Nat.le_of_lt_succ (by simpa using Q)
   by_cases hul:u.length=k
   ·rcases h with h|⟨E,o,l⟩
    ·have:=D i hi h;omega
    ·obtain⟨⟨R,S⟩,_⟩:=z2e (w:=u) q r x hi E o
     have F:=J _ _ R S
     have G:g (ed m s i).toNat (ed m t i).toNat≠[]:=fun d=>by have:=F.none d u l;omega
     have H:=F.some G
     have T:(g (ed m s i).toNat (ed m t i).toNat).length=k:=by
      have I:(g (ed m s i).toNat (ed m t i).toNat).length+1>k:=by
       have:=C _ ((z2e q r x hi E o).2.2 H.1.1)
       simpa using this
      have:=H.2
      omega
     have U:z1h m g (k+1) s t i=true:=by
      unfold z1h;rw [decide_eq_true z,decide_eq_true o,decide_eq_true (by omega)];rfl
     by_cases hij:i<j
     ·have:=(I i (Nat.zero_le _) hij).2;rw [U] at this;cases this
     ·by_cases d:i=j
      ·subst d;exact ziu _ (B.1.2 u l)
      ·exact .inr (.inr ⟨by simp;omega,.inl (by omega)⟩)
   ·exact ze3 (by simp;omega)
theorem z8g(d:MOk m): ∀ (k:Nat) {s t:Nat},s<m.rows.length→t<m.rows.length→SwOk m k s t (sw m k s t)
 |0,s,t,f,g=>⟨fun e=>absurd rfl e,fun _ v i=>by
  cases v with
  |nil=>exact absurd rfl i.2
  |cons c v=>simp⟩
 |k+1,s,t,f,g=>by
  have ih:=z8g d k f g
  unfold sw
  by_cases e:sw m k s t=[]
  ·rw [if_pos e]
   exact zlx d (fun a b j l=>z8g d k j l) f g (ih.none e)
  ·rw [if_neg e]
   exact⟨fun h=>⟨(ih.some h).1,by have:=(ih.some h).2;omega⟩,fun h=>absurd h e⟩
theorem z8y(a:MOk m)(k:Nat)(b:s<m.rows.length)(c:t<m.rows.length):sw m k s t=sw m k t s:=(z8g a k b c).uniq (z8g a k c b).symm
theorem zh2(b:MOk m)(k:Nat)(a:s<m.rows.length):sw m k s s=[]:=by
 refine Classical.byContradiction fun e=>?_
 exact((z8g b k a a).some e).1.1.2 rfl
theorem zax(a:MOk m)(c:s<m.rows.length)(d:t<m.rows.length)(h:Sep m s t v): ∃ w,Sep m s t w∧w.length<m.rows.length:=by
 obtain⟨k,n,b,_⟩:=zcg a
 have f:pkc m (m.rows.length-1) s≠pkc m (m.rows.length-1) t:=fun e=>by
  have g:pkc m k s=pkc m k t:=znm (by omega) e
  have:cls m s=cls m t:=by
   unfold cls
   rw [lc a b _ (by omega) s c,lc a b _ (by omega) t d,g]
  exact h.2 ((z8w a c d).1 this v h.1)
 refine Classical.byContradiction fun i=>f ((z4z a _ c d).2 fun w j o=>?_)
 refine Classical.byContradiction fun l=>i ⟨w,⟨j,l⟩,by have:=a.r1;omega⟩
theorem zcb(a:MOk m){k:Nat}(g:m.rows.length≤k+1)(b:s<m.rows.length)(c:t<m.rows.length):(sw m k s t≠[]→LSep m s t (sw m k s t))∧(sw m k s t=[]→ ∀ v,¬Sep m s t v):=
 ⟨fun e=>((z8g a k b c).some e).1,fun e v d=>by
  obtain⟨w,f,h⟩:=zax a b c d
  have:=(z8g a k b c).none e w f
  omega⟩
end
end GV
end Go.Proofs.YtkkcidhcfkmbjaaGreatDoor
