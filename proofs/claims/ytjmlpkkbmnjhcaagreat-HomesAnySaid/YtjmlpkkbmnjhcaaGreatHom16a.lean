
import Derived.Test.YtjmlpkkbmnjhcaaGreatBfs06
import Derived.Test.YtjmlpkkbmnjhcaaGreatSpec06l
set_option linter.unusedVariables false
set_option linter.unusedSimpArgs false
set_option linter.unusedSectionVars false
namespace Go.Proofs.YtjmlpkkbmnjhcaaGreat
namespace GV
section sea
variable {T : Type} [DecidableEq T]
abbrev LS (T:Type):=List (T×List Int)×List T
def z9j(s:LS T)(x:T)(w:List Int):LS T:=if x∈s.2 then s else(s.1++[(x,w)],s.2++[x])
def z6c(next:T→Int→T)(x:T)(w:List Int)(s:LS T):Nat→LS T
 |0=>s
 |i+1=>z9j (z6c next x w s i) (next x (i:Int)) (w++[(i:Int)])
def zbw(next:T→Int→T)(ni:Nat)(s:LS T):List (T×List Int)→LS T
 | []=>s
 |p::L=>zbw next ni (z6c next p.1 p.2 s ni) L
def z8z(next:T→Int→T)(isb:T→Bool)(ni:Nat):Nat→List (T×List Int)→List T→Option (List Int)
 |0,_,_=>none
 |g+1,L,S=>if L=[] then none else match L.find? fun p=>isb p.1 with
  |some p=>some p.2
  |none=>z8z next isb ni g (zbw next ni ([],S) L).1 (zbw next ni ([],S) L).2
def runT(next:T→Int→T)(x:T)(w:List Int):T:=w.foldl next x
def WIn(ni:Nat)(w:List Int):Prop:= ∀ i∈w,0≤i∧i<(ni:Int)
theorem z9x{next:T→Int→T}{x:T}{w:List Int}{i:Int}:runT next x (w++[i])=next (runT next x w) i:=by simp [runT]
theorem WIn.snoc{ni:Nat}{w:List Int}{i:Int}(h:WIn ni w)(b:0≤i)(c:i<(ni:Int)):WIn ni (w++[i]):=fun j a=>by
 rcases List.mem_append.1 a with a|a
 ·exact h j a
 ·rw [List.mem_singleton.1 a];exact⟨b,c⟩
theorem WIn.append{ni:Nat}{w v:List Int}(h:WIn ni w)(k:WIn ni v):WIn ni (w++v):=fun j a=>by
 rcases List.mem_append.1 a with a|a
 ·exact h j a
 ·exact k j a
theorem WIn.init{ni:Nat}{w:List Int}{i:Int}(h:WIn ni (w++[i])):WIn ni w∧0≤i∧i<(ni:Int):=
 ⟨fun j a=>h j (List.mem_append.2 (.inl a)),h i (List.mem_append.2 (.inr (List.mem_singleton.2 rfl)))⟩
theorem zow{w:List Int}{k:Nat}(h:w.length=k+1): ∃ v i,w=v++[i]∧v.length=k:=by
 have a:w≠[]:=by intro e;rw [e] at h;simp at h
 refine⟨w.dropLast,w.getLast a,(List.dropLast_concat_getLast a).symm,?_⟩
 rw [List.length_dropLast];omega
structure PS (S0:List T) (Q:T→List Int→Prop) (s:LS T):Prop where
 seen:s.2=S0++s.1.map Prod.fst
 nd:s.2.Nodup
 ord:s.1.Pairwise fun a b=>llt a.2 b.2
 out: ∀ q∈s.1,Q q.1 q.2
 got: ∀ x w,Q x w→x∈S0∨ ∃ q∈s.1,q.1=x∧lle q.2 w
theorem PS.congr{S0:List T}{Q Q':T→List Int→Prop}{s:LS T}(h:PS S0 Q s)(e: ∀ x w,Q x w↔Q' x w):PS S0 Q' s:=
 ⟨h.seen,h.nd,h.ord,fun q a=>(e _ _).1 (h.out q a),fun x w b=>h.got x w ((e _ _).2 b)⟩
theorem q33{S0:List T}{Q:T→List Int→Prop}{s:LS T}{x:T}{w:List Int}(h:PS S0 Q s)(i: ∀ x' w',Q x' w'→llt w' w):PS S0 (fun x' w'=>Q x' w'∨(x'=x∧w'=w)) (z9j s x w):=by
 unfold z9j
 by_cases d:x∈s.2
 ·rw [if_pos d]
  refine⟨h.seen,h.nd,h.ord,fun q c=> .inl (h.out q c),fun x' w' hw'=>?_⟩
  rcases hw' with hw'|⟨rfl,rfl⟩
  ·exact h.got x' w' hw'
  ·rw [h.seen] at d
   rcases List.mem_append.1 d with d|d
   ·exact .inl d
   ·obtain⟨q,c,rfl⟩:=List.mem_map.1 d
    exact .inr ⟨q,c,rfl,.inr (i _ _ (h.out q c))⟩
 ·rw [if_neg d]
  refine⟨?_,?_,?_,fun q c=>?_,fun x' w' hw'=>?_⟩
  ·show s.2++[x]=S0++(s.1++[(x,w)]).map Prod.fst
   rw [h.seen,List.map_append,List.append_assoc];rfl
  ·show (s.2++[x]).Nodup
   rw [List.nodup_append]
   refine⟨h.nd,List.nodup_cons.2 ⟨List.not_mem_nil,List.nodup_nil⟩,fun a f b g e=>?_⟩
   rw [List.mem_singleton.1 g] at e
   exact d (e▸f)
  ·show (s.1++[(x,w)]).Pairwise _
   rw [List.pairwise_append]
   exact⟨h.ord,List.pairwise_singleton ..,fun a f b g=>by rw [List.mem_singleton.1 g];exact i _ _ (h.out a f)⟩
  ·rcases List.mem_append.1 c with c|c
   ·exact .inl (h.out q c)
   ·rw [List.mem_singleton.1 c];exact .inr ⟨rfl,rfl⟩
  ·rcases hw' with hw'|⟨rfl,rfl⟩
   ·rcases h.got x' w' hw' with k|⟨q,c,k⟩
    ·exact .inl k
    ·exact .inr ⟨q,List.mem_append.2 (.inl c),k⟩
   ·exact .inr ⟨(x',w'),List.mem_append.2 (.inr (List.mem_singleton.2 rfl)),rfl,.inl rfl⟩
theorem zvk{next:T→Int→T}{S0:List T}{Q:T→List Int→Prop}{s:LS T}{x:T}{w:List Int}(h:PS S0 Q s)(b: ∀ x' w',Q x' w'→ ∀ j:Int,llt w' (w++[j])):
 ∀ k:Nat,PS S0 (fun x' w'=>Q x' w'∨ ∃ j:Nat,j<k∧x'=next x (j:Int)∧w'=w++[(j:Int)]) (z6c next x w s k)
 |0=>h.congr fun x' w'=>⟨.inl,fun h=>h.resolve_right fun⟨j,a,_⟩=>by omega⟩
 |k+1=>by
  refine(q33 (zvk h b k) (x:=next x (k:Int)) (w:=w++[(k:Int)]) fun x' w' hw'=>?_).congr fun x' w'=>?_
  ·rcases hw' with hw'|⟨j,a,_,rfl⟩
   ·exact b x' w' hw' _
   ·exact zkk w (by omega)
  ·constructor
   ·rintro((h|⟨j,a,h⟩)|h)
    ·exact .inl h
    ·exact .inr ⟨j,by omega,h⟩
    ·exact .inr ⟨k,by omega,h⟩
   ·rintro(h|⟨j,a,h⟩)
    ·exact .inl (.inl h)
    ·by_cases e:j=k
     ·subst e;exact .inr h
     ·exact .inl (.inr ⟨j,by omega,h⟩)
theorem zw4{next:T→Int→T}{ni:Nat}{S0:List T}: ∀ {L:List (T×List Int)} {Q:T→List Int→Prop} {s:LS T},PS S0 Q s→L.Pairwise (fun a b=>llt a.2 b.2)→(∀ x' w',Q x' w'→ ∀ p∈L,∀ j:Int,llt w' (p.2++[j]))→
 PS S0 (fun x' w'=>Q x' w'∨ ∃ p∈L,∃ j:Nat,j<ni∧x'=next p.1 (j:Int)∧w'=p.2++[(j:Int)]) (zbw next ni s L)
 | [],Q,s,h,_,_=>h.congr fun x' w'=>⟨.inl,fun h=>h.resolve_right fun⟨p,d,_⟩=>absurd d List.not_mem_nil⟩
 |p::L,Q,s,h,e,c=>by
  obtain⟨f,g⟩:=List.pairwise_cons.1 e
  refine(zw4 (L:=L) (zvk h (fun x' w' hw' j=>c x' w' hw' p (List.mem_cons_self ..) j) ni) g fun x' w' hw' p' hp' j=>?_).congr fun x' w'=>?_
  ·rcases hw' with hw'|⟨i,hi,_,rfl⟩
   ·exact c x' w' hw' p' (List.mem_cons_of_mem _ hp') j
   ·exact zhx _ _ (f p' hp')
  ·constructor
   ·rintro((h|h)|⟨p',hp',h⟩)
    ·exact .inl h
    ·exact .inr ⟨p,List.mem_cons_self ..,h⟩
    ·exact .inr ⟨p',List.mem_cons_of_mem _ hp',h⟩
   ·rintro(h|⟨p',hp',h⟩)
    ·exact .inl (.inl h)
    ·rcases List.mem_cons.1 hp' with rfl|hp'
     ·exact .inl (.inr h)
     ·exact .inr ⟨p',hp',h⟩
structure LI (next:T→Int→T) (isb:T→Bool) (ni:Nat) (x0:T) (k:Nat) (L:List (T×List Int)) (S:List T):Prop where
 wd: ∀ p∈L,p.2.length=k∧WIn ni p.2∧p.1=runT next x0 p.2
 nd:S.Nodup
 ord:L.Pairwise fun a b=>llt a.2 b.2
 seen: ∀ x,x∈S↔ ∃ v,v.length≤k∧WIn ni v∧x=runT next x0 v
 rep: ∀ v,v.length=k→WIn ni v→(∃ p∈L,p.1=runT next x0 v∧lle p.2 v)∨ ∃ u,u.length<k∧WIn ni u∧runT next x0 u=runT next x0 v
 no: ∀ v,v.length<k→WIn ni v→isb (runT next x0 v)=false
 num:L≠[]→k<S.length
 sub: ∀ p∈L,p.1∈S
theorem zbv{next:T→Int→T}{isb:T→Bool}{ni:Nat}{a:T}:LI next isb ni a 0 [(a,[])] [a]:=by
 have d: ∀ p∈[(a,([]:List Int))],p=(a,[]):=fun p b=>List.mem_singleton.1 b
 refine⟨fun p b=>?_,List.nodup_cons.2 ⟨List.not_mem_nil,List.nodup_nil⟩,List.pairwise_singleton ..,fun x=>?_,fun v c e=>?_,fun v c=>by omega,fun _=>Nat.zero_lt_one,fun p b=>?_⟩
 ·rw [d p b];exact⟨rfl,fun i hi=>absurd hi List.not_mem_nil,rfl⟩
 ·rw [List.mem_singleton]
  constructor
  ·rintro rfl;exact⟨[],Nat.le_refl _,fun i hi=>absurd hi List.not_mem_nil,rfl⟩
  ·rintro⟨v,c,_,rfl⟩
   rw [List.length_eq_zero_iff.1 (Nat.le_zero.1 c)];rfl
 ·rw [List.length_eq_zero_iff.1 c]
  exact .inl ⟨(a,[]),List.mem_singleton.2 rfl,rfl,.inl rfl⟩
 ·rw [d p b];exact List.mem_singleton.2 rfl
theorem q5k{next:T→Int→T}{isb:T→Bool}{ni:Nat}{a:T}{k:Nat}{L:List (T×List Int)}{S:List T}(h:LI next isb ni a k L S):
 PS S (fun x' w'=> ∃ p∈L,∃ j:Nat,j<ni∧x'=next p.1 (j:Int)∧w'=p.2++[(j:Int)]) (zbw next ni ([],S) L):=by
 refine(zw4 (next:=next) (ni:=ni) (L:=L) (Q:=fun _ _=>False) (s:=([],S)) (S0:=S) ⟨by simp,h.nd,List.Pairwise.nil,fun q b=>absurd b List.not_mem_nil,fun _ _ h=>h.elim⟩ h.ord fun _ _ h=>h.elim).congr fun x' w'=>?_
 exact⟨fun h=>h.resolve_left id,.inr⟩
theorem zk7{next:T→Int→T}{isb:T→Bool}{ni:Nat}{t:T}{k:Nat}{L:List (T×List Int)}{S:List T}(h:LI next isb ni t k L S)(A: ∀ p∈L,isb p.1=false):
 LI next isb ni t (k+1) (zbw next ni ([],S) L).1 (zbw next ni ([],S) L).2:=by
 have n:=q5k h
 generalize zbw next ni ([],S) L=s at n
 have hseen: ∀ x,x∈s.2↔x∈S∨ ∃ q∈s.1,q.1=x:=fun x=>by rw [n.seen,List.mem_append,List.mem_map]
 have hout: ∀ q∈s.1,q.2.length=k+1∧WIn ni q.2∧q.1=runT next t q.2:=fun q f=>by
  obtain⟨p,d,j,J,o,y⟩:=n.out q f
  obtain⟨B,C,D⟩:=h.wd p d
  rw [o,y]
  exact⟨by simp [B],C.snoc (by omega) (by omega),by rw [z9x,D]⟩
 have hnew: ∀ v,v.length=k+1→WIn ni v→(runT next t v∈S)∨ ∃ q∈s.1,q.1=runT next t v∧lle q.2 v:=fun v r l=>by
  obtain⟨v',i,rfl,hv'⟩:=zow r
  obtain⟨hw',E,F⟩:=l.init
  rcases h.rep v' hv' hw' with⟨p,d,o,y⟩|⟨u,z,m,e⟩
  ·obtain⟨j,rfl⟩: ∃ j:Nat,i=(j:Int):=⟨i.toNat,by omega⟩
   rcases n.got (next p.1 (j:Int)) (p.2++[(j:Int)]) ⟨p,d,j,by omega,rfl,rfl⟩ with g|⟨q,f,G,H⟩
   ·left;rw [z9x,←o];exact g
   ·right;exact⟨q,f,by rw [G,z9x,←o],zj0 H (zrf _ y)⟩
  ·left
   rw [z9x,←e,←z9x (next:=next),h.seen]
   exact⟨u++[i],by simp;omega,m.snoc E F,rfl⟩
 refine⟨hout,n.nd,n.ord,fun x=>?_,fun v r l=>?_,fun v r l=>?_,fun w=>?_,fun q f=>(hseen _).2 (.inr ⟨q,f,rfl⟩)⟩
 ·rw [hseen]
  constructor
  ·rintro(I|⟨q,f,rfl⟩)
   ·obtain⟨v,r,l,e⟩:=(h.seen x).1 I
    exact⟨v,by omega,l,e⟩
   ·obtain⟨a,b,c⟩:=hout q f
    exact⟨q.2,by omega,b,c⟩
  ·rintro⟨v,r,l,rfl⟩
   by_cases e:v.length=k+1
   ·rcases hnew v e l with g|⟨q,f,g,_⟩
    ·exact .inl g
    ·exact .inr ⟨q,f,g⟩
   ·exact .inl ((h.seen _).2 ⟨v,by omega,l,rfl⟩)
 ·rcases hnew v r l with g|g
  ·obtain⟨u,z,m,e⟩:=(h.seen _).1 g
   exact .inr ⟨u,by omega,m,e.symm⟩
  ·exact .inl g
 ·by_cases e:v.length=k
  ·rcases h.rep v e l with⟨p,d,o,_⟩|⟨u,z,m,o⟩
   ·rw [←o];exact A p d
   ·rw [←o];exact h.no u z m
  ·exact h.no v (by omega) l
 ·have hlen:s.2.length=S.length+s.1.length:=by rw [n.seen,List.length_append,List.length_map]
  have K:0<s.1.length:=List.length_pos_iff.2 w
  by_cases hL:L=[]
  ·exfalso
   obtain⟨q,f⟩:=List.exists_mem_of_ne_nil _ w
   obtain⟨p,d,_⟩:=n.out q f
   rw [hL] at d;exact absurd d List.not_mem_nil
  ·have:=h.num hL;omega
theorem zml{isb:T→Bool}: ∀ {L:List (T×List Int)} {p:T×List Int},L.Pairwise (fun a b=>llt a.2 b.2)→L.find? (fun p=>isb p.1)=some p→ ∀ q∈L,isb q.1=true→lle p.2 q.2
 | [],p,_,h,q,c,_=>absurd c List.not_mem_nil
 |a::L,p,e,h,q,c,d=>by
  obtain⟨f,g⟩:=List.pairwise_cons.1 e
  rw [List.find?_cons] at h
  cases ha:isb a.1 with
  |true=>
   rw [ha] at h
   obtain rfl:=Option.some.inj h
   rcases List.mem_cons.1 c with rfl|c
   ·exact .inl rfl
   ·exact .inr (f q c)
  |false=>
   rw [ha] at h
   rcases List.mem_cons.1 c with rfl|c
   ·rw [ha] at d;cases d
   ·exact zml g h q c d
def Lst(next:T→Int→T)(isb:T→Bool)(ni:Nat)(a:T)(w:List Int):Prop:=WIn ni w∧isb (runT next a w)=true∧ ∀ v,WIn ni v→isb (runT next a v)=true→lle w v
theorem zhl{a b:List Int}(h:lle a b):a.length≤b.length:=by
 rcases h with rfl|h|⟨h,_⟩
 ·exact Nat.le_refl _
 ·omega
 ·omega
theorem zu1{next:T→Int→T}{isb:T→Bool}{ni:Nat}{b:T}{k:Nat}{S:List T}(h:LI next isb ni b k [] S): ∀ v,WIn ni v→isb (runT next b v)=false:=by
 have key: ∀ n v,v.length=n→WIn ni v→ ∃ u,u.length<k∧WIn ni u∧runT next b u=runT next b v:=by
  have base: ∀ v,v.length≤k→WIn ni v→ ∃ u,u.length<k∧WIn ni u∧runT next b u=runT next b v:=fun v c a=>by
   by_cases e:v.length=k
   ·exact(h.rep v e a).resolve_left fun⟨p,l,_⟩=>absurd l List.not_mem_nil
   ·exact⟨v,by omega,a,rfl⟩
  intro n
  induction n with
  |zero=>intro v c a;exact base v (by omega) a
  |succ n ih=>
   intro v c a
   obtain⟨v',i,rfl,hv'⟩:=zow c
   obtain⟨hw',m,o⟩:=a.init
   obtain⟨u,r,d,e⟩:=ih v' hv' hw'
   obtain⟨q,f,g,j⟩:=base (u++[i]) (by simp;omega) (d.snoc m o)
   exact⟨q,f,g,by rw [j,z9x,z9x,e]⟩
 intro v a
 obtain⟨u,f,g,j⟩:=key v.length v rfl a
 rw [←j];exact h.no u f g
theorem zcz{next:T→Int→T}{isb:T→Bool}{ni:Nat}{f:T}{w:List Int}: ∀ {g k:Nat} {L:List (T×List Int)} {S:List T},LI next isb ni f k L S→z8z next isb ni g L S=some w→Lst next isb ni f w
 |0,k,L,S,h,e=>by cases e
 |g+1,k,L,S,h,e=>by
  unfold z8z at e
  by_cases hL:L=[]
  ·rw [if_pos hL] at e;cases e
  ·rw [if_neg hL] at e
   cases hf:L.find? (fun p=>isb p.1) with
   |some p=>
    rw [hf] at e
    obtain rfl:=Option.some.inj e
    have b:=List.mem_of_find?_eq_some hf
    have j:=List.find?_some hf
    obtain⟨t,l,m⟩:=h.wd p b
    refine⟨l,by rw [←m];exact j,fun v i a=>?_⟩
    by_cases hk:v.length<k
    ·rw [h.no v hk i] at a;cases a
    ·by_cases hk2:v.length=k
     ·rcases h.rep v hk2 i with⟨q,n,c,o⟩|⟨u,r,d,c⟩
      ·exact zj0 (zml h.ord hf q n (by rw [c];exact a)) o
      ·rw [←c,h.no u r d] at a;cases a
     ·exact .inr (.inl (by omega))
   |none=>
    rw [hf] at e
    exact zcz (zk7 h fun p s=>by simpa using List.find?_eq_none.1 hf p s) e
theorem zn5{next:T→Int→T}{isb:T→Bool}{ni:Nat}{b:T}: ∀ {g k:Nat} {L:List (T×List Int)} {S:List T},LI next isb ni b k L S→z8z next isb ni g L S=none→ ∀ v,WIn ni v→v.length<k+g→isb (runT next b v)=false
 |0,k,L,S,h,e,v,a,c=>h.no v (by omega) a
 |g+1,k,L,S,h,e,v,a,c=>by
  unfold z8z at e
  by_cases hL:L=[]
  ·subst hL;exact zu1 h v a
  ·rw [if_neg hL] at e
   cases hf:L.find? (fun p=>isb p.1) with
   |some p=>rw [hf] at e;cases e
   |none=>
    rw [hf] at e
    exact zn5 (zk7 h fun p d=>by simpa using List.find?_eq_none.1 hf p d) e v a (by omega)
theorem zoq{next:T→Int→T}{isb:T→Bool}{ni:Nat}{a:T}{g:Nat}{v:List Int}(b:WIn ni v)(c:isb (runT next a v)=true)(d:v.length<g): ∃ w,z8z next isb ni g [(a,[])] [a]=some w∧Lst next isb ni a w:=by
 cases e:z8z next isb ni g [(a,[])] [a] with
 |some w=>exact⟨w,rfl,zcz zbv e⟩
 |none=>have:=zn5 zbv e v b (by omega);rw [c] at this;cases this
theorem zr0{next:T→Int→T}{isb:T→Bool}{ni:Nat}{b:T}{B:Nat}(c: ∀ S:List T,S.Nodup→(∀ x∈S,∃ v,WIn ni v∧x=runT next b v)→S.length≤B): ∀ {g k:Nat} {L:List (T×List Int)} {S:List T},LI next isb ni b k L S→B≤k+g→z8z next isb ni g L S=none→ ∀ v,WIn ni v→isb (runT next b v)=false
 |0,k,L,S,h,d,e,v,a=>by
  by_cases hL:L=[]
  ·subst hL;exact zu1 h v a
  ·have:=h.num hL
   have:=c S h.nd fun x f=>by obtain⟨v,_,i,j⟩:=(h.seen x).1 f;exact⟨v,i,j⟩
   omega
 |g+1,k,L,S,h,d,e,v,a=>by
  unfold z8z at e
  by_cases hL:L=[]
  ·subst hL;exact zu1 h v a
  ·rw [if_neg hL] at e
   cases hf:L.find? (fun p=>isb p.1) with
   |some p=>rw [hf] at e;cases e
   |none=>
    rw [hf] at e
    exact zr0 c (zk7 h fun p l=>by simpa using List.find?_eq_none.1 hf p l) (by omega) e v a
end sea
end GV
end Go.Proofs.YtjmlpkkbmnjhcaaGreat

namespace Go.Proofs.YtjmlpkkbmnjhcaaGreat
namespace GV
set_option maxRecDepth 100000
theorem ztb{κ β:Type}[DecidableEq κ](z:β)(M:List (κ×β))(k:κ)(v:β)(j:κ):zed z (z8a M k v) j=if j=k then v else zed z M j:=by
 induction M with
 |nil=>unfold z8a zed;rfl
 |cons p M ih=>
  unfold z8a
  by_cases h:k=p.1
  ·rw [if_pos h]
   unfold zed
   by_cases e:j=k
   ·rw [if_pos e,if_pos e]
   ·rw [if_neg e,if_neg e,if_neg (fun q=>e (q.trans h.symm))]
  ·rw [if_neg h]
   unfold zed
   by_cases e:j=p.1
   ·rw [if_pos e,if_pos e,if_neg (fun q=>h (q.symm.trans e))]
   ·rw [if_neg e,if_neg e];exact ih
section
variable {T : Type} [DecidableEq T] [Inhabited T]
structure SeaOk (N ni B:Nat) (inputs:Int) (key:T→Option (List UInt8)) (is_:T→Option Bool) (next:T→Int→Option T) (kf:T→List UInt8) (isf:T→Bool) (nf:T→Int→T) (P:T→Prop):Prop where
 inp:inputs=(ni:Int)
 key: ∀ x,P x→key x=some (kf x)
 inj: ∀ x y,P x→P y→kf x=kf y→x=y
 is_: ∀ x,P x→is_ x=some (isf x)
 next: ∀ x (i:Nat),P x→i<ni→next x (i:Int)=some (nf x (i:Int))
 cl: ∀ x (i:Nat),P x→i<ni→P (nf x (i:Int))
 num: ∀ S:List T,S.Nodup→(∀ x∈S,P x)→S.length≤B
 bB:B≤1000000000000
 BN:B<N
 nN:ni<N
 n16:ni≤1000
 N300:300≤N
def MS(kf:T→List UInt8)(M:List (List UInt8×Bool))(S:List T):Prop:= ∀ q,zed false M q=true↔ ∃ x∈S,kf x=q
theorem zpx{kf:T→List UInt8}{M:List (List UInt8×Bool)}{S:List T}(h:MS kf M S)(x:T):MS kf (z8a M (kf x) true) (S++[x]):=fun q=>by
 rw [ztb]
 by_cases e:q=kf x
 ·rw [if_pos e]
  exact⟨fun _=>⟨x,List.mem_append.2 (.inr (List.mem_singleton.2 rfl)),e.symm⟩,fun _=>rfl⟩
 ·rw [if_neg e,h q]
  constructor
  ·rintro⟨y,a,rfl⟩;exact⟨y,List.mem_append.2 (.inl a),rfl⟩
  ·rintro⟨y,a,rfl⟩
   rcases List.mem_append.1 a with a|a
   ·exact⟨y,a,rfl⟩
   ·rw [List.mem_singleton.1 a] at e;exact absurd rfl e
theorem ztk{kf:T→List UInt8}(x:T):MS kf (z8a [] (kf x) true) [x]:=by
 have:=zpx (kf:=kf) (M:=[]) (S:=[]) (fun q=>⟨fun h=>by simp [zed] at h,fun⟨y,a,_⟩=>absurd a List.not_mem_nil⟩) x
 exact this
theorem zte{kf:T→List UInt8}{M:List (List UInt8×Bool)}{S:List T}(h:MS kf M S){x:T}(a:x∈S):zed false M (kf x)=true:=(h _).2 ⟨x,a,rfl⟩
theorem zl9{kf:T→List UInt8}{P:T→Prop}{M:List (List UInt8×Bool)}{S:List T}(h:MS kf M S)(hinj: ∀ x y,P x→P y→kf x=kf y→x=y)(b: ∀ y∈S,P y){x:T}(c:P x)(d:x∉S):zed false M (kf x)=false:=by
 cases e:zed false M (kf x) with
 |false=>rfl
 |true=>
  obtain⟨y,a,f⟩:=(h _).1 e
  rw [hinj y x (b y a) c f] at a
  exact absurd a d
structure LW (P:T→Prop) (k:Nat) (s:LS T):Prop where
 nd:s.2.Nodup
 all: ∀ x∈s.2,P x
 le:s.1.length≤s.2.length
 wl: ∀ q∈s.1,P q.1∧q.2.length=k+1
theorem q2g{P:T→Prop}{k:Nat}{s:LS T}{x:T}{w:List Int}(h:LW P k s)(f:P x)(g:w.length=k+1):LW P k (z9j s x w):=by
 unfold z9j
 by_cases hm:x∈s.2
 ·rw [if_pos hm];exact h
 ·rw [if_neg hm]
  refine⟨?_,fun y c=>?_,?_,fun q d=>?_⟩
  ·show (s.2++[x]).Nodup
   rw [List.nodup_append]
   refine⟨h.nd,List.nodup_cons.2 ⟨List.not_mem_nil,List.nodup_nil⟩,fun a i b j e=>?_⟩
   rw [List.mem_singleton.1 j] at e
   exact hm (e▸i)
  ·rcases List.mem_append.1 c with c|c
   ·exact h.all y c
   ·rw [List.mem_singleton.1 c];exact f
  ·show (s.1++[(x,w)]).length≤(s.2++[x]).length
   have:=h.le
   simp;omega
  ·rcases List.mem_append.1 d with d|d
   ·exact h.wl q d
   ·rw [List.mem_singleton.1 d];exact⟨f,g⟩
theorem zi0{P:T→Prop}{k ni:Nat}{nf:T→Int→T}(cl: ∀ x (i:Nat),P x→i<ni→P (nf x (i:Int))){s:LS T}{x:T}{w:List Int}(h:LW P k s)(a:P x)(b:w.length=k): ∀ j,j≤ni→LW P k (z6c nf x w s j)
 |0,_=>h
 |j+1,c=>q2g (zi0 cl h a b j (by omega)) (cl x j a (by omega)) (by simp [b])
theorem zdt{P:T→Prop}{k ni:Nat}{nf:T→Int→T}(cl: ∀ x (i:Nat),P x→i<ni→P (nf x (i:Int))): ∀ {L:List (T×List Int)} {s:LS T},LW P k s→(∀ p∈L,P p.1∧p.2.length=k)→LW P k (zbw nf ni s L)
 | [],s,h,_=>h
 |p::L,s,h,a=>zdt (L:=L) (s:=z6c nf p.1 p.2 s ni) cl (zi0 cl h (a p (List.mem_cons_self ..)).1 (a p (List.mem_cons_self ..)).2 ni (Nat.le_refl _)) fun q b=>a q (List.mem_cons_of_mem _ b)
theorem z9u{nf:T→Int→T}{ni:Nat}: ∀ {L:List (T×List Int)} {s:LS T} {p:T×List Int},zbw nf ni s (L++[p])=z6c nf p.1 p.2 (zbw nf ni s L) ni
 | [],s,p=>rfl
 |q::L,s,p=>z9u (L:=L) (s:=z6c nf q.1 q.2 s ni)
theorem z7d{α:Type}[Inhabited α]{s:List α}{a:Nat}(h:a<s.length):s.take (a+1)=s.take a++[s.getD a default]:=by
 rw [List.take_add_one,List.getD_eq_getElem?_getD,List.getElem?_eq_getElem h];rfl
theorem zke{α:Type}[Inhabited α]{q:α→Bool}: ∀ {L:List α} {j:Nat},j<L.length→(∀ i,i<j→q (L.getD i default)=false)→q (L.getD j default)=true→L.find? q=some (L.getD j default)
 | [],j,h,_,_=>absurd h (Nat.not_lt_zero _)
 |a::L,0,h,_,b=>by
  have:q a=true:=b
  rw [List.find?_cons,this];rfl
 |a::L,j+1,h,c,b=>by
  have d:q a=false:=c 0 (Nat.succ_pos _)
  rw [List.find?_cons,d]
  exact zke (L:=L) (j:=j) (by simpa using h) (fun i hi=>c (i+1) (by omega)) b
theorem zk4{α:Type}[Inhabited α]{q:α→Bool}: ∀ {L:List α},(∀ i,i<L.length→q (L.getD i default)=false)→L.find? q=none
 | [],_=>rfl
 |a::L,b=>by
  have c:q a=false:=b 0 (by simp)
  rw [List.find?_cons,c]
  exact zk4 (L:=L) fun i hi=>b (i+1) (by simp;omega)
theorem z4m{α:Type}[Inhabited α]{L:List α}{i:Nat}(h:i<L.length):L.getD i default∈L:=by
 rw [List.getD_eq_getElem?_getD,List.getElem?_eq_getElem h];exact List.getElem_mem h
end
section
variable {N ni B : Nat} {inputs : Int} {key : Int → Option (List UInt8)} {is_ : Int → Option Bool} {next : Int → Int → Option Int} {kf : Int → List UInt8} {isf : Int → Bool} {nf : Int → Int → Int} {P : Int → Prop}
def z14(p:Int×List Int):Sb:=⟨p.1,p.2⟩
theorem zdo{L:List (Int×List Int)}{p:Nat}(a:p<L.length):ix (L.map z14) (p:Int)=z14 (L.getD p default):=by
 show (L.map z14).getD p default=_
 simp [List.getD_eq_getElem?_getD,a]
theorem zn0(h:SeaOk N ni B inputs key is_ next kf isf nf P){x:Int}{w:List Int}{k:Nat}(f:P x)(n:w.length=k)(A:k≤256){s0:LS Int}(o:LW P k s0){x23:List Sb}{x62:Int}(p:(ix x23 x62).fJ=x)(q:(ix x23 x62).fQ=w){M:List (List UInt8×Bool)}(t:MS kf M s0.2):
 ∃ r,oz N inputs key next x23 x62 N 0 M (s0.1.map z14)=some r∧ ∃ M',r=Ex.go (M',(z6c nf x w s0 ni).1.map z14)∧MS kf M' (z6c nf x w s0 ni).2:=by
 have u:=h.inp
 have v:=h.nN;have y:=h.n16
 refine rq (fun F k s=>oz N inputs key next x23 x62 F (k:Int) s.1 s.2) ni (fun j s=>MS kf s.1 (z6c nf x w s0 j).2∧s.2=(z6c nf x w s0 j).1.map z14) _ (fun F j s l g=> .inr ?_) (fun F s g=>?_) N 0 (M,s0.1.map z14) (Nat.zero_le _) (by omega) ⟨t,rfl⟩
 ·obtain⟨c,d⟩:=s
  obtain⟨a,b⟩:=g
  simp only at a b
  have e:=zi0 h.cl o f n j (by omega)
  have m:=h.cl x j f l
  have hlen:(z6c nf x w s0 j).1.length≤B:=Nat.le_trans e.le (h.num _ e.nd e.all)
  have z:=h.bB
  simp only [oz]
  rw [ut (by omega),p,qh (h.next x j f l),qh (h.key _ m)]
  by_cases hm:nf x (j:Int)∈(z6c nf x w s0 j).2
  ·rw [zte a hm,Bool.not_true,cond_false,z2r,zm (j3 (by omega)),uf]
   refine⟨(c,d),⟨?_,?_⟩,rfl⟩
   ·show MS kf c (z9j (z6c nf x w s0 j) _ _).2
    unfold z9j;rw [if_pos hm];exact a
   ·show d=(z9j (z6c nf x w s0 j) _ _).1.map z14
    unfold z9j;rw [if_pos hm];exact b
  ·have i:d.length=(z6c nf x w s0 j).1.length:=by rw [b,List.length_map]
   rw [zl9 a h.inj e.all m hm,Bool.not_false,cond_true,q,qh ze3,zm ⟨⟨by simp only [List.length_singleton];omega,by simp only [List.length_singleton];omega⟩,by simp⟩,zm ⟨by simp only [List.length_singleton];omega,by simp only [List.length_singleton];omega⟩,z2r,zm (j3 (by omega)),uf]
   refine⟨(_,_),⟨?_,?_⟩,rfl⟩
   ·show MS kf _ (z9j (z6c nf x w s0 j) _ _).2
    unfold z9j;rw [if_neg hm];exact zpx a _
   ·show _=(z9j (z6c nf x w s0 j) _ _).1.map z14
    unfold z9j;rw [if_neg hm]
    show _=List.map z14 ((z6c nf x w s0 j).1++_)
    rw [List.map_append,b];rfl
 ·obtain⟨c,d⟩:=s
  obtain⟨a,b⟩:=g
  simp only at a b
  simp only [oz]
  rw [ul (by omega)]
  exact⟨_,rfl,c,by rw [b],a⟩
theorem zmx(h:SeaOk N ni B inputs key is_ next kf isf nf P){k:Nat}(u:k≤256){L:List (Int×List Int)}{S:List Int}(o: ∀ p∈L,P p.1∧p.2.length=k)(v:L.length≤B)(y:S.Nodup)(g: ∀ x∈S,P x){M:List (List UInt8×Bool)}(z:MS kf M S):
 ∃ r,ak N inputs key is_ next (L.map z14) N [] 0 M=some r∧((∃ p,L.find? (fun p=>isf p.1)=some p∧r=Ex.rt (Ex.rt (p.2,0)))∨(L.find? (fun p=>isf p.1)=none∧ ∃ M',r=Ex.go ((zbw nf ni ([],S) L).1.map z14,M')∧MS kf M' (zbw nf ni ([],S) L).2)):=by
 have A:=h.bB;have C:=h.BN
 have l:LW P k (([],S):LS Int):=⟨y,g,Nat.zero_le _,fun q D=>absurd D List.not_mem_nil⟩
 refine rq (fun F k s=>ak N inputs key is_ next (L.map z14) F s.1 (k:Int) s.2) L.length (fun j s=>(∀ i,i<j→isf (L.getD i default).1=false)∧MS kf s.2 (zbw nf ni ([],S) (L.take j)).2∧s.1=(zbw nf ni ([],S) (L.take j)).1.map z14) _ (fun F j s d m=>?_) (fun F s m=>?_) N 0 ([],M) (Nat.zero_le _) (by omega) ⟨fun i hi=>absurd hi (Nat.not_lt_zero _),z,rfl⟩
 ·obtain⟨E,t⟩:=s
  obtain⟨c,a,b⟩:=m
  simp only at a b
  obtain⟨f,n⟩:=o _ (z4m d)
  have G:=zdt (k:=k) h.cl l (L:=L.take j) fun p H=>o p (List.mem_of_mem_take H)
  simp only [ak]
  rw [ut (by rw [List.length_map];omega),zm (ky (by rw [List.length_map];exact d)),zdo d,qh (h.is_ _ (show P (z14 (L.getD j default)).fJ from f))]
  cases hb:isf (L.getD j default).1 with
  |true=>
   rw [show isf (z14 (L.getD j default)).fJ=true from hb,cond_true,qh ze3,z2r,z9e]
   exact .inl ⟨_,rfl,.inl ⟨_,zke d c hb,rfl⟩⟩
  |false=>
   rw [show isf (z14 (L.getD j default)).fJ=false from hb,cond_false]
   obtain⟨r,I,M',rfl,hM'⟩:=zn0 h (x:=(L.getD j default).1) (w:=(L.getD j default).2) f n u G (x23:=L.map z14) (x62:=(j:Int)) (by rw [zdo d];rfl) (by rw [zdo d];rfl) a
   rw [b,qh I,z6z,zm (j3 (by omega)),uf]
   refine .inr ⟨(_,_),⟨fun i hi=>?_,?_,?_⟩,rfl⟩
   ·by_cases e:i=j
    ·subst e;exact hb
    ·exact c i (by omega)
   ·rw [z7d d,z9u];exact hM'
   ·rw [z7d d,z9u]
 ·obtain⟨E,t⟩:=s
  obtain⟨c,a,b⟩:=m
  simp only at a b
  simp only [ak]
  rw [ul (by rw [List.length_map];omega)]
  rw [List.take_length] at a b
  exact⟨_,rfl,.inr ⟨zk4 c,t,by rw [b],a⟩⟩
theorem zgq(h:SeaOk N ni B inputs key is_ next kf isf nf P): ∀ (g k F:Nat) (L:List (Int×List Int)) (S:List Int) (M:List (List UInt8×Bool)),k+g=257→g<F→(∀ p∈L,P p.1∧p.2.length=k)→L.length≤B→S.Nodup→(∀ x∈S,P x)→MS kf M S→
 aj N inputs key is_ next F (L.map z14) (k:Int) M=some (match z8z nf isf ni g L S with|some w=>Ex.rt (w,0)|none=>Ex.go ())
 |0,k,F,L,S,M,j,l,d,c,e,a,i=>by
  obtain⟨F,rfl⟩: ∃ F',F=F'+1:=⟨F-1,by omega⟩
  simp only [aj]
  rw [show decide ((k:Int)≤256)=false from decide_eq_false (by omega),Bool.and_false,cond_false];rfl
 |g+1,k,F,L,S,M,j,l,d,c,e,a,i=>by
  obtain⟨F,rfl⟩: ∃ F',F=F'+1:=⟨F-1,by omega⟩
  simp only [aj]
  unfold z8z
  by_cases hn:L=[]
  ·subst hn
   rw [if_pos rfl];rfl
  ·rw [if_neg hn]
   have hpos:=List.length_pos_iff.2 hn
   rw [show (decide ((0:Int)<((L.map z14).length:Int))&&decide ((k:Int)≤256))=true by rw [List.length_map,decide_eq_true (show (0:Int)<(L.length:Int) by omega),decide_eq_true (show (k:Int)≤256 by omega)];rfl,cond_true]
   obtain⟨r,m,n⟩:=zmx h (k:=k) (by omega) d c e a i
   rw [qh m]
   rcases n with⟨p,f,rfl⟩|⟨f,M',rfl,hM'⟩
   ·rw [f,z9e]
   ·rw [f,z6z,zm (j3 (by omega)),uf]
    have b:=zdt (k:=k) h.cl (s:=(([],S):LS Int)) ⟨e,a,Nat.zero_le _,fun q o=>absurd o List.not_mem_nil⟩ d
    exact zgq h g (k+1) F _ _ _ (by omega) (by omega) b.wl (Nat.le_trans b.le (h.num _ b.nd b.all)) b.nd b.all hM'
theorem zt8(h:SeaOk N ni B inputs key is_ next kf isf nf P){x:Int}(a:P x):z4r N inputs x key is_ next=some (match z8z nf isf ni 257 [(x,[])] [x] with|some w=>(w,0)|none=>([],7)):=by
 have c:1≤B:=h.num [x] (List.nodup_cons.2 ⟨List.not_mem_nil,List.nodup_nil⟩) fun y b=>by rw [List.mem_singleton.1 b];exact a
 have d: ∀ p∈[(x,([]:List Int))],P p.1∧p.2.length=0:=fun p e=>by rw [List.mem_singleton.1 e];exact⟨a,rfl⟩
 have f:=zgq h 257 0 N [(x,[])] [x] (z8a [] (kf x) true) rfl (by have:=h.N300;omega) d c (List.nodup_cons.2 ⟨List.not_mem_nil,List.nodup_nil⟩) (fun y b=>by rw [List.mem_singleton.1 b];exact a) (ztk x)
 unfold z4r
 rw [qh (h.key x a)]
 have g:aj N inputs key is_ next N ([(⟨x,[]⟩:Sb)]:List Sb) 0 (z8a ([]:List ((List UInt8)×Bool)) (kf x) true)=_:=f
 rw [qh g]
 cases z8z nf isf ni 257 [(x,[])] [x] with
 |some w=>rw [z9e]
 |none=>rw [z6z]
end
section
variable {N ni B : Nat} {inputs : Int} {key : (List Int) → Option (List UInt8)} {is_ : (List Int) → Option Bool} {next : (List Int) → Int → Option (List Int)} {kf : (List Int) → List UInt8} {isf : (List Int) → Bool} {nf : (List Int) → Int → (List Int)} {P : (List Int) → Prop}
def z0d(p:(List Int)×List Int):Sa:=⟨p.1,p.2⟩
theorem zcg{L:List ((List Int)×List Int)}{p:Nat}(a:p<L.length):ix (L.map z0d) (p:Int)=z0d (L.getD p default):=by
 show (L.map z0d).getD p default=_
 simp [List.getD_eq_getElem?_getD,a]
theorem zll(h:SeaOk N ni B inputs key is_ next kf isf nf P){x:(List Int)}{w:List Int}{k:Nat}(f:P x)(n:w.length=k)(A:k≤256){s0:LS (List Int)}(o:LW P k s0){x23:List Sa}{x62:Int}(p:(ix x23 x62).fJ=x)(q:(ix x23 x62).fQ=w){M:List (List UInt8×Bool)}(t:MS kf M s0.2):
 ∃ r,mf N inputs key next x23 x62 N 0 M (s0.1.map z0d)=some r∧ ∃ M',r=Ex.go (M',(z6c nf x w s0 ni).1.map z0d)∧MS kf M' (z6c nf x w s0 ni).2:=by
 have u:=h.inp
 have v:=h.nN;have y:=h.n16
 refine rq (fun F k s=>mf N inputs key next x23 x62 F (k:Int) s.1 s.2) ni (fun j s=>MS kf s.1 (z6c nf x w s0 j).2∧s.2=(z6c nf x w s0 j).1.map z0d) _ (fun F j s l g=> .inr ?_) (fun F s g=>?_) N 0 (M,s0.1.map z0d) (Nat.zero_le _) (by omega) ⟨t,rfl⟩
 ·obtain⟨c,d⟩:=s
  obtain⟨a,b⟩:=g
  simp only at a b
  have e:=zi0 h.cl o f n j (by omega)
  have m:=h.cl x j f l
  have hlen:(z6c nf x w s0 j).1.length≤B:=Nat.le_trans e.le (h.num _ e.nd e.all)
  have z:=h.bB
  simp only [mf]
  rw [ut (by omega),p,qh (h.next x j f l),qh (h.key _ m)]
  by_cases hm:nf x (j:Int)∈(z6c nf x w s0 j).2
  ·rw [zte a hm,Bool.not_true,cond_false,z2r,zm (j3 (by omega)),uf]
   refine⟨(c,d),⟨?_,?_⟩,rfl⟩
   ·show MS kf c (z9j (z6c nf x w s0 j) _ _).2
    unfold z9j;rw [if_pos hm];exact a
   ·show d=(z9j (z6c nf x w s0 j) _ _).1.map z0d
    unfold z9j;rw [if_pos hm];exact b
  ·have i:d.length=(z6c nf x w s0 j).1.length:=by rw [b,List.length_map]
   rw [zl9 a h.inj e.all m hm,Bool.not_false,cond_true,q,qh ze3,zm ⟨⟨by simp only [List.length_singleton];omega,by simp only [List.length_singleton];omega⟩,by simp⟩,zm ⟨by simp only [List.length_singleton];omega,by simp only [List.length_singleton];omega⟩,z2r,zm (j3 (by omega)),uf]
   refine⟨(_,_),⟨?_,?_⟩,rfl⟩
   ·show MS kf _ (z9j (z6c nf x w s0 j) _ _).2
    unfold z9j;rw [if_neg hm];exact zpx a _
   ·show _=(z9j (z6c nf x w s0 j) _ _).1.map z0d
    unfold z9j;rw [if_neg hm]
    show _=List.map z0d ((z6c nf x w s0 j).1++_)
    rw [List.map_append,b];rfl
 ·obtain⟨c,d⟩:=s
  obtain⟨a,b⟩:=g
  simp only at a b
  simp only [mf]
  rw [ul (by omega)]
  exact⟨_,rfl,c,by rw [b],a⟩
theorem zlq(h:SeaOk N ni B inputs key is_ next kf isf nf P){k:Nat}(u:k≤256){L:List ((List Int)×List Int)}{S:List (List Int)}(o: ∀ p∈L,P p.1∧p.2.length=k)(v:L.length≤B)(y:S.Nodup)(g: ∀ x∈S,P x){M:List (List UInt8×Bool)}(z:MS kf M S):
 ∃ r,mh N inputs key is_ next (L.map z0d) N [] 0 M=some r∧((∃ p,L.find? (fun p=>isf p.1)=some p∧r=Ex.rt (Ex.rt (p.2,0)))∨(L.find? (fun p=>isf p.1)=none∧ ∃ M',r=Ex.go ((zbw nf ni ([],S) L).1.map z0d,M')∧MS kf M' (zbw nf ni ([],S) L).2)):=by
 have A:=h.bB;have C:=h.BN
 have l:LW P k (([],S):LS (List Int)):=⟨y,g,Nat.zero_le _,fun q D=>absurd D List.not_mem_nil⟩
 refine rq (fun F k s=>mh N inputs key is_ next (L.map z0d) F s.1 (k:Int) s.2) L.length (fun j s=>(∀ i,i<j→isf (L.getD i default).1=false)∧MS kf s.2 (zbw nf ni ([],S) (L.take j)).2∧s.1=(zbw nf ni ([],S) (L.take j)).1.map z0d) _ (fun F j s d m=>?_) (fun F s m=>?_) N 0 ([],M) (Nat.zero_le _) (by omega) ⟨fun i hi=>absurd hi (Nat.not_lt_zero _),z,rfl⟩
 ·obtain⟨E,t⟩:=s
  obtain⟨c,a,b⟩:=m
  simp only at a b
  obtain⟨f,n⟩:=o _ (z4m d)
  have G:=zdt (k:=k) h.cl l (L:=L.take j) fun p H=>o p (List.mem_of_mem_take H)
  simp only [mh]
  rw [ut (by rw [List.length_map];omega),zm (ky (by rw [List.length_map];exact d)),zcg d,qh (h.is_ _ (show P (z0d (L.getD j default)).fJ from f))]
  cases hb:isf (L.getD j default).1 with
  |true=>
   rw [show isf (z0d (L.getD j default)).fJ=true from hb,cond_true,qh ze3,z2r,z9e]
   exact .inl ⟨_,rfl,.inl ⟨_,zke d c hb,rfl⟩⟩
  |false=>
   rw [show isf (z0d (L.getD j default)).fJ=false from hb,cond_false]
   obtain⟨r,I,M',rfl,hM'⟩:=zll h (x:=(L.getD j default).1) (w:=(L.getD j default).2) f n u G (x23:=L.map z0d) (x62:=(j:Int)) (by rw [zcg d];rfl) (by rw [zcg d];rfl) a
   rw [b,qh I,z6z,zm (j3 (by omega)),uf]
   refine .inr ⟨(_,_),⟨fun i hi=>?_,?_,?_⟩,rfl⟩
   ·by_cases e:i=j
    ·subst e;exact hb
    ·exact c i (by omega)
   ·rw [z7d d,z9u];exact hM'
   ·rw [z7d d,z9u]
 ·obtain⟨E,t⟩:=s
  obtain⟨c,a,b⟩:=m
  simp only at a b
  simp only [mh]
  rw [ul (by rw [List.length_map];omega)]
  rw [List.take_length] at a b
  exact⟨_,rfl,.inr ⟨zk4 c,t,by rw [b],a⟩⟩
theorem zff(h:SeaOk N ni B inputs key is_ next kf isf nf P): ∀ (g k F:Nat) (L:List ((List Int)×List Int)) (S:List (List Int)) (M:List (List UInt8×Bool)),k+g=257→g<F→(∀ p∈L,P p.1∧p.2.length=k)→L.length≤B→S.Nodup→(∀ x∈S,P x)→MS kf M S→
 mo N inputs key is_ next F (L.map z0d) (k:Int) M=some (match z8z nf isf ni g L S with|some w=>Ex.rt (w,0)|none=>Ex.go ())
 |0,k,F,L,S,M,j,l,d,c,e,a,i=>by
  obtain⟨F,rfl⟩: ∃ F',F=F'+1:=⟨F-1,by omega⟩
  simp only [mo]
  rw [show decide ((k:Int)≤256)=false from decide_eq_false (by omega),Bool.and_false,cond_false];rfl
 |g+1,k,F,L,S,M,j,l,d,c,e,a,i=>by
  obtain⟨F,rfl⟩: ∃ F',F=F'+1:=⟨F-1,by omega⟩
  simp only [mo]
  unfold z8z
  by_cases hn:L=[]
  ·subst hn
   rw [if_pos rfl];rfl
  ·rw [if_neg hn]
   have hpos:=List.length_pos_iff.2 hn
   rw [show (decide ((0:Int)<((L.map z0d).length:Int))&&decide ((k:Int)≤256))=true by rw [List.length_map,decide_eq_true (show (0:Int)<(L.length:Int) by omega),decide_eq_true (show (k:Int)≤256 by omega)];rfl,cond_true]
   obtain⟨r,m,n⟩:=zlq h (k:=k) (by omega) d c e a i
   rw [qh m]
   rcases n with⟨p,f,rfl⟩|⟨f,M',rfl,hM'⟩
   ·rw [f,z9e]
   ·rw [f,z6z,zm (j3 (by omega)),uf]
    have b:=zdt (k:=k) h.cl (s:=(([],S):LS (List Int))) ⟨e,a,Nat.zero_le _,fun q o=>absurd o List.not_mem_nil⟩ d
    exact zff h g (k+1) F _ _ _ (by omega) (by omega) b.wl (Nat.le_trans b.le (h.num _ b.nd b.all)) b.nd b.all hM'
theorem zsd(h:SeaOk N ni B inputs key is_ next kf isf nf P){x:(List Int)}(a:P x):z4f N inputs x key is_ next=some (match z8z nf isf ni 257 [(x,[])] [x] with|some w=>(w,0)|none=>([],7)):=by
 have c:1≤B:=h.num [x] (List.nodup_cons.2 ⟨List.not_mem_nil,List.nodup_nil⟩) fun y b=>by rw [List.mem_singleton.1 b];exact a
 have d: ∀ p∈[(x,([]:List Int))],P p.1∧p.2.length=0:=fun p e=>by rw [List.mem_singleton.1 e];exact⟨a,rfl⟩
 have f:=zff h 257 0 N [(x,[])] [x] (z8a [] (kf x) true) rfl (by have:=h.N300;omega) d c (List.nodup_cons.2 ⟨List.not_mem_nil,List.nodup_nil⟩) (fun y b=>by rw [List.mem_singleton.1 b];exact a) (ztk x)
 unfold z4f
 rw [qh (h.key x a)]
 have g:mo N inputs key is_ next N ([(⟨x,[]⟩:Sa)]:List Sa) 0 (z8a ([]:List ((List UInt8)×Bool)) (kf x) true)=_:=f
 rw [qh g]
 cases z8z nf isf ni 257 [(x,[])] [x] with
 |some w=>rw [z9e]
 |none=>rw [z6z]
end
section
variable {N ni B : Nat} {inputs : Int} {key : (Int × Int) → Option (List UInt8)} {is_ : (Int × Int) → Option Bool} {next : (Int × Int) → Int → Option (Int × Int)} {kf : (Int × Int) → List UInt8} {isf : (Int × Int) → Bool} {nf : (Int × Int) → Int → (Int × Int)} {P : (Int × Int) → Prop}
def z15(p:(Int×Int)×List Int):Sc:=⟨p.1,p.2⟩
theorem zea{L:List ((Int×Int)×List Int)}{p:Nat}(a:p<L.length):ix (L.map z15) (p:Int)=z15 (L.getD p default):=by
 show (L.map z15).getD p default=_
 simp [List.getD_eq_getElem?_getD,a]
theorem zmu(h:SeaOk N ni B inputs key is_ next kf isf nf P){x:(Int×Int)}{w:List Int}{k:Nat}(f:P x)(n:w.length=k)(A:k≤256){s0:LS (Int×Int)}(o:LW P k s0){x23:List Sc}{x62:Int}(p:(ix x23 x62).fJ=x)(q:(ix x23 x62).fQ=w){M:List (List UInt8×Bool)}(t:MS kf M s0.2):
 ∃ r,aa N inputs key next x23 x62 N 0 M (s0.1.map z15)=some r∧ ∃ M',r=Ex.go (M',(z6c nf x w s0 ni).1.map z15)∧MS kf M' (z6c nf x w s0 ni).2:=by
 have u:=h.inp
 have v:=h.nN;have y:=h.n16
 refine rq (fun F k s=>aa N inputs key next x23 x62 F (k:Int) s.1 s.2) ni (fun j s=>MS kf s.1 (z6c nf x w s0 j).2∧s.2=(z6c nf x w s0 j).1.map z15) _ (fun F j s l g=> .inr ?_) (fun F s g=>?_) N 0 (M,s0.1.map z15) (Nat.zero_le _) (by omega) ⟨t,rfl⟩
 ·obtain⟨c,d⟩:=s
  obtain⟨a,b⟩:=g
  simp only at a b
  have e:=zi0 h.cl o f n j (by omega)
  have m:=h.cl x j f l
  have hlen:(z6c nf x w s0 j).1.length≤B:=Nat.le_trans e.le (h.num _ e.nd e.all)
  have z:=h.bB
  simp only [aa]
  rw [ut (by omega),p,qh (h.next x j f l),qh (h.key _ m)]
  by_cases hm:nf x (j:Int)∈(z6c nf x w s0 j).2
  ·rw [zte a hm,Bool.not_true,cond_false,z2r,zm (j3 (by omega)),uf]
   refine⟨(c,d),⟨?_,?_⟩,rfl⟩
   ·show MS kf c (z9j (z6c nf x w s0 j) _ _).2
    unfold z9j;rw [if_pos hm];exact a
   ·show d=(z9j (z6c nf x w s0 j) _ _).1.map z15
    unfold z9j;rw [if_pos hm];exact b
  ·have i:d.length=(z6c nf x w s0 j).1.length:=by rw [b,List.length_map]
   rw [zl9 a h.inj e.all m hm,Bool.not_false,cond_true,q,qh ze3,zm ⟨by simp only [List.length_singleton];omega,by simp only [List.length_singleton];omega⟩,zm ⟨by simp only [List.length_singleton];omega,by simp only [List.length_singleton];omega⟩,z2r,zm (j3 (by omega)),uf]
   refine⟨(_,_),⟨?_,?_⟩,rfl⟩
   ·show MS kf _ (z9j (z6c nf x w s0 j) _ _).2
    unfold z9j;rw [if_neg hm];exact zpx a _
   ·show _=(z9j (z6c nf x w s0 j) _ _).1.map z15
    unfold z9j;rw [if_neg hm]
    show _=List.map z15 ((z6c nf x w s0 j).1++_)
    rw [List.map_append,b];rfl
 ·obtain⟨c,d⟩:=s
  obtain⟨a,b⟩:=g
  simp only at a b
  simp only [aa]
  rw [ul (by omega)]
  exact⟨_,rfl,c,by rw [b],a⟩
theorem zmy(h:SeaOk N ni B inputs key is_ next kf isf nf P){k:Nat}(u:k≤256){L:List ((Int×Int)×List Int)}{S:List (Int×Int)}(o: ∀ p∈L,P p.1∧p.2.length=k)(v:L.length≤B)(y:S.Nodup)(g: ∀ x∈S,P x){M:List (List UInt8×Bool)}(z:MS kf M S):
 ∃ r,ib N inputs key is_ next (L.map z15) N [] 0 M=some r∧((∃ p,L.find? (fun p=>isf p.1)=some p∧r=Ex.rt (Ex.rt (p.2,0)))∨(L.find? (fun p=>isf p.1)=none∧ ∃ M',r=Ex.go ((zbw nf ni ([],S) L).1.map z15,M')∧MS kf M' (zbw nf ni ([],S) L).2)):=by
 have A:=h.bB;have C:=h.BN
 have l:LW P k (([],S):LS (Int×Int)):=⟨y,g,Nat.zero_le _,fun q D=>absurd D List.not_mem_nil⟩
 refine rq (fun F k s=>ib N inputs key is_ next (L.map z15) F s.1 (k:Int) s.2) L.length (fun j s=>(∀ i,i<j→isf (L.getD i default).1=false)∧MS kf s.2 (zbw nf ni ([],S) (L.take j)).2∧s.1=(zbw nf ni ([],S) (L.take j)).1.map z15) _ (fun F j s d m=>?_) (fun F s m=>?_) N 0 ([],M) (Nat.zero_le _) (by omega) ⟨fun i hi=>absurd hi (Nat.not_lt_zero _),z,rfl⟩
 ·obtain⟨E,t⟩:=s
  obtain⟨c,a,b⟩:=m
  simp only at a b
  obtain⟨f,n⟩:=o _ (z4m d)
  have G:=zdt (k:=k) h.cl l (L:=L.take j) fun p H=>o p (List.mem_of_mem_take H)
  simp only [ib]
  rw [ut (by rw [List.length_map];omega),zm (ky (by rw [List.length_map];exact d)),zea d,qh (h.is_ _ (show P (z15 (L.getD j default)).fJ from f))]
  cases hb:isf (L.getD j default).1 with
  |true=>
   rw [show isf (z15 (L.getD j default)).fJ=true from hb,cond_true,qh ze3,z2r,z9e]
   exact .inl ⟨_,rfl,.inl ⟨_,zke d c hb,rfl⟩⟩
  |false=>
   rw [show isf (z15 (L.getD j default)).fJ=false from hb,cond_false]
   obtain⟨r,I,M',rfl,hM'⟩:=zmu h (x:=(L.getD j default).1) (w:=(L.getD j default).2) f n u G (x23:=L.map z15) (x62:=(j:Int)) (by rw [zea d];rfl) (by rw [zea d];rfl) a
   rw [b,qh I,z6z,zm (j3 (by omega)),uf]
   refine .inr ⟨(_,_),⟨fun i hi=>?_,?_,?_⟩,rfl⟩
   ·by_cases e:i=j
    ·subst e;exact hb
    ·exact c i (by omega)
   ·rw [z7d d,z9u];exact hM'
   ·rw [z7d d,z9u]
 ·obtain⟨E,t⟩:=s
  obtain⟨c,a,b⟩:=m
  simp only at a b
  simp only [ib]
  rw [ul (by rw [List.length_map];omega)]
  rw [List.take_length] at a b
  exact⟨_,rfl,.inr ⟨zk4 c,t,by rw [b],a⟩⟩
theorem zgo(h:SeaOk N ni B inputs key is_ next kf isf nf P): ∀ (g k F:Nat) (L:List ((Int×Int)×List Int)) (S:List (Int×Int)) (M:List (List UInt8×Bool)),k+g=257→g<F→(∀ p∈L,P p.1∧p.2.length=k)→L.length≤B→S.Nodup→(∀ x∈S,P x)→MS kf M S→
 om N inputs key is_ next F (L.map z15) (k:Int) M=some (match z8z nf isf ni g L S with|some w=>Ex.rt (w,0)|none=>Ex.go ())
 |0,k,F,L,S,M,j,l,d,c,e,a,i=>by
  obtain⟨F,rfl⟩: ∃ F',F=F'+1:=⟨F-1,by omega⟩
  simp only [om]
  rw [show decide ((k:Int)≤256)=false from decide_eq_false (by omega),Bool.and_false,cond_false];rfl
 |g+1,k,F,L,S,M,j,l,d,c,e,a,i=>by
  obtain⟨F,rfl⟩: ∃ F',F=F'+1:=⟨F-1,by omega⟩
  simp only [om]
  unfold z8z
  by_cases hn:L=[]
  ·subst hn
   rw [if_pos rfl];rfl
  ·rw [if_neg hn]
   have hpos:=List.length_pos_iff.2 hn
   rw [show (decide ((0:Int)<((L.map z15).length:Int))&&decide ((k:Int)≤256))=true by rw [List.length_map,decide_eq_true (show (0:Int)<(L.length:Int) by omega),decide_eq_true (show (k:Int)≤256 by omega)];rfl,cond_true]
   obtain⟨r,m,n⟩:=zmy h (k:=k) (by omega) d c e a i
   rw [qh m]
   rcases n with⟨p,f,rfl⟩|⟨f,M',rfl,hM'⟩
   ·rw [f,z9e]
   ·rw [f,z6z,zm (j3 (by omega)),uf]
    have b:=zdt (k:=k) h.cl (s:=(([],S):LS (Int×Int))) ⟨e,a,Nat.zero_le _,fun q o=>absurd o List.not_mem_nil⟩ d
    exact zgo h g (k+1) F _ _ _ (by omega) (by omega) b.wl (Nat.le_trans b.le (h.num _ b.nd b.all)) b.nd b.all hM'
theorem zsl(h:SeaOk N ni B inputs key is_ next kf isf nf P){x:(Int×Int)}(a:P x):z4q N inputs x key is_ next=some (match z8z nf isf ni 257 [(x,[])] [x] with|some w=>(w,0)|none=>([],7)):=by
 have c:1≤B:=h.num [x] (List.nodup_cons.2 ⟨List.not_mem_nil,List.nodup_nil⟩) fun y b=>by rw [List.mem_singleton.1 b];exact a
 have d: ∀ p∈[(x,([]:List Int))],P p.1∧p.2.length=0:=fun p e=>by rw [List.mem_singleton.1 e];exact⟨a,rfl⟩
 have f:=zgo h 257 0 N [(x,[])] [x] (z8a [] (kf x) true) rfl (by have:=h.N300;omega) d c (List.nodup_cons.2 ⟨List.not_mem_nil,List.nodup_nil⟩) (fun y b=>by rw [List.mem_singleton.1 b];exact a) (ztk x)
 unfold z4q
 rw [qh (h.key x a)]
 have g:om N inputs key is_ next N ([(⟨x,[]⟩:Sc)]:List Sc) 0 (z8a ([]:List ((List UInt8)×Bool)) (kf x) true)=_:=f
 rw [qh g]
 cases z8z nf isf ni 257 [(x,[])] [x] with
 |some w=>rw [z9e]
 |none=>rw [z6z]
end
end GV
end Go.Proofs.YtjmlpkkbmnjhcaaGreat
