
import Derived.Test.YtjmlpkkbmnjhcaaBfs06
import Derived.Test.YtjmlpkkbmnjhcaaSpec06l
set_option linter.unusedVariables false
set_option linter.unusedSimpArgs false
set_option linter.unusedSectionVars false
namespace Go.Proofs.Ytjmlpkkbmnjhcaa
namespace GV
section sea
variable {T : Type} [DecidableEq T]
abbrev LS (T:Type):=List (T×List Int)×List T
def z3u(s:LS T)(x:T)(w:List Int):LS T:=if x∈s.2 then s else(s.1++[(x,w)],s.2++[x])
def z0r(next:T→Int→T)(x:T)(w:List Int)(s:LS T):Nat→LS T
 |0=>s
 |i+1=>z3u (z0r next x w s i) (next x (i:Int)) (w++[(i:Int)])
def z6g(next:T→Int→T)(ni:Nat)(s:LS T):List (T×List Int)→LS T
 | []=>s
 |p::L=>z6g next ni (z0r next p.1 p.2 s ni) L
def z4u(next:T→Int→T)(isb:T→Bool)(ni:Nat):Nat→List (T×List Int)→List T→Option (List Int)
 |0,_,_=>none
 |g+1,L,S=>if L=[] then none else match L.find? fun p=>isb p.1 with
  |some p=>some p.2
  |none=>z4u next isb ni g (z6g next ni ([],S) L).1 (z6g next ni ([],S) L).2
def runT(next:T→Int→T)(x:T)(w:List Int):T:=w.foldl next x
def WIn(ni:Nat)(w:List Int):Prop:= ∀ i∈w,0≤i∧i<(ni:Int)
theorem z3d{next:T→Int→T}{x:T}{w:List Int}{i:Int}:runT next x (w++[i])=next (runT next x w) i:=by simp [runT]
theorem WIn.snoc{ni:Nat}{w:List Int}{i:Int}(h:WIn ni w)(b:0≤i)(c:i<(ni:Int)):WIn ni (w++[i]):=fun j a=>by
 rcases List.mem_append.1 a with a|a
 ·exact h j a
 ·rw [List.mem_singleton.1 a];exact⟨b,c⟩
theorem WIn.append{ni:Nat}{w v:List Int}(h:WIn ni w)(k:WIn ni v):WIn ni (w++v):=fun j a=>by
 rcases List.mem_append.1 a with a|a
 ·exact h j a
 ·exact k j a
theorem WIn.init{ni:Nat}{w:List Int}{i:Int}(h:WIn ni (w++[i])):WIn ni w∧0≤i∧i<(ni:Int):=
 ⟨fun j a=>h j (List.mem_append.2 (.inl a)),h i (List.mem_append.2 (.inr (List.mem_singleton.2 rfl)))⟩
theorem zhe{w:List Int}{k:Nat}(h:w.length=k+1): ∃ v i,w=v++[i]∧v.length=k:=by
 have a:w≠[]:=by intro e;rw [e] at h;simp at h
 refine⟨w.dropLast,w.getLast a,(List.dropLast_concat_getLast a).symm,?_⟩
 rw [List.length_dropLast];omega
structure PS (S0:List T) (Q:T→List Int→Prop) (s:LS T):Prop where
 seen:s.2=S0++s.1.map Prod.fst
 nd:s.2.Nodup
 ord:s.1.Pairwise fun a b=>llt a.2 b.2
 out: ∀ q∈s.1,Q q.1 q.2
 got: ∀ x w,Q x w→x∈S0∨ ∃ q∈s.1,q.1=x∧lle q.2 w
theorem PS.congr{S0:List T}{Q Q':T→List Int→Prop}{s:LS T}(h:PS S0 Q s)(e: ∀ x w,Q x w↔Q' x w):PS S0 Q' s:=
 ⟨h.seen,h.nd,h.ord,fun q a=>(e _ _).1 (h.out q a),fun x w b=>h.got x w ((e _ _).2 b)⟩
theorem zs2{S0:List T}{Q:T→List Int→Prop}{s:LS T}{x:T}{w:List Int}(h:PS S0 Q s)(i: ∀ x' w',Q x' w'→llt w' w):PS S0 (fun x' w'=>Q x' w'∨(x'=x∧w'=w)) (z3u s x w):=by
 unfold z3u
 by_cases d:x∈s.2
 ·rw [if_pos d]
  refine⟨h.seen,h.nd,h.ord,fun q c=> .inl (h.out q c),fun x' w' hw'=>?_⟩
  rcases hw' with hw'|⟨rfl,rfl⟩
  ·exact h.got x' w' hw'
  ·rw [h.seen] at d
   rcases List.mem_append.1 d with d|d
   ·exact .inl d
   ·obtain⟨q,c,rfl⟩:=List.mem_map.1 d
    exact .inr ⟨q,c,rfl,.inr (i _ _ (h.out q c))⟩
 ·rw [if_neg d]
  refine⟨?_,?_,?_,fun q c=>?_,fun x' w' hw'=>?_⟩
  ·show s.2++[x]=S0++(s.1++[(x,w)]).map Prod.fst
   rw [h.seen,List.map_append,List.append_assoc];rfl
  ·show (s.2++[x]).Nodup
   rw [List.nodup_append]
   refine⟨h.nd,List.nodup_cons.2 ⟨List.not_mem_nil,List.nodup_nil⟩,fun a f b g e=>?_⟩
   rw [List.mem_singleton.1 g] at e
   exact d (e▸f)
  ·show (s.1++[(x,w)]).Pairwise _
   rw [List.pairwise_append]
   exact⟨h.ord,List.pairwise_singleton ..,fun a f b g=>by rw [List.mem_singleton.1 g];exact i _ _ (h.out a f)⟩
  ·rcases List.mem_append.1 c with c|c
   ·exact .inl (h.out q c)
   ·rw [List.mem_singleton.1 c];exact .inr ⟨rfl,rfl⟩
  ·rcases hw' with hw'|⟨rfl,rfl⟩
   ·rcases h.got x' w' hw' with k|⟨q,c,k⟩
    ·exact .inl k
    ·exact .inr ⟨q,List.mem_append.2 (.inl c),k⟩
   ·exact .inr ⟨(x',w'),List.mem_append.2 (.inr (List.mem_singleton.2 rfl)),rfl,.inl rfl⟩
theorem zmg{next:T→Int→T}{S0:List T}{Q:T→List Int→Prop}{s:LS T}{x:T}{w:List Int}(h:PS S0 Q s)(b: ∀ x' w',Q x' w'→ ∀ j:Int,llt w' (w++[j])):
 ∀ k:Nat,PS S0 (fun x' w'=>Q x' w'∨ ∃ j:Nat,j<k∧x'=next x (j:Int)∧w'=w++[(j:Int)]) (z0r next x w s k)
 |0=>h.congr fun x' w'=>⟨.inl,fun h=>h.resolve_right fun⟨j,a,_⟩=>by omega⟩
 |k+1=>by
  refine(zs2 (zmg h b k) (x:=next x (k:Int)) (w:=w++[(k:Int)]) fun x' w' hw'=>?_).congr fun x' w'=>?_
  ·rcases hw' with hw'|⟨j,a,_,rfl⟩
   ·exact b x' w' hw' _
   ·exact zji w (by omega)
  ·constructor
   ·rintro((h|⟨j,a,h⟩)|h)
    ·exact .inl h
    ·exact .inr ⟨j,by omega,h⟩
    ·exact .inr ⟨k,by omega,h⟩
   ·rintro(h|⟨j,a,h⟩)
    ·exact .inl (.inl h)
    ·by_cases e:j=k
     ·subst e;exact .inr h
     ·exact .inl (.inr ⟨j,by omega,h⟩)
theorem zn9{next:T→Int→T}{ni:Nat}{S0:List T}: ∀ {L:List (T×List Int)} {Q:T→List Int→Prop} {s:LS T},PS S0 Q s→L.Pairwise (fun a b=>llt a.2 b.2)→(∀ x' w',Q x' w'→ ∀ p∈L,∀ j:Int,llt w' (p.2++[j]))→
 PS S0 (fun x' w'=>Q x' w'∨ ∃ p∈L,∃ j:Nat,j<ni∧x'=next p.1 (j:Int)∧w'=p.2++[(j:Int)]) (z6g next ni s L)
 | [],Q,s,h,_,_=>h.congr fun x' w'=>⟨.inl,fun h=>h.resolve_right fun⟨p,d,_⟩=>absurd d List.not_mem_nil⟩
 |p::L,Q,s,h,e,c=>by
  obtain⟨f,g⟩:=List.pairwise_cons.1 e
  refine(zn9 (L:=L) (zmg h (fun x' w' hw' j=>c x' w' hw' p (List.mem_cons_self ..) j) ni) g fun x' w' hw' p' hp' j=>?_).congr fun x' w'=>?_
  ·rcases hw' with hw'|⟨i,hi,_,rfl⟩
   ·exact c x' w' hw' p' (List.mem_cons_of_mem _ hp') j
   ·exact zfb _ _ (f p' hp')
  ·constructor
   ·rintro((h|h)|⟨p',hp',h⟩)
    ·exact .inl h
    ·exact .inr ⟨p,List.mem_cons_self ..,h⟩
    ·exact .inr ⟨p',List.mem_cons_of_mem _ hp',h⟩
   ·rintro(h|⟨p',hp',h⟩)
    ·exact .inl (.inl h)
    ·rcases List.mem_cons.1 hp' with rfl|hp'
     ·exact .inl (.inr h)
     ·exact .inr ⟨p',hp',h⟩
structure LI (next:T→Int→T) (isb:T→Bool) (ni:Nat) (x0:T) (k:Nat) (L:List (T×List Int)) (S:List T):Prop where
 wd: ∀ p∈L,p.2.length=k∧WIn ni p.2∧p.1=runT next x0 p.2
 nd:S.Nodup
 ord:L.Pairwise fun a b=>llt a.2 b.2
 seen: ∀ x,x∈S↔ ∃ v,v.length≤k∧WIn ni v∧x=runT next x0 v
 rep: ∀ v,v.length=k→WIn ni v→(∃ p∈L,p.1=runT next x0 v∧lle p.2 v)∨ ∃ u,u.length<k∧WIn ni u∧runT next x0 u=runT next x0 v
 no: ∀ v,v.length<k→WIn ni v→isb (runT next x0 v)=false
 num:L≠[]→k<S.length
 sub: ∀ p∈L,p.1∈S
theorem zeh{next:T→Int→T}{isb:T→Bool}{ni:Nat}{x0:T}:LI next isb ni x0 0 [(x0,[])] [x0]:=by
 have c: ∀ p∈[(x0,([]:List Int))],p=(x0,[]):=fun p a=>List.mem_singleton.1 a
 refine⟨fun p a=>?_,List.nodup_cons.2 ⟨List.not_mem_nil,List.nodup_nil⟩,List.pairwise_singleton ..,fun x=>?_,fun v b d=>?_,fun v b=>by omega,fun _=>Nat.zero_lt_one,fun p a=>?_⟩
 ·rw [c p a];exact⟨rfl,fun i hi=>absurd hi List.not_mem_nil,rfl⟩
 ·rw [List.mem_singleton]
  constructor
  ·rintro rfl;exact⟨[],Nat.le_refl _,fun i hi=>absurd hi List.not_mem_nil,rfl⟩
  ·rintro⟨v,b,_,rfl⟩
   rw [List.length_eq_zero_iff.1 (Nat.le_zero.1 b)];rfl
 ·rw [List.length_eq_zero_iff.1 b]
  exact .inl ⟨(x0,[]),List.mem_singleton.2 rfl,rfl,.inl rfl⟩
 ·rw [c p a];exact List.mem_singleton.2 rfl
theorem zvq{next:T→Int→T}{isb:T→Bool}{ni:Nat}{x0:T}{k:Nat}{L:List (T×List Int)}{S:List T}(h:LI next isb ni x0 k L S):
 PS S (fun x' w'=> ∃ p∈L,∃ j:Nat,j<ni∧x'=next p.1 (j:Int)∧w'=p.2++[(j:Int)]) (z6g next ni ([],S) L):=by
 refine(zn9 (next:=next) (ni:=ni) (L:=L) (Q:=fun _ _=>False) (s:=([],S)) (S0:=S) ⟨by simp,h.nd,List.Pairwise.nil,fun q a=>absurd a List.not_mem_nil,fun _ _ h=>h.elim⟩ h.ord fun _ _ h=>h.elim).congr fun x' w'=>?_
 exact⟨fun h=>h.resolve_left id,.inr⟩
theorem zmk{next:T→Int→T}{isb:T→Bool}{ni:Nat}{x0:T}{k:Nat}{L:List (T×List Int)}{S:List T}(h:LI next isb ni x0 k L S)(z: ∀ p∈L,isb p.1=false):
 LI next isb ni x0 (k+1) (z6g next ni ([],S) L).1 (z6g next ni ([],S) L).2:=by
 have n:=zvq h
 generalize z6g next ni ([],S) L=s at n
 have hseen: ∀ x,x∈s.2↔x∈S∨ ∃ q∈s.1,q.1=x:=fun x=>by rw [n.seen,List.mem_append,List.mem_map]
 have hout: ∀ q∈s.1,q.2.length=k+1∧WIn ni q.2∧q.1=runT next x0 q.2:=fun q f=>by
  obtain⟨p,d,j,H,o,w⟩:=n.out q f
  obtain⟨A,B,C⟩:=h.wd p d
  rw [o,w]
  exact⟨by simp [A],B.snoc (by omega) (by omega),by rw [z3d,C]⟩
 have hnew: ∀ v,v.length=k+1→WIn ni v→(runT next x0 v∈S)∨ ∃ q∈s.1,q.1=runT next x0 v∧lle q.2 v:=fun v r l=>by
  obtain⟨v',i,rfl,hv'⟩:=zhe r
  obtain⟨hw',D,E⟩:=l.init
  rcases h.rep v' hv' hw' with⟨p,d,o,w⟩|⟨u,y,m,e⟩
  ·obtain⟨j,rfl⟩: ∃ j:Nat,i=(j:Int):=⟨i.toNat,by omega⟩
   rcases n.got (next p.1 (j:Int)) (p.2++[(j:Int)]) ⟨p,d,j,by omega,rfl,rfl⟩ with g|⟨q,f,F,g2⟩
   ·left;rw [z3d,←o];exact g
   ·right;exact⟨q,f,by rw [F,z3d,←o],zct g2 (zja _ w)⟩
  ·left
   rw [z3d,←e,←z3d (next:=next),h.seen]
   exact⟨u++[i],by simp;omega,m.snoc D E,rfl⟩
 refine⟨hout,n.nd,n.ord,fun x=>?_,fun v r l=>?_,fun v r l=>?_,fun t=>?_,fun q f=>(hseen _).2 (.inr ⟨q,f,rfl⟩)⟩
 ·rw [hseen]
  constructor
  ·rintro(G|⟨q,f,rfl⟩)
   ·obtain⟨v,r,l,e⟩:=(h.seen x).1 G
    exact⟨v,by omega,l,e⟩
   ·obtain⟨a,b,c⟩:=hout q f
    exact⟨q.2,by omega,b,c⟩
  ·rintro⟨v,r,l,rfl⟩
   by_cases e:v.length=k+1
   ·rcases hnew v e l with g|⟨q,f,g,_⟩
    ·exact .inl g
    ·exact .inr ⟨q,f,g⟩
   ·exact .inl ((h.seen _).2 ⟨v,by omega,l,rfl⟩)
 ·rcases hnew v r l with g|g
  ·obtain⟨u,y,m,e⟩:=(h.seen _).1 g
   exact .inr ⟨u,by omega,m,e.symm⟩
  ·exact .inl g
 ·by_cases e:v.length=k
  ·rcases h.rep v e l with⟨p,d,o,_⟩|⟨u,y,m,o⟩
   ·rw [←o];exact z p d
   ·rw [←o];exact h.no u y m
  ·exact h.no v (by omega) l
 ·have hlen:s.2.length=S.length+s.1.length:=by rw [n.seen,List.length_append,List.length_map]
  have I:0<s.1.length:=List.length_pos_iff.2 t
  by_cases hL:L=[]
  ·exfalso
   obtain⟨q,f⟩:=List.exists_mem_of_ne_nil _ t
   obtain⟨p,d,_⟩:=n.out q f
   rw [hL] at d;exact absurd d List.not_mem_nil
  ·have:=h.num hL;omega
theorem zem{isb:T→Bool}: ∀ {L:List (T×List Int)} {p:T×List Int},L.Pairwise (fun a b=>llt a.2 b.2)→L.find? (fun p=>isb p.1)=some p→ ∀ q∈L,isb q.1=true→lle p.2 q.2
 | [],p,_,h,q,c,_=>absurd c List.not_mem_nil
 |a::L,p,e,h,q,c,d=>by
  obtain⟨f,g⟩:=List.pairwise_cons.1 e
  rw [List.find?_cons] at h
  cases ha:isb a.1 with
  |true=>
   rw [ha] at h
   obtain rfl:=Option.some.inj h
   rcases List.mem_cons.1 c with rfl|c
   ·exact .inl rfl
   ·exact .inr (f q c)
  |false=>
   rw [ha] at h
   rcases List.mem_cons.1 c with rfl|c
   ·rw [ha] at d;cases d
   ·exact zem g h q c d
def Lst(next:T→Int→T)(isb:T→Bool)(ni:Nat)(x0:T)(w:List Int):Prop:=WIn ni w∧isb (runT next x0 w)=true∧ ∀ v,WIn ni v→isb (runT next x0 v)=true→lle w v
theorem zch{a b:List Int}(h:lle a b):a.length≤b.length:=by
 rcases h with rfl|h|⟨h,_⟩
 ·exact Nat.le_refl _
 ·omega
 ·omega
theorem zvd{next:T→Int→T}{isb:T→Bool}{ni:Nat}{x0:T}{k:Nat}{S:List T}(h:LI next isb ni x0 k [] S): ∀ v,WIn ni v→isb (runT next x0 v)=false:=by
 have key: ∀ n v,v.length=n→WIn ni v→ ∃ u,u.length<k∧WIn ni u∧runT next x0 u=runT next x0 v:=by
  have base: ∀ v,v.length≤k→WIn ni v→ ∃ u,u.length<k∧WIn ni u∧runT next x0 u=runT next x0 v:=fun v b a=>by
   by_cases e:v.length=k
   ·exact(h.rep v e a).resolve_left fun⟨p,j,_⟩=>absurd j List.not_mem_nil
   ·exact⟨v,by omega,a,rfl⟩
  intro n
  induction n with
  |zero=>intro v b a;exact base v (by omega) a
  |succ n ih=>
   intro v b a
   obtain⟨v',i,rfl,hv'⟩:=zhe b
   obtain⟨hw',l,m⟩:=a.init
   obtain⟨u,q,c,e⟩:=ih v' hv' hw'
   obtain⟨o,d,f,g⟩:=base (u++[i]) (by simp;omega) (c.snoc l m)
   exact⟨o,d,f,by rw [g,z3d,z3d,e]⟩
 intro v a
 obtain⟨u,d,f,g⟩:=key v.length v rfl a
 rw [←g];exact h.no u d f
theorem zd6{next:T→Int→T}{isb:T→Bool}{ni:Nat}{x0:T}{w:List Int}: ∀ {g k:Nat} {L:List (T×List Int)} {S:List T},LI next isb ni x0 k L S→z4u next isb ni g L S=some w→Lst next isb ni x0 w
 |0,k,L,S,h,e=>by cases e
 |g+1,k,L,S,h,e=>by
  unfold z4u at e
  by_cases hL:L=[]
  ·rw [if_pos hL] at e;cases e
  ·rw [if_neg hL] at e
   cases hf:L.find? (fun p=>isb p.1) with
   |some p=>
    rw [hf] at e
    obtain rfl:=Option.some.inj e
    have b:=List.mem_of_find?_eq_some hf
    have i:=List.find?_some hf
    obtain⟨s,j,l⟩:=h.wd p b
    refine⟨j,by rw [←l];exact i,fun v f a=>?_⟩
    by_cases hk:v.length<k
    ·rw [h.no v hk f] at a;cases a
    ·by_cases hk2:v.length=k
     ·rcases h.rep v hk2 f with⟨q,m,c,n⟩|⟨u,o,d,c⟩
      ·exact zct (zem h.ord hf q m (by rw [c];exact a)) n
      ·rw [←c,h.no u o d] at a;cases a
     ·exact .inr (.inl (by omega))
   |none=>
    rw [hf] at e
    exact zd6 (zmk h fun p r=>by simpa using List.find?_eq_none.1 hf p r) e
theorem zgg{next:T→Int→T}{isb:T→Bool}{ni:Nat}{x0:T}: ∀ {g k:Nat} {L:List (T×List Int)} {S:List T},LI next isb ni x0 k L S→z4u next isb ni g L S=none→ ∀ v,WIn ni v→v.length<k+g→isb (runT next x0 v)=false
 |0,k,L,S,h,e,v,a,b=>h.no v (by omega) a
 |g+1,k,L,S,h,e,v,a,b=>by
  unfold z4u at e
  by_cases hL:L=[]
  ·subst hL;exact zvd h v a
  ·rw [if_neg hL] at e
   cases hf:L.find? (fun p=>isb p.1) with
   |some p=>rw [hf] at e;cases e
   |none=>
    rw [hf] at e
    exact zgg (zmk h fun p c=>by simpa using List.find?_eq_none.1 hf p c) e v a (by omega)
theorem Lst.unique{next:T→Int→T}{isb:T→Bool}{ni:Nat}{x0:T}{w v:List Int}(h:Lst next isb ni x0 w)(k:Lst next isb ni x0 v):w=v:=by
 rcases h.2.2 v k.1 k.2.1 with e|e
 ·exact e
 ·exact absurd e (zsk (k.2.2 w h.1 h.2.1))
theorem zc7{next:T→Int→T}{isb:T→Bool}{ni:Nat}{x0:T}{g:Nat}{v:List Int}(a:WIn ni v)(b:isb (runT next x0 v)=true)(c:v.length<g): ∃ w,z4u next isb ni g [(x0,[])] [x0]=some w∧Lst next isb ni x0 w:=by
 cases e:z4u next isb ni g [(x0,[])] [x0] with
 |some w=>exact⟨w,rfl,zd6 zeh e⟩
 |none=>have:=zgg zeh e v a (by omega);rw [b] at this;cases this
end sea
end GV
end Go.Proofs.Ytjmlpkkbmnjhcaa

namespace Go.Proofs.Ytjmlpkkbmnjhcaa
namespace GV
set_option maxRecDepth 100000
theorem zk4{κ β:Type}[DecidableEq κ](z:β)(M:List (κ×β))(k:κ)(v:β)(j:κ):z8m z (z2c M k v) j=if j=k then v else z8m z M j:=by
 induction M with
 |nil=>unfold z2c z8m;rfl
 |cons p M ih=>
  unfold z2c
  by_cases h:k=p.1
  ·rw [if_pos h]
   unfold z8m
   by_cases e:j=k
   ·rw [if_pos e,if_pos e]
   ·rw [if_neg e,if_neg e,if_neg (fun q=>e (q.trans h.symm))]
  ·rw [if_neg h]
   unfold z8m
   by_cases e:j=p.1
   ·rw [if_pos e,if_pos e,if_neg (fun q=>h (q.symm.trans e))]
   ·rw [if_neg e,if_neg e];exact ih
section
variable {T : Type} [DecidableEq T] [Inhabited T]
structure SeaOk (N ni B:Nat) (inputs:Int) (key:T→Option (List UInt8)) (is_:T→Option Bool) (next:T→Int→Option T) (kf:T→List UInt8) (isf:T→Bool) (nf:T→Int→T) (P:T→Prop):Prop where
 inp:inputs=(ni:Int)
 key: ∀ x,P x→key x=some (kf x)
 inj: ∀ x y,P x→P y→kf x=kf y→x=y
 is_: ∀ x,P x→is_ x=some (isf x)
 next: ∀ x (i:Nat),P x→i<ni→next x (i:Int)=some (nf x (i:Int))
 cl: ∀ x (i:Nat),P x→i<ni→P (nf x (i:Int))
 num: ∀ S:List T,S.Nodup→(∀ x∈S,P x)→S.length≤B
 bB:B≤1000000000000
 BN:B<N
 nN:ni<N
 n16:ni≤1000
 N300:300≤N
def MS(kf:T→List UInt8)(M:List (List UInt8×Bool))(S:List T):Prop:= ∀ q,z8m false M q=true↔ ∃ x∈S,kf x=q
theorem zhl{kf:T→List UInt8}{M:List (List UInt8×Bool)}{S:List T}(h:MS kf M S)(x:T):MS kf (z2c M (kf x) true) (S++[x]):=fun q=>by
 rw [zk4]
 by_cases e:q=kf x
 ·rw [if_pos e]
  exact⟨fun _=>⟨x,List.mem_append.2 (.inr (List.mem_singleton.2 rfl)),e.symm⟩,fun _=>rfl⟩
 ·rw [if_neg e,h q]
  constructor
  ·rintro⟨y,a,rfl⟩;exact⟨y,List.mem_append.2 (.inl a),rfl⟩
  ·rintro⟨y,a,rfl⟩
   rcases List.mem_append.1 a with a|a
   ·exact⟨y,a,rfl⟩
   ·rw [List.mem_singleton.1 a] at e;exact absurd rfl e
theorem zks{kf:T→List UInt8}(x:T):MS kf (z2c [] (kf x) true) [x]:=by
 have:=zhl (kf:=kf) (M:=[]) (S:=[]) (fun q=>⟨fun h=>by simp [z8m] at h,fun⟨y,a,_⟩=>absurd a List.not_mem_nil⟩) x
 exact this
theorem zlj{kf:T→List UInt8}{M:List (List UInt8×Bool)}{S:List T}(h:MS kf M S){x:T}(a:x∈S):z8m false M (kf x)=true:=(h _).2 ⟨x,a,rfl⟩
theorem zec{kf:T→List UInt8}{P:T→Prop}{M:List (List UInt8×Bool)}{S:List T}(h:MS kf M S)(hinj: ∀ x y,P x→P y→kf x=kf y→x=y)(b: ∀ y∈S,P y){x:T}(c:P x)(d:x∉S):z8m false M (kf x)=false:=by
 cases e:z8m false M (kf x) with
 |false=>rfl
 |true=>
  obtain⟨y,a,f⟩:=(h _).1 e
  rw [hinj y x (b y a) c f] at a
  exact absurd a d
structure LW (P:T→Prop) (k:Nat) (s:LS T):Prop where
 nd:s.2.Nodup
 all: ∀ x∈s.2,P x
 le:s.1.length≤s.2.length
 wl: ∀ q∈s.1,P q.1∧q.2.length=k+1
theorem zrx{P:T→Prop}{k:Nat}{s:LS T}{x:T}{w:List Int}(h:LW P k s)(f:P x)(g:w.length=k+1):LW P k (z3u s x w):=by
 unfold z3u
 by_cases hm:x∈s.2
 ·rw [if_pos hm];exact h
 ·rw [if_neg hm]
  refine⟨?_,fun y c=>?_,?_,fun q d=>?_⟩
  ·show (s.2++[x]).Nodup
   rw [List.nodup_append]
   refine⟨h.nd,List.nodup_cons.2 ⟨List.not_mem_nil,List.nodup_nil⟩,fun a i b j e=>?_⟩
   rw [List.mem_singleton.1 j] at e
   exact hm (e▸i)
  ·rcases List.mem_append.1 c with c|c
   ·exact h.all y c
   ·rw [List.mem_singleton.1 c];exact f
  ·show (s.1++[(x,w)]).length≤(s.2++[x]).length
   have:=h.le
   simp;omega
  ·rcases List.mem_append.1 d with d|d
   ·exact h.wl q d
   ·rw [List.mem_singleton.1 d];exact⟨f,g⟩
theorem zcb{P:T→Prop}{k ni:Nat}{nf:T→Int→T}(cl: ∀ x (i:Nat),P x→i<ni→P (nf x (i:Int))){s:LS T}{x:T}{w:List Int}(h:LW P k s)(a:P x)(b:w.length=k): ∀ j,j≤ni→LW P k (z0r nf x w s j)
 |0,_=>h
 |j+1,c=>zrx (zcb cl h a b j (by omega)) (cl x j a (by omega)) (by simp [b])
theorem z8k{P:T→Prop}{k ni:Nat}{nf:T→Int→T}(cl: ∀ x (i:Nat),P x→i<ni→P (nf x (i:Int))): ∀ {L:List (T×List Int)} {s:LS T},LW P k s→(∀ p∈L,P p.1∧p.2.length=k)→LW P k (z6g nf ni s L)
 | [],s,h,_=>h
 |p::L,s,h,a=>z8k (L:=L) (s:=z0r nf p.1 p.2 s ni) cl (zcb cl h (a p (List.mem_cons_self ..)).1 (a p (List.mem_cons_self ..)).2 ni (Nat.le_refl _)) fun q b=>a q (List.mem_cons_of_mem _ b)
theorem z4n{nf:T→Int→T}{ni:Nat}: ∀ {L:List (T×List Int)} {s:LS T} {p:T×List Int},z6g nf ni s (L++[p])=z0r nf p.1 p.2 (z6g nf ni s L) ni
 | [],s,p=>rfl
 |q::L,s,p=>z4n (L:=L) (s:=z0r nf q.1 q.2 s ni)
theorem z5m{α:Type}[Inhabited α]{s:List α}{a:Nat}(h:a<s.length):s.take (a+1)=s.take a++[s.getD a default]:=by
 rw [List.take_add_one,List.getD_eq_getElem?_getD,List.getElem?_eq_getElem h];rfl
theorem zdw{α:Type}[Inhabited α]{q:α→Bool}: ∀ {L:List α} {j:Nat},j<L.length→(∀ i,i<j→q (L.getD i default)=false)→q (L.getD j default)=true→L.find? q=some (L.getD j default)
 | [],j,h,_,_=>absurd h (Nat.not_lt_zero _)
 |a::L,0,h,_,b=>by
  have:q a=true:=b
  rw [List.find?_cons,this];rfl
 |a::L,j+1,h,c,b=>by
  have d:q a=false:=c 0 (Nat.succ_pos _)
  rw [List.find?_cons,d]
  exact zdw (L:=L) (j:=j) (by simpa using h) (fun i hi=>c (i+1) (by omega)) b
theorem zdt{α:Type}[Inhabited α]{q:α→Bool}: ∀ {L:List α},(∀ i,i<L.length→q (L.getD i default)=false)→L.find? q=none
 | [],_=>rfl
 |a::L,b=>by
  have c:q a=false:=b 0 (by simp)
  rw [List.find?_cons,c]
  exact zdt (L:=L) fun i hi=>b (i+1) (by simp;omega)
theorem z6k{α:Type}[Inhabited α]{L:List α}{i:Nat}(h:i<L.length):L.getD i default∈L:=by
 rw [List.getD_eq_getElem?_getD,List.getElem?_eq_getElem h];exact List.getElem_mem h
end
section
variable {N ni B : Nat} {inputs : Int} {key : Int → Option (List UInt8)} {is_ : Int → Option Bool} {next : Int → Int → Option Int} {kf : Int → List UInt8} {isf : Int → Bool} {nf : Int → Int → Int} {P : Int → Prop}
def aa(p:Int×List Int):Sb:=⟨p.1,p.2⟩
theorem z8x{L:List (Int×List Int)}{p:Nat}(a:p<L.length):ix (L.map aa) (p:Int)=aa (L.getD p default):=by
 show (L.map aa).getD p default=_
 simp [List.getD_eq_getElem?_getD,a]
theorem zfy(h:SeaOk N ni B inputs key is_ next kf isf nf P){x:Int}{w:List Int}{k:Nat}(f:P x)(n:w.length=k)(A:k≤256){s0:LS Int}(o:LW P k s0){x23:List Sb}{x62:Int}(p:(ix x23 x62).fC=x)(q:(ix x23 x62).fG=w){M:List (List UInt8×Bool)}(t:MS kf M s0.2):
 ∃ r,gp N inputs key next x23 x62 N 0 M (s0.1.map aa)=some r∧ ∃ M',r=Ex.go (M',(z0r nf x w s0 ni).1.map aa)∧MS kf M' (z0r nf x w s0 ni).2:=by
 have u:=h.inp
 have v:=h.nN;have y:=h.n16
 refine z1o (fun F k s=>gp N inputs key next x23 x62 F (k:Int) s.1 s.2) ni (fun j s=>MS kf s.1 (z0r nf x w s0 j).2∧s.2=(z0r nf x w s0 j).1.map aa) _ (fun F j s l g=> .inr ?_) (fun F s g=>?_) N 0 (M,s0.1.map aa) (Nat.zero_le _) (by omega) ⟨t,rfl⟩
 ·obtain⟨c,d⟩:=s
  obtain⟨a,b⟩:=g
  simp only at a b
  have e:=zcb h.cl o f n j (by omega)
  have m:=h.cl x j f l
  have hlen:(z0r nf x w s0 j).1.length≤B:=Nat.le_trans e.le (h.num _ e.nd e.all)
  have z:=h.bB
  simp only [gp]
  rw [eu (by omega),p,qg (h.next x j f l),qg (h.key _ m)]
  by_cases hm:nf x (j:Int)∈(z0r nf x w s0 j).2
  ·rw [zlj a hm,Bool.not_true,cond_false,z3y,zn (ui (by omega)),bn]
   refine⟨(c,d),⟨?_,?_⟩,rfl⟩
   ·show MS kf c (z3u (z0r nf x w s0 j) _ _).2
    unfold z3u;rw [if_pos hm];exact a
   ·show d=(z3u (z0r nf x w s0 j) _ _).1.map aa
    unfold z3u;rw [if_pos hm];exact b
  ·have i:d.length=(z0r nf x w s0 j).1.length:=by rw [b,List.length_map]
   rw [zec a h.inj e.all m hm,Bool.not_false,cond_true,q,qg zaj,zn ⟨⟨by simp only [List.length_singleton];omega,by simp only [List.length_singleton];omega⟩,by simp⟩,zn ⟨by simp only [List.length_singleton];omega,by simp only [List.length_singleton];omega⟩,z3y,zn (ui (by omega)),bn]
   refine⟨(_,_),⟨?_,?_⟩,rfl⟩
   ·show MS kf _ (z3u (z0r nf x w s0 j) _ _).2
    unfold z3u;rw [if_neg hm];exact zhl a _
   ·show _=(z3u (z0r nf x w s0 j) _ _).1.map aa
    unfold z3u;rw [if_neg hm]
    show _=List.map aa ((z0r nf x w s0 j).1++_)
    rw [List.map_append,b];rfl
 ·obtain⟨c,d⟩:=s
  obtain⟨a,b⟩:=g
  simp only at a b
  simp only [gp]
  rw [cu (by omega)]
  exact⟨_,rfl,c,by rw [b],a⟩
theorem zfx(h:SeaOk N ni B inputs key is_ next kf isf nf P){k:Nat}(u:k≤256){L:List (Int×List Int)}{S:List Int}(o: ∀ p∈L,P p.1∧p.2.length=k)(v:L.length≤B)(y:S.Nodup)(g: ∀ x∈S,P x){M:List (List UInt8×Bool)}(z:MS kf M S):
 ∃ r,gq N inputs key is_ next (L.map aa) N [] 0 M=some r∧((∃ p,L.find? (fun p=>isf p.1)=some p∧r=Ex.rt (Ex.rt (p.2,0)))∨(L.find? (fun p=>isf p.1)=none∧ ∃ M',r=Ex.go ((z6g nf ni ([],S) L).1.map aa,M')∧MS kf M' (z6g nf ni ([],S) L).2)):=by
 have A:=h.bB;have C:=h.BN
 have l:LW P k (([],S):LS Int):=⟨y,g,Nat.zero_le _,fun q D=>absurd D List.not_mem_nil⟩
 refine z1o (fun F k s=>gq N inputs key is_ next (L.map aa) F s.1 (k:Int) s.2) L.length (fun j s=>(∀ i,i<j→isf (L.getD i default).1=false)∧MS kf s.2 (z6g nf ni ([],S) (L.take j)).2∧s.1=(z6g nf ni ([],S) (L.take j)).1.map aa) _ (fun F j s d m=>?_) (fun F s m=>?_) N 0 ([],M) (Nat.zero_le _) (by omega) ⟨fun i hi=>absurd hi (Nat.not_lt_zero _),z,rfl⟩
 ·obtain⟨E,t⟩:=s
  obtain⟨c,a,b⟩:=m
  simp only at a b
  obtain⟨f,n⟩:=o _ (z6k d)
  have G:=z8k (k:=k) h.cl l (L:=L.take j) fun p H=>o p (List.mem_of_mem_take H)
  simp only [gq]
  rw [eu (by rw [List.length_map];omega),zn (ib (by rw [List.length_map];exact d)),z8x d,qg (h.is_ _ (show P (aa (L.getD j default)).fC from f))]
  cases hb:isf (L.getD j default).1 with
  |true=>
   rw [show isf (aa (L.getD j default)).fC=true from hb,cond_true,qg zaj,z3y,zdn]
   exact .inl ⟨_,rfl,.inl ⟨_,zdw d c hb,rfl⟩⟩
  |false=>
   rw [show isf (aa (L.getD j default)).fC=false from hb,cond_false]
   obtain⟨r,I,M',rfl,hM'⟩:=zfy h (x:=(L.getD j default).1) (w:=(L.getD j default).2) f n u G (x23:=L.map aa) (x62:=(j:Int)) (by rw [z8x d];rfl) (by rw [z8x d];rfl) a
   rw [b,qg I,zau,zn (ui (by omega)),bn]
   refine .inr ⟨(_,_),⟨fun i hi=>?_,?_,?_⟩,rfl⟩
   ·by_cases e:i=j
    ·subst e;exact hb
    ·exact c i (by omega)
   ·rw [z5m d,z4n];exact hM'
   ·rw [z5m d,z4n]
 ·obtain⟨E,t⟩:=s
  obtain⟨c,a,b⟩:=m
  simp only at a b
  simp only [gq]
  rw [cu (by rw [List.length_map];omega)]
  rw [List.take_length] at a b
  exact⟨_,rfl,.inr ⟨zdt c,t,by rw [b],a⟩⟩
theorem zaw(h:SeaOk N ni B inputs key is_ next kf isf nf P): ∀ (g k F:Nat) (L:List (Int×List Int)) (S:List Int) (M:List (List UInt8×Bool)),k+g=257→g<F→(∀ p∈L,P p.1∧p.2.length=k)→L.length≤B→S.Nodup→(∀ x∈S,P x)→MS kf M S→
 gm N inputs key is_ next F (L.map aa) (k:Int) M=some (match z4u nf isf ni g L S with|some w=>Ex.rt (w,0)|none=>Ex.go ())
 |0,k,F,L,S,M,j,l,d,c,e,a,i=>by
  obtain⟨F,rfl⟩: ∃ F',F=F'+1:=⟨F-1,by omega⟩
  simp only [gm]
  rw [show decide ((k:Int)≤256)=false from decide_eq_false (by omega),Bool.and_false,cond_false];rfl
 |g+1,k,F,L,S,M,j,l,d,c,e,a,i=>by
  obtain⟨F,rfl⟩: ∃ F',F=F'+1:=⟨F-1,by omega⟩
  simp only [gm]
  unfold z4u
  by_cases hn:L=[]
  ·subst hn
   rw [if_pos rfl];rfl
  ·rw [if_neg hn]
   have hpos:=List.length_pos_iff.2 hn
   rw [show (decide ((0:Int)<((L.map aa).length:Int))&&decide ((k:Int)≤256))=true by rw [List.length_map,decide_eq_true (show (0:Int)<(L.length:Int) by omega),decide_eq_true (show (k:Int)≤256 by omega)];rfl,cond_true]
   obtain⟨r,m,n⟩:=zfx h (k:=k) (by omega) d c e a i
   rw [qg m]
   rcases n with⟨p,f,rfl⟩|⟨f,M',rfl,hM'⟩
   ·rw [f,zdn]
   ·rw [f,zau,zn (ui (by omega)),bn]
    have b:=z8k (k:=k) h.cl (s:=(([],S):LS Int)) ⟨e,a,Nat.zero_le _,fun q o=>absurd o List.not_mem_nil⟩ d
    exact zaw h g (k+1) F _ _ _ (by omega) (by omega) b.wl (Nat.le_trans b.le (h.num _ b.nd b.all)) b.nd b.all hM'
theorem zld(h:SeaOk N ni B inputs key is_ next kf isf nf P){x:Int}(a:P x):z01 N inputs x key is_ next=some (match z4u nf isf ni 257 [(x,[])] [x] with|some w=>(w,0)|none=>([],7)):=by
 have c:1≤B:=h.num [x] (List.nodup_cons.2 ⟨List.not_mem_nil,List.nodup_nil⟩) fun y b=>by rw [List.mem_singleton.1 b];exact a
 have d: ∀ p∈[(x,([]:List Int))],P p.1∧p.2.length=0:=fun p e=>by rw [List.mem_singleton.1 e];exact⟨a,rfl⟩
 have f:=zaw h 257 0 N [(x,[])] [x] (z2c [] (kf x) true) rfl (by have:=h.N300;omega) d c (List.nodup_cons.2 ⟨List.not_mem_nil,List.nodup_nil⟩) (fun y b=>by rw [List.mem_singleton.1 b];exact a) (zks x)
 unfold z01
 rw [qg (h.key x a)]
 have g:gm N inputs key is_ next N ([(⟨x,[]⟩:Sb)]:List Sb) 0 (z2c ([]:List ((List UInt8)×Bool)) (kf x) true)=_:=f
 rw [qg g]
 cases z4u nf isf ni 257 [(x,[])] [x] with
 |some w=>rw [zdn]
 |none=>rw [zau]
end
section
variable {N ni B : Nat} {inputs : Int} {key : (List Int) → Option (List UInt8)} {is_ : (List Int) → Option Bool} {next : (List Int) → Int → Option (List Int)} {kf : (List Int) → List UInt8} {isf : (List Int) → Bool} {nf : (List Int) → Int → (List Int)} {P : (List Int) → Prop}
def mg(p:(List Int)×List Int):Sa:=⟨p.1,p.2⟩
theorem z7b{L:List ((List Int)×List Int)}{p:Nat}(a:p<L.length):ix (L.map mg) (p:Int)=mg (L.getD p default):=by
 show (L.map mg).getD p default=_
 simp [List.getD_eq_getElem?_getD,a]
theorem zfo(h:SeaOk N ni B inputs key is_ next kf isf nf P){x:(List Int)}{w:List Int}{k:Nat}(f:P x)(n:w.length=k)(A:k≤256){s0:LS (List Int)}(o:LW P k s0){x23:List Sa}{x62:Int}(p:(ix x23 x62).fC=x)(q:(ix x23 x62).fG=w){M:List (List UInt8×Bool)}(t:MS kf M s0.2):
 ∃ r,xc N inputs key next x23 x62 N 0 M (s0.1.map mg)=some r∧ ∃ M',r=Ex.go (M',(z0r nf x w s0 ni).1.map mg)∧MS kf M' (z0r nf x w s0 ni).2:=by
 have u:=h.inp
 have v:=h.nN;have y:=h.n16
 refine z1o (fun F k s=>xc N inputs key next x23 x62 F (k:Int) s.1 s.2) ni (fun j s=>MS kf s.1 (z0r nf x w s0 j).2∧s.2=(z0r nf x w s0 j).1.map mg) _ (fun F j s l g=> .inr ?_) (fun F s g=>?_) N 0 (M,s0.1.map mg) (Nat.zero_le _) (by omega) ⟨t,rfl⟩
 ·obtain⟨c,d⟩:=s
  obtain⟨a,b⟩:=g
  simp only at a b
  have e:=zcb h.cl o f n j (by omega)
  have m:=h.cl x j f l
  have hlen:(z0r nf x w s0 j).1.length≤B:=Nat.le_trans e.le (h.num _ e.nd e.all)
  have z:=h.bB
  simp only [xc]
  rw [eu (by omega),p,qg (h.next x j f l),qg (h.key _ m)]
  by_cases hm:nf x (j:Int)∈(z0r nf x w s0 j).2
  ·rw [zlj a hm,Bool.not_true,cond_false,z3y,zn (ui (by omega)),bn]
   refine⟨(c,d),⟨?_,?_⟩,rfl⟩
   ·show MS kf c (z3u (z0r nf x w s0 j) _ _).2
    unfold z3u;rw [if_pos hm];exact a
   ·show d=(z3u (z0r nf x w s0 j) _ _).1.map mg
    unfold z3u;rw [if_pos hm];exact b
  ·have i:d.length=(z0r nf x w s0 j).1.length:=by rw [b,List.length_map]
   rw [zec a h.inj e.all m hm,Bool.not_false,cond_true,q,qg zaj,zn ⟨⟨by simp only [List.length_singleton];omega,by simp only [List.length_singleton];omega⟩,by simp⟩,zn ⟨by simp only [List.length_singleton];omega,by simp only [List.length_singleton];omega⟩,z3y,zn (ui (by omega)),bn]
   refine⟨(_,_),⟨?_,?_⟩,rfl⟩
   ·show MS kf _ (z3u (z0r nf x w s0 j) _ _).2
    unfold z3u;rw [if_neg hm];exact zhl a _
   ·show _=(z3u (z0r nf x w s0 j) _ _).1.map mg
    unfold z3u;rw [if_neg hm]
    show _=List.map mg ((z0r nf x w s0 j).1++_)
    rw [List.map_append,b];rfl
 ·obtain⟨c,d⟩:=s
  obtain⟨a,b⟩:=g
  simp only at a b
  simp only [xc]
  rw [cu (by omega)]
  exact⟨_,rfl,c,by rw [b],a⟩
theorem zee(h:SeaOk N ni B inputs key is_ next kf isf nf P){k:Nat}(u:k≤256){L:List ((List Int)×List Int)}{S:List (List Int)}(o: ∀ p∈L,P p.1∧p.2.length=k)(v:L.length≤B)(y:S.Nodup)(g: ∀ x∈S,P x){M:List (List UInt8×Bool)}(z:MS kf M S):
 ∃ r,xg N inputs key is_ next (L.map mg) N [] 0 M=some r∧((∃ p,L.find? (fun p=>isf p.1)=some p∧r=Ex.rt (Ex.rt (p.2,0)))∨(L.find? (fun p=>isf p.1)=none∧ ∃ M',r=Ex.go ((z6g nf ni ([],S) L).1.map mg,M')∧MS kf M' (z6g nf ni ([],S) L).2)):=by
 have A:=h.bB;have C:=h.BN
 have l:LW P k (([],S):LS (List Int)):=⟨y,g,Nat.zero_le _,fun q D=>absurd D List.not_mem_nil⟩
 refine z1o (fun F k s=>xg N inputs key is_ next (L.map mg) F s.1 (k:Int) s.2) L.length (fun j s=>(∀ i,i<j→isf (L.getD i default).1=false)∧MS kf s.2 (z6g nf ni ([],S) (L.take j)).2∧s.1=(z6g nf ni ([],S) (L.take j)).1.map mg) _ (fun F j s d m=>?_) (fun F s m=>?_) N 0 ([],M) (Nat.zero_le _) (by omega) ⟨fun i hi=>absurd hi (Nat.not_lt_zero _),z,rfl⟩
 ·obtain⟨E,t⟩:=s
  obtain⟨c,a,b⟩:=m
  simp only at a b
  obtain⟨f,n⟩:=o _ (z6k d)
  have G:=z8k (k:=k) h.cl l (L:=L.take j) fun p H=>o p (List.mem_of_mem_take H)
  simp only [xg]
  rw [eu (by rw [List.length_map];omega),zn (ib (by rw [List.length_map];exact d)),z7b d,qg (h.is_ _ (show P (mg (L.getD j default)).fC from f))]
  cases hb:isf (L.getD j default).1 with
  |true=>
   rw [show isf (mg (L.getD j default)).fC=true from hb,cond_true,qg zaj,z3y,zdn]
   exact .inl ⟨_,rfl,.inl ⟨_,zdw d c hb,rfl⟩⟩
  |false=>
   rw [show isf (mg (L.getD j default)).fC=false from hb,cond_false]
   obtain⟨r,I,M',rfl,hM'⟩:=zfo h (x:=(L.getD j default).1) (w:=(L.getD j default).2) f n u G (x23:=L.map mg) (x62:=(j:Int)) (by rw [z7b d];rfl) (by rw [z7b d];rfl) a
   rw [b,qg I,zau,zn (ui (by omega)),bn]
   refine .inr ⟨(_,_),⟨fun i hi=>?_,?_,?_⟩,rfl⟩
   ·by_cases e:i=j
    ·subst e;exact hb
    ·exact c i (by omega)
   ·rw [z5m d,z4n];exact hM'
   ·rw [z5m d,z4n]
 ·obtain⟨E,t⟩:=s
  obtain⟨c,a,b⟩:=m
  simp only at a b
  simp only [xg]
  rw [cu (by rw [List.length_map];omega)]
  rw [List.take_length] at a b
  exact⟨_,rfl,.inr ⟨zdt c,t,by rw [b],a⟩⟩
theorem za1(h:SeaOk N ni B inputs key is_ next kf isf nf P): ∀ (g k F:Nat) (L:List ((List Int)×List Int)) (S:List (List Int)) (M:List (List UInt8×Bool)),k+g=257→g<F→(∀ p∈L,P p.1∧p.2.length=k)→L.length≤B→S.Nodup→(∀ x∈S,P x)→MS kf M S→
 xh N inputs key is_ next F (L.map mg) (k:Int) M=some (match z4u nf isf ni g L S with|some w=>Ex.rt (w,0)|none=>Ex.go ())
 |0,k,F,L,S,M,j,l,d,c,e,a,i=>by
  obtain⟨F,rfl⟩: ∃ F',F=F'+1:=⟨F-1,by omega⟩
  simp only [xh]
  rw [show decide ((k:Int)≤256)=false from decide_eq_false (by omega),Bool.and_false,cond_false];rfl
 |g+1,k,F,L,S,M,j,l,d,c,e,a,i=>by
  obtain⟨F,rfl⟩: ∃ F',F=F'+1:=⟨F-1,by omega⟩
  simp only [xh]
  unfold z4u
  by_cases hn:L=[]
  ·subst hn
   rw [if_pos rfl];rfl
  ·rw [if_neg hn]
   have hpos:=List.length_pos_iff.2 hn
   rw [show (decide ((0:Int)<((L.map mg).length:Int))&&decide ((k:Int)≤256))=true by rw [List.length_map,decide_eq_true (show (0:Int)<(L.length:Int) by omega),decide_eq_true (show (k:Int)≤256 by omega)];rfl,cond_true]
   obtain⟨r,m,n⟩:=zee h (k:=k) (by omega) d c e a i
   rw [qg m]
   rcases n with⟨p,f,rfl⟩|⟨f,M',rfl,hM'⟩
   ·rw [f,zdn]
   ·rw [f,zau,zn (ui (by omega)),bn]
    have b:=z8k (k:=k) h.cl (s:=(([],S):LS (List Int))) ⟨e,a,Nat.zero_le _,fun q o=>absurd o List.not_mem_nil⟩ d
    exact za1 h g (k+1) F _ _ _ (by omega) (by omega) b.wl (Nat.le_trans b.le (h.num _ b.nd b.all)) b.nd b.all hM'
theorem zdf(h:SeaOk N ni B inputs key is_ next kf isf nf P){x:(List Int)}(a:P x):ll N inputs x key is_ next=some (match z4u nf isf ni 257 [(x,[])] [x] with|some w=>(w,0)|none=>([],7)):=by
 have c:1≤B:=h.num [x] (List.nodup_cons.2 ⟨List.not_mem_nil,List.nodup_nil⟩) fun y b=>by rw [List.mem_singleton.1 b];exact a
 have d: ∀ p∈[(x,([]:List Int))],P p.1∧p.2.length=0:=fun p e=>by rw [List.mem_singleton.1 e];exact⟨a,rfl⟩
 have f:=za1 h 257 0 N [(x,[])] [x] (z2c [] (kf x) true) rfl (by have:=h.N300;omega) d c (List.nodup_cons.2 ⟨List.not_mem_nil,List.nodup_nil⟩) (fun y b=>by rw [List.mem_singleton.1 b];exact a) (zks x)
 unfold ll
 rw [qg (h.key x a)]
 have g:xh N inputs key is_ next N ([(⟨x,[]⟩:Sa)]:List Sa) 0 (z2c ([]:List ((List UInt8)×Bool)) (kf x) true)=_:=f
 rw [qg g]
 cases z4u nf isf ni 257 [(x,[])] [x] with
 |some w=>rw [zdn]
 |none=>rw [zau]
end
section
variable {N ni B : Nat} {inputs : Int} {key : (Int × Int) → Option (List UInt8)} {is_ : (Int × Int) → Option Bool} {next : (Int × Int) → Int → Option (Int × Int)} {kf : (Int × Int) → List UInt8} {isf : (Int × Int) → Bool} {nf : (Int × Int) → Int → (Int × Int)} {P : (Int × Int) → Prop}
def ae(p:(Int×Int)×List Int):Sc:=⟨p.1,p.2⟩
theorem z8i{L:List ((Int×Int)×List Int)}{p:Nat}(a:p<L.length):ix (L.map ae) (p:Int)=ae (L.getD p default):=by
 show (L.map ae).getD p default=_
 simp [List.getD_eq_getElem?_getD,a]
theorem zg3(h:SeaOk N ni B inputs key is_ next kf isf nf P){x:(Int×Int)}{w:List Int}{k:Nat}(f:P x)(n:w.length=k)(A:k≤256){s0:LS (Int×Int)}(o:LW P k s0){x23:List Sc}{x62:Int}(p:(ix x23 x62).fC=x)(q:(ix x23 x62).fG=w){M:List (List UInt8×Bool)}(t:MS kf M s0.2):
 ∃ r,xz N inputs key next x23 x62 N 0 M (s0.1.map ae)=some r∧ ∃ M',r=Ex.go (M',(z0r nf x w s0 ni).1.map ae)∧MS kf M' (z0r nf x w s0 ni).2:=by
 have u:=h.inp
 have v:=h.nN;have y:=h.n16
 refine z1o (fun F k s=>xz N inputs key next x23 x62 F (k:Int) s.1 s.2) ni (fun j s=>MS kf s.1 (z0r nf x w s0 j).2∧s.2=(z0r nf x w s0 j).1.map ae) _ (fun F j s l g=> .inr ?_) (fun F s g=>?_) N 0 (M,s0.1.map ae) (Nat.zero_le _) (by omega) ⟨t,rfl⟩
 ·obtain⟨c,d⟩:=s
  obtain⟨a,b⟩:=g
  simp only at a b
  have e:=zcb h.cl o f n j (by omega)
  have m:=h.cl x j f l
  have hlen:(z0r nf x w s0 j).1.length≤B:=Nat.le_trans e.le (h.num _ e.nd e.all)
  have z:=h.bB
  simp only [xz]
  rw [eu (by omega),p,qg (h.next x j f l),qg (h.key _ m)]
  by_cases hm:nf x (j:Int)∈(z0r nf x w s0 j).2
  ·rw [zlj a hm,Bool.not_true,cond_false,z3y,zn (ui (by omega)),bn]
   refine⟨(c,d),⟨?_,?_⟩,rfl⟩
   ·show MS kf c (z3u (z0r nf x w s0 j) _ _).2
    unfold z3u;rw [if_pos hm];exact a
   ·show d=(z3u (z0r nf x w s0 j) _ _).1.map ae
    unfold z3u;rw [if_pos hm];exact b
  ·have i:d.length=(z0r nf x w s0 j).1.length:=by rw [b,List.length_map]
   rw [zec a h.inj e.all m hm,Bool.not_false,cond_true,q,qg zaj,zn ⟨by simp only [List.length_singleton];omega,by simp only [List.length_singleton];omega⟩,zn ⟨by simp only [List.length_singleton];omega,by simp only [List.length_singleton];omega⟩,z3y,zn (ui (by omega)),bn]
   refine⟨(_,_),⟨?_,?_⟩,rfl⟩
   ·show MS kf _ (z3u (z0r nf x w s0 j) _ _).2
    unfold z3u;rw [if_neg hm];exact zhl a _
   ·show _=(z3u (z0r nf x w s0 j) _ _).1.map ae
    unfold z3u;rw [if_neg hm]
    show _=List.map ae ((z0r nf x w s0 j).1++_)
    rw [List.map_append,b];rfl
 ·obtain⟨c,d⟩:=s
  obtain⟨a,b⟩:=g
  simp only at a b
  simp only [xz]
  rw [cu (by omega)]
  exact⟨_,rfl,c,by rw [b],a⟩
theorem zfz(h:SeaOk N ni B inputs key is_ next kf isf nf P){k:Nat}(u:k≤256){L:List ((Int×Int)×List Int)}{S:List (Int×Int)}(o: ∀ p∈L,P p.1∧p.2.length=k)(v:L.length≤B)(y:S.Nodup)(g: ∀ x∈S,P x){M:List (List UInt8×Bool)}(z:MS kf M S):
 ∃ r,xu N inputs key is_ next (L.map ae) N [] 0 M=some r∧((∃ p,L.find? (fun p=>isf p.1)=some p∧r=Ex.rt (Ex.rt (p.2,0)))∨(L.find? (fun p=>isf p.1)=none∧ ∃ M',r=Ex.go ((z6g nf ni ([],S) L).1.map ae,M')∧MS kf M' (z6g nf ni ([],S) L).2)):=by
 have A:=h.bB;have C:=h.BN
 have l:LW P k (([],S):LS (Int×Int)):=⟨y,g,Nat.zero_le _,fun q D=>absurd D List.not_mem_nil⟩
 refine z1o (fun F k s=>xu N inputs key is_ next (L.map ae) F s.1 (k:Int) s.2) L.length (fun j s=>(∀ i,i<j→isf (L.getD i default).1=false)∧MS kf s.2 (z6g nf ni ([],S) (L.take j)).2∧s.1=(z6g nf ni ([],S) (L.take j)).1.map ae) _ (fun F j s d m=>?_) (fun F s m=>?_) N 0 ([],M) (Nat.zero_le _) (by omega) ⟨fun i hi=>absurd hi (Nat.not_lt_zero _),z,rfl⟩
 ·obtain⟨E,t⟩:=s
  obtain⟨c,a,b⟩:=m
  simp only at a b
  obtain⟨f,n⟩:=o _ (z6k d)
  have G:=z8k (k:=k) h.cl l (L:=L.take j) fun p H=>o p (List.mem_of_mem_take H)
  simp only [xu]
  rw [eu (by rw [List.length_map];omega),zn (ib (by rw [List.length_map];exact d)),z8i d,qg (h.is_ _ (show P (ae (L.getD j default)).fC from f))]
  cases hb:isf (L.getD j default).1 with
  |true=>
   rw [show isf (ae (L.getD j default)).fC=true from hb,cond_true,qg zaj,z3y,zdn]
   exact .inl ⟨_,rfl,.inl ⟨_,zdw d c hb,rfl⟩⟩
  |false=>
   rw [show isf (ae (L.getD j default)).fC=false from hb,cond_false]
   obtain⟨r,I,M',rfl,hM'⟩:=zg3 h (x:=(L.getD j default).1) (w:=(L.getD j default).2) f n u G (x23:=L.map ae) (x62:=(j:Int)) (by rw [z8i d];rfl) (by rw [z8i d];rfl) a
   rw [b,qg I,zau,zn (ui (by omega)),bn]
   refine .inr ⟨(_,_),⟨fun i hi=>?_,?_,?_⟩,rfl⟩
   ·by_cases e:i=j
    ·subst e;exact hb
    ·exact c i (by omega)
   ·rw [z5m d,z4n];exact hM'
   ·rw [z5m d,z4n]
 ·obtain⟨E,t⟩:=s
  obtain⟨c,a,b⟩:=m
  simp only at a b
  simp only [xu]
  rw [cu (by rw [List.length_map];omega)]
  rw [List.take_length] at a b
  exact⟨_,rfl,.inr ⟨zdt c,t,by rw [b],a⟩⟩
theorem zax(h:SeaOk N ni B inputs key is_ next kf isf nf P): ∀ (g k F:Nat) (L:List ((Int×Int)×List Int)) (S:List (Int×Int)) (M:List (List UInt8×Bool)),k+g=257→g<F→(∀ p∈L,P p.1∧p.2.length=k)→L.length≤B→S.Nodup→(∀ x∈S,P x)→MS kf M S→
 xn N inputs key is_ next F (L.map ae) (k:Int) M=some (match z4u nf isf ni g L S with|some w=>Ex.rt (w,0)|none=>Ex.go ())
 |0,k,F,L,S,M,j,l,d,c,e,a,i=>by
  obtain⟨F,rfl⟩: ∃ F',F=F'+1:=⟨F-1,by omega⟩
  simp only [xn]
  rw [show decide ((k:Int)≤256)=false from decide_eq_false (by omega),Bool.and_false,cond_false];rfl
 |g+1,k,F,L,S,M,j,l,d,c,e,a,i=>by
  obtain⟨F,rfl⟩: ∃ F',F=F'+1:=⟨F-1,by omega⟩
  simp only [xn]
  unfold z4u
  by_cases hn:L=[]
  ·subst hn
   rw [if_pos rfl];rfl
  ·rw [if_neg hn]
   have hpos:=List.length_pos_iff.2 hn
   rw [show (decide ((0:Int)<((L.map ae).length:Int))&&decide ((k:Int)≤256))=true by rw [List.length_map,decide_eq_true (show (0:Int)<(L.length:Int) by omega),decide_eq_true (show (k:Int)≤256 by omega)];rfl,cond_true]
   obtain⟨r,m,n⟩:=zfz h (k:=k) (by omega) d c e a i
   rw [qg m]
   rcases n with⟨p,f,rfl⟩|⟨f,M',rfl,hM'⟩
   ·rw [f,zdn]
   ·rw [f,zau,zn (ui (by omega)),bn]
    have b:=z8k (k:=k) h.cl (s:=(([],S):LS (Int×Int))) ⟨e,a,Nat.zero_le _,fun q o=>absurd o List.not_mem_nil⟩ d
    exact zax h g (k+1) F _ _ _ (by omega) (by omega) b.wl (Nat.le_trans b.le (h.num _ b.nd b.all)) b.nd b.all hM'
theorem zko(h:SeaOk N ni B inputs key is_ next kf isf nf P){x:(Int×Int)}(a:P x):z03 N inputs x key is_ next=some (match z4u nf isf ni 257 [(x,[])] [x] with|some w=>(w,0)|none=>([],7)):=by
 have c:1≤B:=h.num [x] (List.nodup_cons.2 ⟨List.not_mem_nil,List.nodup_nil⟩) fun y b=>by rw [List.mem_singleton.1 b];exact a
 have d: ∀ p∈[(x,([]:List Int))],P p.1∧p.2.length=0:=fun p e=>by rw [List.mem_singleton.1 e];exact⟨a,rfl⟩
 have f:=zax h 257 0 N [(x,[])] [x] (z2c [] (kf x) true) rfl (by have:=h.N300;omega) d c (List.nodup_cons.2 ⟨List.not_mem_nil,List.nodup_nil⟩) (fun y b=>by rw [List.mem_singleton.1 b];exact a) (zks x)
 unfold z03
 rw [qg (h.key x a)]
 have g:xn N inputs key is_ next N ([(⟨x,[]⟩:Sc)]:List Sc) 0 (z2c ([]:List ((List UInt8)×Bool)) (kf x) true)=_:=f
 rw [qg g]
 cases z4u nf isf ni 257 [(x,[])] [x] with
 |some w=>rw [zdn]
 |none=>rw [zau]
end
end GV
end Go.Proofs.Ytjmlpkkbmnjhcaa
