
import Derived.Test.YtjmlpkkbmnjhcaaHom16g
import Derived.Test.YtjmlpkkbmnjhcaaShPlain
set_option linter.unusedVariables false
set_option linter.unusedSimpArgs false
set_option linter.unusedSectionVars false
namespace Go.Proofs.Ytjmlpkkbmnjhcaa
namespace GV
set_option maxRecDepth 100000
/-! ### a list with one more number-/
structure PI (l:List Int) (n:Int) (i:Nat) (out:List Int) (done:Bool):Prop where
 len:out.length≤i+1
 ord:out.Pairwise (· < ·)
 no:done=false→out=l.take i∧ ∀ z∈out,z<n
 yes:done=true→(∀ z,z∈out↔z=n∨z∈l.take i)∧ ∀ z∈out,∀ j,i≤j→j<l.length→z<l.getD j default
theorem ziv{s:List Int}(h:s.Pairwise (· < ·)){i j:Nat}(a:i<j)(b:j<s.length):s.getD i default<s.getD j default:=by
 have:=List.pairwise_iff_getElem.1 h i j (by omega) b a
 rw [List.getD_eq_getElem?_getD,List.getD_eq_getElem?_getD,List.getElem?_eq_getElem b,List.getElem?_eq_getElem (show i<s.length by omega)]
 exact this
theorem zat{s:List Int}{x:Int}(h:s.Pairwise (· < ·))(c: ∀ z∈s,z<x):(s++[x]).Pairwise (· < ·):=by
 rw [List.pairwise_append]
 exact⟨h,List.pairwise_singleton ..,fun a d b e=>by rw [List.mem_singleton.1 e];exact c a d⟩
theorem put_eq{N:Nat}{l:List Int}{n:Int}(p:l.Pairwise (· < ·))(D:l.length<N)(hlen:l.length≤100000): ∃ r,z1q N l n=some r∧r.Pairwise (· < ·)∧(∀ z,z∈r↔z=n∨z∈l)∧r.length≤l.length+1:=by
 have A: ∃ r,mq N l n N [] false 0=some r∧PI l n l.length r.1 r.2:=by
  refine l7 (fun F i s=>mq N l n F s.1 s.2 (i:Int)) l.length (fun i s=>PI l n i s.1 s.2) _ (fun F i s hi f=> .inr ?_) (fun F s f=>?_) N 0 ([],false) (Nat.zero_le _) (by omega) ⟨Nat.zero_le _,List.Pairwise.nil,fun _=>⟨rfl,fun z a=>absurd a List.not_mem_nil⟩,(fun h=>by cases h)⟩
  ·obtain⟨out,done⟩:=s
   have q:=f.len;have d:=f.ord;have k:=f.no;have m:=f.yes
   simp only at q d k m⊢
   have ok:okI l (i:Int):=wh hi
   have t:=z6z hi
   simp only [mq]
   rw [ny (by omega),zk (fun _=>ok),z0o]
   cases done with
   |false=>
    obtain⟨g,b⟩:=k rfl
    by_cases hc:n≤l.getD i default
    ·rw [decide_eq_true hc,Bool.not_false,Bool.true_and,cond_true,zk ⟨by simp only [List.length_singleton];omega,by simp only [List.length_singleton];omega⟩,z2z]
     simp only
     rw [zk ok]
     by_cases o:l.getD i default≠n
     ·rw [ny o,zk ok,zk ⟨by simp only [List.length_append,List.length_singleton];omega,by simp only [List.length_append,List.length_singleton];omega⟩,z2z,zk (jc (by omega)),yn]
      refine⟨(_,_),⟨?_,?_,(fun h=>by cases h),fun _=>⟨fun z=>?_,fun z a j y c=>?_⟩⟩,rfl⟩
      ·show ((out++[n])++[l.getD i default]).length≤_
       have:out.length=i:=by rw [g,List.length_take];omega
       simp only [List.length_append,List.length_singleton];omega
      ·refine zat (zat d b) fun z a=>?_
       rcases List.mem_append.1 a with a|a
       ·have:=b z a;omega
       ·rw [List.mem_singleton.1 a];omega
      ·show z∈(out++[n])++[l.getD i default]↔_
       rw [t,List.mem_append,List.mem_append,List.mem_append,List.mem_singleton,List.mem_singleton,g]
       constructor
       ·rintro((h|h)|h)
        ·exact .inr (.inl h)
        ·exact .inl h
        ·exact .inr (.inr h)
       ·rintro(h|h|h)
        ·exact .inl (.inr h)
        ·exact .inl (.inl h)
        ·exact .inr h
      ·have hz':z∈(out++[n])++[l.getD i default]:=a
       have:=ziv p (show i<j by omega) c
       rcases List.mem_append.1 hz' with hz'|hz'
       ·rcases List.mem_append.1 hz' with hz'|hz'
        ·have:=b z hz';omega
        ·rw [List.mem_singleton.1 hz'];omega
       ·rw [List.mem_singleton.1 hz'];omega
     ·have o:l.getD i default=n:=by simpa using o
      rw [di (fun B=>B o),z2z,zk (jc (by omega)),yn]
      refine⟨(_,_),⟨?_,?_,(fun h=>by cases h),fun _=>⟨fun z=>?_,fun z a j y c=>?_⟩⟩,rfl⟩
      ·show (out++[n]).length≤_
       simp only [List.length_append,List.length_singleton];omega
      ·exact zat d b
      ·show z∈out++[n]↔_
       rw [t,List.mem_append,List.mem_append,List.mem_singleton,List.mem_singleton,g,o]
       constructor
       ·rintro(h|h)
        ·exact .inr (.inl h)
        ·exact .inl h
       ·rintro(h|h|h)
        ·exact .inr h
        ·exact .inl h
        ·exact .inr h
      ·have hz':z∈out++[n]:=a
       have:=ziv p (show i<j by omega) c
       rcases List.mem_append.1 hz' with hz'|hz'
       ·have:=b z hz';omega
       ·rw [List.mem_singleton.1 hz'];omega
    ·rw [decide_eq_false hc,Bool.and_false,cond_false,z2z]
     simp only
     rw [zk ok,ny (show l.getD i default≠n by omega),zk ok,zk ⟨by simp only [List.length_singleton];omega,by simp only [List.length_singleton];omega⟩,z2z,zk (jc (by omega)),yn]
     have e:out++[l.getD i default]=l.take (i+1):=by rw [t,g]
     refine⟨(_,_),⟨?_,?_,fun _=>⟨e,fun z a=>?_⟩,(fun h=>by cases h)⟩,rfl⟩
     ·show (out++[l.getD i default]).length≤_
      simp only [List.length_append,List.length_singleton];omega
     ·show (out++[l.getD i default]).Pairwise _
      rw [e];exact p.sublist (List.take_sublist ..)
     ·have hz':z∈out++[l.getD i default]:=a
      rcases List.mem_append.1 hz' with hz'|hz'
      ·exact b z hz'
      ·rw [List.mem_singleton.1 hz'];omega
   |true=>
    obtain⟨u,w⟩:=m rfl
    have x:l.getD i default≠n:=by
     have:=w n ((u n).2 (.inl rfl)) i (Nat.le_refl _) hi
     omega
    rw [Bool.not_true,Bool.false_and,cond_false,z2z]
    simp only
    rw [zk ok,ny x,zk ok,zk ⟨by simp only [List.length_singleton];omega,by simp only [List.length_singleton];omega⟩,z2z,zk (jc (by omega)),yn]
    refine⟨(_,_),⟨?_,zat d fun z a=>w z a i (Nat.le_refl _) hi,(fun h=>by cases h),fun _=>⟨fun z=>?_,fun z a j y c=>?_⟩⟩,rfl⟩
    ·show (out++[l.getD i default]).length≤_
     simp only [List.length_append,List.length_singleton];omega
    ·show z∈out++[l.getD i default]↔_
     rw [t,List.mem_append,List.mem_append,List.mem_singleton,u z,or_assoc]
    ·have hz':z∈out++[l.getD i default]:=a
     rcases List.mem_append.1 hz' with hz'|hz'
     ·exact w z hz' j (by omega) c
     ·rw [List.mem_singleton.1 hz'];exact ziv p (by omega) c
  ·simp only [mq]
   rw [di (by omega)]
   exact⟨_,rfl,f⟩
 obtain⟨⟨out,done⟩,C,v⟩:=A
 have q:=v.len;have d:=v.ord;have k:=v.no;have m:=v.yes
 simp only [List.take_length] at q d k m
 unfold z1q
 rw [qh C]
 cases done with
 |false=>
  obtain⟨g,b⟩:=k rfl
  subst g
  simp only [Bool.not_false,cond_true]
  rw [zk ⟨by simp only [List.length_singleton];omega,by simp only [List.length_singleton];omega⟩,z2z]
  exact⟨_,rfl,zat d b,fun z=>by rw [List.mem_append,List.mem_singleton];exact or_comm,by simp⟩
 |true=>
  obtain⟨u,_⟩:=m rfl
  simp only [Bool.not_true,cond_false]
  rw [z2z]
  exact⟨_,rfl,d,u,q⟩
/-! ### sets as lists-/
def bmL(n:Nat)(L:List Int):Int:=bmk (fun s=>decide ((s:Int)∈L)) n
structure LS16 (n:Nat) (L:List Int):Prop where
 ord:L.Pairwise (· < ·)
 rng: ∀ z∈L,0≤z∧z<(n:Int)
theorem LS16.len{n:Nat}{L:List Int}(h:LS16 n L):L.length≤n:=by
 refine zfy (fun z=>z.toNat) (h.ord.imp fun b=>by omega) (fun x a y c e=>?_) fun x a=>?_
 ·have d:=h.rng x a;have f:=h.rng y c
  have e':x.toNat=y.toNat:=e
  omega
 ·have:=h.rng x a
  show x.toNat<n
  omega
theorem zc7{n:Nat}{L:List Int}{s:Nat}:tb (bmL n L) s=true↔s<n∧(s:Int)∈L:=by
 unfold bmL
 rw [z8g,Bool.and_eq_true,decide_eq_true_iff,decide_eq_true_iff]
theorem znj{n:Nat}(f:n≤16){L:List Int}(h:LS16 n L):1<pcB (bmL n L)↔1<L.length:=by
 have j:=ze9 f
 obtain⟨k,m⟩:=z4p (fun s=>decide ((s:Int)∈L)) n
 have e:bmL n L=bmk (fun s=>decide ((s:Int)∈L)) n:=rfl
 rw [zez (by rw [e];omega)]
 constructor
 ·rintro⟨a,b,g,c,d⟩
  obtain⟨_,c⟩:=zc7.1 c
  obtain⟨_,d⟩:=zc7.1 d
  match L,c,d with
  | [x],c,d=>
   rw [List.mem_singleton] at c d
   omega
  |x::y::l,_,_=>simp
 ·intro i
  match L,h,i with
  |x::y::l,h,_=>
   have o:=h.rng x (List.mem_cons_self ..)
   have p:=h.rng y (List.mem_cons_of_mem _ (List.mem_cons_self ..))
   have q:=(List.pairwise_cons.1 h.ord).1 y (List.mem_cons_self ..)
   exact⟨x.toNat,y.toNat,by omega,zc7.2 ⟨by omega,by rw [show ((x.toNat:Nat):Int)=x by omega];exact List.mem_cons_self ..⟩,zc7.2 ⟨by omega,by rw [show ((y.toNat:Nat):Int)=y by omega];exact List.mem_cons_of_mem _ (List.mem_cons_self ..)⟩⟩
/-! ### one more step of a plan-/
theorem zn4{m:Mach}(h:CM m)(b:m.rows.length≤16){x:Int}(n:InB m.rows.length x)(q:1<pcB x)(d:Nat):hd m (d+1) x=true↔ ∃ i,i<nIn m∧ ∀ o,o<16→hd m d (z3g m x i o)=true:=by
 have r: ∀ e,((List.range (nIn m)).any fun i=> !((htx m [x] (i:Int)).any fun p=> !hd m e p))=true↔ ∃ i,i<nIn m∧ ∀ o,o<16→hd m e (z3g m x i o)=true:=fun e=>by
  rw [List.any_eq_true]
  constructor
  ·rintro⟨i,hi,a⟩
   have hi:=List.mem_range.1 hi
   obtain⟨_,j,_⟩:=zcn h hi b (ziq b n q)
   refine⟨i,hi,fun o c=>?_⟩
   by_cases k:1<pcB (z3g m x i o)
   ·have hmem:z3g m x i o∈htx m [x] (i:Int):=(j _).2 (zg9.2 ⟨x,List.mem_singleton.2 rfl,o,c,rfl,k⟩)
    cases hv:hd m e (z3g m x i o) with
    |true=>rfl
    |false=>
     rw [show ((htx m [x] (i:Int)).any fun p=> !hd m e p)=true from List.any_eq_true.2 ⟨_,hmem,by rw [hv];rfl⟩] at a
     cases a
   ·exact z5e (by omega) e
  ·rintro⟨i,hi,a⟩
   obtain⟨_,j,_⟩:=zcn h hi b (ziq b n q)
   refine⟨i,List.mem_range.2 hi,?_⟩
   cases hv:((htx m [x] (i:Int)).any fun p=> !hd m e p) with
   |false=>rfl
   |true=>
    obtain⟨p,k,f⟩:=List.any_eq_true.1 hv
    obtain⟨y,s,o,c,rfl,_⟩:=zg9.1 ((j p).1 k)
    rw [List.mem_singleton.1 s,a o c] at f
    cases f
 have t: ∀ e,hd m e x=true→ ∃ i,i<nIn m∧ ∀ o,o<16→hd m e (z3g m x i o)=true:=by
  intro e
  induction e with
  |zero=>intro l;have:=of_decide_eq_true (show decide (pcB x<2)=true from l);omega
  |succ e ih=>
   intro l
   have g:hd m e x=true∨((List.range (nIn m)).any fun i=> !((htx m [x] (i:Int)).any fun p=> !hd m e p))=true:=Bool.or_eq_true .. ▸l
   rcases g with g|g
   ·obtain⟨i,hi,a⟩:=ih g
    exact⟨i,hi,fun o c=>zf3 (a o c) (Nat.le_succ e)⟩
   ·obtain⟨i,hi,a⟩:=(r e).1 g
    exact⟨i,hi,fun o c=>zf3 (a o c) (Nat.le_succ e)⟩
 have u:hd m (d+1) x=(hd m d x||(List.range (nIn m)).any fun i=> !((htx m [x] (i:Int)).any fun p=> !hd m d p)):=rfl
 rw [u,Bool.or_eq_true,r d]
 exact⟨fun a=>a.elim (t d) id,.inr⟩
theorem zro{m:Mach}(h:CM m){x:Int}{i o:Nat}(hi:i<nIn m)(b:m.outputs≤(o:Int)):z3g m x i o=0:=by
 refine zfk (zi7 m x i _).1 (Int.le_refl _) fun s=>?_
 rw [zbs]
 cases e:tb (z3g m x i o) s with
 |false=>rfl
 |true=>
  obtain⟨u,c,_,a,_⟩:=(z6p h hi).1 e
  have d:=of_decide_eq_true a
  have f:=h.nin
  have g:=(h.edge (s:=(u:Int)) (i:=(i:Int)) ⟨by omega,by omega⟩ (by omega) (by omega)).2.2
  omega
theorem zuq:pcB 0=0:=by decide+kernel
/-! ### the reference's plan-/
theorem ztk{N:Nat}{m:Mach}(h:CM m)(J:5000≤N)(D:m.rows.length≤16){L:List Int}(g:LS16 m.rows.length L){i o:Nat}(hi:i<nIn m): ∃ r,bf N m L (i:Int) (o:Int) N [] 0=some r∧LS16 m.rows.length r∧bmL m.rows.length r=z3g m (bmL m.rows.length L) i o:=by
 have hlen:=g.len
 have K:=h.nin
 have key: ∃ r,bf N m L (i:Int) (o:Int) N [] 0=some r∧(r.Pairwise (· < ·)∧r.length≤L.length∧ ∀ z,z∈r↔ ∃ s∈L.take L.length,(edI m s (i:Int)).out=(o:Int)∧(edI m s (i:Int)).to=z):=by
  refine l7 (fun F k y=>bf N m L (i:Int) (o:Int) F y (k:Int)) L.length (fun k y=>y.Pairwise (· < ·)∧y.length≤k∧ ∀ z,z∈y↔ ∃ s∈L.take k,(edI m s (i:Int)).out=(o:Int)∧(edI m s (i:Int)).to=z) _ (fun F k y j l=> .inr ?_) (fun F y l=>?_) N 0 [] (Nat.zero_le _) (by omega) ⟨List.Pairwise.nil,Nat.zero_le _,fun z=>by simp⟩
  ·obtain⟨v,M,w⟩:=l
   have a:InS m (L.getD k default):=g.rng _ (z9y j)
   have x:okI m.rows (ix L (k:Int)):=a
   have A:okI (ix m.rows (ix L (k:Int))) (i:Int):=h.okr a (by omega) (by omega)
   have ok:okI L (k:Int):=wh j
   have c:=z6z j
   have p:(ix (ix m.rows (ix L (k:Int))) (i:Int))=edI m (L.getD k default) (i:Int):=rfl
   simp only [bf]
   rw [ny (by omega),zk ok,zk x,zk A,p]
   by_cases hc:(edI m (L.getD k default) (i:Int)).out=(o:Int)
   ·obtain⟨r,q,u,B,d⟩:=put_eq (N:=N) (n:=(edI m (L.getD k default) (i:Int)).to) v (by omega) (by omega)
    rw [ny hc,zk ok,zk x,zk A,qh q,z2z,zk (jc (by omega)),yn]
    refine⟨r,⟨u,by omega,fun z=>?_⟩,rfl⟩
    rw [B z,w z,c]
    constructor
    ·rintro(rfl|⟨s,a,e⟩)
     ·exact⟨_,List.mem_append.2 (.inr (List.mem_singleton.2 rfl)),hc,rfl⟩
     ·exact⟨s,List.mem_append.2 (.inl a),e⟩
    ·rintro⟨s,a,b,f⟩
     rcases List.mem_append.1 a with a|a
     ·exact .inr ⟨s,a,b,f⟩
     ·rw [List.mem_singleton.1 a] at f;exact .inl f.symm
   ·rw [di hc,z2z,zk (jc (by omega)),yn]
    refine⟨y,⟨v,by omega,fun z=>?_⟩,rfl⟩
    rw [w z,c]
    constructor
    ·rintro⟨s,a,e⟩;exact⟨s,List.mem_append.2 (.inl a),e⟩
    ·rintro⟨s,a,b,f⟩
     rcases List.mem_append.1 a with a|a
     ·exact⟨s,a,b,f⟩
     ·rw [List.mem_singleton.1 a] at b;exact absurd b hc
  ·simp only [bf]
   rw [di (by omega)]
   exact⟨y,rfl,l⟩
 obtain⟨r,q,u,B,d⟩:=key
 rw [List.take_length] at d
 have E:LS16 m.rows.length r:=⟨u,fun z G=>by
  obtain⟨s,a,_,rfl⟩:=(d z).1 G
  exact(h.edge (s:=s) (i:=(i:Int)) (g.rng s a) (by omega) (by omega)).1⟩
 refine⟨r,q,E,zfk (z4p _ _).1 (zi7 m _ i _).1 fun t=>?_⟩
 have:(tb (bmL m.rows.length r) t=true)↔(tb (z3g m (bmL m.rows.length L) i o) t=true):=by
  rw [zc7,show (tb (z3g m (bmL m.rows.length L) i o) t=true↔_) from z6p h hi]
  constructor
  ·rintro⟨c,H⟩
   obtain⟨s,a,p,b⟩:=(d _).1 H
   obtain⟨s0,O⟩:=g.rng s a
   obtain⟨k,rfl⟩: ∃ k:Nat,s=(k:Int):=⟨s.toNat,by omega⟩
   refine⟨k,by omega,zc7.2 ⟨by omega,a⟩,decide_eq_true p,?_⟩
   have:=(h.tgt (show k<m.rows.length by omega) hi).2
   omega
  ·rintro⟨s,a,C,I,rfl⟩
   obtain⟨c,et⟩:=h.tgt a hi
   exact⟨c,(d _).2 ⟨(s:Int),(zc7.1 C).2,of_decide_eq_true I,et⟩⟩
 cases ha:tb (bmL m.rows.length r) t<;>cases C:tb (z3g m (bmL m.rows.length L) i o) t<;>simp_all
theorem ztp{N:Nat}{m:Mach}(h:CM m)(A:5000≤N)(a:m.rows.length≤16): ∀ (d F:Nat) (L:List Int),LS16 m.rows.length L→L≠[]→d<F→d≤1000→uj N F m L (d:Int)=some (hd m d (bmL m.rows.length L)):=by
 have B:=h.ok.o1;have C:=h.ok.o2;have Q:=h.nin;have l:=h.ok.i2
 intro d
 induction d with
 |zero=>
  intro F L n f D _
  obtain⟨F,rfl⟩: ∃ F',F=F'+1:=⟨F-1,by omega⟩
  have hpos:=List.length_pos_iff.2 f
  have t:=znj a n
  simp only [uj]
  by_cases h1:L.length=1
  ·rw [ny (by omega),z5e (by omega) 0]
  ·have: ¬pcB (bmL m.rows.length L)<2:=by have:=t.2 (by omega);omega
   rw [di (by omega),ny (by rfl)]
   show _=some (decide _)
   rw [decide_eq_false this]
 |succ d ih=>
  intro F L n f D E
  obtain⟨F,rfl⟩: ∃ F',F=F'+1:=⟨F-1,by omega⟩
  have hpos:=List.length_pos_iff.2 f
  have t:=znj a n
  have G:InB m.rows.length (bmL m.rows.length L):=z4p _ _
  have hlen:=n.len
  simp only [uj]
  by_cases h1:L.length=1
  ·rw [ny (by omega),z5e (by omega) (d+1)]
  ·have u:1<pcB (bmL m.rows.length L):=t.2 (by omega)
   have v: ∀ i,i<nIn m→nz N (uj N F) m L ((d+1:Nat):Int) (i:Int) N true 0=some ((List.range m.outputs.toNat).all fun o=>hd m d (z3g m (bmL m.rows.length L) i o)):=fun i hi=>by
    refine z5z (fun F' o ok=>nz N (uj N F) m L ((d+1:Nat):Int) (i:Int) F' ok (o:Int)) m.outputs.toNat (fun o ok=>ok=(List.range o).all fun o=>hd m d (z3g m (bmL m.rows.length L) i o)) _ (fun F' o ok w c=>?_) (fun F' ok c=>?_) N 0 true (Nat.zero_le _) (by omega) rfl
    ·simp only [nz]
     rw [decide_eq_true (show (o:Int)<m.outputs by omega),Bool.true_and]
     cases ok with
     |false=>
      left
      rw [cond_false]
      congr 1
      refine(List.all_eq_false.2 ?_).symm
      obtain⟨q,H,y⟩:=List.all_eq_false.1 c.symm
      exact⟨q,List.mem_range.2 (by have:=List.mem_range.1 H;omega),y⟩
     |true=>
      right
      obtain⟨r,I,z,J⟩:=ztk h A a n (i:=i) (o:=o) hi
      have K:=z.len
      rw [cond_true,qh I,zk (fun _=>jc (by omega))]
      refine⟨(List.range (o+1)).all fun o=>hd m d (z3g m (bmL m.rows.length L) i o),rfl,?_⟩
      have e:((List.range (o+1)).all fun o=>hd m d (z3g m (bmL m.rows.length L) i o))=hd m d (z3g m (bmL m.rows.length L) i o):=by
       rw [List.range_succ,List.all_append,←c];simp
      rw [e,←J]
      by_cases h0:r=[]
      ·subst h0
       have M:bmL m.rows.length []=0:=zfk (z4p _ _).1 (Int.le_refl _) fun s=>by rw [zbs];unfold bmL;rw [z8g];simp
       rw [qh (zna (by rfl)),zk (jc (by omega)),yn,M,z5e (by rw [zuq];omega) d];rfl
      ·have O:0<r.length:=List.length_pos_iff.2 h0
       have hself:uj N F m r (((d+1:Nat):Int)-1)=some (hd m d (bmL m.rows.length r)):=by
        rw [show (((d+1:Nat):Int)-1)=(d:Int) by omega]
        exact ih F r z h0 (by omega) (by omega)
       rw [decide_eq_false (show¬((r.length:Int)=0) by omega),qh (zcu (b:=(true&&(false==false))) rfl hself),zk (jc (by omega)),yn,Bool.false_or,Option.getD_some]
    ·simp only [nz]
     rw [decide_eq_false (show¬(((m.outputs.toNat:Nat):Int)<m.outputs) by omega),Bool.false_and,cond_false,c]
   have hall: ∀ i,i<nIn m→(((List.range m.outputs.toNat).all fun o=>hd m d (z3g m (bmL m.rows.length L) i o))=true↔ ∀ o,o<16→hd m d (z3g m (bmL m.rows.length L) i o)=true):=fun i hi=>by
    rw [List.all_eq_true]
    constructor
    ·intro g o w
     by_cases hoo:(o:Int)<m.outputs
     ·exact g o (List.mem_range.2 (by omega))
     ·rw [zro h hi (by omega)];exact z5e (by rw [zuq];omega) d
    ·intro g o w
     exact g o (by have:=List.mem_range.1 w;omega)
   have p:=zn4 h a G u d
   have x:ma N (uj N F) m L ((d+1:Nat):Int) N 0=some (if hd m (d+1) (bmL m.rows.length L)=true then Ex.rt true else Ex.go ()):=by
    refine z5z (σ:=Unit) (fun F' i _=>ma N (uj N F) m L ((d+1:Nat):Int) F' (i:Int)) (nIn m) (fun i _=> ∀ j,j<i→ ¬ ∀ o,o<16→hd m d (z3g m (bmL m.rows.length L) j o)=true) _ (fun F' i _ hi k=>?_) (fun F' _ k=>?_) N 0 () (Nat.zero_le _) (by show m.inputs.toNat-0<N;omega) fun j P=>by omega
    ·simp only [ma]
     rw [ny (by omega),qh (v i hi)]
     cases hc:((List.range m.outputs.toNat).all fun o=>hd m d (z3g m (bmL m.rows.length L) i o)) with
     |true=>
      left
      rw [cond_true,if_pos (p.2 ⟨i,hi,(hall i hi).1 hc⟩)]
     |false=>
      right
      rw [cond_false,zk (jc (by omega)),yn]
      refine⟨(),fun j P=>?_,rfl⟩
      by_cases e:j=i
      ·subst e
       intro g
       rw [(hall j hi).2 g] at hc;cases hc
      ·exact k j (by omega)
    ·simp only [ma]
     rw [di (by omega),if_neg]
     intro g
     obtain⟨i,hi,l⟩:=p.1 g
     exact k i hi l
   rw [di (by omega),di (by omega),qh x]
   cases y:hd m (d+1) (bmL m.rows.length L) with
   |true=>rw [if_pos rfl,zfp]
   |false=>rw [if_neg (by simp),ze3]
def zdr(n:Nat):List Int:=(List.range n).map fun(k:Nat)=>(k:Int)
theorem zu1(n:Nat):LS16 n (zdr n):=⟨by
 unfold zdr
 rw [List.pairwise_map]
 exact List.pairwise_lt_range.imp fun h=>by omega,fun z a=>by
 obtain⟨k,b,rfl⟩:=List.mem_map.1 a
 have:=List.mem_range.1 b
 omega⟩
theorem zu6(n:Nat):bmL n (zdr n)=z3o n:=z7g fun s a=>decide_eq_true (List.mem_map.2 ⟨s,List.mem_range.2 a,rfl⟩)
theorem zit{N:Nat}{m:Mach}(h:CM m)(j:5000≤N)(b:m.rows.length≤16): ∃ r,l5 N m 4=some r∧((∃ e:Nat,e≤4∧r=(e:Int)∧hd m e (z3o m.rows.length)=true∧ ∀ e',e'<e→hd m e' (z3o m.rows.length)=false)∨(r= -1∧ ∀ e,e≤4→hd m e (z3o m.rows.length)=false)):=by
 have l:=h.ok.r1
 have c:zdr m.rows.length≠[]:=fun e=>by
  have n:(zdr m.rows.length).length=m.rows.length:=by simp [zdr]
  rw [e,List.length_nil] at n
  omega
 have d:yx N m N [] 0=some (zdr m.rows.length):=by
  refine zev (fun F k y=>yx N m F y (k:Int)) m.rows.length (fun k=>zdr k) _ (fun F k s=>?_) (fun F=>?_) (by omega)
  ·have:(zdr k).length=k:=by simp [zdr]
   simp only [yx]
   rw [ny (by omega),zk ⟨by simp only [List.length_singleton];omega,by simp only [List.length_singleton];omega⟩,zk (jc (by omega)),yn]
   congr 1
   unfold zdr
   rw [List.range_succ,List.map_append];rfl
  ·simp only [yx]
   rw [di (by omega)]
 have f: ∃ r,yw N m 4 (zdr m.rows.length) N 0=some r∧((∃ e:Nat,e≤4∧r=Ex.rt (e:Int)∧hd m e (z3o m.rows.length)=true∧ ∀ e',e'<e→hd m e' (z3o m.rows.length)=false)∨(r=Ex.go ()∧ ∀ e,e≤4→hd m e (z3o m.rows.length)=false)):=by
  refine l7 (σ:=Unit) (fun F e _=>yw N m 4 (zdr m.rows.length) F (e:Int)) 5 (fun e _=> ∀ e',e'<e→hd m e' (z3o m.rows.length)=false) _ (fun F e _ g a=>?_) (fun F _ a=>?_) N 0 () (Nat.zero_le _) (by omega) fun e' he'=>by omega
  ·simp only [yw]
   rw [ny (by omega),qh (ztp h j b e N _ (zu1 _) c (by omega) (by omega)),zu6]
   cases hv:hd m e (z3o m.rows.length) with
   |true=>
    left
    rw [cond_true]
    exact⟨_,rfl,.inl ⟨e,by omega,rfl,hv,a⟩⟩
   |false=>
    right
    rw [cond_false,zk (jc (by omega)),yn]
    refine⟨(),fun e' he'=>?_,rfl⟩
    by_cases e1:e'=e
    ·subst e1;exact hv
    ·exact a e' (by omega)
  ·simp only [yw]
   rw [di (by omega)]
   exact⟨_,rfl,.inr ⟨rfl,fun e g=>a e (by omega)⟩⟩
 obtain⟨r,o,p⟩:=f
 unfold l5
 rw [qh d,qh o]
 rcases p with⟨e,g,rfl,i,q⟩|⟨rfl,i⟩
 ·rw [zfp];exact⟨_,rfl,.inl ⟨e,g,rfl,i,q⟩⟩
 ·rw [ze3];exact⟨_,rfl,.inr ⟨rfl,i⟩⟩
theorem zrj{m:Mach}(h:CM m)(c:m.rows.length≤16): ∀ {w:List Int} {x:Int},InB m.rows.length x→WIn (nIn m) w→zu8 m [x] w→hd m w.length x=true
 | [],x,e,_,f=>by
  have B:=ze9 c
  obtain⟨C,D⟩:=e
  refine decide_eq_true ?_
  refine Nat.lt_of_not_le fun g=>?_
  obtain⟨a,b,p,q,r⟩:=(zez (by omega)).1 (show 1<pcB x by omega)
  have E:(a:Int)=(b:Int):=f x (List.mem_singleton.2 rfl) a b q r rfl
  omega
 |i::w,x,e,k,f=>by
  obtain⟨F,G⟩:=k.head
  obtain⟨j,rfl⟩: ∃ j:Nat,i=(j:Int):=⟨i.toNat,by omega⟩
  have d:j<nIn m:=by omega
  by_cases g:1<pcB x
  ·refine(zn4 h c e g w.length).2 ⟨j,d,fun o H=>zrj h c (zet m x j o) k.tail fun y u s' t' hs' ht' v=>?_⟩
   rw [List.mem_singleton.1 u] at hs' ht'
   obtain⟨s,l,z,qs,rfl⟩:=(z6p h d).1 hs'
   obtain⟨t,n,A,qt,rfl⟩:=(z6p h d).1 ht'
   have:=f x (List.mem_singleton.2 rfl) s t z A (by rw [z9b h l d,z9b h n d,of_decide_eq_true qs,of_decide_eq_true qt,v])
   rw [z03 h l d,z03 h n d] at this
   exact this
  ·exact z5e (by omega) _
theorem zty{m:Mach}(h:CM m){w:List Int}(c:Hom m w):zu8 m [z3o m.rows.length] w:=fun x d s t a b e=>by
 rw [List.mem_singleton.1 d,zii] at a b
 exact c s t (of_decide_eq_true a) (of_decide_eq_true b) e
end GV
end Go.Proofs.Ytjmlpkkbmnjhcaa

namespace Go.Proofs.Ytjmlpkkbmnjhcaa
namespace GV
set_option maxRecDepth 1000000
theorem ze7:iq 1000000=some true:=by decide+kernel
end GV
end Go.Proofs.Ytjmlpkkbmnjhcaa

namespace Go.Proofs.Ytjmlpkkbmnjhcaa
namespace GV
set_option maxRecDepth 100000
theorem zih{x:Sd}(l:CDOk x):sw 1000000 x=some true:=by
 obtain⟨m,n,k⟩:=zqa (N:=1000000) l (by omega)
 have h:=k.cm
 have o:=k.rows
 obtain⟨r,p,hcase⟩:=zko h (by omega)
 obtain⟨q,s,d⟩:=zit (N:=1000000) h (by omega) (by omega)
 have hr':z0n 1000000 (⟨m.inputs,m.outputs,m.rows⟩:Mach)=some r:=p
 have hq':l5 1000000 (⟨m.inputs,m.outputs,m.rows⟩:Mach) 4=some q:=s
 obtain⟨z,t,f⟩: ∃ z:List Int×Int,z1o 1000000 m=some z∧((z.2=0∧hd m z.1.length (z3o m.rows.length)=true)∨z=([],7)):=by
  refine⟨_,zp2 h o,?_⟩
  cases hs:z6q (htx m) zsc (nIn m) 257 [(l0 m.rows.length,[])] [l0 m.rows.length] with
  |none=>exact .inr rfl
  |some w=>
   have i:=z9e z7h hs
   exact .inl ⟨rfl,zrj h (by omega) (ziy _) i.1 (zty h ((zu4 h (by omega) i.1).1 i.2.1))⟩
 have hz':z1o 1000000 (⟨m.inputs,m.outputs,m.rows⟩:Mach)=some z:=t
 unfold sw
 rw [qh n,qh hr',qh hq',qh hz']
 rcases hcase with⟨e,g,b,rfl⟩|⟨b,rfl⟩
 ·have u:((decide (z.2=0))&&((decide ((0:Int)≠0))||(decide ((z.1.length:Int)<(e:Int)))))=false:=by
   rcases f with⟨v,a⟩|rfl
   ·have j: ¬z.1.length<e:=fun c=>by rw [b _ c] at a;cases a
    rw [decide_eq_false (show¬((z.1.length:Int)<(e:Int)) by omega),Bool.or_false,show decide ((0:Int)≠0)=false from rfl,Bool.and_false]
   ·rfl
  show (bif ((decide (z.2=0))&&((decide ((0:Int)≠0))||(decide ((z.1.length:Int)<(e:Int)))))||((decide ((0:Int)≠0))&&((decide ((0:Int)≠7))||(decide ((e:Int)≠0)))) then some false else _)=some true
  rw [u,show (false||((decide ((0:Int)≠0))&&((decide ((0:Int)≠7))||(decide ((e:Int)≠0)))))=false from rfl,cond_false]
  rcases d with⟨e',he',rfl,a,j⟩|⟨rfl,a⟩
  ·have:e'=e:=by
    rcases Nat.lt_trichotomy e' e with c|c|c
    ·rw [b _ c] at a;cases a
    ·exact c
    ·rw [j _ c] at g;cases g
   subst this
   rw [ny (by omega),qh (zcu (by simp) ze7)]
   simp
  ·have:4<e:=Nat.lt_of_not_le fun c=>by rw [a e c] at g;cases g
   rw [di (by omega)]
   simp only
   rw [decide_eq_true (show (4:Int)<(e:Int) by omega),qh (zcu (by simp) ze7)]
   simp
 ·rcases f with⟨v,a⟩|rfl
  ·rw [b] at a;cases a
  ·rcases d with⟨e',he',rfl,a,j⟩|⟨rfl,a⟩
   ·rw [b] at a;cases a
   ·show (bif _ then some false else _)=some true
    rw [show (((decide ((7:Int)=0))&&((decide ((7:Int)≠0))||(decide ((([]:List Int).length:Int)<0))))||((decide ((7:Int)≠0))&&((decide ((7:Int)≠7))||(decide ((0:Int)≠0)))))=false from by decide,cond_false,di (by omega)]
    rw [qh (zcu (by decide) ze7)]
    rfl
end GV
end Go.Proofs.Ytjmlpkkbmnjhcaa
