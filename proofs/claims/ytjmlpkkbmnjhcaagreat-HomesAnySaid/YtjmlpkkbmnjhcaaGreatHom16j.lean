
import Derived.Test.YtjmlpkkbmnjhcaaGreatHom16g
import Derived.Test.YtjmlpkkbmnjhcaaGreatShPlain
import Derived.Test.YtjmlpkkbmnjhcaaGreatHom16d
import Derived.Test.YtjmlpkkbmnjhcaaGreatEqv09
set_option linter.unusedVariables false
set_option linter.unusedSimpArgs false
set_option linter.unusedSectionVars false
namespace Go.Proofs.YtjmlpkkbmnjhcaaGreat
namespace GV
set_option maxRecDepth 100000
/-! ### a list with one more number-/
structure PI (l:List Int) (n:Int) (i:Nat) (out:List Int) (done:Bool):Prop where
 len:out.length≤i+1
 ord:out.Pairwise (· < ·)
 no:done=false→out=l.take i∧ ∀ z∈out,z<n
 yes:done=true→(∀ z,z∈out↔z=n∨z∈l.take i)∧ ∀ z∈out,∀ j,i≤j→j<l.length→z<l.getD j default
theorem zkf{s:List Int}(h:s.Pairwise (· < ·)){i j:Nat}(a:i<j)(b:j<s.length):s.getD i default<s.getD j default:=by
 have:=List.pairwise_iff_getElem.1 h i j (by omega) b a
 rw [List.getD_eq_getElem?_getD,List.getD_eq_getElem?_getD,List.getElem?_eq_getElem b,List.getElem?_eq_getElem (show i<s.length by omega)]
 exact this
theorem zde{s:List Int}{x:Int}(h:s.Pairwise (· < ·))(c: ∀ z∈s,z<x):(s++[x]).Pairwise (· < ·):=by
 rw [List.pairwise_append]
 exact⟨h,List.pairwise_singleton ..,fun a d b e=>by rw [List.mem_singleton.1 e];exact c a d⟩
theorem put_eq{N:Nat}{l:List Int}{n:Int}(p:l.Pairwise (· < ·))(D:l.length<N)(hlen:l.length≤100000): ∃ r,z5t N l n=some r∧r.Pairwise (· < ·)∧(∀ z,z∈r↔z=n∨z∈l)∧r.length≤l.length+1:=by
 have A: ∃ r,lm N l n N [] false 0=some r∧PI l n l.length r.1 r.2:=by
  refine rq (fun F i s=>lm N l n F s.1 s.2 (i:Int)) l.length (fun i s=>PI l n i s.1 s.2) _ (fun F i s hi f=> .inr ?_) (fun F s f=>?_) N 0 ([],false) (Nat.zero_le _) (by omega) ⟨Nat.zero_le _,List.Pairwise.nil,fun _=>⟨rfl,fun z a=>absurd a List.not_mem_nil⟩,(fun h=>by cases h)⟩
  ·obtain⟨out,done⟩:=s
   have q:=f.len;have d:=f.ord;have k:=f.no;have m:=f.yes
   simp only at q d k m⊢
   have ok:okI l (i:Int):=ky hi
   have t:=z7d hi
   simp only [lm]
   rw [ut (by omega),zm (fun _=>ok),lg]
   cases done with
   |false=>
    obtain⟨g,b⟩:=k rfl
    by_cases hc:n≤l.getD i default
    ·rw [decide_eq_true hc,Bool.not_false,Bool.true_and,cond_true,zm ⟨by simp only [List.length_singleton];omega,by simp only [List.length_singleton];omega⟩,z2r]
     simp only
     rw [zm ok]
     by_cases o:l.getD i default≠n
     ·rw [ut o,zm ok,zm ⟨by simp only [List.length_append,List.length_singleton];omega,by simp only [List.length_append,List.length_singleton];omega⟩,z2r,zm (j3 (by omega)),uf]
      refine⟨(_,_),⟨?_,?_,(fun h=>by cases h),fun _=>⟨fun z=>?_,fun z a j y c=>?_⟩⟩,rfl⟩
      ·show ((out++[n])++[l.getD i default]).length≤_
       have:out.length=i:=by rw [g,List.length_take];omega
       simp only [List.length_append,List.length_singleton];omega
      ·refine zde (zde d b) fun z a=>?_
       rcases List.mem_append.1 a with a|a
       ·have:=b z a;omega
       ·rw [List.mem_singleton.1 a];omega
      ·show z∈(out++[n])++[l.getD i default]↔_
       rw [t,List.mem_append,List.mem_append,List.mem_append,List.mem_singleton,List.mem_singleton,g]
       constructor
       ·rintro((h|h)|h)
        ·exact .inr (.inl h)
        ·exact .inl h
        ·exact .inr (.inr h)
       ·rintro(h|h|h)
        ·exact .inl (.inr h)
        ·exact .inl (.inl h)
        ·exact .inr h
      ·have hz':z∈(out++[n])++[l.getD i default]:=a
       have:=zkf p (show i<j by omega) c
       rcases List.mem_append.1 hz' with hz'|hz'
       ·rcases List.mem_append.1 hz' with hz'|hz'
        ·have:=b z hz';omega
        ·rw [List.mem_singleton.1 hz'];omega
       ·rw [List.mem_singleton.1 hz'];omega
     ·have o:l.getD i default=n:=by simpa using o
      rw [ul (fun B=>B o),z2r,zm (j3 (by omega)),uf]
      refine⟨(_,_),⟨?_,?_,(fun h=>by cases h),fun _=>⟨fun z=>?_,fun z a j y c=>?_⟩⟩,rfl⟩
      ·show (out++[n]).length≤_
       simp only [List.length_append,List.length_singleton];omega
      ·exact zde d b
      ·show z∈out++[n]↔_
       rw [t,List.mem_append,List.mem_append,List.mem_singleton,List.mem_singleton,g,o]
       constructor
       ·rintro(h|h)
        ·exact .inr (.inl h)
        ·exact .inl h
       ·rintro(h|h|h)
        ·exact .inr h
        ·exact .inl h
        ·exact .inr h
      ·have hz':z∈out++[n]:=a
       have:=zkf p (show i<j by omega) c
       rcases List.mem_append.1 hz' with hz'|hz'
       ·have:=b z hz';omega
       ·rw [List.mem_singleton.1 hz'];omega
    ·rw [decide_eq_false hc,Bool.and_false,cond_false,z2r]
     simp only
     rw [zm ok,ut (show l.getD i default≠n by omega),zm ok,zm ⟨by simp only [List.length_singleton];omega,by simp only [List.length_singleton];omega⟩,z2r,zm (j3 (by omega)),uf]
     have e:out++[l.getD i default]=l.take (i+1):=by rw [t,g]
     refine⟨(_,_),⟨?_,?_,fun _=>⟨e,fun z a=>?_⟩,(fun h=>by cases h)⟩,rfl⟩
     ·show (out++[l.getD i default]).length≤_
      simp only [List.length_append,List.length_singleton];omega
     ·show (out++[l.getD i default]).Pairwise _
      rw [e];exact p.sublist (List.take_sublist ..)
     ·have hz':z∈out++[l.getD i default]:=a
      rcases List.mem_append.1 hz' with hz'|hz'
      ·exact b z hz'
      ·rw [List.mem_singleton.1 hz'];omega
   |true=>
    obtain⟨u,w⟩:=m rfl
    have x:l.getD i default≠n:=by
     have:=w n ((u n).2 (.inl rfl)) i (Nat.le_refl _) hi
     omega
    rw [Bool.not_true,Bool.false_and,cond_false,z2r]
    simp only
    rw [zm ok,ut x,zm ok,zm ⟨by simp only [List.length_singleton];omega,by simp only [List.length_singleton];omega⟩,z2r,zm (j3 (by omega)),uf]
    refine⟨(_,_),⟨?_,zde d fun z a=>w z a i (Nat.le_refl _) hi,(fun h=>by cases h),fun _=>⟨fun z=>?_,fun z a j y c=>?_⟩⟩,rfl⟩
    ·show (out++[l.getD i default]).length≤_
     simp only [List.length_append,List.length_singleton];omega
    ·show z∈out++[l.getD i default]↔_
     rw [t,List.mem_append,List.mem_append,List.mem_singleton,u z,or_assoc]
    ·have hz':z∈out++[l.getD i default]:=a
     rcases List.mem_append.1 hz' with hz'|hz'
     ·exact w z hz' j (by omega) c
     ·rw [List.mem_singleton.1 hz'];exact zkf p (by omega) c
  ·simp only [lm]
   rw [ul (by omega)]
   exact⟨_,rfl,f⟩
 obtain⟨⟨out,done⟩,C,v⟩:=A
 have q:=v.len;have d:=v.ord;have k:=v.no;have m:=v.yes
 simp only [List.take_length] at q d k m
 unfold z5t
 rw [qh C]
 cases done with
 |false=>
  obtain⟨g,b⟩:=k rfl
  subst g
  simp only [Bool.not_false,cond_true]
  rw [zm ⟨by simp only [List.length_singleton];omega,by simp only [List.length_singleton];omega⟩,z2r]
  exact⟨_,rfl,zde d b,fun z=>by rw [List.mem_append,List.mem_singleton];exact or_comm,by simp⟩
 |true=>
  obtain⟨u,_⟩:=m rfl
  simp only [Bool.not_true,cond_false]
  rw [z2r]
  exact⟨_,rfl,d,u,q⟩
/-! ### sets as lists-/
structure LS16 (n:Nat) (L:List Int):Prop where
 ord:L.Pairwise (· < ·)
 rng: ∀ z∈L,0≤z∧z<(n:Int)
theorem LS16.len{n:Nat}{L:List Int}(h:LS16 n L):L.length≤n:=by
 refine zi4 (fun z=>z.toNat) (h.ord.imp fun b=>by omega) (fun x a y c e=>?_) fun x a=>?_
 ·have d:=h.rng x a;have f:=h.rng y c
  have e':x.toNat=y.toNat:=e
  omega
 ·have:=h.rng x a
  show x.toNat<n
  omega
/-! ### one more step of a plan-/
/-! ### the reference's plan-/
end GV
end Go.Proofs.YtjmlpkkbmnjhcaaGreat

namespace Go.Proofs.YtjmlpkkbmnjhcaaGreat
namespace GV
set_option maxRecDepth 1000000
theorem zaa:lh 1000000=some true:=by decide+kernel
end GV
end Go.Proofs.YtjmlpkkbmnjhcaaGreat

namespace Go.Proofs.YtjmlpkkbmnjhcaaGreat
namespace GV
set_option maxRecDepth 100000
/-! ### all words up to a length-/
def z4h(ni:Nat):Nat→List (List Int)
 |0=>[[]]
 |k+1=>(z4h ni k).flatMap fun w=>(List.range ni).map fun(i:Nat)=>w++[(i:Int)]
def z6g(ni k:Nat):List (List Int):=(List.range k).flatMap (z4h ni)
theorem z8t{ni:Nat}: ∀ {k:Nat} {w:List Int},w∈z4h ni k↔w.length=k∧WIn ni w
 |0,w=>by
  unfold z4h
  rw [List.mem_singleton]
  constructor
  ·rintro rfl;exact⟨rfl,WIn.nil⟩
  ·rintro⟨h,_⟩;exact List.length_eq_zero_iff.1 h
 |k+1,w=>by
  unfold z4h
  rw [List.mem_flatMap]
  constructor
  ·rintro⟨v,a,e⟩
   obtain⟨i,hi,rfl⟩:=List.mem_map.1 e
   obtain⟨b,c⟩:=z8t.1 a
   have:=List.mem_range.1 hi
   exact⟨by simp [b],c.snoc (by omega) (by omega)⟩
  ·rintro⟨b,c⟩
   obtain⟨v,i,rfl,a⟩:=zow b
   obtain⟨d,f,g⟩:=c.init
   refine⟨v,z8t.2 ⟨a,d⟩,List.mem_map.2 ⟨i.toNat,List.mem_range.2 (by omega),?_⟩⟩
   show v++[((i.toNat:Nat):Int)]=v++[i]
   rw [show ((i.toNat:Nat):Int)=i by omega]
theorem zlv{ni:Nat}: ∀ k,(z4h ni k).Pairwise llt
 |0=>List.pairwise_singleton ..
 |k+1=>by
  unfold z4h
  rw [List.pairwise_flatMap]
  refine⟨fun w f=>?_,(zlv k).imp_of_mem fun {a b} g l c x d y e=>?_⟩
  ·rw [List.pairwise_map]
   exact List.pairwise_lt_range.imp fun h=>zkk w (by omega)
  ·obtain⟨i,_,rfl⟩:=List.mem_map.1 d
   obtain⟨j,_,rfl⟩:=List.mem_map.1 e
   exact zhx _ _ c
theorem zgw{ni:Nat}: ∀ k,(z4h ni k).length=ni^k
 |0=>rfl
 |k+1=>by
  unfold z4h
  have: ∀ l:List (List Int),(l.flatMap fun w=>(List.range ni).map fun(i:Nat)=>w++[(i:Int)]).length=l.length*ni:=by
   intro l
   induction l with
   |nil=>simp
   |cons a l ih=>rw [List.flatMap_cons,List.length_append,ih,List.length_map,List.length_range,List.length_cons,Nat.add_mul];omega
  rw [this,zgw k,Nat.pow_succ]
theorem zbd{ni k:Nat}{w:List Int}:w∈z6g ni k↔w.length<k∧WIn ni w:=by
 unfold z6g
 rw [List.mem_flatMap]
 constructor
 ·rintro⟨j,c,d⟩
  obtain⟨b,a⟩:=z8t.1 d
  have:=List.mem_range.1 c
  exact⟨by omega,a⟩
 ·rintro⟨b,a⟩
  exact⟨w.length,List.mem_range.2 b,z8t.2 ⟨rfl,a⟩⟩
theorem znx{ni k:Nat}:(z6g ni k).Pairwise llt:=by
 unfold z6g
 rw [List.pairwise_flatMap]
 refine⟨fun j _=>zlv j,List.pairwise_lt_range.imp fun {a b} c x d y e=>?_⟩
 exact .inl (by rw [(z8t.1 d).1,(z8t.1 e).1];exact c)
theorem zz9{N ni k:Nat}(n:5000≤N)(d:ni≤3)(o:k≤5):z4o N (ni:Int) (k:Int)=some (z4h ni k):=by
 have hpow: ∀ j,j≤5→(z4h ni j).length≤243:=fun j c=>by
  rw [zgw]
  exact Nat.le_trans (Nat.pow_le_pow_left d j) (Nat.le_trans (Nat.pow_le_pow_right (by decide) c) (by decide))
 have e: ∀ {j p:Nat},p<(z4h ni j).length→((z4h ni j).getD p default).length=j:=fun b=>(z8t.1 (z4m b)).1
 have f: ∀ (j p:Nat) (out:List (List Int)),j≤4→p<(z4h ni j).length→out.length≤1000→ae N (ni:Int) (z4h ni j) (p:Int) N 0 out=some (out++(List.range ni).map fun(i:Nat)=>(z4h ni j).getD p default++[(i:Int)]):=fun j p out c b q=>by
  have r:=e b
  refine z7n (fun F i s=>ae N (ni:Int) (z4h ni j) (p:Int) F (i:Int) s) ni (fun i s=>s=out++(List.range i).map (fun(i:Nat)=>(z4h ni j).getD p default++[(i:Int)])∧s.length=out.length+i) _ (fun F i s hi a=>?_) (fun F s a=>?_) N out (by omega) ⟨by simp,by simp⟩
  ·obtain⟨a,m⟩:=a
   simp only [ae]
   rw [ut (by omega),zm (ky b),lg,zm ⟨by simp only [List.length_nil];omega,by simp only [List.length_nil];omega⟩,List.nil_append,zm ⟨by simp only [List.length_singleton];omega,by simp only [List.length_singleton];omega⟩,zm ⟨by simp only [List.length_singleton];omega,by simp only [List.length_singleton];omega⟩,zm (j3 (by omega)),uf]
   refine⟨_,⟨?_,by simp only [List.length_append,List.length_singleton];omega⟩,rfl⟩
   rw [a,List.range_succ,List.map_append,List.append_assoc];rfl
  ·simp only [ae]
   rw [ul (by omega),a.1]
 have g: ∀ j,j≤4→ow N (ni:Int) (z4h ni j) N [] 0=some (z4h ni (j+1)):=fun j c=>by
  have l:=hpow j (by omega)
  refine z7n (fun F p s=>ow N (ni:Int) (z4h ni j) F s (p:Int)) (z4h ni j).length (fun p s=>s=((z4h ni j).take p).flatMap (fun w=>(List.range ni).map fun(i:Nat)=>w++[(i:Int)])∧s.length≤3*p) _ (fun F p s b a=>?_) (fun F s a=>?_) N [] (by omega) ⟨rfl,Nat.zero_le _⟩
  ·obtain⟨a,m⟩:=a
   simp only [ow]
   rw [ut (by omega),qh (f j p s c b (by omega)),zm (j3 (by omega)),uf]
   refine⟨_,⟨?_,?_⟩,rfl⟩
   ·rw [z7d b,List.flatMap_append,a];simp
   ·rw [List.length_append,List.length_map,List.length_range];omega
  ·simp only [ow]
   rw [ul (by omega),a.1,List.take_length];rfl
 have h:ig N (ni:Int) (k:Int) N [[]] 0=some (z4h ni k):=by
  refine z7n (fun F j s=>ig N (ni:Int) (k:Int) F s (j:Int)) k (fun j s=>s=z4h ni j) _ (fun F j s c a=>?_) (fun F s a=>?_) N [[]] (by omega) rfl
  ·subst a
   simp only [ig]
   rw [ut (by omega),qh (g j (by omega)),zm (j3 (by omega)),uf]
   exact⟨_,rfl,rfl⟩
  ·simp only [ig]
   rw [ul (by omega),a]
 unfold z4o
 rw [qh h]
theorem zuj{N ni k:Nat}(e:5000≤N)(a:ni≤3)(h:k≤4):z1h N (ni:Int) (k:Int)=some (z6g ni (k+1))∧(z6g ni (k+1)).length≤1215:=by
 have hpow: ∀ j,j≤5→(z4h ni j).length≤243:=fun j b=>by
  rw [zgw]
  exact Nat.le_trans (Nat.pow_le_pow_left a j) (Nat.le_trans (Nat.pow_le_pow_right (by decide) b) (by decide))
 have hlen: ∀ j,j≤5→(z6g ni j).length≤243*j:=by
  intro j
  induction j with
  |zero=>intro _;simp [z6g]
  |succ j ih=>
   intro b
   have d:=ih (by omega);have f:=hpow j (by omega)
   unfold z6g at d⊢
   rw [List.range_succ,List.flatMap_append,List.length_append]
   simp only [List.flatMap_cons,List.flatMap_nil,List.append_nil]
   omega
 have g:rz N (ni:Int) (k:Int) N [] 0=some (z6g ni (k+1)):=by
  refine z7n (fun F j s=>rz N (ni:Int) (k:Int) F s (j:Int)) (k+1) (fun j s=>s=z6g ni j) _ (fun F j s b c=>?_) (fun F s c=>?_) N [] (by omega) rfl
  ·subst c
   have d:=hlen j (by omega);have f:=hpow j (by omega)
   simp only [rz]
   rw [ut (by omega),qh (zz9 e a (by omega)),zm ⟨by omega,by omega⟩,zm (j3 (by omega)),uf]
   refine⟨_,?_,rfl⟩
   unfold z6g
   rw [List.range_succ,List.flatMap_append];simp
  ·simp only [rz]
   rw [ul (by omega),c]
 unfold z1h
 rw [qh g]
 exact⟨rfl,by have:=hlen (k+1) (by omega);omega⟩
theorem zmf{L:List (List Int)}{p:List Int→Bool}(c:L.Pairwise llt){j:Nat}(b:j<L.length)(a: ∀ i,i<j→p (L.getD i default)=false): ∀ v∈L,p v=true→lle (L.getD j default) v:=fun v d f=>by
 obtain⟨i,hi,rfl⟩:=List.mem_iff_getElem.1 d
 have e:L.getD i default=L[i]:=by rw [List.getD_eq_getElem?_getD,List.getElem?_eq_getElem hi];rfl
 rcases Nat.lt_trichotomy i j with h|h|h
 ·have:=a i h;rw [e,f] at this;cases this
 ·subst h;rw [e];exact .inl rfl
 ·right
  have:=List.pairwise_iff_getElem.1 c j i b hi h
  rw [List.getD_eq_getElem?_getD,List.getElem?_eq_getElem b];exact this
/-! ### what a word does,by the reference-/
theorem CM.aftN{m:Mach}(h:CM m){s:Nat}(b:s<m.rows.length){w:List Int}(a:WIn (nIn m) w): ∃ t:Nat,t<m.rows.length∧yo m s w=(t:Int):=by
 obtain⟨c,d⟩:=h.aft (s:=(s:Int)) ⟨by omega,by omega⟩ a
 exact⟨(yo m s w).toNat,by omega,by omega⟩
theorem CM.raft{N:Nat}{m:Mach}(h:CM m){s:Nat}(c:s<m.rows.length){w:List Int}(a:WIn (nIn m) w)(b:w.length<N):vo N N m (s:Int) w=some (yo m s w):=zul h.ok N s w (.inr ⟨by omega,by omega⟩) (h.wok.1 a) b
theorem CM.rrun{N:Nat}{m:Mach}(h:CM m){s:Nat}(c:s<m.rows.length){w:List Int}(a:WIn (nIn m) w)(b:w.length<N)(d:w.length≤100000):ma N m (s:Int) w=some (yx m s w):=q2d h.ok (.inr ⟨by omega,by omega⟩) (h.wok.1 a) b (by omega)
def zts(m:Mach)(w:List Int):Bool:=(List.range m.rows.length).all fun(s:Nat)=>decide (yo m s w=yo m 0 w)
theorem zbk{m:Mach}{w:List Int}:zts m w=true↔Syn m w:=by
 unfold zts
 rw [List.all_eq_true]
 constructor
 ·intro h s a;exact of_decide_eq_true (h s (List.mem_range.2 a))
 ·intro h s a;exact decide_eq_true (h s (List.mem_range.1 a))
theorem zmi{N:Nat}{m:Mach}(h:CM m){w:List Int}(b:WIn (nIn m) w)(c:w.length<N)(f:5000≤N):o8 N m w=some (zts m w):=by
 have g:=h.ok.r1;have i:=h.ok.r2
 have j:ol N m w N 0=some (if zts m w=true then Ex.go () else Ex.rt false):=by
  refine z19 (σ:=Unit) (fun F s _=>ol N m w F (s:Int)) m.rows.length (fun s _=> ∀ t:Nat,t<s→yo m t w=yo m 0 w) _ (fun F s _ d hi=>?_) (fun F _ hi=>?_) N 0 () (Nat.zero_le _) (by omega) fun t k=>by omega
  ·simp only [ol]
   rw [ut (by omega),qh (h.raft d b c),qh (show vo N N m 0 w=some (yo m 0 w) from h.raft (s:=0) (by omega) b c)]
   by_cases hc:yo m s w=yo m 0 w
   ·right
    rw [ul (fun a=>a hc),zm (j3 (by omega)),uf]
    refine⟨(),fun t k=>?_,rfl⟩
    by_cases e:t=s
    ·subst e;exact hc
    ·exact hi t (by omega)
   ·left
    rw [ut hc,if_neg]
    intro a;exact hc (zbk.1 a s d)
  ·simp only [ol]
   rw [ul (by omega),if_pos (zbk.2 hi)]
 unfold o8
 rw [qh j]
 cases zts m w with
 |true=>rw [if_pos rfl,z6z]
 |false=>rw [if_neg (by simp),z9e]
def zpf(m:Mach)(w:List Int)(s t:Nat):Bool:=decide (yx m s w=yx m t w)&&decide (yo m s w≠yo m t w)
def zq4(m:Mach)(w:List Int):Bool:=(List.range m.rows.length).all fun s=>(List.range s).all fun t=> !zpf m w s t
theorem zcs{m:Mach}{w:List Int}:zq4 m w=true↔Hom m w:=by
 unfold zq4
 rw [List.all_eq_true]
 constructor
 ·intro h
  have key: ∀ s t:Nat,s<m.rows.length→t<s→yx m s w=yx m t w→yo m s w=yo m t w:=fun s t c d b=>by
   have a:=List.all_eq_true.1 (h s (List.mem_range.2 c)) t (List.mem_range.2 d)
   unfold zpf at a
   rw [decide_eq_true b,Bool.true_and] at a
   by_cases e:yo m s w=yo m t w
   ·exact e
   ·rw [decide_eq_true e] at a;cases a
  intro s t c d b
  rcases Nat.lt_trichotomy s t with a|a|a
  ·exact(key t s d a b.symm).symm
  ·rw [a]
  ·exact key s t c a b
 ·intro h s c
  rw [List.all_eq_true]
  intro t d
  have c:=List.mem_range.1 c;have d:=List.mem_range.1 d
  unfold zpf
  by_cases b:yx m s w=yx m t w
  ·rw [decide_eq_true b,decide_eq_false (fun f=>f (h s t c (by omega) b))];rfl
  ·rw [decide_eq_false b];rfl
theorem zhr{N:Nat}{m:Mach}(h:CM m){w:List Int}(d:WIn (nIn m) w)(f:w.length<N)(i:5000≤N)(l:w.length≤100000):vk N m w=some (zq4 m w):=by
 have o:=h.ok.r2
 have j: ∀ s,s<m.rows.length→eu N m w (s:Int) N 0=some (if((List.range s).all fun t=> !zpf m w s t)=true then Ex.go () else Ex.rt (Ex.rt false)):=fun s a=>by
  refine z19 (σ:=Unit) (fun F t _=>eu N m w (s:Int) F (t:Int)) s (fun t _=> ∀ u:Nat,u<t→zpf m w s u=false) _ (fun F t _ c hi=>?_) (fun F _ hi=>?_) N 0 () (Nat.zero_le _) (by omega) fun t c=>by omega
  ·have ht':t<m.rows.length:=by omega
   have p:(yx m s w).length=w.length:=z1g m s w
   have hsame:z1b N (yx m s w) (yx m t w)=some (decide (yx m s w=yx m t w)):=by
    unfold z1b
    rw [qh (zlb i (by omega) (by omega))]
   simp only [eu]
   rw [ut (by omega),qh (h.rrun a d f l),qh (h.rrun ht' d f l),qh hsame]
   have g:zpf m w s t=(decide (yx m s w=yx m t w)&&decide (yo m s w≠yo m t w)):=rfl
   by_cases hr:yx m s w=yx m t w
   ·rw [decide_eq_true hr] at g⊢
    rw [qh (z9n (b:=(true&&(true==true))) rfl (h.raft a d f)),qh (z9n (b:=(true&&(true==true))) rfl (h.raft ht' d f)),Option.getD_some,Option.getD_some,←g]
    cases hv:zpf m w s t with
    |true=>
     left
     rw [cond_true,if_neg]
     intro k
     have:=List.all_eq_true.1 k t (List.mem_range.2 c)
     rw [hv] at this;cases this
    |false=>
     right
     rw [cond_false,zm (j3 (by omega)),uf]
     refine⟨(),fun u n=>?_,rfl⟩
     by_cases e:u=t
     ·subst e;exact hv
     ·exact hi u (by omega)
   ·right
    rw [decide_eq_false hr] at g⊢
    rw [qh (zaw (b:=(true&&(false==true))) rfl),qh (zaw (b:=(true&&(false==true))) rfl),Bool.false_and,cond_false,zm (j3 (by omega)),uf]
    refine⟨(),fun u n=>?_,rfl⟩
    by_cases e:u=t
    ·subst e;rw [g];rfl
    ·exact hi u (by omega)
  ·simp only [eu]
   rw [ul (by omega),if_pos]
   rw [List.all_eq_true]
   intro t c
   rw [hi t (List.mem_range.1 c)];rfl
 have q:af N m w N 0=some (if zq4 m w=true then Ex.go () else Ex.rt false):=by
  refine z19 (σ:=Unit) (fun F s _=>af N m w F (s:Int)) m.rows.length (fun s _=> ∀ u:Nat,u<s→((List.range u).all fun t=> !zpf m w u t)=true) _ (fun F s _ a hi=>?_) (fun F _ hi=>?_) N 0 () (Nat.zero_le _) (by omega) fun t c=>by omega
  ·simp only [af]
   rw [ut (by omega),qh (j s a)]
   cases hv:((List.range s).all fun t=> !zpf m w s t) with
   |true=>
    right
    rw [if_pos rfl,z6z,zm (j3 (by omega)),uf]
    refine⟨(),fun u n=>?_,rfl⟩
    by_cases e:u=s
    ·subst e;exact hv
    ·exact hi u (by omega)
   |false=>
    left
    rw [if_neg (by simp),z9e,if_neg]
    intro k
    have:=List.all_eq_true.1 k s (List.mem_range.2 a)
    rw [hv] at this;cases this
  ·simp only [af]
   rw [ul (by omega),if_pos]
   unfold zq4
   rw [List.all_eq_true]
   intro s a
   exact hi s (List.mem_range.1 a)
 unfold vk
 rw [qh q]
 cases zq4 m w with
 |true=>rw [if_pos rfl,z6z]
 |false=>rw [if_neg (by simp),z9e]
theorem zyx{N:Nat}{m:Mach}(h:CM m)(n:5000≤N)(B:m.inputs≤3): ∃ r,z3s N m 4=some r∧((∃ w,r=(w,true)∧w.length≤4∧WIn (nIn m) w∧Syn m w∧ ∀ v,WIn (nIn m) v→Syn m v→lle w v)∨(r=([],false)∧ ∀ v,WIn (nIn m) v→v.length≤4→ ¬Syn m v)):=by
 have q:=h.nin
 obtain⟨s,b⟩:=zuj (N:=N) (ni:=nIn m) (k:=4) n (by omega) (Nat.le_refl _)
 have b:(z6g (nIn m) 5).length≤1215:=b
 have hU':z1h N m.inputs 4=some (z6g (nIn m) 5):=by rw [←q];exact s
 have u: ∃ r,fq N m (z6g (nIn m) 5) N 0=some r∧((∃ w,r=Ex.rt (w,true)∧w.length≤4∧WIn (nIn m) w∧Syn m w∧ ∀ v,WIn (nIn m) v→Syn m v→lle w v)∨(r=Ex.go ()∧ ∀ v,WIn (nIn m) v→v.length≤4→ ¬Syn m v)):=by
  refine rq (σ:=Unit) (fun F j _=>fq N m (z6g (nIn m) 5) F (j:Int)) (z6g (nIn m) 5).length (fun j _=> ∀ i,i<j→zts m ((z6g (nIn m) 5).getD i default)=false) _ (fun F j _ c hi=>?_) (fun F _ hi=>?_) N 0 () (Nat.zero_le _) (by omega) fun t C=>by omega
  ·obtain⟨D,o⟩:=zbd.1 (z4m c)
   simp only [fq]
   rw [ut (by omega),zm (ky c),lg,qh (zmi h o (by omega) n)]
   cases d:zts m ((z6g (nIn m) 5).getD j default) with
   |true=>
    left
    rw [cond_true,zm (ky c)]
    refine⟨_,rfl,.inl ⟨_,rfl,by omega,o,zbk.1 d,fun v f g=>?_⟩⟩
    by_cases p:v.length<5
    ·exact zmf znx c hi v (zbd.2 ⟨p,f⟩) (zbk.2 g)
    ·exact .inr (.inl (by omega))
   |false=>
    right
    rw [cond_false,zm (j3 (by omega)),uf]
    refine⟨(),fun i a=>?_,rfl⟩
    by_cases e:i=j
    ·subst e;exact d
    ·exact hi i (by omega)
  ·simp only [fq]
   rw [ul (by omega)]
   refine⟨_,rfl,.inr ⟨rfl,fun v d p x=>?_⟩⟩
   obtain⟨i,a,e⟩:=List.mem_iff_getElem.1 (zbd.2 ⟨show v.length<5 by omega,d⟩)
   have:=hi i a
   rw [List.getD_eq_getElem?_getD,List.getElem?_eq_getElem a] at this
   rw [show (some ((z6g (nIn m) 5)[i])).getD default=v from e,zbk.2 x] at this
   cases this
 obtain⟨r,y,z⟩:=u
 unfold z3s
 rw [qh hU',qh y]
 rcases z with⟨w,rfl,A⟩|⟨rfl,l⟩
 ·rw [z9e];exact⟨_,rfl,.inl ⟨w,rfl,A⟩⟩
 ·rw [z6z];exact⟨_,rfl,.inr ⟨rfl,l⟩⟩
theorem zsi{N:Nat}{m:Mach}(h:CM m)(n:5000≤N)(B:m.inputs≤3): ∃ r,z2o N m 4=some r∧((∃ w,r=(w,true)∧w.length≤4∧WIn (nIn m) w∧Hom m w∧ ∀ v,WIn (nIn m) v→Hom m v→lle w v)∨(r=([],false)∧ ∀ v,WIn (nIn m) v→v.length≤4→ ¬Hom m v)):=by
 have q:=h.nin
 obtain⟨s,b⟩:=zuj (N:=N) (ni:=nIn m) (k:=4) n (by omega) (Nat.le_refl _)
 have b:(z6g (nIn m) 5).length≤1215:=b
 have hU':z1h N m.inputs 4=some (z6g (nIn m) 5):=by rw [←q];exact s
 have u: ∃ r,mi N m (z6g (nIn m) 5) N 0=some r∧((∃ w,r=Ex.rt (w,true)∧w.length≤4∧WIn (nIn m) w∧Hom m w∧ ∀ v,WIn (nIn m) v→Hom m v→lle w v)∨(r=Ex.go ()∧ ∀ v,WIn (nIn m) v→v.length≤4→ ¬Hom m v)):=by
  refine rq (σ:=Unit) (fun F j _=>mi N m (z6g (nIn m) 5) F (j:Int)) (z6g (nIn m) 5).length (fun j _=> ∀ i,i<j→zq4 m ((z6g (nIn m) 5).getD i default)=false) _ (fun F j _ c hi=>?_) (fun F _ hi=>?_) N 0 () (Nat.zero_le _) (by omega) fun t C=>by omega
  ·obtain⟨D,o⟩:=zbd.1 (z4m c)
   simp only [mi]
   rw [ut (by omega),zm (ky c),lg,qh (zhr h o (by omega) n (by omega))]
   cases d:zq4 m ((z6g (nIn m) 5).getD j default) with
   |true=>
    left
    rw [cond_true,zm (ky c)]
    refine⟨_,rfl,.inl ⟨_,rfl,by omega,o,zcs.1 d,fun v f g=>?_⟩⟩
    by_cases p:v.length<5
    ·exact zmf znx c hi v (zbd.2 ⟨p,f⟩) (zcs.2 g)
    ·exact .inr (.inl (by omega))
   |false=>
    right
    rw [cond_false,zm (j3 (by omega)),uf]
    refine⟨(),fun i a=>?_,rfl⟩
    by_cases e:i=j
    ·subst e;exact d
    ·exact hi i (by omega)
  ·simp only [mi]
   rw [ul (by omega)]
   refine⟨_,rfl,.inr ⟨rfl,fun v d p x=>?_⟩⟩
   obtain⟨i,a,e⟩:=List.mem_iff_getElem.1 (zbd.2 ⟨show v.length<5 by omega,d⟩)
   have:=hi i a
   rw [List.getD_eq_getElem?_getD,List.getElem?_eq_getElem a] at this
   rw [show (some ((z6g (nIn m) 5)[i])).getD default=v from e,zcs.2 x] at this
   cases this
 obtain⟨r,y,z⟩:=u
 unfold z2o
 rw [qh hU',qh y]
 rcases z with⟨w,rfl,A⟩|⟨rfl,l⟩
 ·rw [z9e];exact⟨_,rfl,.inl ⟨w,rfl,A⟩⟩
 ·rw [z6z];exact⟨_,rfl,.inr ⟨rfl,l⟩⟩
end GV
end Go.Proofs.YtjmlpkkbmnjhcaaGreat
