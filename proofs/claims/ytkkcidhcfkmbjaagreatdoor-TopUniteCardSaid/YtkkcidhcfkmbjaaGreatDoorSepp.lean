import Derived.Test.YtkkcidhcfkmbjaaGreatDoorSepw
import Derived.Test.YtkkcidhcfkmbjaaGreatDoorPkt
set_option linter.unusedVariables false
set_option linter.unusedSimpArgs false
set_option linter.unusedSectionVars false
namespace Go.Proofs.YtkkcidhcfkmbjaaGreatDoor
namespace GV
set_option maxRecDepth 100000
theorem zkd{N:Nat}{s:List Int}:ik N s=some s:=by
 unfold ik;rw [zg (zfk s),zg8]
theorem zom{N:Nat}{s:List Int}(h:s.length≤1000000):slices_Clone_int N s=some s:=by
 unfold slices_Clone_int;rw [zg ⟨by simp;omega,by simp;omega⟩];rfl
theorem zpw{N n:Nat}(a:n≤1000000):iw N (n:Int)=some []:=by
 unfold iw
 rw [yt (by omega)]
 refine(q8 (x:=[]) ?_).trans rfl
 rw [zg (qj (by omega)),zg (qj (by omega))]
 by_cases h:0<(n:Int)-(0-0)
 ·rw [bq h,zg ⟨h,by omega,by omega⟩,zg ⟨by omega,by omega,by omega⟩];rfl
 ·rw [yt h]
theorem zlz{N:Nat}{x y:List Int}(c:5≤N)(d:x.length≤1000)(e:y.length≤1000):tq N [x,y]=some (x++y):=by
 obtain⟨F,rfl⟩: ∃ F,N=F+5:=⟨N-5,by omega⟩
 have a:xc (F+5) [x,y] (F+5) 0 0=some ((x.length+y.length:Nat):Int):=by
  simp only [xc]
  rw [bq (by simp),zg (show okI [x,y] 0 from⟨by omega,by simp⟩),show ix [x,y] 0=x from rfl,zg (qj (by omega)),yt (by omega),zg (qj (by omega))]
  rw [bq (by simp),zg (show okI [x,y] (0+1) from⟨by omega,by simp⟩),show ix [x,y] (0+1)=y from rfl,zg (qj (by omega)),yt (by omega),zg (qj (by omega))]
  rw [yt (by simp)]
  simp
 have b:xg (F+5) [x,y] (F+5) 0 []=some (x++y):=by
  simp only [xg]
  rw [bq (by simp),zg (show okI [x,y] 0 from⟨by omega,by simp⟩),show ix [x,y] 0=x from rfl,zg ⟨by simp;omega,by simp;omega⟩,zg (qj (by omega))]
  rw [bq (by simp),zg (show okI [x,y] (0+1) from⟨by omega,by simp⟩),show ix [x,y] (0+1)=y from rfl,zg ⟨by simp;omega,by simp;omega⟩,zg (qj (by omega))]
  rw [yt (by simp)]
  rfl
 unfold tq
 rw [q8 a,q8 (zpw (by omega)),q8 b]
structure TabR (r:Nat) (f:List (List Int)) (g:Nat→Nat→List Int):Prop where
 len:f.length=4096
 get: ∀ a b,a<r→b<r→ix f (i2 (a:Int) (b:Int))=g a b
theorem zg5{a b:Nat}:i2 (a:Int) (b:Int)=((a*64+b:Nat):Int):=by unfold i2;omega
section
variable {N : Nat} {m : Mach} {f : List (List Int)} {g : Nat → Nat → List Int}
theorem zqb(c:MOk m)(P:5000≤N)(w:TabR m.rows.length f g)(y: ∀ a b,a<m.rows.length→b<m.rows.length→(g a b).length≤100){s t n:Nat}(o:s<m.rows.length)(q:t<m.rows.length)(Q:1≤n)(z:n≤100):
 mh N m (s:Int) (t:Int) (n:Int) f=some (zbz m g n s t):=by
 have A:=c.i1;have B:=c.i2;have C:=c.r2
 have D:=c.row s o;have E:=c.row t q
 have key: ∀ k i F,i+k=m.inputs.toNat→k<F→uu N m (s:Int) (t:Int) (n:Int) f F (i:Int)=some (zd9 m g n s t k i):=by
  intro k
  induction k with
  |zero=>
   intro i F r G
   obtain⟨F,rfl⟩: ∃ F',F=F'+1:=⟨F-1,by omega⟩
   simp only [uu]
   rw [show ix m.rows (s:Int)=m.rows.getD s default from rfl,yt (by omega)];rfl
  |succ k ih=>
   intro i F r G
   obtain⟨F,rfl⟩: ∃ F',F=F'+1:=⟨F-1,by omega⟩
   have hi:i<m.inputs.toNat:=by omega
   have H:=(z3z c o hi).1
   have I:=(z3z c q hi).1
   simp only [uu]
   rw [show ix m.rows (s:Int)=m.rows.getD s default from rfl,show ix m.rows (t:Int)=m.rows.getD t default from rfl,bq (by omega),zg (j3 (by omega)),zg (j3 q),zg (j3 (by omega))]
   show (bif decide (ou m s i≠ou m t i) then some [(i:Int)] else _)=_
   unfold zd9
   by_cases ho:ou m s i=ou m t i
   ·rw [yt (fun h=>h ho),if_neg (fun h=>h ho)]
    show (gd ((true&&(((decide (1<(n:Int)))&&(decide (ed m s i≠ -1)))==true))=true→(0:Int)≤ed m s i∧ed m s i<(64:Nat))<|
     gd ((true&&(((decide (1<(n:Int)))&&(decide (ed m s i≠ -1)))==true))=true→(0:Int)≤ed m t i∧ed m t i<(64:Nat))<|
     gd ((true&&(((decide (1<(n:Int)))&&(decide (ed m s i≠ -1)))==true))=true→in64 ((n:Int)-1))<|
     bif ((decide (1<(n:Int)))&&(decide (ed m s i≠ -1)))&&(decide ((↑(ix f (i2 (ed m s i) (ed m t i))).length:Int)=((n:Int)-1))) then(
     gd ((0:Int)≤ed m s i∧ed m s i<(64:Nat))<|
     gd ((0:Int)≤ed m t i∧ed m t i<(64:Nat))<|
     bd (tq N ([([(i:Int)]:List Int),(ix f (i2 (ed m s i) (ed m t i)))]:List (List Int))) fun d=>
     some d) else(
     gd (in64 ((i:Int)+1))<|
     uu N m (s:Int) (t:Int) (n:Int) f F ((i:Int)+1)))=_
    have hrng:ed m s i≠ -1→(0≤ed m s i∧ed m s i<m.rows.length)∧(0≤ed m t i∧ed m t i<m.rows.length):=fun j=>
     ⟨(z1e c o hi).resolve_left j,(z1e c q hi).resolve_left fun e=>j (H.2 (by rw [ho];exact I.1 e))⟩
    have l: ∀ {p:Prop},(ed m s i≠ -1→p)→((true&&(((decide (1<(n:Int)))&&(decide (ed m s i≠ -1)))==true))=true→p):=fun h e=>by
     simp only [Bool.true_and,beq_iff_eq,Bool.and_eq_true,decide_eq_true_eq] at e
     exact h e.2
    rw [zg (l fun h=>by have:=hrng h;omega),zg (l fun h=>by have:=hrng h;omega),zg (fun _=>qj (by omega))]
    have J:(((decide (1<(n:Int)))&&(decide (ed m s i≠ -1)))&&(decide ((↑(ix f (i2 (ed m s i) (ed m t i))).length:Int)=((n:Int)-1))))=z3v m g n s t i:=by
     unfold z3v
     by_cases j:ed m s i= -1
     ·rw [show decide (ed m s i≠ -1)=false from decide_eq_false (fun h=>h j),Bool.and_false,Bool.and_false,Bool.false_and,Bool.false_and]
     ·obtain⟨⟨u,K⟩,v,L⟩:=hrng j
      have e:ix f (i2 (ed m s i) (ed m t i))=g (ed m s i).toNat (ed m t i).toNat:=by
       rw [←w.get _ _ (by omega) (by omega),Int.toNat_of_nonneg u,Int.toNat_of_nonneg v]
      rw [e]
      congr 1
      ·congr 1
       exact decide_eq_decide.2 (by omega)
      ·exact decide_eq_decide.2 (by omega)
    rw [J]
    cases M:z3v m g n s t i
    ·rw [cf rfl,zg (qj (by omega)),if_neg (by decide)]
     exact ih (i+1) F (by omega) (by omega)
    ·have hc':=M
     unfold z3v at hc'
     simp only [Bool.and_eq_true,decide_eq_true_eq] at hc'
     obtain⟨⟨u,K⟩,v,L⟩:=hrng hc'.1.2
     have e:ix f (i2 (ed m s i) (ed m t i))=g (ed m s i).toNat (ed m t i).toNat:=by
      rw [←w.get _ _ (by omega) (by omega),Int.toNat_of_nonneg u,Int.toNat_of_nonneg v]
     rw [ct rfl,zg (by omega),zg (by omega),e,q8 (zlz (by omega) (by simp) (by have:=y (ed m s i).toNat (ed m t i).toNat (by omega) (by omega);omega)),if_pos rfl]
     rfl
   ·rw [bq ho,if_pos ho]
 unfold mh
 refine(q8 (x:=zd9 m g n s t m.inputs.toNat 0) ?_).trans ?_
 ·rw [zg (j3 o)]
  exact key m.inputs.toNat 0 N (by omega) (by omega)
 ·unfold zbz
  by_cases h:(zd9 m g n s t m.inputs.toNat 0).length=n
  ·rw [yt (fun O=>O (by omega)),if_pos h,q8 zkd,zg (by omega)]
  ·rw [bq (by omega),if_neg h]
theorem zro{X:List (List Int)}{i j:Nat}{w:List Int}(hi:i<X.length):ix (up X (i:Int) w) (j:Int)=if i=j then w else ix X (j:Int):=by
 rw [z1g,mf,mf,List.getD_eq_getElem?_getD,List.getElem?_set]
 by_cases e:i=j
 ·subst e;rw [if_pos rfl,if_pos hi,if_pos rfl];rfl
 ·rw [if_neg e,if_neg e,←List.getD_eq_getElem?_getD]
theorem put_eq{s t:Nat}{w:List Int}(c:f.length=4096)(g:s<64)(h:t<64)(e:w≠[]):
 ∃ f',ry N (s:Int) (t:Int) w f=some f'∧f'.length=4096∧ ∀ a b:Nat,a<64→b<64→ix f' (i2 (a:Int) (b:Int))=if(a=s∧b=t)∨(a=t∧b=s) then w else ix f (i2 (a:Int) (b:Int)):=by
 have d:=List.length_pos_iff.2 e
 refine⟨up (up f (i2 s t) w) (i2 t s) w,?_,?_,fun a b i j=>?_⟩
 ·unfold ry
  rw [zg (by omega),zg (by omega),zg d,zg (by omega),zg (by omega),zg d]
 ·simp only [up,List.length_set,c]
 ·rw [zg5,zg5,zg5,zro (by simp only [up,List.length_set,c];omega),zro (by omega)]
  by_cases h1:a=t∧b=s
  ·rw [if_pos (by omega),if_pos (.inr h1)]
  ·rw [if_neg (by omega)]
   by_cases h2:a=s∧b=t
   ·rw [if_pos (by omega),if_pos (.inl h2)]
   ·rw [if_neg (by omega),if_neg (by omega)]
theorem zll{σ:Type}(f:MOk m)(B:(Int×Int)→σ→Option (Bool×σ))(inv:Nat→Nat→σ→Prop){s:Nat}
 (hstep: ∀ t st,s<t→t<m.rows.length→inv s t st→ ∃ st',B ((s:Int),(t:Int)) st=some (true,st')∧inv s (t+1) st'): ∀ F t st,s<t→t≤m.rows.length→m.rows.length-t<F→inv s t st→
  ∃ st',p9 N σ B m (s:Int) F st (t:Int)=some (Ex.go st')∧inv s m.rows.length st':=by
 have g:=f.r2
 intro F
 induction F with
 |zero=>intro t st d h i;omega
 |succ F ih=>
  intro t st d h i hi
  simp only [p9]
  by_cases e:t=m.rows.length
  ·rw [yt (by omega)]
   subst e
   exact⟨st,rfl,hi⟩
  ·obtain⟨st',j,hi'⟩:=hstep t st d (by omega) hi
   obtain⟨a,b,c⟩:=ih (t+1) st' (by omega) (by omega) (by omega) hi'
   refine⟨a,?_,c⟩
   rw [bq (by omega),q8 j]
   rw [Bool.not_true,cond_false,zg (qj (by omega)),z0r]
   exact b
theorem zm1{σ:Type}(d:MOk m)(k:200≤N)(B:(Int×Int)→σ→Option (Bool×σ))(inv:Nat→Nat→σ→Prop)
 (hstep: ∀ s t st,s<t→t<m.rows.length→inv s t st→ ∃ st',B ((s:Int),(t:Int)) st=some (true,st')∧inv s (t+1) st')
 (hrow: ∀ s st,s<m.rows.length→inv s m.rows.length st→inv (s+1) (s+2) st) (s0:σ) (f:inv 0 1 s0):
 ∃ st,z08 N m σ B s0=some st∧inv m.rows.length (m.rows.length+1) st:=by
 have g:=d.r2
 have outer: ∀ F s st,s≤m.rows.length→m.rows.length-s<F→inv s (s+1) st→ ∃ st',p8 N σ B m F st (s:Int)=some st'∧inv m.rows.length (m.rows.length+1) st':=by
  intro F
  induction F with
  |zero=>intro s st h i;omega
  |succ F ih=>
   intro s st h i hi
   simp only [p8]
   by_cases e:s=m.rows.length
   ·rw [yt (by omega)]
    subst e
    exact⟨st,rfl,hi⟩
   ·obtain⟨st',j,hi'⟩:=zll (N:=N) d B inv (fun t st=>hstep s t st) N (s+1) st (by omega) (by omega) (by omega) hi
    obtain⟨a,b,c⟩:=ih (s+1) st' (by omega) (by omega) (hrow s st' (by omega) hi')
    refine⟨a,?_,c⟩
    rw [bq (by omega),zg (qj (by omega)),z0r,q8 j,zh9,zg (qj (by omega))]
    exact b
 exact outer N 0 s0 (Nat.zero_le _) (by omega) f
structure NowI (m:Mach) (k s t:Nat) (L:List Sc):Prop where
 le:L.length≤64*s+t
 mem: ∀ p∈L,∃ a b,a<b∧b<m.rows.length∧sw m k a b=[]∧zbz m (sw m k) (k+1) a b≠[]∧p=⟨(a:Int),(b:Int),zbz m (sw m k) (k+1) a b,false⟩
 all: ∀ a b,a<b→b<m.rows.length→(a<s∨(a=s∧b<t))→sw m k a b=[]→zbz m (sw m k) (k+1) a b≠[]→ ∃ p∈L,p.fAb=(a:Int)∧p.fAc=(b:Int)
theorem zjw(c:MOk m){k a b:Nat}(g:k≤64)(d:a<m.rows.length)(f:b<m.rows.length):(sw m k a b).length≤100:=by
 by_cases e:sw m k a b=[]
 ·rw [e];simp
 ·have:=((zbe c k d f).some e).2;omega
def zpv(N:Nat)(m:Mach)(f:List (List Int))(n:Int)(a:Int×Int)(b:List Sc):Option (Bool×List Sc):=
 gd ((0:Int)≤a.1∧a.1<(64:Nat))<|
 gd ((0:Int)≤a.2∧a.2<(64:Nat))<|
 bif !(ix f (i2 a.1 a.2)).isEmpty then(
 some (true,b)) else(
 bd (mh N m a.1 a.2 n f) fun c=>
 bif !c.isEmpty then(
 gd (fits 48 b ([(⟨a.1,a.2,c,false⟩:Sc)]:List Sc))<|
 some (true,(b++([(⟨a.1,a.2,c,false⟩:Sc)]:List Sc)))) else(
 some (true,b)))
theorem zqq(n:MOk m)(x:5000≤N){k:Nat}(D:k<64)(v:TabR m.rows.length f (sw m k)){s t:Nat}(o:s<t)(q:t<m.rows.length){st:List Sc}(hi:NowI m k s t st):
 ∃ st',zpv N m f ((k+1:Nat):Int) ((s:Int),(t:Int)) st=some (true,st')∧NowI m k s (t+1) st':=by
 have y:=n.r2
 have w:s<m.rows.length:=by omega
 have hnew: ∀ a b,a<b→b<m.rows.length→(a<s∨(a=s∧b<t+1))→(a<s∨(a=s∧b<t))∨(a=s∧b=t):=fun a b _ _ h=>by omega
 have z:=hi.le
 unfold zpv
 dsimp only
 rw [zg (by omega),zg (by omega),v.get s t w q]
 cases r:(sw m k s t).isEmpty
 ·refine⟨st,by rw [Bool.not_false];rfl,⟨by omega,hi.mem,fun a b c d l i j=>?_⟩⟩
  rcases hnew a b c d l with h|⟨rfl,rfl⟩
  ·exact hi.all a b c d h i j
  ·rw [i] at r;cases r
 ·have he':sw m k s t=[]:=List.isEmpty_iff.1 r
  rw [Bool.not_true,cond_false,q8 (zqb n x v (fun a b A B=>zjw n (by omega) A B) w q (by omega) (by omega))]
  cases u:(zbz m (sw m k) (k+1) s t).isEmpty
  ·have hw':zbz m (sw m k) (k+1) s t≠[]:=fun e=>by rw [e] at u;cases u
   rw [Bool.not_false,cond_true,zg ⟨by simp;omega,by simp;omega⟩]
   refine⟨_,rfl,⟨by simp;omega,fun p g=>?_,fun a b c d l i j=>?_⟩⟩
   ·rcases List.mem_append.1 g with g|g
    ·exact hi.mem p g
    ·exact⟨s,t,o,q,he',hw',List.mem_singleton.1 g⟩
   ·rcases hnew a b c d l with h|⟨rfl,rfl⟩
    ·obtain⟨p,g,C⟩:=hi.all a b c d h i j
     exact⟨p,List.mem_append_left _ g,C⟩
    ·exact⟨_,List.mem_append_right _ (List.mem_singleton.2 rfl),rfl,rfl⟩
  ·refine⟨st,by rw [Bool.not_true];rfl,⟨by omega,hi.mem,fun a b c d l i j=>?_⟩⟩
   rcases hnew a b c d l with h|⟨rfl,rfl⟩
   ·exact hi.all a b c d h i j
   ·exact absurd (List.isEmpty_iff.1 u) j
theorem round_eq(n:MOk m)(S:5000≤N){k:Nat}(T:k<64)(y:TabR m.rows.length f (sw m k)):
 ∃ f',(bd (z1o N m) fun z=>bd (z08 N z (List Sc) (zpv N m f ((k+1:Nat):Int)) []) fun A=>yn N A N 0 f)=some f'∧TabR m.rows.length f' (sw m (k+1)):=by
 have U:=n.r2
 obtain⟨L,V,w⟩:=zm1 (N:=N) n (by omega) (zpv N m f ((k+1:Nat):Int)) (NowI m k) (fun s t st B W hi=>zqq n S T y B W hi)
  (fun s st hs hi=>⟨by have:=hi.le;omega,hi.mem,fun a b i l g u X=>hi.all a b i l (by omega) u X⟩) [] ⟨by simp,fun p C=>(by cases C),fun a b i l g=>by omega⟩
 have hswn: ∀ a b,a<b→b<m.rows.length→sw m k a b=[]→sw m (k+1) a b=zbz m (sw m k) (k+1) a b:=fun a b i l g=>by
  conv=>lhs;unfold sw
  rw [if_pos g]
 have hput: ∀ F j f',j≤L.length→L.length-j<F→f'.length=4096→(∀ a b,a<m.rows.length→b<m.rows.length→ix f' (i2 (a:Int) (b:Int))=sw m (k+1) a b∨
  (ix f' (i2 (a:Int) (b:Int))=sw m k a b∧ ∀ q,q<j→ ¬(((L.getD q default).fAb=(a:Int)∧(L.getD q default).fAc=(b:Int))∨((L.getD q default).fAb=(b:Int)∧(L.getD q default).fAc=(a:Int)))))→
  ∃ f'',yn N L F (j:Int) f'=some f''∧f''.length=4096∧ ∀ a b,a<m.rows.length→b<m.rows.length→ix f'' (i2 (a:Int) (b:Int))=sw m (k+1) a b∨
   (ix f'' (i2 (a:Int) (b:Int))=sw m k a b∧ ∀ q,q<L.length→ ¬(((L.getD q default).fAb=(a:Int)∧(L.getD q default).fAc=(b:Int))∨((L.getD q default).fAb=(b:Int)∧(L.getD q default).fAc=(a:Int)))):=by
  intro F
  induction F with
  |zero=>intro j f' i l;omega
  |succ F ih=>
   intro j f' i l g u
   simp only [yn]
   by_cases e:j=L.length
   ·subst e
    rw [yt (by omega)]
    exact⟨f',rfl,g,u⟩
   ·have J:j<L.length:=by omega
    obtain⟨a,b,K,M,O,Y,P⟩:=w.mem (L.getD j default) (z1p J)
    have Z:=w.le
    rw [bq (by omega),zg (j3 J),mf,P]
    obtain⟨f2,r1,r2,r3⟩:=put_eq (N:=N) (f:=f') (s:=a) (t:=b) g (by omega) (by omega) Y
    rw [q8 r1,zg (qj (by omega))]
    refine ih (j+1) f2 (by omega) (by omega) r2 fun c d Q R=>?_
    rw [r3 c d (by omega) (by omega)]
    by_cases hm1:(c=a∧d=b)∨(c=b∧d=a)
    ·rw [if_pos hm1]
     left
     rcases hm1 with⟨rfl,rfl⟩|⟨rfl,rfl⟩
     ·exact(hswn _ _ K M O).symm
     ·rw [zfy n _ Q R];exact(hswn _ _ K M O).symm
    ·rw [if_neg hm1]
     rcases u c d Q R with h|⟨h,h'⟩
     ·exact .inl h
     ·refine .inr ⟨h,fun q x D=>?_⟩
      by_cases e2:q=j
      ·subst e2
       rw [P] at D
       simp only at D
       omega
      ·exact h' q (by omega) D
 obtain⟨f',E,G,H⟩:=hput N 0 f (Nat.zero_le _) (by have:=w.le;omega) y.len fun a b o r=> .inr ⟨y.get a b o r,fun q x=>by omega⟩
 refine⟨f',?_,G,fun a b o r=>?_⟩
 ·rw [q8 (show z1o N m=some m from rfl),q8 V];exact E
 ·rcases H a b o r with h|⟨h,h'⟩
  ·exact h
  ·rw [h]
   by_cases e:sw m k a b=[]
   ·rw [e]
    have one: ∀ c d,c<d→d<m.rows.length→sw m k c d=[]→((c=a∧d=b)∨(c=b∧d=a))→sw m (k+1) c d=[]:=fun c d i l g u=>by
     rw [hswn c d i l g]
     refine Classical.byContradiction fun I=>?_
     obtain⟨p,C,p1,p2⟩:=w.all c d i l (.inl (by omega)) g I
     obtain⟨q,x,rfl⟩:=List.mem_iff_getElem.1 C
     refine h' q x ?_
     have eq:L.getD q default=L[q]:=by simp [List.getD_eq_getElem?_getD,x]
     rw [eq,p1,p2]
     omega
    rcases Nat.lt_trichotomy a b with v|v|v
    ·exact(one a b v r e (.inl ⟨rfl,rfl⟩)).symm
    ·subst v;exact(zrc n _ o).symm
    ·rw [zfy n _ o r]
     exact(one b a v o (by rw [zfy n _ r o];exact e) (.inr ⟨rfl,rfl⟩)).symm
   ·conv=>rhs;unfold sw
    rw [if_neg e]
def z2o(m:Mach):Nat:=max m.rows.length 2-1
theorem zfl(d:MOk m)(j:5000≤N): ∃ f,z0f N m=some f∧TabR m.rows.length f (sw m (z2o m)):=by
 have l:=d.r1;have n:=d.r2
 have key: ∀ F k f,k≤z2o m→z2o m-k<F→TabR m.rows.length f (sw m k)→ ∃ f',xz N m F ((k+1:Nat):Int) f=some f'∧TabR m.rows.length f' (sw m (z2o m)):=by
  intro F
  induction F with
  |zero=>intro k f o p;omega
  |succ F ih=>
   intro k f o p i
   simp only [xz]
   by_cases e:k=z2o m
   ·subst e
    rw [yt (by unfold z2o;omega)]
    exact⟨f,rfl,i⟩
   ·obtain⟨f',c,hf'⟩:=round_eq (N:=N) d j (k:=k) (by unfold z2o at*;omega) i
    rw [bq (by unfold z2o at*;omega)]
    obtain⟨q,g,h⟩:=ih (k+1) f' (by omega) (by omega) hf'
    refine⟨q,(q8 (x:=f') c).trans ?_,h⟩
    rw [zg (qj (by unfold z2o at*;omega))]
    exact g
 obtain⟨f',c,hf'⟩:=key N 0 (List.replicate 4096 []) (Nat.zero_le _) (by unfold z2o;omega) ⟨List.length_replicate,fun a b r c=>by
  rw [zg5,mf,List.getD_eq_getElem?_getD,List.getElem?_replicate]
  split<;>rfl⟩
 exact⟨f',(q8 c).trans rfl,hf'⟩
theorem zq7{N:Nat}{s:List Int}{f:Int→Option Bool}(b: ∀ k,k<s.length→f (s.getD k default)=some false)(d:s.length<N)(e:s.length≤1000000):bn N s f=some false:=by
 have h:jv N s f N 0=some (Ex.go ()):=by
  refine z0w (σ:=Unit) (fun F k _=>jv N s f F (k:Int)) s.length (fun _ _=>True) _ (fun F k _ a _=>?_) (fun F _ _=>?_) N 0 () (Nat.zero_le _) (by omega) trivial
  ·right
   refine⟨(),trivial,?_⟩
   simp only [jv]
   rw [bq (by omega),zg (j3 a),mf,q8 (b k a),cond_false,zg (qj (by omega))];rfl
  ·simp only [jv]
   rw [yt (by omega)]
 unfold bn iq
 rw [q8 (show (bd (jv N s f N 0) fun c=>Ex.on c (fun g=>some (-1)) some)=some (-1:Int) by rw [q8 h];rfl)]
 rfl
theorem zif(a:MOk m)(e:5000≤N){s t:Nat}(c:s<m.rows.length)(d:t<m.rows.length):
 il N m (s:Int) (t:Int)=some (sw m (z2o m) s t,decide (sw m (z2o m) s t≠[]),0):=by
 have g:=a.r2
 obtain⟨f,h,i⟩:=zfl (N:=N) a e
 have l:=zjw a (k:=z2o m) (by unfold z2o;omega) c d
 have b:z1j N m [(s:Int),(t:Int)]=some 0:=by
  unfold z1j
  rw [q8 (zax a (by omega)),yt (by simp),q8 (zq7 (fun k j=>?_) (by simp;omega) (by simp))]
  ·rfl
  ·have:k=0∨k=1:=by simp at j;omega
   rcases this with rfl|rfl
   ·show some (decide ((s:Int)<0)||decide ((m.rows.length:Int)≤(s:Int)))=some false
    rw [decide_eq_false (by omega),decide_eq_false (by omega)];rfl
   ·show some (decide ((t:Int)<0)||decide ((m.rows.length:Int)≤(t:Int)))=some false
    rw [decide_eq_false (by omega),decide_eq_false (by omega)];rfl
 unfold il
 rw [q8 b,yt (by simp),q8 h,zg (by omega),zg (by omega),i.get s t c d,q8 (zom (by omega)),q8 zkd]
 rw [show decide (0<((sw m (z2o m) s t).length:Int))=decide (sw m (z2o m) s t≠[]) from decide_eq_decide.2 (by rw [←List.length_pos_iff];omega)]
end
end GV
end Go.Proofs.YtkkcidhcfkmbjaaGreatDoor
