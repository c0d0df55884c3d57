import Derived.Test.YtkkcidhcfkmbjaaGreatDoorSepw
import Derived.Test.YtkkcidhcfkmbjaaGreatDoorRunt
set_option linter.unusedVariables false
set_option linter.unusedSimpArgs false
set_option linter.unusedSectionVars false
namespace Go.Proofs.YtkkcidhcfkmbjaaGreatDoor
namespace GV
set_option maxRecDepth 100000
theorem zh8{N:Nat}{s:List Int}:gy N s=some s:=by
 unfold gy;rw [zi (zgj s),zgy]
theorem ziv{N:Nat}{s:List Int}(h:s.length≤1000000):slices_Clone_int N s=some s:=by
 unfold slices_Clone_int;rw [zi ⟨by simp;omega,by simp;omega⟩];rfl
theorem zmb{N n:Nat}(a:n≤1000000):pz N (n:Int)=some []:=by
 unfold pz
 rw [yj (by omega)]
 refine(q8 (x:=[]) ?_).trans rfl
 rw [zi (qi (by omega)),zi (qi (by omega))]
 by_cases h:0<(n:Int)-(0-0)
 ·rw [xw h,zi ⟨h,by omega,by omega⟩,zi ⟨by omega,by omega,by omega⟩];rfl
 ·rw [yj h]
theorem zhn{N:Nat}{x y:List Int}(c:5≤N)(d:x.length≤1000)(e:y.length≤1000):gq N [x,y]=some (x++y):=by
 obtain⟨F,rfl⟩: ∃ F,N=F+5:=⟨N-5,by omega⟩
 have a:wy (F+5) [x,y] (F+5) 0 0=some ((x.length+y.length:Nat):Int):=by
  simp only [wy]
  rw [xw (by simp),zi (show okI [x,y] 0 from⟨by omega,by simp⟩),show ix [x,y] 0=x from rfl,zi (qi (by omega)),yj (by omega),zi (qi (by omega))]
  rw [xw (by simp),zi (show okI [x,y] (0+1) from⟨by omega,by simp⟩),show ix [x,y] (0+1)=y from rfl,zi (qi (by omega)),yj (by omega),zi (qi (by omega))]
  rw [yj (by simp)]
  simp
 have b:wz (F+5) [x,y] (F+5) 0 []=some (x++y):=by
  simp only [wz]
  rw [xw (by simp),zi (show okI [x,y] 0 from⟨by omega,by simp⟩),show ix [x,y] 0=x from rfl,zi ⟨by simp;omega,by simp;omega⟩,zi (qi (by omega))]
  rw [xw (by simp),zi (show okI [x,y] (0+1) from⟨by omega,by simp⟩),show ix [x,y] (0+1)=y from rfl,zi ⟨by simp;omega,by simp;omega⟩,zi (qi (by omega))]
  rw [yj (by simp)]
  rfl
 unfold gq
 rw [q8 a,q8 (zmb (by omega)),q8 b]
structure TabR (r:Nat) (f:List (List Int)) (g:Nat→Nat→List Int):Prop where
 len:f.length=4096
 get: ∀ a b,a<r→b<r→ix f (i2 (a:Int) (b:Int))=g a b
theorem zc3{a b:Nat}:i2 (a:Int) (b:Int)=((a*64+b:Nat):Int):=by unfold i2;omega
section
variable {N : Nat} {m : Mach} {f : List (List Int)} {g : Nat → Nat → List Int}
theorem zm5(c:MOk m)(P:5000≤N)(w:TabR m.rows.length f g)(y: ∀ a b,a<m.rows.length→b<m.rows.length→(g a b).length≤100){s t n:Nat}(o:s<m.rows.length)(q:t<m.rows.length)(Q:1≤n)(z:n≤100):
 gu N m (s:Int) (t:Int) (n:Int) f=some (za2 m g n s t):=by
 have A:=c.i1;have B:=c.i2;have C:=c.r2
 have D:=c.row s o;have E:=c.row t q
 have key: ∀ k i F,i+k=m.inputs.toNat→k<F→u7 N m (s:Int) (t:Int) (n:Int) f F (i:Int)=some (z9j m g n s t k i):=by
  intro k
  induction k with
  |zero=>
   intro i F r G
   obtain⟨F,rfl⟩: ∃ F',F=F'+1:=⟨F-1,by omega⟩
   simp only [u7]
   rw [show ix m.rows (s:Int)=m.rows.getD s default from rfl,yj (by omega)];rfl
  |succ k ih=>
   intro i F r G
   obtain⟨F,rfl⟩: ∃ F',F=F'+1:=⟨F-1,by omega⟩
   have hi:i<m.inputs.toNat:=by omega
   have H:=(z5g c o hi).1
   have I:=(z5g c q hi).1
   simp only [u7]
   rw [show ix m.rows (s:Int)=m.rows.getD s default from rfl,show ix m.rows (t:Int)=m.rows.getD t default from rfl,xw (by omega),zi (j5 (by omega)),zi (j5 q),zi (j5 (by omega))]
   show (bif decide (ou m s i≠ou m t i) then some [(i:Int)] else _)=_
   unfold z9j
   by_cases ho:ou m s i=ou m t i
   ·rw [yj (fun h=>h ho),if_neg (fun h=>h ho)]
    show (gd ((true&&(((decide (1<(n:Int)))&&(decide (ed m s i≠ -1)))==true))=true→(0:Int)≤ed m s i∧ed m s i<(64:Nat))<|
     gd ((true&&(((decide (1<(n:Int)))&&(decide (ed m s i≠ -1)))==true))=true→(0:Int)≤ed m t i∧ed m t i<(64:Nat))<|
     gd ((true&&(((decide (1<(n:Int)))&&(decide (ed m s i≠ -1)))==true))=true→in64 ((n:Int)-1))<|
     bif ((decide (1<(n:Int)))&&(decide (ed m s i≠ -1)))&&(decide ((↑(ix f (i2 (ed m s i) (ed m t i))).length:Int)=((n:Int)-1))) then(
     gd ((0:Int)≤ed m s i∧ed m s i<(64:Nat))<|
     gd ((0:Int)≤ed m t i∧ed m t i<(64:Nat))<|
     bd (gq N ([([(i:Int)]:List Int),(ix f (i2 (ed m s i) (ed m t i)))]:List (List Int))) fun d=>
     some d) else(
     gd (in64 ((i:Int)+1))<|
     u7 N m (s:Int) (t:Int) (n:Int) f F ((i:Int)+1)))=_
    have hrng:ed m s i≠ -1→(0≤ed m s i∧ed m s i<m.rows.length)∧(0≤ed m t i∧ed m t i<m.rows.length):=fun j=>
     ⟨(z4q c o hi).resolve_left j,(z4q c q hi).resolve_left fun e=>j (H.2 (by rw [ho];exact I.1 e))⟩
    have l: ∀ {p:Prop},(ed m s i≠ -1→p)→((true&&(((decide (1<(n:Int)))&&(decide (ed m s i≠ -1)))==true))=true→p):=fun h e=>by
     simp only [Bool.true_and,beq_iff_eq,Bool.and_eq_true,decide_eq_true_eq] at e
     exact h e.2
    rw [zi (l fun h=>by have:=hrng h;omega),zi (l fun h=>by have:=hrng h;omega),zi (fun _=>qi (by omega))]
    have J:(((decide (1<(n:Int)))&&(decide (ed m s i≠ -1)))&&(decide ((↑(ix f (i2 (ed m s i) (ed m t i))).length:Int)=((n:Int)-1))))=z1h m g n s t i:=by
     unfold z1h
     by_cases j:ed m s i= -1
     ·rw [show decide (ed m s i≠ -1)=false from decide_eq_false (fun h=>h j),Bool.and_false,Bool.and_false,Bool.false_and,Bool.false_and]
     ·obtain⟨⟨u,K⟩,v,L⟩:=hrng j
      have e:ix f (i2 (ed m s i) (ed m t i))=g (ed m s i).toNat (ed m t i).toNat:=by
       rw [←w.get _ _ (by omega) (by omega),Int.toNat_of_nonneg u,Int.toNat_of_nonneg v]
      rw [e]
      congr 1
      ·congr 1
       exact decide_eq_decide.2 (by omega)
      ·exact decide_eq_decide.2 (by omega)
    rw [J]
    cases M:z1h m g n s t i
    ·rw [cf rfl,zi (qi (by omega)),if_neg (by decide)]
     exact ih (i+1) F (by omega) (by omega)
    ·have hc':=M
     unfold z1h at hc'
     simp only [Bool.and_eq_true,decide_eq_true_eq] at hc'
     obtain⟨⟨u,K⟩,v,L⟩:=hrng hc'.1.2
     have e:ix f (i2 (ed m s i) (ed m t i))=g (ed m s i).toNat (ed m t i).toNat:=by
      rw [←w.get _ _ (by omega) (by omega),Int.toNat_of_nonneg u,Int.toNat_of_nonneg v]
     rw [ct rfl,zi (by omega),zi (by omega),e,q8 (zhn (by omega) (by simp) (by have:=y (ed m s i).toNat (ed m t i).toNat (by omega) (by omega);omega)),if_pos rfl]
     rfl
   ·rw [xw ho,if_pos ho]
 unfold gu
 refine(q8 (x:=z9j m g n s t m.inputs.toNat 0) ?_).trans ?_
 ·rw [zi (j5 o)]
  exact key m.inputs.toNat 0 N (by omega) (by omega)
 ·unfold za2
  by_cases h:(z9j m g n s t m.inputs.toNat 0).length=n
  ·rw [yj (fun O=>O (by omega)),if_pos h,q8 zh8,zi (by omega)]
  ·rw [xw (by omega),if_neg h]
theorem zmx{X:List (List Int)}{i j:Nat}{w:List Int}(hi:i<X.length):ix (up X (i:Int) w) (j:Int)=if i=j then w else ix X (j:Int):=by
 rw [z3p,dx,dx,List.getD_eq_getElem?_getD,List.getElem?_set]
 by_cases e:i=j
 ·subst e;rw [if_pos rfl,if_pos hi,if_pos rfl];rfl
 ·rw [if_neg e,if_neg e,←List.getD_eq_getElem?_getD]
theorem put_eq{s t:Nat}{w:List Int}(c:f.length=4096)(g:s<64)(h:t<64)(e:w≠[]):
 ∃ f',ma N (s:Int) (t:Int) w f=some f'∧f'.length=4096∧ ∀ a b:Nat,a<64→b<64→ix f' (i2 (a:Int) (b:Int))=if(a=s∧b=t)∨(a=t∧b=s) then w else ix f (i2 (a:Int) (b:Int)):=by
 have d:=List.length_pos_iff.2 e
 refine⟨up (up f (i2 s t) w) (i2 t s) w,?_,?_,fun a b i j=>?_⟩
 ·unfold ma
  rw [zi (by omega),zi (by omega),zi d,zi (by omega),zi (by omega),zi d]
 ·simp only [up,List.length_set,c]
 ·rw [zc3,zc3,zc3,zmx (by simp only [up,List.length_set,c];omega),zmx (by omega)]
  by_cases h1:a=t∧b=s
  ·rw [if_pos (by omega),if_pos (.inr h1)]
  ·rw [if_neg (by omega)]
   by_cases h2:a=s∧b=t
   ·rw [if_pos (by omega),if_pos (.inl h2)]
   ·rw [if_neg (by omega),if_neg (by omega)]
theorem zhj{σ:Type}(f:MOk m)(B:(Int×Int)→σ→Option (Bool×σ))(inv:Nat→Nat→σ→Prop){s:Nat}
 (hstep: ∀ t st,s<t→t<m.rows.length→inv s t st→ ∃ st',B ((s:Int),(t:Int)) st=some (true,st')∧inv s (t+1) st'): ∀ F t st,s<t→t≤m.rows.length→m.rows.length-t<F→inv s t st→
  ∃ st',yz N σ B m (s:Int) F st (t:Int)=some (Ex.go st')∧inv s m.rows.length st':=by
 have g:=f.r2
 intro F
 induction F with
 |zero=>intro t st d h i;omega
 |succ F ih=>
  intro t st d h i hi
  simp only [yz]
  by_cases e:t=m.rows.length
  ·rw [yj (by omega)]
   subst e
   exact⟨st,rfl,hi⟩
  ·obtain⟨st',j,hi'⟩:=hstep t st d (by omega) hi
   obtain⟨a,b,c⟩:=ih (t+1) st' (by omega) (by omega) (by omega) hi'
   refine⟨a,?_,c⟩
   rw [xw (by omega),q8 j]
   rw [Bool.not_true,cond_false,zi (qi (by omega)),zet]
   exact b
theorem zbh{σ:Type}(f:MOk m)(l:200≤N)(B:(Int×Int)→σ→Option (Bool×σ))(inv:Nat→Nat→σ→Prop)
 (hstep: ∀ s t st,s<t→t<m.rows.length→inv s t st→ ∃ st',B ((s:Int),(t:Int)) st=some (true,st')∧inv s (t+1) st')
 (hrow: ∀ s st,s<m.rows.length→inv s m.rows.length st→inv (s+1) (s+2) st) (a:σ) (g:inv 0 1 a):
 ∃ st,mf N m σ B a=some st∧inv m.rows.length (m.rows.length+1) st:=by
 have h:=f.r2
 have outer: ∀ F s st,s≤m.rows.length→m.rows.length-s<F→inv s (s+1) st→ ∃ st',yx N σ B m F st (s:Int)=some st'∧inv m.rows.length (m.rows.length+1) st':=by
  intro F
  induction F with
  |zero=>intro s st i j;omega
  |succ F ih=>
   intro s st i j hi
   simp only [yx]
   by_cases e:s=m.rows.length
   ·rw [yj (by omega)]
    subst e
    exact⟨st,rfl,hi⟩
   ·obtain⟨st',k,hi'⟩:=zhj (N:=N) f B inv (fun t st=>hstep s t st) N (s+1) st (by omega) (by omega) (by omega) hi
    obtain⟨b,c,d⟩:=ih (s+1) st' (by omega) (by omega) (hrow s st' (by omega) hi')
    refine⟨b,?_,d⟩
    rw [xw (by omega),zi (qi (by omega)),zet,q8 k,zln,zi (qi (by omega))]
    exact c
 exact outer N 0 a (Nat.zero_le _) (by omega) g
structure NowI (m:Mach) (k s t:Nat) (L:List Sa):Prop where
 le:L.length≤64*s+t
 mem: ∀ p∈L,∃ a b,a<b∧b<m.rows.length∧sw m k a b=[]∧za2 m (sw m k) (k+1) a b≠[]∧p=⟨(a:Int),(b:Int),za2 m (sw m k) (k+1) a b,false⟩
 all: ∀ a b,a<b→b<m.rows.length→(a<s∨(a=s∧b<t))→sw m k a b=[]→za2 m (sw m k) (k+1) a b≠[]→ ∃ p∈L,p.fH=(a:Int)∧p.fI=(b:Int)
theorem zg0(c:MOk m){k a b:Nat}(g:k≤64)(d:a<m.rows.length)(f:b<m.rows.length):(sw m k a b).length≤100:=by
 by_cases e:sw m k a b=[]
 ·rw [e];simp
 ·have:=((z8g c k d f).some e).2;omega
def zlp(N:Nat)(m:Mach)(f:List (List Int))(n:Int)(a:Int×Int)(b:List Sa):Option (Bool×List Sa):=
 gd ((0:Int)≤a.1∧a.1<(64:Nat))<|
 gd ((0:Int)≤a.2∧a.2<(64:Nat))<|
 bif !(ix f (i2 a.1 a.2)).isEmpty then(
 some (true,b)) else(
 bd (gu N m a.1 a.2 n f) fun c=>
 bif !c.isEmpty then(
 gd (fits 48 b ([(⟨a.1,a.2,c,false⟩:Sa)]:List Sa))<|
 some (true,(b++([(⟨a.1,a.2,c,false⟩:Sa)]:List Sa)))) else(
 some (true,b)))
theorem zli(n:MOk m)(x:5000≤N){k:Nat}(D:k<64)(v:TabR m.rows.length f (sw m k)){s t:Nat}(o:s<t)(q:t<m.rows.length){st:List Sa}(hi:NowI m k s t st):
 ∃ st',zlp N m f ((k+1:Nat):Int) ((s:Int),(t:Int)) st=some (true,st')∧NowI m k s (t+1) st':=by
 have y:=n.r2
 have w:s<m.rows.length:=by omega
 have hnew: ∀ a b,a<b→b<m.rows.length→(a<s∨(a=s∧b<t+1))→(a<s∨(a=s∧b<t))∨(a=s∧b=t):=fun a b _ _ h=>by omega
 have z:=hi.le
 unfold zlp
 dsimp only
 rw [zi (by omega),zi (by omega),v.get s t w q]
 cases r:(sw m k s t).isEmpty
 ·refine⟨st,by rw [Bool.not_false];rfl,⟨by omega,hi.mem,fun a b c d l i j=>?_⟩⟩
  rcases hnew a b c d l with h|⟨rfl,rfl⟩
  ·exact hi.all a b c d h i j
  ·rw [i] at r;cases r
 ·have he':sw m k s t=[]:=List.isEmpty_iff.1 r
  rw [Bool.not_true,cond_false,q8 (zm5 n x v (fun a b A B=>zg0 n (by omega) A B) w q (by omega) (by omega))]
  cases u:(za2 m (sw m k) (k+1) s t).isEmpty
  ·have hw':za2 m (sw m k) (k+1) s t≠[]:=fun e=>by rw [e] at u;cases u
   rw [Bool.not_false,cond_true,zi ⟨by simp;omega,by simp;omega⟩]
   refine⟨_,rfl,⟨by simp;omega,fun p g=>?_,fun a b c d l i j=>?_⟩⟩
   ·rcases List.mem_append.1 g with g|g
    ·exact hi.mem p g
    ·exact⟨s,t,o,q,he',hw',List.mem_singleton.1 g⟩
   ·rcases hnew a b c d l with h|⟨rfl,rfl⟩
    ·obtain⟨p,g,C⟩:=hi.all a b c d h i j
     exact⟨p,List.mem_append_left _ g,C⟩
    ·exact⟨_,List.mem_append_right _ (List.mem_singleton.2 rfl),rfl,rfl⟩
  ·refine⟨st,by rw [Bool.not_true];rfl,⟨by omega,hi.mem,fun a b c d l i j=>?_⟩⟩
   rcases hnew a b c d l with h|⟨rfl,rfl⟩
   ·exact hi.all a b c d h i j
   ·exact absurd (List.isEmpty_iff.1 u) j
theorem round_eq(n:MOk m)(S:5000≤N){k:Nat}(T:k<64)(y:TabR m.rows.length f (sw m k)):
 ∃ f',(bd (mq N m) fun z=>bd (mf N z (List Sa) (zlp N m f ((k+1:Nat):Int)) []) fun A=>w9 N A N 0 f)=some f'∧TabR m.rows.length f' (sw m (k+1)):=by
 have U:=n.r2
 obtain⟨L,V,w⟩:=zbh (N:=N) n (by omega) (zlp N m f ((k+1:Nat):Int)) (NowI m k) (fun s t st B W hi=>zli n S T y B W hi)
  (fun s st hs hi=>⟨by have:=hi.le;omega,hi.mem,fun a b i l g u X=>hi.all a b i l (by omega) u X⟩) [] ⟨by simp,fun p C=>(by cases C),fun a b i l g=>by omega⟩
 have hswn: ∀ a b,a<b→b<m.rows.length→sw m k a b=[]→sw m (k+1) a b=za2 m (sw m k) (k+1) a b:=fun a b i l g=>by
  conv=>lhs;unfold sw
  rw [if_pos g]
 have hput: ∀ F j f',j≤L.length→L.length-j<F→f'.length=4096→(∀ a b,a<m.rows.length→b<m.rows.length→ix f' (i2 (a:Int) (b:Int))=sw m (k+1) a b∨
  (ix f' (i2 (a:Int) (b:Int))=sw m k a b∧ ∀ q,q<j→ ¬(((L.getD q default).fH=(a:Int)∧(L.getD q default).fI=(b:Int))∨((L.getD q default).fH=(b:Int)∧(L.getD q default).fI=(a:Int)))))→
  ∃ f'',w9 N L F (j:Int) f'=some f''∧f''.length=4096∧ ∀ a b,a<m.rows.length→b<m.rows.length→ix f'' (i2 (a:Int) (b:Int))=sw m (k+1) a b∨
   (ix f'' (i2 (a:Int) (b:Int))=sw m k a b∧ ∀ q,q<L.length→ ¬(((L.getD q default).fH=(a:Int)∧(L.getD q default).fI=(b:Int))∨((L.getD q default).fH=(b:Int)∧(L.getD q default).fI=(a:Int)))):=by
  intro F
  induction F with
  |zero=>intro j f' i l;omega
  |succ F ih=>
   intro j f' i l g u
   simp only [w9]
   by_cases e:j=L.length
   ·subst e
    rw [yj (by omega)]
    exact⟨f',rfl,g,u⟩
   ·have J:j<L.length:=by omega
    obtain⟨a,b,K,M,O,Y,P⟩:=w.mem (L.getD j default) (lg J)
    have Z:=w.le
    rw [xw (by omega),zi (j5 J),dx,P]
    obtain⟨f2,r1,r2,r3⟩:=put_eq (N:=N) (f:=f') (s:=a) (t:=b) g (by omega) (by omega) Y
    rw [q8 r1,zi (qi (by omega))]
    refine ih (j+1) f2 (by omega) (by omega) r2 fun c d Q R=>?_
    rw [r3 c d (by omega) (by omega)]
    by_cases hm1:(c=a∧d=b)∨(c=b∧d=a)
    ·rw [if_pos hm1]
     left
     rcases hm1 with⟨rfl,rfl⟩|⟨rfl,rfl⟩
     ·exact(hswn _ _ K M O).symm
     ·rw [z8y n _ Q R];exact(hswn _ _ K M O).symm
    ·rw [if_neg hm1]
     rcases u c d Q R with h|⟨h,h'⟩
     ·exact .inl h
     ·refine .inr ⟨h,fun q x D=>?_⟩
      by_cases e2:q=j
      ·subst e2
       rw [P] at D
       simp only at D
       omega
      ·exact h' q (by omega) D
 obtain⟨f',E,G,H⟩:=hput N 0 f (Nat.zero_le _) (by have:=w.le;omega) y.len fun a b o r=> .inr ⟨y.get a b o r,fun q x=>by omega⟩
 refine⟨f',?_,G,fun a b o r=>?_⟩
 ·rw [q8 (show mq N m=some m from rfl),q8 V];exact E
 ·rcases H a b o r with h|⟨h,h'⟩
  ·exact h
  ·rw [h]
   by_cases e:sw m k a b=[]
   ·rw [e]
    have one: ∀ c d,c<d→d<m.rows.length→sw m k c d=[]→((c=a∧d=b)∨(c=b∧d=a))→sw m (k+1) c d=[]:=fun c d i l g u=>by
     rw [hswn c d i l g]
     refine Classical.byContradiction fun I=>?_
     obtain⟨p,C,p1,p2⟩:=w.all c d i l (.inl (by omega)) g I
     obtain⟨q,x,rfl⟩:=List.mem_iff_getElem.1 C
     refine h' q x ?_
     have eq:L.getD q default=L[q]:=by simp [List.getD_eq_getElem?_getD,x]
     rw [eq,p1,p2]
     omega
    rcases Nat.lt_trichotomy a b with v|v|v
    ·exact(one a b v r e (.inl ⟨rfl,rfl⟩)).symm
    ·subst v;exact(zh2 n _ o).symm
    ·rw [z8y n _ o r]
     exact(one b a v o (by rw [z8y n _ r o];exact e) (.inr ⟨rfl,rfl⟩)).symm
   ·conv=>rhs;unfold sw
    rw [if_neg e]
def iq(m:Mach):Nat:=max m.rows.length 2-1
theorem zce(d:MOk m)(j:5000≤N): ∃ f,il N m=some f∧TabR m.rows.length f (sw m (iq m)):=by
 have l:=d.r1;have n:=d.r2
 have key: ∀ F k f,k≤iq m→iq m-k<F→TabR m.rows.length f (sw m k)→ ∃ f',yc N m F ((k+1:Nat):Int) f=some f'∧TabR m.rows.length f' (sw m (iq m)):=by
  intro F
  induction F with
  |zero=>intro k f o p;omega
  |succ F ih=>
   intro k f o p i
   simp only [yc]
   by_cases e:k=iq m
   ·subst e
    rw [yj (by unfold iq;omega)]
    exact⟨f,rfl,i⟩
   ·obtain⟨f',c,hf'⟩:=round_eq (N:=N) d j (k:=k) (by unfold iq at*;omega) i
    rw [xw (by unfold iq at*;omega)]
    obtain⟨q,g,h⟩:=ih (k+1) f' (by omega) (by omega) hf'
    refine⟨q,(q8 (x:=f') c).trans ?_,h⟩
    rw [zi (qi (by unfold iq at*;omega))]
    exact g
 obtain⟨f',c,hf'⟩:=key N 0 (List.replicate 4096 []) (Nat.zero_le _) (by unfold iq;omega) ⟨List.length_replicate,fun a b r c=>by
  rw [zc3,dx,List.getD_eq_getElem?_getD,List.getElem?_replicate]
  split<;>rfl⟩
 exact⟨f',(q8 c).trans rfl,hf'⟩
end
end GV
end Go.Proofs.YtkkcidhcfkmbjaaGreatDoor
