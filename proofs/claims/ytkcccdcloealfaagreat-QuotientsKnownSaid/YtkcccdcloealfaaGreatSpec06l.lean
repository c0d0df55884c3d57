import Derived.Test.YtkcccdcloealfaaGreatSpec06e
import Derived.Test.YtkcccdcloealfaaGreatLives06
set_option linter.unusedVariables false
set_option linter.unusedSimpArgs false
namespace Go.Proofs.YtkcccdcloealfaaGreat
namespace GV
set_option maxRecDepth 100000
structure CDOk (x:Sc):Prop where
 st:0≤x.fD∧x.fD≤255
 ins:0≤x.fA∧x.fA≤255
 outs:0≤x.fB∧x.fB≤255
 tr: ∀ k,k<x.fE.length→0≤x.fE.getD k default∧x.fE.getD k default≤255
 ed: ∀ k,k<x.fG.length→0≤x.fG.getD k default∧x.fG.getD k default≤65535
structure CMach (m:Mach):Prop where
 ok:MOk m
 rows:m.rows.length≤6
 ins:m.inputs≤3
 outs:m.outputs≤3
 full: ∀ s i,s<m.rows.length→i<(m.rows.getD s default).length→0≤((m.rows.getD s default).getD i default).to
 tree: ∀ t,0<t→t<m.rows.length→ ∃ a i,a<t∧i<(m.rows.getD a default).length∧((m.rows.getD a default).getD i default).to=(t:Int)
def cel(X:List (List Edge))(a i:Nat):Edge:=(X.getD a default).getD i default
structure CSh (n I:Nat) (O:Int) (X:List (List Edge)):Prop where
 len:X.length=n
 row: ∀ a,a<n→(X.getD a default).length=I
 out: ∀ a i,a<n→i<I→0≤(cel X a i).out∧(cel X a i).out<O
theorem zio{α:Type}[Inhabited α]{X:List α}{a b:Nat}{e:α}(c:a<X.length):(X.set a e).getD b default=if b=a then e else X.getD b default:=by
 simp only [List.getD_eq_getElem?_getD,List.getElem?_set]
 by_cases h:a=b
 ·subst h;simp [c]
 ·rw [if_neg h,if_neg (fun e=>h e.symm)]
def zrx(X:List (List Edge))(a i:Nat)(e:Edge):List (List Edge):=X.set a ((X.getD a default).set i e)
theorem zkl{n I:Nat}{O:Int}{X:List (List Edge)}(h:CSh n I O X){a i:Nat}{e:Edge}(c:a<n)(hi:i<I)(b j:Nat):cel (zrx X a i e) b j=if b=a∧j=i then e else cel X b j:=by
 unfold cel zrx
 rw [zio (by rw [h.len];exact c)]
 by_cases hb:b=a
 ·subst hb
  rw [if_pos rfl,zio (by rw [h.row b c];exact hi)]
  by_cases hj:j=i
  ·rw [if_pos hj,if_pos ⟨rfl,hj⟩]
  ·rw [if_neg hj,if_neg (fun k=>hj k.2)]
 ·rw [if_neg hb,if_neg (fun k=>hb k.1)]
theorem zrn{n I:Nat}{O:Int}{X:List (List Edge)}(h:CSh n I O X){a i:Nat}{e:Edge}(c:a<n)(hi:i<I)(f:0≤e.out∧e.out<O):CSh n I O (zrx X a i e):=by
 refine⟨by unfold zrx;rw [List.length_set];exact h.len,fun b d=>?_,fun b j d g=>?_⟩
 ·unfold zrx
  rw [zio (by rw [h.len];exact c)]
  by_cases hba:b=a
  ·rw [if_pos hba,List.length_set];exact h.row a c
  ·rw [if_neg hba];exact h.row b d
 ·rw [zkl h c hi]
  split
  ·exact f
  ·exact h.out b j d g
theorem number_eq{N:Nat}{l:List Int}(a: ∀ k,k<l.length→0≤l.getD k default∧l.getD k default≤65535)(k:Nat): ∃ v,z11 N l (k:Int)=some v∧0≤v∧v≤65535:=by
 unfold z11
 by_cases h:k<l.length
 ·have:=a k h
  exact⟨l.getD k default,by rw [yf (by omega),zk (qo h),zk (show in64 (ix l (k:Int)) from qy (show-4611686018427387904≤l.getD k default∧l.getD k default≤4611686018427387904 by omega))];rfl,this⟩
 ·exact⟨0,by rw [uw (by omega)],by omega⟩
section cof
variable {N : Nat} {x : Sc} {n I : Nat} {O : Int}
theorem zjx(a b:Nat):(a:Int)*(b:Int)=((a*b:Nat):Int):=(Int.natCast_mul a b).symm
theorem q8n(c:CDOk x)(q:200≤N)(d:(1:Int)+x.fD%6=n)(hI:(1:Int)+x.fA%3=I)(e:(1:Int)+x.fB%3=O)(t:1≤n)(f:I≤3)(g:1≤O){s:Nat}(u:s<6):
 ∃ r,tu N x (s:Int) N [] 0=some r∧r.length=I∧ ∀ j,j<I→(r.getD j default).to= -1∧0≤(r.getD j default).out∧(r.getD j default).out<O:=by
 refine z3c (fun F k (acc:List Edge)=>tu N x (s:Int) F acc (k:Int)) I (fun k acc=>acc.length=k∧ ∀ j,j<k→(acc.getD j default).to= -1∧0≤(acc.getD j default).out∧(acc.getD j default).out<O) _ (fun F k acc w hi=> .inr ?_) (fun F acc hi=>?_) N 0 [] (Nat.zero_le _) (by omega) ⟨rfl,fun j h=>by omega⟩
 ·obtain⟨v,i,a,l⟩:=number_eq (N:=N) c.ed (s*I+k)
  have m:s*I≤6*3:=Nat.mul_le_mul (by omega) f
  have o:0≤v/(n:Int):=Int.ediv_nonneg a (by omega)
  have p:=Int.emod_nonneg (v/(n:Int)) (show O≠0 by omega)
  have b:=Int.emod_lt_of_pos (v/(n:Int)) (show 0<O by omega)
  refine⟨acc++[(⟨-1,v/(n:Int)%O⟩:Edge)],⟨by simp [hi.1],fun j h=>?_⟩,?_⟩
  ·by_cases hjk:j<k
   ·rw [List.getD_eq_getElem?_getD,List.getElem?_append_left (by omega),←List.getD_eq_getElem?_getD];exact hi.2 j hjk
   ·have:j=acc.length:=by omega
    subst this
    rw [List.getD_eq_getElem?_getD,List.getElem?_concat_length]
    exact⟨rfl,p,b⟩
  ·simp only [tu]
   rw [hI,d,e,yf (by omega),zjx,zk (qy (by omega)),show ((s*I:Nat):Int)+(k:Int)=((s*I+k:Nat):Int) from rfl,zk (qy (by omega)),zx i,zk ⟨a,by omega,by omega⟩,zk ⟨o,g⟩,zk ⟨by simp only [List.length_singleton];omega,by simp only [List.length_singleton];omega⟩,zk (qy (by omega))]
   rfl
 ·simp only [tu]
  rw [hI,uw (by omega)]
  exact⟨_,rfl,hi⟩
theorem q6b(f:CDOk x)(g:200≤N)(c:(1:Int)+x.fD%6=n)(hI:(1:Int)+x.fA%3=I)(h:(1:Int)+x.fB%3=O)(m:1≤n)(v:n≤6)(o:I≤3)(p:1≤O):
 ∃ X,cu N x N 0 []=some X∧CSh n I O X∧ ∀ a i,a<n→i<I→(cel X a i).to= -1:=by
 obtain⟨X,q,t,d⟩: ∃ X,cu N x N 0 []=some X∧X.length=n∧ ∀ a,a<n→(X.getD a default).length=I∧ ∀ j,j<I→((X.getD a default).getD j default).to= -1∧0≤((X.getD a default).getD j default).out∧((X.getD a default).getD j default).out<O:=by
  refine z3c (fun F k (acc:List (List Edge))=>cu N x F (k:Int) acc) n (fun k acc=>acc.length=k∧ ∀ a,a<k→(acc.getD a default).length=I∧ ∀ j,j<I→((acc.getD a default).getD j default).to= -1∧0≤((acc.getD a default).getD j default).out∧((acc.getD a default).getD j default).out<O) _ (fun F k acc w hi=> .inr ?_) (fun F acc hi=>?_) N 0 [] (Nat.zero_le _) (by omega) ⟨rfl,fun j y=>by omega⟩
  ·obtain⟨r,u,e⟩:=q8n (N:=N) (s:=k) f g c hI h m o p (by omega)
   refine⟨acc++[r],⟨by simp [hi.1],fun a b=>?_⟩,?_⟩
   ·by_cases hjk:a<k
    ·rw [List.getD_eq_getElem?_getD (l:=acc++[r]),List.getElem?_append_left (by omega),←List.getD_eq_getElem?_getD];exact hi.2 a hjk
    ·have:a=acc.length:=by omega
     subst this
     rw [List.getD_eq_getElem?_getD (l:=acc++[r]),List.getElem?_concat_length]
     exact e
   ·simp only [cu]
    rw [c,yf (by omega),zx u,zk ⟨by simp only [List.length_singleton];omega,by simp only [List.length_singleton];omega⟩,zk (qy (by omega))]
    rfl
  ·simp only [cu]
   rw [c,uw (by omega)]
   exact⟨_,rfl,hi⟩
 exact⟨X,q,⟨t,fun a b=>(d a b).1,fun a i b hi=>((d a b).2 i hi).2⟩,fun a i b hi=>((d a b).2 i hi).1⟩
theorem q6c(t:200≤N){X:List (List Edge)}(hI:(1:Int)+x.fA%3=I)(h:CSh n I O X)(u:1≤I)(i:I≤3)(v:n≤6){s:Nat}(w:s<n):
 ∃ l,xg N x (s:Int) X N [] 0=some l∧(∀ z∈l,∃ k:Nat,z=(k:Int)∧k<s*I∧(cel X (k/I) (k%I)).to<0)∧(∀ k:Nat,k<s*I→(cel X (k/I) (k%I)).to<0→((k:Nat):Int)∈l)∧l.length≤s*I:=by
 have m:s*I≤6*3:=Nat.mul_le_mul (by omega) i
 have hrows: ∀ k,k<s*I→k/I<n∧k%I<I:=fun k c=>⟨Nat.lt_of_lt_of_le (Nat.div_lt_of_lt_mul (by rw [Nat.mul_comm];exact c)) (by omega),Nat.mod_lt _ (by omega)⟩
 refine z3c (fun F k (acc:List Int)=>xg N x (s:Int) X F acc (k:Int)) (s*I) (fun k acc=>(∀ z∈acc,∃ k:Nat,z=(k:Int)∧k<s*I∧(cel X (k/I) (k%I)).to<0)∧(∀ j:Nat,j<k→(cel X (j/I) (j%I)).to<0→((j:Nat):Int)∈acc)∧acc.length≤k) _ (fun F k acc c hi=> .inr ?_) (fun F acc hi=>?_) N 0 [] (Nat.zero_le _) (by omega) ⟨fun z b=>by simp at b,fun j d=>by omega,by simp⟩
 ·obtain⟨f,o⟩:=hrows k c
  have p:(k:Int)/(I:Int)=((k/I:Nat):Int):=rfl
  have q:(k:Int)%(I:Int)=((k%I:Nat):Int):=rfl
  have r: ∀ (y:List Int),y=(if(cel X (k/I) (k%I)).to<0 then acc++[((k:Nat):Int)] else acc)→
   xg N x (s:Int) X (F+1) acc (k:Int)=xg N x (s:Int) X F y ((k+1:Nat):Int):=fun y g=>by
   simp only [xg]
   rw [hI,zjx,zk (qy (by omega)),yf (by omega),p,q]
   refine(zx (x:=y) ?_).trans (by rw [zk (qy (by omega))];rfl)
   rw [zk ⟨by omega,by omega,by omega⟩,zk (qo (by rw [h.len];exact f)),zk ⟨by omega,by omega⟩,z0a,zk (qo (by rw [h.row _ f];exact o)),z0a]
   show (bif decide ((cel X (k/I) (k%I)).to<0) then _ else _)=_
   by_cases hc:(cel X (k/I) (k%I)).to<0
   ·rw [yf hc,g,if_pos hc]
    exact zk ⟨by simp only [List.length_singleton];omega,by simp only [List.length_singleton];omega⟩
   ·rw [uw hc,g,if_neg hc]
  refine⟨_,?_,r _ rfl⟩
  by_cases hc:(cel X (k/I) (k%I)).to<0
  ·rw [if_pos hc]
   refine⟨fun z b=>?_,fun j d a=>?_,by simp;omega⟩
   ·rcases List.mem_append.1 b with b|b
    ·exact hi.1 z b
    ·rw [List.mem_singleton] at b
     exact⟨k,b,c,hc⟩
   ·by_cases e:j=k
    ·subst e;simp
    ·exact List.mem_append_left _ (hi.2.1 j (by omega) a)
  ·rw [if_neg hc]
   refine⟨hi.1,fun j d a=>?_,by omega⟩
   by_cases e:j=k
   ·subst e;exact absurd a hc
   ·exact hi.2.1 j (by omega) a
 ·simp only [xg]
  rw [hI,zjx,zk (qy (by omega)),uw (by omega)]
  exact⟨_,rfl,hi⟩
structure CTree (n I:Nat) (O:Int) (s:Nat) (X:List (List Edge)):Prop where
 sh:CSh n I O X
 rng: ∀ a i,a<n→i<I→(cel X a i).to= -1∨(0≤(cel X a i).to∧(cel X a i).to<n)
 late: ∀ a i,s≤a+1→a<n→i<I→(cel X a i).to= -1
 tree: ∀ t,0<t→t<s→ ∃ a i,a<t∧i<I∧(cel X a i).to=(t:Int)
theorem zsl{s:Nat}{X:List (List Edge)}(h:CTree n I O s X)(m:0<s)(o:s<n){a i:Nat}(k:a<s)(hi:i<I)(p:(cel X a i).to<0):CTree n I O (s+1) (zrx X a i ⟨(s:Int),(cel X a i).out⟩):=by
 have cs:=fun b j=>zkl h.sh (e:=⟨(s:Int),(cel X a i).out⟩) (show a<n by omega) hi b j
 refine⟨zrn h.sh (by omega) hi (h.sh.out a i (by omega) hi),fun b j c d=>?_,fun b j l c d=>?_,fun t f q=>?_⟩
 ·rw [cs]
  split
  ·exact .inr ⟨by simp,by simp;omega⟩
  ·exact h.rng b j c d
 ·rw [cs,if_neg (fun e=>by omega)]
  exact h.late b j (by omega) c d
 ·by_cases e:t=s
  ·subst e
   exact⟨a,i,k,hi,by rw [cs,if_pos ⟨rfl,rfl⟩]⟩
  ·obtain⟨b,j,c,d,g⟩:=h.tree t f (by omega)
   refine⟨b,j,c,d,?_⟩
   rw [cs,if_neg]
   ·exact g
   ·rintro⟨rfl,rfl⟩;omega
theorem q4y(v:CDOk x)(w:200≤N){X:List (List Edge)}(p:(1:Int)+x.fD%6=n)(hI:(1:Int)+x.fA%3=I)(z:1≤I)(r:I≤3)(A:1≤n)(B:n≤6)(h:CTree n I O 1 X):
 ∃ Y,o5 N x N 1 X=some Y∧CTree n I O n Y:=by
 refine z3c (fun F k (acc:List (List Edge))=>o5 N x F (k:Int) acc) n (fun k acc=>0<k∧CTree n I O k acc) _ (fun F s acc t hi=> .inr ?_) (fun F acc hi=>?_) N 1 X A (by omega) ⟨by omega,h⟩
 ·obtain⟨c,a⟩:=hi
  obtain⟨l,C,d,f,D⟩:=q6c (x:=x) w hI a.sh z r B t
  have E:s*I≤6*3:=Nat.mul_le_mul (by omega) r
  have hpos:0<l.length:=by
   have g:((s-1)*I)/I=s-1:=Nat.mul_div_cancel _ (by omega)
   have i:((s-1)*I)%I=0:=Nat.mul_mod_left _ _
   have:=f ((s-1)*I) (Nat.mul_lt_mul_of_pos_right (by omega) (by omega)) (by rw [g,i,a.late (s-1) 0 (by omega) (by omega) (by omega)];omega)
   exact List.length_pos_of_mem this
  obtain⟨q,hq,j⟩: ∃ q,q<l.length∧(bd (
   gd (in64 ((s:Int)-1))<|
   bif decide (((s:Int)-1)<(x.fE.length:Int)) then(
   gd (in64 ((s:Int)-1))<|
   gd (okI x.fE ((s:Int)-1))<|
   gd (in64 (ix x.fE ((s:Int)-1)))<|
   gd (okR (ix x.fE ((s:Int)-1)) (l.length:Int))<|
   gd (okI l ((ix x.fE ((s:Int)-1))%(l.length:Int)))<|
   some (ix l ((ix x.fE ((s:Int)-1))%(l.length:Int)))) else(
   some (ix l 0))) some)=some (l.getD q default):=by
   rw [zk (qy (by omega)),show (s:Int)-1=((s-1:Nat):Int) by omega]
   by_cases ht:s-1<x.fE.length
   ·have b:=v.tr _ ht
    refine⟨(x.fE.getD (s-1) default).toNat%l.length,Nat.mod_lt _ hpos,?_⟩
    have e:x.fE.getD (s-1) default%(l.length:Int)=(((x.fE.getD (s-1) default).toNat%l.length:Nat):Int):=by
     rw [Int.natCast_emod,Int.toNat_of_nonneg b.1]
    rw [yf (by omega),zk (qy (by omega)),zk (qo ht),z0a,zk (qy (by omega)),zk ⟨b.1,by omega⟩,e,zk (qo (Nat.mod_lt _ hpos))]
    rfl
   ·exact⟨0,hpos,by rw [uw (by omega)];rfl⟩
  obtain⟨k,G,m,o⟩:=d _ (z1t hq)
  have H:k/I<s:=Nat.div_lt_of_lt_mul (by rw [Nat.mul_comm];exact m)
  have u:k%I<I:=Nat.mod_lt _ (by omega)
  have g:(k:Int)/(I:Int)=((k/I:Nat):Int):=rfl
  have i:(k:Int)%(I:Int)=((k%I:Nat):Int):=rfl
  refine⟨zrx acc (k/I) (k%I) ⟨(s:Int),(cel acc (k/I) (k%I)).out⟩,⟨by omega,zsl a c t H u o⟩,?_⟩
  simp only [o5]
  rw [hI,p,yf (by omega),zx C,zk (show okI l 0 from⟨by omega,by omega⟩)]
  have hqe':=j
  rw [G] at hqe'
  refine(zx (x:=(k:Int)) ?_).trans ?_
  ·obtain⟨y,J,K⟩:=zm hqe'
   rw [J,←K]
  ·rw [g,i,zk ⟨by omega,by omega,by omega⟩,zk (qo (by rw [a.sh.len];omega)),zk ⟨by omega,by omega⟩,z0a,zk (qo (by rw [a.sh.row _ (by omega)];exact u)),zk (qy (by omega))]
   rfl
 ·simp only [o5]
  rw [p,uw (by omega)]
  exact⟨_,rfl,hi.2⟩
structure CFill (n I:Nat) (O:Int) (s k:Nat) (X:List (List Edge)):Prop where
 sh:CSh n I O X
 rng: ∀ a i,a<n→i<I→(cel X a i).to= -1∨(0≤(cel X a i).to∧(cel X a i).to<n)
 done: ∀ a i,a<n→i<I→(a<s∨(a=s∧i<k))→0≤(cel X a i).to
 tree: ∀ t,0<t→t<n→ ∃ a i,a<t∧i<I∧(cel X a i).to=(t:Int)
theorem zw9(y:CDOk x)(H:200≤N){X:List (List Edge)}(z:(1:Int)+x.fD%6=n)(hI:(1:Int)+x.fA%3=I)(A:I≤3)(J:1≤n)(K:n≤6){s:Nat}(g:s<n)(h:CFill n I O s 0 X):
 ∃ Y,xh N x (s:Int) N 0 X=some Y∧CFill n I O s I Y:=by
 have B:s*I≤6*3:=Nat.mul_le_mul (by omega) A
 refine z3c (fun F k (acc:List (List Edge))=>xh N x (s:Int) F (k:Int) acc) I (fun k acc=>CFill n I O s k acc) _ (fun F k acc i a=> .inr ?_) (fun F acc hi=>?_) N 0 X (Nat.zero_le _) (by omega) h
 ·obtain⟨v,C,l,D⟩:=number_eq (N:=N) y.ed (s*I+k)
  have q:=Int.emod_nonneg v (show (n:Int)≠0 by omega)
  have m:=Int.emod_lt_of_pos v (show 0<(n:Int) by omega)
  have E: ∀ Y,Y=(if(cel acc s k).to<0 then zrx acc s k ⟨v%(n:Int),(cel acc s k).out⟩ else acc)→xh N x (s:Int) (F+1) (k:Int) acc=xh N x (s:Int) F ((k+1:Nat):Int) Y:=fun Y r=>by
   simp only [xh]
   rw [hI,z,yf (by omega)]
   refine(zx (x:=Y) ?_).trans (by rw [zk (qy (by omega))];rfl)
   have u:okI acc (s:Int):=qo (by rw [a.sh.len];exact g)
   have w:okI (ix acc (s:Int)) (k:Int):=qo (show k<(acc.getD s default).length by rw [a.sh.row _ g];exact i)
   rw [zk u,zk w]
   show (bif decide ((cel acc s k).to<0) then _ else _)=_
   by_cases hc:(cel acc s k).to<0
   ·rw [yf hc,r,if_pos hc,zk u,zjx,zk (qy (by omega)),show ((s*I:Nat):Int)+(k:Int)=((s*I+k:Nat):Int) from rfl,zk (qy (by omega)),zx C,zk ⟨l,by omega⟩,zk w]
    rfl
   ·rw [uw hc,r,if_neg hc]
  refine⟨_,?_,E _ rfl⟩
  by_cases hc:(cel acc s k).to<0
  ·rw [if_pos hc]
   have cs:=fun b j=>zkl a.sh (e:=⟨v%(n:Int),(cel acc s k).out⟩) g i b j
   refine⟨zrn a.sh g i (a.sh.out s k g i),fun b j d f=>?_,fun b j d f c=>?_,fun t o G=>?_⟩
   ·rw [cs]
    split
    ·exact .inr ⟨q,m⟩
    ·exact a.rng b j d f
   ·rw [cs]
    split
    ·exact q
    ·rename_i hne
     exact a.done b j d f (by rcases c with c|⟨rfl,c⟩;exact .inl c;exact .inr ⟨rfl,by have: ¬j=k:=fun e=>hne ⟨rfl,e⟩;omega⟩)
   ·obtain⟨b,j,d,f,p⟩:=a.tree t o G
    refine⟨b,j,d,f,?_⟩
    rw [cs,if_neg]
    ·exact p
    ·rintro⟨rfl,rfl⟩;omega
  ·rw [if_neg hc]
   refine⟨a.sh,a.rng,fun b j d f c=>?_,a.tree⟩
   by_cases e:b=s∧j=k
   ·obtain⟨rfl,rfl⟩:=e;omega
   ·exact a.done b j d f (by rcases c with c|⟨rfl,c⟩;exact .inl c;exact .inr ⟨rfl,by have: ¬j=k:=fun e'=>e ⟨rfl,e'⟩;omega⟩)
 ·simp only [xh]
  rw [hI,uw (by omega)]
  exact⟨_,rfl,hi⟩
theorem q5k(e:CDOk x)(f:200≤N){X:List (List Edge)}(c:(1:Int)+x.fD%6=n)(hI:(1:Int)+x.fA%3=I)(g:I≤3)(j:1≤n)(l:n≤6)(h:CFill n I O 0 0 X):
 ∃ Y,ol N x N 0 X=some Y∧CFill n I O n 0 Y:=by
 refine z3c (fun F k (acc:List (List Edge))=>ol N x F (k:Int) acc) n (fun k acc=>CFill n I O k 0 acc) _ (fun F s acc m o=> .inr ?_) (fun F acc hi=>?_) N 0 X (Nat.zero_le _) (by omega) h
 ·obtain⟨Y,p,b⟩:=zw9 (N:=N) e f c hI g j l m o
  refine⟨Y,⟨b.sh,b.rng,fun a i q hi d=>b.done a i q hi (by rcases d with d|⟨_,d⟩;exact(Nat.lt_or_ge a s).imp id (fun _=>⟨by omega,hi⟩);omega),b.tree⟩,?_⟩
  simp only [ol]
  rw [c,yf (by omega),zx p,zk (qy (by omega))]
  rfl
 ·simp only [ol]
  rw [c,uw (by omega)]
  exact⟨_,rfl,hi⟩
end cof
theorem zvp{N:Nat}{x:Sc}(c:CDOk x)(f:200≤N): ∃ m,z0u N x=some m∧CMach m∧(m.rows.length:Int)=1+x.fD%6:=by
 obtain⟨r,C⟩:=c.st;obtain⟨D,E⟩:=c.ins;obtain⟨F,G⟩:=c.outs
 obtain⟨n,e⟩: ∃ n:Nat,(1:Int)+x.fD%6=n:=⟨((1:Int)+x.fD%6).toNat,by omega⟩
 obtain⟨I,hI⟩: ∃ n:Nat,(1:Int)+x.fA%3=n:=⟨((1:Int)+x.fA%3).toNat,by omega⟩
 obtain⟨O,o⟩: ∃ O:Int,(1:Int)+x.fB%3=O:=⟨_,rfl⟩
 have g:1≤n:=by omega
 have h:n≤6:=by omega
 have u:1≤I:=by omega
 have j:I≤3:=by omega
 have p:1≤O:=by omega
 have v:O≤3:=by omega
 obtain⟨X,w,sX,fX⟩:=q6b (N:=N) c f e hI o g h j p
 obtain⟨Y,y,tY⟩:=q4y (N:=N) (O:=O) c f e hI u j g h (X:=X) ⟨sX,fun a i d hi=> .inl (fX a i d hi),fun a i _ d hi=>fX a i d hi,fun t H r=>by omega⟩
 obtain⟨Z,z,tZ⟩:=q5k (N:=N) (O:=O) c f e hI j g h (X:=Y) ⟨tY.sh,tY.rng,fun a i d hi J=>by omega,tY.tree⟩
 refine⟨⟨(1:Int)+x.fA%3,(1:Int)+x.fB%3,Z⟩,?_,?_,by rw [e];exact congrArg Nat.cast tZ.sh.len⟩
 ·unfold z0u
  rw [zk ⟨by omega,by omega⟩,zk (qy (by omega)),zk (qy (by omega)),zk ⟨by omega,by omega⟩,zk (qy (by omega)),zk (qy (by omega)),zk ⟨by omega,by omega⟩,zk (qy (by omega)),zk (qy (by omega)),zx w,zx y,zx z]
 ·rw [hI,o]
  have hrow: ∀ s,s<Z.length→(Z.getD s default).length=I:=fun s b=>tZ.sh.row s (by rw [tZ.sh.len] at b;exact b)
  have hlen:=tZ.sh.len
  have hdone: ∀ s i,s<n→i<I→0≤(cel Z s i).to:=fun s i b hi=>tZ.done s i b hi (.inl b)
  refine⟨⟨by show 1≤(I:Int);omega,by show (I:Int)≤16;omega,p,by show O≤16;omega,by show 1≤Z.length;omega,by show Z.length≤64;omega,fun s b=>by rw [hrow s b],fun s i b hi=>?_⟩,by show Z.length≤6;omega,by show (I:Int)≤3;omega,v,fun s i b hi=>?_,fun t k A=>?_⟩
  ·have hs':s<Z.length:=b
   have hi':i<(Z.getD s default).length:=hi
   rw [hrow s hs'] at hi'
   rw [hlen] at hs'
   have B:=hdone s i hs' hi'
   have K:=tZ.rng s i hs' hi'
   have q:=tZ.sh.out s i hs' hi'
   exact .inr ⟨B,by show (cel Z s i).to<(Z.length:Int);omega,q.1,q.2⟩
  ·have hs':s<Z.length:=b
   have hi':i<(Z.getD s default).length:=hi
   rw [hrow s hs'] at hi'
   rw [hlen] at hs'
   exact hdone s i hs' hi'
  ·have ht':t<Z.length:=A
   obtain⟨a,i,d,hi,l⟩:=tZ.tree t k (by omega)
   exact⟨a,i,d,by show i<(Z.getD a default).length;rw [hrow a (by omega)];exact hi,l⟩
theorem q6f{N:Nat}{x:Sc}(a:CDOk x)(b:200≤N): ∃ m,z0u N x=some m∧CMach m:=by
 obtain⟨m,c,d,_⟩:=zvp a b
 exact⟨m,c,d⟩
theorem CMach.all{m:Mach}(h:CMach m): ∀ t,t<m.rows.length→ ∃ j,j<(rch m 0).length∧((rch m 0).getD j default).st=t:=by
 have c:=h.ok
 have b:=zge c (s0:=0) (by have:=c.r1;omega)
 generalize rch m 0=P at b⊢
 intro t
 induction t using Nat.strongRecOn with
 |ind t ih=>
  intro f
  by_cases h0:t=0
  ·subst h0;exact⟨0,b.pos,by rw [b.root]⟩
  ·obtain⟨a,i,g,hi,d⟩:=h.tree t (by omega) f
   obtain⟨q,k,e⟩:=ih a g (by omega)
   have hrow:=c.row a (by omega)
   have l:ed m (P.getD q default).st i=(t:Int):=by rw [e];exact d
   obtain⟨j,n,o,_⟩:=b.cls q i k (by omega) (by rw [l];omega)
   exact⟨j,n,by omega⟩
theorem zle{l:List Edge}(h: ∀ i,i<l.length→0≤(l.getD i default).to): ∀ k,k≤l.length→zhi l k=k
 |0,_=>zib l
 |k+1,a=>by rw [zi3 l k (by omega),zle h k (by omega),if_pos (h k (by omega))]
theorem CMach.compl{m:Mach}(h:CMach m):z8z m=true:=by
 have a:=h.ok
 have b:=a.i1
 have e: ∀ k,k≤m.rows.length→zcq m k=k*m.inputs.toNat:=by
  intro k
  induction k with
  |zero=>intro _;simp [zcq]
  |succ k ih=>
   intro c
   have hrow:=a.row k (by omega)
   rw [zcs m k (by omega),ih (by omega),zle (h.full k · (by omega)) _ (Nat.le_refl _),Nat.succ_mul]
   omega
 unfold z8z zvy
 rw [e _ (Nat.le_refl _),decide_eq_true]
 rw [Int.natCast_mul,Int.toNat_of_nonneg (by omega)]
end GV
end Go.Proofs.YtkcccdcloealfaaGreat
