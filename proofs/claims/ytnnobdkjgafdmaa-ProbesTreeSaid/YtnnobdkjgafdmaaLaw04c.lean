
import Derived.Test.YtnnobdkjgafdmaaSpec06g
set_option linter.unusedVariables false
set_option linter.unusedSimpArgs false
set_option linter.unusedSectionVars false
namespace Go.Proofs.Ytnnobdkjgafdmaa
namespace GV
set_option maxRecDepth 100000
structure Num (n:Nat) (L:List Nat):Prop where
 len:L.length=n
 rng: ∀ k,k<n→L.getD k 0<n
 inj: ∀ i j,i<n→j<n→L.getD i 0=L.getD j 0→i=j
 sur: ∀ s,s<n→ ∃ k,k<n∧L.getD k 0=s
 zero:L.getD 0 0=0
def tr(a b k:Nat):Nat:=if k=b then a else if k=a then b else k
section
variable {m : Mach} {L : List Nat}
end
end GV
end Go.Proofs.Ytnnobdkjgafdmaa

namespace Go.Proofs.Ytnnobdkjgafdmaa
namespace GV
set_option maxRecDepth 100000
theorem zla{P:List BE}{k:Nat}(a:k<P.length):ix (z4k P) (k:Int)=((P.getD k default).st:Int):=by
 rw [yn];unfold z4k
 rw [List.getD_eq_getElem?_getD,List.getElem?_map,List.getD_eq_getElem?_getD,List.getElem?_eq_getElem a];rfl
theorem q41(P:List BE):(z4k P).length=P.length:=by simp [z4k]
end GV
end Go.Proofs.Ytnnobdkjgafdmaa

namespace Go.Proofs.Ytnnobdkjgafdmaa
namespace GV
set_option maxRecDepth 100000
end GV
end Go.Proofs.Ytnnobdkjgafdmaa

namespace Go.Proofs.Ytnnobdkjgafdmaa
namespace GV
set_option maxRecDepth 100000
section
variable {N : Nat} {m : Mach}
end
end GV
end Go.Proofs.Ytnnobdkjgafdmaa

namespace Go.Proofs.Ytnnobdkjgafdmaa
namespace GV
set_option maxRecDepth 100000
structure CDOk (x:Sg):Prop where
 st:0≤x.fG∧x.fG≤255
 ins:0≤x.fD∧x.fD≤255
 outs:0≤x.fF∧x.fF≤255
 tr: ∀ k,k<x.fH.length→0≤x.fH.getD k default∧x.fH.getD k default≤255
 ed: ∀ k,k<x.fJ.length→0≤x.fJ.getD k default∧x.fJ.getD k default≤65535
structure CMach (m:Mach):Prop where
 ok:MOk m
 rows:m.rows.length≤6
 ins:m.inputs≤3
 outs:m.outputs≤3
 full: ∀ s i,s<m.rows.length→i<(m.rows.getD s default).length→0≤((m.rows.getD s default).getD i default).to
 tree: ∀ t,0<t→t<m.rows.length→ ∃ a i,a<t∧i<(m.rows.getD a default).length∧((m.rows.getD a default).getD i default).to=(t:Int)
def cel(X:List (List Edge))(a i:Nat):Edge:=(X.getD a default).getD i default
structure CSh (n I:Nat) (O:Int) (X:List (List Edge)):Prop where
 len:X.length=n
 row: ∀ a,a<n→(X.getD a default).length=I
 out: ∀ a i,a<n→i<I→0≤(cel X a i).out∧(cel X a i).out<O
theorem zj4{α:Type}[Inhabited α]{X:List α}{a b:Nat}{e:α}(c:a<X.length):(X.set a e).getD b default=if b=a then e else X.getD b default:=by
 simp only [List.getD_eq_getElem?_getD,List.getElem?_set]
 by_cases h:a=b
 ·subst h;simp [c]
 ·rw [if_neg h,if_neg (fun e=>h e.symm)]
def ztk(X:List (List Edge))(a i:Nat)(e:Edge):List (List Edge):=X.set a ((X.getD a default).set i e)
theorem zms{n I:Nat}{O:Int}{X:List (List Edge)}(h:CSh n I O X){a i:Nat}{e:Edge}(c:a<n)(hi:i<I)(b j:Nat):cel (ztk X a i e) b j=if b=a∧j=i then e else cel X b j:=by
 unfold cel ztk
 rw [zj4 (by rw [h.len];exact c)]
 by_cases hb:b=a
 ·subst hb
  rw [if_pos rfl,zj4 (by rw [h.row b c];exact hi)]
  by_cases hj:j=i
  ·rw [if_pos hj,if_pos ⟨rfl,hj⟩]
  ·rw [if_neg hj,if_neg (fun k=>hj k.2)]
 ·rw [if_neg hb,if_neg (fun k=>hb k.1)]
theorem zt2{n I:Nat}{O:Int}{X:List (List Edge)}(h:CSh n I O X){a i:Nat}{e:Edge}(c:a<n)(hi:i<I)(f:0≤e.out∧e.out<O):CSh n I O (ztk X a i e):=by
 refine⟨by unfold ztk;rw [List.length_set];exact h.len,fun b d=>?_,fun b j d g=>?_⟩
 ·unfold ztk
  rw [zj4 (by rw [h.len];exact c)]
  by_cases hba:b=a
  ·rw [if_pos hba,List.length_set];exact h.row a c
  ·rw [if_neg hba];exact h.row b d
 ·rw [zms h c hi]
  split
  ·exact f
  ·exact h.out b j d g
theorem number_eq{N:Nat}{l:List Int}(a: ∀ k,k<l.length→0≤l.getD k default∧l.getD k default≤65535)(k:Nat): ∃ v,z0k N l (k:Int)=some v∧0≤v∧v≤65535:=by
 unfold z0k
 by_cases h:k<l.length
 ·have:=a k h
  exact⟨l.getD k default,by rw [wu (by omega),ze (qy h),ze (show in64 (ix l (k:Int)) from qm (show-4611686018427387904≤l.getD k default∧l.getD k default≤4611686018427387904 by omega))];rfl,this⟩
 ·exact⟨0,by rw [um (by omega)],by omega⟩
section cof
variable {N : Nat} {x : Sg} {n I : Nat} {O : Int}
theorem zkz(a b:Nat):(a:Int)*(b:Int)=((a*b:Nat):Int):=(Int.natCast_mul a b).symm
theorem qau(c:CDOk x)(q:200≤N)(d:(1:Int)+x.fG%6=n)(hI:(1:Int)+x.fD%3=I)(e:(1:Int)+x.fF%3=O)(t:1≤n)(f:I≤3)(g:1≤O){s:Nat}(u:s<6):
 ∃ r,dn N x (s:Int) N [] 0=some r∧r.length=I∧ ∀ j,j<I→(r.getD j default).to= -1∧0≤(r.getD j default).out∧(r.getD j default).out<O:=by
 refine z4v (fun F k (acc:List Edge)=>dn N x (s:Int) F acc (k:Int)) I (fun k acc=>acc.length=k∧ ∀ j,j<k→(acc.getD j default).to= -1∧0≤(acc.getD j default).out∧(acc.getD j default).out<O) _ (fun F k acc w hi=> .inr ?_) (fun F acc hi=>?_) N 0 [] (Nat.zero_le _) (by omega) ⟨rfl,fun j h=>by omega⟩
 ·obtain⟨v,i,a,l⟩:=number_eq (N:=N) c.ed (s*I+k)
  have m:s*I≤6*3:=Nat.mul_le_mul (by omega) f
  have o:0≤v/(n:Int):=Int.ediv_nonneg a (by omega)
  have p:=Int.emod_nonneg (v/(n:Int)) (show O≠0 by omega)
  have b:=Int.emod_lt_of_pos (v/(n:Int)) (show 0<O by omega)
  refine⟨acc++[(⟨-1,v/(n:Int)%O⟩:Edge)],⟨by simp [hi.1],fun j h=>?_⟩,?_⟩
  ·by_cases hjk:j<k
   ·rw [List.getD_eq_getElem?_getD,List.getElem?_append_left (by omega),←List.getD_eq_getElem?_getD];exact hi.2 j hjk
   ·have:j=acc.length:=by omega
    subst this
    rw [List.getD_eq_getElem?_getD,List.getElem?_concat_length]
    exact⟨rfl,p,b⟩
  ·simp only [dn]
   rw [hI,d,e,wu (by omega),zkz,ze (qm (by omega)),show ((s*I:Nat):Int)+(k:Int)=((s*I+k:Nat):Int) from rfl,ze (qm (by omega)),qc i,ze ⟨a,by omega,by omega⟩,ze ⟨o,g⟩,ze ⟨by simp only [List.length_singleton];omega,by simp only [List.length_singleton];omega⟩,ze (qm (by omega))]
   rfl
 ·simp only [dn]
  rw [hI,um (by omega)]
  exact⟨_,rfl,hi⟩
theorem q8k(f:CDOk x)(g:200≤N)(c:(1:Int)+x.fG%6=n)(hI:(1:Int)+x.fD%3=I)(h:(1:Int)+x.fF%3=O)(m:1≤n)(v:n≤6)(o:I≤3)(p:1≤O):
 ∃ X,gy N x N 0 []=some X∧CSh n I O X∧ ∀ a i,a<n→i<I→(cel X a i).to= -1:=by
 obtain⟨X,q,t,d⟩: ∃ X,gy N x N 0 []=some X∧X.length=n∧ ∀ a,a<n→(X.getD a default).length=I∧ ∀ j,j<I→((X.getD a default).getD j default).to= -1∧0≤((X.getD a default).getD j default).out∧((X.getD a default).getD j default).out<O:=by
  refine z4v (fun F k (acc:List (List Edge))=>gy N x F (k:Int) acc) n (fun k acc=>acc.length=k∧ ∀ a,a<k→(acc.getD a default).length=I∧ ∀ j,j<I→((acc.getD a default).getD j default).to= -1∧0≤((acc.getD a default).getD j default).out∧((acc.getD a default).getD j default).out<O) _ (fun F k acc w hi=> .inr ?_) (fun F acc hi=>?_) N 0 [] (Nat.zero_le _) (by omega) ⟨rfl,fun j y=>by omega⟩
  ·obtain⟨r,u,e⟩:=qau (N:=N) (s:=k) f g c hI h m o p (by omega)
   refine⟨acc++[r],⟨by simp [hi.1],fun a b=>?_⟩,?_⟩
   ·by_cases hjk:a<k
    ·rw [List.getD_eq_getElem?_getD (l:=acc++[r]),List.getElem?_append_left (by omega),←List.getD_eq_getElem?_getD];exact hi.2 a hjk
    ·have:a=acc.length:=by omega
     subst this
     rw [List.getD_eq_getElem?_getD (l:=acc++[r]),List.getElem?_concat_length]
     exact e
   ·simp only [gy]
    rw [c,wu (by omega),qc u,ze ⟨by simp only [List.length_singleton];omega,by simp only [List.length_singleton];omega⟩,ze (qm (by omega))]
    rfl
  ·simp only [gy]
   rw [c,um (by omega)]
   exact⟨_,rfl,hi⟩
 exact⟨X,q,⟨t,fun a b=>(d a b).1,fun a i b hi=>((d a b).2 i hi).2⟩,fun a i b hi=>((d a b).2 i hi).1⟩
theorem q91(t:200≤N){X:List (List Edge)}(hI:(1:Int)+x.fD%3=I)(h:CSh n I O X)(u:1≤I)(i:I≤3)(v:n≤6){s:Nat}(w:s<n):
 ∃ l,yz N x (s:Int) X N [] 0=some l∧(∀ z∈l,∃ k:Nat,z=(k:Int)∧k<s*I∧(cel X (k/I) (k%I)).to<0)∧(∀ k:Nat,k<s*I→(cel X (k/I) (k%I)).to<0→((k:Nat):Int)∈l)∧l.length≤s*I:=by
 have m:s*I≤6*3:=Nat.mul_le_mul (by omega) i
 have hrows: ∀ k,k<s*I→k/I<n∧k%I<I:=fun k c=>⟨Nat.lt_of_lt_of_le (Nat.div_lt_of_lt_mul (by rw [Nat.mul_comm];exact c)) (by omega),Nat.mod_lt _ (by omega)⟩
 refine z4v (fun F k (acc:List Int)=>yz N x (s:Int) X F acc (k:Int)) (s*I) (fun k acc=>(∀ z∈acc,∃ k:Nat,z=(k:Int)∧k<s*I∧(cel X (k/I) (k%I)).to<0)∧(∀ j:Nat,j<k→(cel X (j/I) (j%I)).to<0→((j:Nat):Int)∈acc)∧acc.length≤k) _ (fun F k acc c hi=> .inr ?_) (fun F acc hi=>?_) N 0 [] (Nat.zero_le _) (by omega) ⟨fun z b=>by simp at b,fun j d=>by omega,by simp⟩
 ·obtain⟨f,o⟩:=hrows k c
  have p:(k:Int)/(I:Int)=((k/I:Nat):Int):=rfl
  have q:(k:Int)%(I:Int)=((k%I:Nat):Int):=rfl
  have r: ∀ (y:List Int),y=(if(cel X (k/I) (k%I)).to<0 then acc++[((k:Nat):Int)] else acc)→
   yz N x (s:Int) X (F+1) acc (k:Int)=yz N x (s:Int) X F y ((k+1:Nat):Int):=fun y g=>by
   simp only [yz]
   rw [hI,zkz,ze (qm (by omega)),wu (by omega),p,q]
   refine(qc (x:=y) ?_).trans (by rw [ze (qm (by omega))];rfl)
   rw [ze ⟨by omega,by omega,by omega⟩,ze (qy (by rw [h.len];exact f)),ze ⟨by omega,by omega⟩,yn,ze (qy (by rw [h.row _ f];exact o)),yn]
   show (bif decide ((cel X (k/I) (k%I)).to<0) then _ else _)=_
   by_cases hc:(cel X (k/I) (k%I)).to<0
   ·rw [wu hc,g,if_pos hc]
    exact ze ⟨by simp only [List.length_singleton];omega,by simp only [List.length_singleton];omega⟩
   ·rw [um hc,g,if_neg hc]
  refine⟨_,?_,r _ rfl⟩
  by_cases hc:(cel X (k/I) (k%I)).to<0
  ·rw [if_pos hc]
   refine⟨fun z b=>?_,fun j d a=>?_,by simp;omega⟩
   ·rcases List.mem_append.1 b with b|b
    ·exact hi.1 z b
    ·rw [List.mem_singleton] at b
     exact⟨k,b,c,hc⟩
   ·by_cases e:j=k
    ·subst e;simp
    ·exact List.mem_append_left _ (hi.2.1 j (by omega) a)
  ·rw [if_neg hc]
   refine⟨hi.1,fun j d a=>?_,by omega⟩
   by_cases e:j=k
   ·subst e;exact absurd a hc
   ·exact hi.2.1 j (by omega) a
 ·simp only [yz]
  rw [hI,zkz,ze (qm (by omega)),um (by omega)]
  exact⟨_,rfl,hi⟩
structure CTree (n I:Nat) (O:Int) (s:Nat) (X:List (List Edge)):Prop where
 sh:CSh n I O X
 rng: ∀ a i,a<n→i<I→(cel X a i).to= -1∨(0≤(cel X a i).to∧(cel X a i).to<n)
 late: ∀ a i,s≤a+1→a<n→i<I→(cel X a i).to= -1
 tree: ∀ t,0<t→t<s→ ∃ a i,a<t∧i<I∧(cel X a i).to=(t:Int)
theorem zuz{s:Nat}{X:List (List Edge)}(h:CTree n I O s X)(m:0<s)(o:s<n){a i:Nat}(k:a<s)(hi:i<I)(p:(cel X a i).to<0):CTree n I O (s+1) (ztk X a i ⟨(s:Int),(cel X a i).out⟩):=by
 have cs:=fun b j=>zms h.sh (e:=⟨(s:Int),(cel X a i).out⟩) (show a<n by omega) hi b j
 refine⟨zt2 h.sh (by omega) hi (h.sh.out a i (by omega) hi),fun b j c d=>?_,fun b j l c d=>?_,fun t f q=>?_⟩
 ·rw [cs]
  split
  ·exact .inr ⟨by simp,by simp;omega⟩
  ·exact h.rng b j c d
 ·rw [cs,if_neg (fun e=>by omega)]
  exact h.late b j (by omega) c d
 ·by_cases e:t=s
  ·subst e
   exact⟨a,i,k,hi,by rw [cs,if_pos ⟨rfl,rfl⟩]⟩
  ·obtain⟨b,j,c,d,g⟩:=h.tree t f (by omega)
   refine⟨b,j,c,d,?_⟩
   rw [cs,if_neg]
   ·exact g
   ·rintro⟨rfl,rfl⟩;omega
theorem q8o(v:CDOk x)(w:200≤N){X:List (List Edge)}(p:(1:Int)+x.fG%6=n)(hI:(1:Int)+x.fD%3=I)(z:1≤I)(r:I≤3)(A:1≤n)(B:n≤6)(h:CTree n I O 1 X):
 ∃ Y,dz N x N 1 X=some Y∧CTree n I O n Y:=by
 refine z4v (fun F k (acc:List (List Edge))=>dz N x F (k:Int) acc) n (fun k acc=>0<k∧CTree n I O k acc) _ (fun F s acc t hi=> .inr ?_) (fun F acc hi=>?_) N 1 X A (by omega) ⟨by omega,h⟩
 ·obtain⟨c,a⟩:=hi
  obtain⟨l,C,d,f,D⟩:=q91 (x:=x) w hI a.sh z r B t
  have E:s*I≤6*3:=Nat.mul_le_mul (by omega) r
  have hpos:0<l.length:=by
   have g:((s-1)*I)/I=s-1:=Nat.mul_div_cancel _ (by omega)
   have i:((s-1)*I)%I=0:=Nat.mul_mod_left _ _
   have:=f ((s-1)*I) (Nat.mul_lt_mul_of_pos_right (by omega) (by omega)) (by rw [g,i,a.late (s-1) 0 (by omega) (by omega) (by omega)];omega)
   exact List.length_pos_of_mem this
  obtain⟨q,hq,j⟩: ∃ q,q<l.length∧(bd (
   gd (in64 ((s:Int)-1))<|
   bif decide (((s:Int)-1)<(x.fH.length:Int)) then(
   gd (in64 ((s:Int)-1))<|
   gd (okI x.fH ((s:Int)-1))<|
   gd (in64 (ix x.fH ((s:Int)-1)))<|
   gd (okR (ix x.fH ((s:Int)-1)) (l.length:Int))<|
   gd (okI l ((ix x.fH ((s:Int)-1))%(l.length:Int)))<|
   some (ix l ((ix x.fH ((s:Int)-1))%(l.length:Int)))) else(
   some (ix l 0))) some)=some (l.getD q default):=by
   rw [ze (qm (by omega)),show (s:Int)-1=((s-1:Nat):Int) by omega]
   by_cases ht:s-1<x.fH.length
   ·have b:=v.tr _ ht
    refine⟨(x.fH.getD (s-1) default).toNat%l.length,Nat.mod_lt _ hpos,?_⟩
    have e:x.fH.getD (s-1) default%(l.length:Int)=(((x.fH.getD (s-1) default).toNat%l.length:Nat):Int):=by
     rw [Int.natCast_emod,Int.toNat_of_nonneg b.1]
    rw [wu (by omega),ze (qm (by omega)),ze (qy ht),yn,ze (qm (by omega)),ze ⟨b.1,by omega⟩,e,ze (qy (Nat.mod_lt _ hpos))]
    rfl
   ·exact⟨0,hpos,by rw [um (by omega)];rfl⟩
  obtain⟨k,G,m,o⟩:=d _ (z19 hq)
  have H:k/I<s:=Nat.div_lt_of_lt_mul (by rw [Nat.mul_comm];exact m)
  have u:k%I<I:=Nat.mod_lt _ (by omega)
  have g:(k:Int)/(I:Int)=((k/I:Nat):Int):=rfl
  have i:(k:Int)%(I:Int)=((k%I:Nat):Int):=rfl
  refine⟨ztk acc (k/I) (k%I) ⟨(s:Int),(cel acc (k/I) (k%I)).out⟩,⟨by omega,zuz a c t H u o⟩,?_⟩
  simp only [dz]
  rw [hI,p,wu (by omega),qc C,ze (show okI l 0 from⟨by omega,by omega⟩)]
  have hqe':=j
  rw [G] at hqe'
  refine(qc (x:=(k:Int)) ?_).trans ?_
  ·obtain⟨y,J,K⟩:=zo hqe'
   rw [J,←K]
  ·rw [g,i,ze ⟨by omega,by omega,by omega⟩,ze (qy (by rw [a.sh.len];omega)),ze ⟨by omega,by omega⟩,yn,ze (qy (by rw [a.sh.row _ (by omega)];exact u)),ze (qm (by omega))]
   rfl
 ·simp only [dz]
  rw [p,um (by omega)]
  exact⟨_,rfl,hi.2⟩
structure CFill (n I:Nat) (O:Int) (s k:Nat) (X:List (List Edge)):Prop where
 sh:CSh n I O X
 rng: ∀ a i,a<n→i<I→(cel X a i).to= -1∨(0≤(cel X a i).to∧(cel X a i).to<n)
 done: ∀ a i,a<n→i<I→(a<s∨(a=s∧i<k))→0≤(cel X a i).to
 tree: ∀ t,0<t→t<n→ ∃ a i,a<t∧i<I∧(cel X a i).to=(t:Int)
theorem zzw(y:CDOk x)(H:200≤N){X:List (List Edge)}(z:(1:Int)+x.fG%6=n)(hI:(1:Int)+x.fD%3=I)(A:I≤3)(J:1≤n)(K:n≤6){s:Nat}(g:s<n)(h:CFill n I O s 0 X):
 ∃ Y,yx N x (s:Int) N 0 X=some Y∧CFill n I O s I Y:=by
 have B:s*I≤6*3:=Nat.mul_le_mul (by omega) A
 refine z4v (fun F k (acc:List (List Edge))=>yx N x (s:Int) F (k:Int) acc) I (fun k acc=>CFill n I O s k acc) _ (fun F k acc i a=> .inr ?_) (fun F acc hi=>?_) N 0 X (Nat.zero_le _) (by omega) h
 ·obtain⟨v,C,l,D⟩:=number_eq (N:=N) y.ed (s*I+k)
  have q:=Int.emod_nonneg v (show (n:Int)≠0 by omega)
  have m:=Int.emod_lt_of_pos v (show 0<(n:Int) by omega)
  have E: ∀ Y,Y=(if(cel acc s k).to<0 then ztk acc s k ⟨v%(n:Int),(cel acc s k).out⟩ else acc)→yx N x (s:Int) (F+1) (k:Int) acc=yx N x (s:Int) F ((k+1:Nat):Int) Y:=fun Y r=>by
   simp only [yx]
   rw [hI,z,wu (by omega)]
   refine(qc (x:=Y) ?_).trans (by rw [ze (qm (by omega))];rfl)
   have u:okI acc (s:Int):=qy (by rw [a.sh.len];exact g)
   have w:okI (ix acc (s:Int)) (k:Int):=qy (show k<(acc.getD s default).length by rw [a.sh.row _ g];exact i)
   rw [ze u,ze w]
   show (bif decide ((cel acc s k).to<0) then _ else _)=_
   by_cases hc:(cel acc s k).to<0
   ·rw [wu hc,r,if_pos hc,ze u,zkz,ze (qm (by omega)),show ((s*I:Nat):Int)+(k:Int)=((s*I+k:Nat):Int) from rfl,ze (qm (by omega)),qc C,ze ⟨l,by omega⟩,ze w]
    rfl
   ·rw [um hc,r,if_neg hc]
  refine⟨_,?_,E _ rfl⟩
  by_cases hc:(cel acc s k).to<0
  ·rw [if_pos hc]
   have cs:=fun b j=>zms a.sh (e:=⟨v%(n:Int),(cel acc s k).out⟩) g i b j
   refine⟨zt2 a.sh g i (a.sh.out s k g i),fun b j d f=>?_,fun b j d f c=>?_,fun t o G=>?_⟩
   ·rw [cs]
    split
    ·exact .inr ⟨q,m⟩
    ·exact a.rng b j d f
   ·rw [cs]
    split
    ·exact q
    ·rename_i hne
     exact a.done b j d f (by rcases c with c|⟨rfl,c⟩;exact .inl c;exact .inr ⟨rfl,by have: ¬j=k:=fun e=>hne ⟨rfl,e⟩;omega⟩)
   ·obtain⟨b,j,d,f,p⟩:=a.tree t o G
    refine⟨b,j,d,f,?_⟩
    rw [cs,if_neg]
    ·exact p
    ·rintro⟨rfl,rfl⟩;omega
  ·rw [if_neg hc]
   refine⟨a.sh,a.rng,fun b j d f c=>?_,a.tree⟩
   by_cases e:b=s∧j=k
   ·obtain⟨rfl,rfl⟩:=e;omega
   ·exact a.done b j d f (by rcases c with c|⟨rfl,c⟩;exact .inl c;exact .inr ⟨rfl,by have: ¬j=k:=fun e'=>e ⟨rfl,e'⟩;omega⟩)
 ·simp only [yx]
  rw [hI,um (by omega)]
  exact⟨_,rfl,hi⟩
theorem q8e(e:CDOk x)(f:200≤N){X:List (List Edge)}(c:(1:Int)+x.fG%6=n)(hI:(1:Int)+x.fD%3=I)(g:I≤3)(j:1≤n)(l:n≤6)(h:CFill n I O 0 0 X):
 ∃ Y,dw N x N 0 X=some Y∧CFill n I O n 0 Y:=by
 refine z4v (fun F k (acc:List (List Edge))=>dw N x F (k:Int) acc) n (fun k acc=>CFill n I O k 0 acc) _ (fun F s acc m o=> .inr ?_) (fun F acc hi=>?_) N 0 X (Nat.zero_le _) (by omega) h
 ·obtain⟨Y,p,b⟩:=zzw (N:=N) e f c hI g j l m o
  refine⟨Y,⟨b.sh,b.rng,fun a i q hi d=>b.done a i q hi (by rcases d with d|⟨_,d⟩;exact(Nat.lt_or_ge a s).imp id (fun _=>⟨by omega,hi⟩);omega),b.tree⟩,?_⟩
  simp only [dw]
  rw [c,wu (by omega),qc p,ze (qm (by omega))]
  rfl
 ·simp only [dw]
  rw [c,um (by omega)]
  exact⟨_,rfl,hi⟩
end cof
theorem q6g{N:Nat}{x:Sg}(c:CDOk x)(f:200≤N): ∃ m,z3a N x=some m∧CMach m∧(m.rows.length:Int)=1+x.fG%6:=by
 obtain⟨r,C⟩:=c.st;obtain⟨D,E⟩:=c.ins;obtain⟨F,G⟩:=c.outs
 obtain⟨n,e⟩: ∃ n:Nat,(1:Int)+x.fG%6=n:=⟨((1:Int)+x.fG%6).toNat,by omega⟩
 obtain⟨I,hI⟩: ∃ n:Nat,(1:Int)+x.fD%3=n:=⟨((1:Int)+x.fD%3).toNat,by omega⟩
 obtain⟨O,o⟩: ∃ O:Int,(1:Int)+x.fF%3=O:=⟨_,rfl⟩
 have g:1≤n:=by omega
 have h:n≤6:=by omega
 have u:1≤I:=by omega
 have j:I≤3:=by omega
 have p:1≤O:=by omega
 have v:O≤3:=by omega
 obtain⟨X,w,sX,fX⟩:=q8k (N:=N) c f e hI o g h j p
 obtain⟨Y,y,tY⟩:=q8o (N:=N) (O:=O) c f e hI u j g h (X:=X) ⟨sX,fun a i d hi=> .inl (fX a i d hi),fun a i _ d hi=>fX a i d hi,fun t H r=>by omega⟩
 obtain⟨Z,z,tZ⟩:=q8e (N:=N) (O:=O) c f e hI j g h (X:=Y) ⟨tY.sh,tY.rng,fun a i d hi J=>by omega,tY.tree⟩
 refine⟨⟨(1:Int)+x.fD%3,(1:Int)+x.fF%3,Z⟩,?_,?_,by rw [e];exact congrArg Nat.cast tZ.sh.len⟩
 ·unfold z3a
  rw [ze ⟨by omega,by omega⟩,ze (qm (by omega)),ze (qm (by omega)),ze ⟨by omega,by omega⟩,ze (qm (by omega)),ze (qm (by omega)),ze ⟨by omega,by omega⟩,ze (qm (by omega)),ze (qm (by omega)),qc w,qc y,qc z]
 ·rw [hI,o]
  have hrow: ∀ s,s<Z.length→(Z.getD s default).length=I:=fun s b=>tZ.sh.row s (by rw [tZ.sh.len] at b;exact b)
  have hlen:=tZ.sh.len
  have hdone: ∀ s i,s<n→i<I→0≤(cel Z s i).to:=fun s i b hi=>tZ.done s i b hi (.inl b)
  refine⟨⟨by show 1≤(I:Int);omega,by show (I:Int)≤16;omega,p,by show O≤16;omega,by show 1≤Z.length;omega,by show Z.length≤64;omega,fun s b=>by rw [hrow s b],fun s i b hi=>?_⟩,by show Z.length≤6;omega,by show (I:Int)≤3;omega,v,fun s i b hi=>?_,fun t k A=>?_⟩
  ·have hs':s<Z.length:=b
   have hi':i<(Z.getD s default).length:=hi
   rw [hrow s hs'] at hi'
   rw [hlen] at hs'
   have B:=hdone s i hs' hi'
   have K:=tZ.rng s i hs' hi'
   have q:=tZ.sh.out s i hs' hi'
   exact .inr ⟨B,by show (cel Z s i).to<(Z.length:Int);omega,q.1,q.2⟩
  ·have hs':s<Z.length:=b
   have hi':i<(Z.getD s default).length:=hi
   rw [hrow s hs'] at hi'
   rw [hlen] at hs'
   exact hdone s i hs' hi'
  ·have ht':t<Z.length:=A
   obtain⟨a,i,d,hi,l⟩:=tZ.tree t k (by omega)
   exact⟨a,i,d,by show i<(Z.getD a default).length;rw [hrow a (by omega)];exact hi,l⟩
theorem CMach.all{m:Mach}(h:CMach m): ∀ t,t<m.rows.length→ ∃ j,j<(rch m 0).length∧((rch m 0).getD j default).st=t:=by
 have c:=h.ok
 have b:=zji c (s0:=0) (by have:=c.r1;omega)
 generalize rch m 0=P at b⊢
 intro t
 induction t using Nat.strongRecOn with
 |ind t ih=>
  intro f
  by_cases h0:t=0
  ·subst h0;exact⟨0,b.pos,by rw [b.root]⟩
  ·obtain⟨a,i,g,hi,d⟩:=h.tree t (by omega) f
   obtain⟨q,k,e⟩:=ih a g (by omega)
   have hrow:=c.row a (by omega)
   have l:ed m (P.getD q default).st i=(t:Int):=by rw [e];exact d
   obtain⟨j,n,o,_⟩:=b.cls q i k (by omega) (by rw [l];omega)
   exact⟨j,n,by omega⟩
theorem CMach.len{m:Mach}(h:CMach m):(rch m 0).length=m.rows.length:=by
 have b:=h.ok
 have c:=zji b (s0:=0) (by have:=b.r1;omega)
 have hall:=h.all
 generalize rch m 0=P at c hall⊢
 have f:=c.le
 have hsub:List.range m.rows.length⊆P.map (·.st):=by
  intro t d
  rw [List.mem_range] at d
  obtain⟨j,e,a⟩:=hall t d
  exact List.mem_map.2 ⟨_,z19 e,a⟩
 have:=List.Nodup.length_le_of_subset List.nodup_range hsub
 rw [List.length_range,List.length_map] at this
 omega
theorem zrx{l:List Edge}(h: ∀ i,i<l.length→0≤(l.getD i default).to): ∀ k,k≤l.length→zjt l k=k
 |0,_=>zpc l
 |k+1,a=>by rw [zpk l k (by omega),zrx h k (by omega),if_pos (h k (by omega))]
end GV
end Go.Proofs.Ytnnobdkjgafdmaa

namespace Go.Proofs.Ytnnobdkjgafdmaa
namespace GV
set_option maxRecDepth 1000000
def RngL(b:Int)(l:List Int):Prop:= ∀ z∈l,0≤z∧z≤b
theorem RngL.get{b:Int}{l:List Int}(h:RngL b l)(k:Nat)(a:k<l.length):0≤l.getD k default∧l.getD k default≤b:=h _ (z19 a)
theorem RngL.snoc{b z:Int}{l:List Int}(h:RngL b l)(c:0≤z∧z≤b):RngL b (l++[z]):=fun y a=>by
 rcases List.mem_append.1 a with a|a
 ·exact h y a
 ·rw [List.mem_singleton] at a;subst a;exact c
end GV
end Go.Proofs.Ytnnobdkjgafdmaa

namespace Go.Proofs.Ytnnobdkjgafdmaa
namespace GV
set_option maxRecDepth 100000
theorem zh6{m:Mach}{k i:Nat}(hi:i<m.inputs.toNat):za1 m (k*m.inputs.toNat+i)=(m.rows.getD k default).getD i default:=by
 unfold za1;rw [zon hi,zoe hi]
theorem zww{N:Nat}{m:Mach}(a:MOk m)(j:200≤N){σ:Type}(B:((Int×Int)×Edge)→σ→Option (Bool×σ))(f:Nat→σ)
 (d: ∀ k i,k<m.rows.length→i<m.inputs.toNat→B (((k:Int),(i:Int)),(m.rows.getD k default).getD i default) (f (k*m.inputs.toNat+i))=some (true,f (k*m.inputs.toNat+i+1))):
 z4u N m σ B (f 0)=some (f (m.rows.length*m.inputs.toNat)):=by
 have l:=a.r2;have e:=a.i1;have g:=a.i2
 unfold z4u
 refine ru (fun F k s=>si N σ B m F s (k:Int)) m.rows.length (fun k s=>s=f (k*m.inputs.toNat)) _ (fun F k s b hi=> .inr ?_) (fun F s hi=>?_) N 0 (f 0) (Nat.zero_le _) (by omega) (by simp)
 ·subst hi
  refine⟨f ((k+1)*m.inputs.toNat),rfl,?_⟩
  have hlen:((ix m.rows (k:Int)).length:Int)=m.inputs:=a.row k b
  have h:aa N σ B m (k:Int) N (f (k*m.inputs.toNat)) 0=some (Ex.go (f ((k+1)*m.inputs.toNat))):=by
   refine ru (fun F i s=>aa N σ B m (k:Int) F s (i:Int)) m.inputs.toNat (fun i s=>s=f (k*m.inputs.toNat+i)) _ (fun F i s hi c=> .inr ?_) (fun F s c=>?_) N 0 _ (Nat.zero_le _) (by omega) (by simp)
   ·subst c
    refine⟨_,rfl,?_⟩
    simp only [aa]
    rw [wu (by omega),ze (qy (by omega))]
    refine Eq.trans (qc (d k i b hi)) ?_
    refine Eq.trans (cf rfl) ?_
    rw [ze (qm (by omega))];rfl
   ·subst c
    simp only [aa]
    rw [um (by omega),Nat.succ_mul]
  simp only [si]
  rw [wu (by omega),ze (qy b),qc h,zgl,ze (qm (by omega))];rfl
 ·subst hi
  simp only [si]
  rw [um (by omega)]
theorem q1y{N:Nat}{m:Mach}(d:MOk m)(e:200≤N):z3i N m=some (zrh m):=by
 unfold z3i
 rw [show z7z N m=some m from rfl,zg4]
 have hmul:=d.mul.1
 have h:=zww d e (fun(a:(Int×Int)×Edge) (b:List (Int×Int))=>
  bd (z5m N) fun c=>
  bif decide (a.2.to=c.to∧a.2.out=c.out) then(
  gd (fits 16 b ([((a.1.1,a.1.2):(Int×Int))]:List (Int×Int)))<|
  some (true,(b++([((a.1.1,a.1.2):(Int×Int))]:List (Int×Int))))) else(
  some (true,b))) (z9d m) (fun k i f hi=>by
   have g:=q1a f hi
   have j:=zz7 m (k*m.inputs.toNat+i)
   rw [show z5m N=some ⟨-1,-1⟩ from rfl,zg4,zk4,zh6 hi,zon hi,zoe hi]
   by_cases he:((m.rows.getD k default).getD i default).to= -1∧((m.rows.getD k default).getD i default).out= -1
   ·rw [wu he,if_pos he,ze ⟨by simp;omega,by simp;omega⟩]
   ·rw [um he,if_neg he,List.append_nil])
 rw [zrm] at h
 rw [qc h]
 unfold z4y
 rw [ze (zqm _),zg4,zrd];rfl
theorem zs5{N:Nat}{m:Mach}(b:Small m)(a:200≤N):z4a N m=some (zps m,z3k m):=by
 unfold z4a zps
 rw [qc (zhj b a)]
 by_cases h:z3k m≠0
 ·rw [wu h,if_pos h]
 ·rw [um h,if_neg h]
  have c:MOk m:=(z6b m).1 (by simpa using h)
  rw [qc (q1y c a),show z3k m=0 by simpa using h]
theorem indexB{N:Nat}{s:List Bool}(b:s.length<N)(c:s.length≤4611686018427387904):z3s N s false=some (zkm (fun x=>decide (false=x)) s):=by
 have h:mr N s false N 0=some (if(s.any fun x=>decide (false=x))=true then Ex.rt (zkm (fun x=>decide (false=x)) s) else Ex.go ()):=by
  refine ru (σ:=Unit) (fun F k _=>mr N s false F (k:Int)) s.length (fun k _=>((s.take k).any fun x=>decide (false=x))=false) _ (fun F k _ a hi=>?_) (fun F _ hi=>?_) N 0 () (Nat.zero_le _) (by omega) (by simp)
  ·simp only [mr]
   rw [wu (by omega),ze (qy a),yn]
   cases hp:decide (false=s.getD k default)
   ·right
    refine⟨(),by rw [zi6 (fun x=>decide (false=x)) s k a,hi,hp];rfl,?_⟩
    rw [cf rfl,ze (qm (by omega))];rfl
   ·left
    rw [ct rfl,if_pos (List.any_eq_true.2 ⟨_,z19 a,hp⟩),zgq (fun x=>decide (false=x)) s k a hi hp]
  ·simp only [mr]
   rw [um (by omega),if_neg (by rw [List.take_length] at hi;rw [hi];decide)]
 unfold z3s
 rw [qc h]
 by_cases ha:(s.any fun x=>decide (false=x))=true
 ·rw [if_pos ha];rfl
 ·rw [if_neg ha,zj9 (fun x=>decide (false=x)) s (by simpa using ha)];rfl
theorem zzv{N:Nat}{s:List Bool}(a:s.length<N)(b:s.length≤4611686018427387904):z1u N s false=some (s.contains false):=by
 unfold z1u
 rw [qc (indexB a b),zqf,zqs]
theorem zt0{N:Nat}{m:Mach}(b:MOk m)(n:200≤N): ∀ (F:Nat) (X:List Bool) (s:Int),X.length=m.rows.length→SOk m s→X.count false<F→ ∃ Y,p9 N F s X m=some Y∧Vis m X s Y
 |0,X,s,_,_,h=>by omega
 |F+1,X,s,o,i,hF=>by
  simp only [p9]
  by_cases hd:s= -1∨X.getD s.toNat default=true
  ·refine⟨X,?_,q2e hd (by rcases i with h|h;exact .inl h;exact .inr h.1)⟩
   rcases i with h|h
   ·rw [ze (by rw [decide_eq_true h];intro e;cases e),ct (by rw [decide_eq_true h];rfl)]
   ·have a: ¬s= -1:=by omega
    have c:X.getD s.toNat default=true:=hd.resolve_left a
    rw [ze (fun _=>⟨h.1,by omega⟩),ct (by rw [zqk,c];simp)]
  ·have a: ¬s= -1:=fun e=>hd (.inl e)
   have g:0≤s∧s<m.rows.length:=i.resolve_left a
   have c:X.getD s.toNat default=false:=by
    cases e:X.getD s.toNat default
    ·rfl
    ·exact absurd (.inr e) hd
   have d:s.toNat<X.length:=by omega
   have r:=b.r2;have p:=b.i2
   have hrow:=b.row s.toNat (by omega)
   have hcnt:=zgp d c
   rw [ze (fun _=>⟨g.1,by omega⟩),cf (by rw [zqk,c,decide_eq_false a];rfl),ze ⟨g.1,by omega⟩,ze g]
   refine z4v (fun G k Y=>ng N (p9 N F) s m G (k:Int) Y) (m.rows.getD s.toNat default).length (fun k Y=>VisK m X s.toNat k Y∧Y.length=m.rows.length) (fun Y=>Vis m X s Y)
    (fun G k Y j hi=> .inr ?_) (fun G Y hi=>?_) N 0 (up X s true) (Nat.zero_le _) (by omega) ⟨zzd d c,by simp [up,o]⟩
   ·simp only [ng]
    have l:k<(ix m.rows s).length:=j
    rw [wu (by omega),ze (qy l)]
    obtain⟨Z,q,f⟩:=zt0 b n F Y ((m.rows.getD s.toNat default).getD k default).to hi.2 (qc0 b s k (by omega) j) (by
     have:=hi.1.cnt
     omega)
    refine⟨Z,⟨q0v hi.1 (by omega) j f,by rw [f.len];exact hi.2⟩,Eq.trans (qc q) ?_⟩
    rw [ze (qm (by omega))];rfl
   ·simp only [ng]
    have e:(ix m.rows s).length=(m.rows.getD s.toNat default).length:=rfl
    rw [um (by omega)]
    exact⟨Y,rfl,q50 g.1 hi.1 (Nat.lt_irrefl _)⟩
theorem zr5{N:Nat}{m:Mach}(d:Small m)(b:200≤N):z3e N m=some ((if z3k m≠0 then false else connB m),z3k m):=by
 unfold z3e
 rw [qc (zhj d b)]
 by_cases h:z3k m≠0
 ·rw [wu h,if_pos h]
 ·rw [um h,if_neg h]
  have a:MOk m:=(z6b m).1 (by simpa using h)
  have i:=a.r2;have e:=a.r1
  obtain⟨Y,f,c⟩:=zt0 a b N (List.replicate m.rows.length false) 0 (by simp) (.inr ⟨by omega,by omega⟩) (by simp;omega)
  have g:Y.length=m.rows.length:=by rw [c.len];simp
  rw [ze ⟨by omega,by omega,by omega⟩,zdp,qc f,qc (zzv (by omega) (by omega)),←q3l a rfl c,show z3k m=0 by simpa using h]
end GV
end Go.Proofs.Ytnnobdkjgafdmaa

namespace Go.Proofs.Ytnnobdkjgafdmaa
namespace GV
set_option maxRecDepth 100000
/-! ### The shape of a machine-/
theorem q4b{m:Mach}(a:MOk m){k i:Nat}(b:k<m.rows.length)(hi:i<m.inputs.toNat):(za1 m (k*m.inputs.toNat+i)).to= -1∧(za1 m (k*m.inputs.toNat+i)).out= -1∧ ¬0≤((m.rows.getD k default).getD i default).to∨
 ¬((za1 m (k*m.inputs.toNat+i)).to= -1∧(za1 m (k*m.inputs.toNat+i)).out= -1)∧0≤((m.rows.getD k default).getD i default).to:=by
 rw [zh6 hi]
 have hrow:=a.row k b
 rcases a.edge k i b (by omega) with h|h
 ·left;omega
 ·right;omega
theorem zp8{m:Mach}(a:MOk m): ∀ k,k≤m.rows.length→zj7 m k+(z9d m (k*m.inputs.toNat)).length=k*m.inputs.toNat
 |0,_=>by simp [zj7,z9d]
 |k+1,f=>by
  have ih:=zp8 a k (by omega)
  have hrow:=a.row k (by omega)
  have inner: ∀ i,i≤m.inputs.toNat→zjt (m.rows.getD k default) i+(z9d m (k*m.inputs.toNat+i)).length=(z9d m (k*m.inputs.toNat)).length+i:=by
   intro i
   induction i with
   |zero=>intro _;simp [zpc]
   |succ i ih'=>
    intro hi
    have g:=ih' (by omega)
    have b:i<(m.rows.getD k default).length:=by omega
    rw [zpk _ _ b,←Nat.add_assoc,zk4,List.length_append]
    rcases q4b a (by omega:k<m.rows.length) (by omega:i<m.inputs.toNat) with⟨c,d,e⟩|⟨c,d⟩
    ·rw [if_neg e,if_pos ⟨c,d⟩,List.length_singleton];omega
    ·rw [if_pos d,if_neg c,List.length_nil];omega
  have:=inner m.inputs.toNat (Nat.le_refl _)
  rw [zfi m k (by omega),Nat.succ_mul,show (m.rows.getD k default).length=m.inputs.toNat by omega]
  omega
end GV
end Go.Proofs.Ytnnobdkjgafdmaa
