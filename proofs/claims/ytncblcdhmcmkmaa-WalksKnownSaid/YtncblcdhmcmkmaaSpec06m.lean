
import Derived.Test.YtncblcdhmcmkmaaSpec06e
import Derived.Test.YtncblcdhmcmkmaaLives06
import Derived.Test.YtncblcdhmcmkmaaSpec06k
set_option linter.unusedVariables false
set_option linter.unusedSimpArgs false
namespace Go.Proofs.Ytncblcdhmcmkmaa
namespace GV
set_option maxRecDepth 100000
structure CDOk (x:Sb):Prop where
 st:0≤x.fF∧x.fF≤255
 ins:0≤x.fA∧x.fA≤255
 outs:0≤x.fD∧x.fD≤255
 tr: ∀ k,k<x.fJ.length→0≤x.fJ.getD k default∧x.fJ.getD k default≤255
 ed: ∀ k,k<x.fM.length→0≤x.fM.getD k default∧x.fM.getD k default≤65535
structure CMach (m:Mach):Prop where
 ok:MOk m
 rows:m.rows.length≤6
 ins:m.inputs≤3
 outs:m.outputs≤3
 full: ∀ s i,s<m.rows.length→i<(m.rows.getD s default).length→0≤((m.rows.getD s default).getD i default).to
 tree: ∀ t,0<t→t<m.rows.length→ ∃ a i,a<t∧i<(m.rows.getD a default).length∧((m.rows.getD a default).getD i default).to=(t:Int)
def cel(X:List (List Edge))(a i:Nat):Edge:=(X.getD a default).getD i default
structure CSh (n I:Nat) (O:Int) (X:List (List Edge)):Prop where
 len:X.length=n
 row: ∀ a,a<n→(X.getD a default).length=I
 out: ∀ a i,a<n→i<I→0≤(cel X a i).out∧(cel X a i).out<O
theorem zd6{α:Type}[Inhabited α]{X:List α}{a b:Nat}{e:α}(c:a<X.length):(X.set a e).getD b default=if b=a then e else X.getD b default:=by
 simp only [List.getD_eq_getElem?_getD,List.getElem?_set]
 by_cases h:a=b
 ·subst h;simp [c]
 ·rw [if_neg h,if_neg (fun e=>h e.symm)]
def zja(X:List (List Edge))(a i:Nat)(e:Edge):List (List Edge):=X.set a ((X.getD a default).set i e)
theorem zf4{n I:Nat}{O:Int}{X:List (List Edge)}(h:CSh n I O X){a i:Nat}{e:Edge}(c:a<n)(hi:i<I)(b j:Nat):cel (zja X a i e) b j=if b=a∧j=i then e else cel X b j:=by
 unfold cel zja
 rw [zd6 (by rw [h.len];exact c)]
 by_cases hb:b=a
 ·subst hb
  rw [if_pos rfl,zd6 (by rw [h.row b c];exact hi)]
  by_cases hj:j=i
  ·rw [if_pos hj,if_pos ⟨rfl,hj⟩]
  ·rw [if_neg hj,if_neg (fun k=>hj k.2)]
 ·rw [if_neg hb,if_neg (fun k=>hb k.1)]
theorem zih{n I:Nat}{O:Int}{X:List (List Edge)}(h:CSh n I O X){a i:Nat}{e:Edge}(c:a<n)(hi:i<I)(f:0≤e.out∧e.out<O):CSh n I O (zja X a i e):=by
 refine⟨by unfold zja;rw [List.length_set];exact h.len,fun b d=>?_,fun b j d g=>?_⟩
 ·unfold zja
  rw [zd6 (by rw [h.len];exact c)]
  by_cases hba:b=a
  ·rw [if_pos hba,List.length_set];exact h.row a c
  ·rw [if_neg hba];exact h.row b d
 ·rw [zf4 h c hi]
  split
  ·exact f
  ·exact h.out b j d g
theorem number_eq{N:Nat}{l:List Int}(a: ∀ k,k<l.length→0≤l.getD k default∧l.getD k default≤65535)(k:Nat): ∃ v,l9 N l (k:Int)=some v∧0≤v∧v≤65535:=by
 unfold l9
 by_cases h:k<l.length
 ·have:=a k h
  exact⟨l.getD k default,by rw [mo (by omega),zh (qo h),zh (show in64 (ix l (k:Int)) from qm (show-4611686018427387904≤l.getD k default∧l.getD k default≤4611686018427387904 by omega))];rfl,this⟩
 ·exact⟨0,by rw [bu (by omega)],by omega⟩
section cof
variable {N : Nat} {x : Sb} {n I : Nat} {O : Int}
theorem zdx(a b:Nat):(a:Int)*(b:Int)=((a*b:Nat):Int):=(Int.natCast_mul a b).symm
theorem zup(d:CDOk x)(t:200≤N)(e:(1:Int)+x.fF%6=n)(c:(1:Int)+x.fA%3=I)(f:(1:Int)+x.fD%3=O)(u:1≤n)(g:I≤3)(h:1≤O){s:Nat}(w:s<6):
 ∃ r,pz N x (s:Int) N [] 0=some r∧r.length=I∧ ∀ j,j<I→(r.getD j default).to= -1∧0≤(r.getD j default).out∧(r.getD j default).out<O:=by
 refine z1a (fun F k (acc:List Edge)=>pz N x (s:Int) F acc (k:Int)) I (fun k acc=>acc.length=k∧ ∀ j,j<k→(acc.getD j default).to= -1∧0≤(acc.getD j default).out∧(acc.getD j default).out<O) _ (fun F k acc y hi=> .inr ?_) (fun F acc hi=>?_) N 0 [] (Nat.zero_le _) (by omega) ⟨rfl,fun j i=>by omega⟩
 ·obtain⟨v,l,a,m⟩:=number_eq (N:=N) d.ed (s*I+k)
  have o:s*I≤6*3:=Nat.mul_le_mul (by omega) g
  have p:0≤v/(n:Int):=Int.ediv_nonneg a (by omega)
  have q:=Int.emod_nonneg (v/(n:Int)) (show O≠0 by omega)
  have b:=Int.emod_lt_of_pos (v/(n:Int)) (show 0<O by omega)
  refine⟨acc++[(⟨-1,v/(n:Int)%O⟩:Edge)],⟨by simp [hi.1],fun j i=>?_⟩,?_⟩
  ·by_cases hjk:j<k
   ·rw [List.getD_eq_getElem?_getD,List.getElem?_append_left (by omega),←List.getD_eq_getElem?_getD];exact hi.2 j hjk
   ·have:j=acc.length:=by omega
    subst this
    rw [List.getD_eq_getElem?_getD,List.getElem?_concat_length]
    exact⟨rfl,q,b⟩
  ·simp only [pz]
   rw [c,e,f,mo (by omega),zdx,zh (qm (by omega)),show ((s*I:Nat):Int)+(k:Int)=((s*I+k:Nat):Int) from rfl,zh (qm (by omega)),q9 l,zh ⟨a,by omega,by omega⟩,zh ⟨p,h⟩,zh ⟨by simp only [List.length_singleton];omega,by simp only [List.length_singleton];omega⟩,zh (qm (by omega))]
   rfl
 ·simp only [pz]
  rw [c,bu (by omega)]
  exact⟨_,rfl,hi⟩
theorem ztx(f:CDOk x)(g:200≤N)(c:(1:Int)+x.fF%6=n)(h:(1:Int)+x.fA%3=I)(m:(1:Int)+x.fD%3=O)(o:1≤n)(w:n≤6)(p:I≤3)(q:1≤O):
 ∃ X,xy N x N 0 []=some X∧CSh n I O X∧ ∀ a i,a<n→i<I→(cel X a i).to= -1:=by
 obtain⟨X,t,u,d⟩: ∃ X,xy N x N 0 []=some X∧X.length=n∧ ∀ a,a<n→(X.getD a default).length=I∧ ∀ j,j<I→((X.getD a default).getD j default).to= -1∧0≤((X.getD a default).getD j default).out∧((X.getD a default).getD j default).out<O:=by
  refine z1a (fun F k (acc:List (List Edge))=>xy N x F (k:Int) acc) n (fun k acc=>acc.length=k∧ ∀ a,a<k→(acc.getD a default).length=I∧ ∀ j,j<I→((acc.getD a default).getD j default).to= -1∧0≤((acc.getD a default).getD j default).out∧((acc.getD a default).getD j default).out<O) _ (fun F k acc y hi=> .inr ?_) (fun F acc hi=>?_) N 0 [] (Nat.zero_le _) (by omega) ⟨rfl,fun j z=>by omega⟩
  ·obtain⟨r,v,e⟩:=zup (N:=N) (s:=k) f g c h m o p q (by omega)
   refine⟨acc++[r],⟨by simp [hi.1],fun a b=>?_⟩,?_⟩
   ·by_cases hjk:a<k
    ·rw [List.getD_eq_getElem?_getD (l:=acc++[r]),List.getElem?_append_left (by omega),←List.getD_eq_getElem?_getD];exact hi.2 a hjk
    ·have:a=acc.length:=by omega
     subst this
     rw [List.getD_eq_getElem?_getD (l:=acc++[r]),List.getElem?_concat_length]
     exact e
   ·simp only [xy]
    rw [c,mo (by omega),q9 v,zh ⟨by simp only [List.length_singleton];omega,by simp only [List.length_singleton];omega⟩,zh (qm (by omega))]
    rfl
  ·simp only [xy]
   rw [c,bu (by omega)]
   exact⟨_,rfl,hi⟩
 exact⟨X,t,⟨u,fun a b=>(d a b).1,fun a i b hi=>((d a b).2 i hi).2⟩,fun a i b hi=>((d a b).2 i hi).1⟩
theorem zty(u:200≤N){X:List (List Edge)}(d:(1:Int)+x.fA%3=I)(h:CSh n I O X)(v:1≤I)(m:I≤3)(w:n≤6){s:Nat}(A:s<n):
 ∃ l,yo N x (s:Int) X N [] 0=some l∧(∀ z∈l,∃ k:Nat,z=(k:Int)∧k<s*I∧(cel X (k/I) (k%I)).to<0)∧(∀ k:Nat,k<s*I→(cel X (k/I) (k%I)).to<0→((k:Nat):Int)∈l)∧l.length≤s*I:=by
 have o:s*I≤6*3:=Nat.mul_le_mul (by omega) m
 have hrows: ∀ k,k<s*I→k/I<n∧k%I<I:=fun k c=>⟨Nat.lt_of_lt_of_le (Nat.div_lt_of_lt_mul (by rw [Nat.mul_comm];exact c)) (by omega),Nat.mod_lt _ (by omega)⟩
 refine z1a (fun F k (acc:List Int)=>yo N x (s:Int) X F acc (k:Int)) (s*I) (fun k acc=>(∀ z∈acc,∃ k:Nat,z=(k:Int)∧k<s*I∧(cel X (k/I) (k%I)).to<0)∧(∀ j:Nat,j<k→(cel X (j/I) (j%I)).to<0→((j:Nat):Int)∈acc)∧acc.length≤k) _ (fun F k acc c hi=> .inr ?_) (fun F acc hi=>?_) N 0 [] (Nat.zero_le _) (by omega) ⟨fun z b=>by simp at b,fun j f=>by omega,by simp⟩
 ·obtain⟨g,p⟩:=hrows k c
  have q:(k:Int)/(I:Int)=((k/I:Nat):Int):=rfl
  have r:(k:Int)%(I:Int)=((k%I:Nat):Int):=rfl
  have t: ∀ (y:List Int),y=(if(cel X (k/I) (k%I)).to<0 then acc++[((k:Nat):Int)] else acc)→
   yo N x (s:Int) X (F+1) acc (k:Int)=yo N x (s:Int) X F y ((k+1:Nat):Int):=fun y i=>by
   simp only [yo]
   rw [d,zdx,zh (qm (by omega)),mo (by omega),q,r]
   refine(q9 (x:=y) ?_).trans (by rw [zh (qm (by omega))];rfl)
   rw [zh ⟨by omega,by omega,by omega⟩,zh (qo (by rw [h.len];exact g)),zh ⟨by omega,by omega⟩,gu,zh (qo (by rw [h.row _ g];exact p)),gu]
   show (bif decide ((cel X (k/I) (k%I)).to<0) then _ else _)=_
   by_cases hc:(cel X (k/I) (k%I)).to<0
   ·rw [mo hc,i,if_pos hc]
    exact zh ⟨by simp only [List.length_singleton];omega,by simp only [List.length_singleton];omega⟩
   ·rw [bu hc,i,if_neg hc]
  refine⟨_,?_,t _ rfl⟩
  by_cases hc:(cel X (k/I) (k%I)).to<0
  ·rw [if_pos hc]
   refine⟨fun z b=>?_,fun j f a=>?_,by simp;omega⟩
   ·rcases List.mem_append.1 b with b|b
    ·exact hi.1 z b
    ·rw [List.mem_singleton] at b
     exact⟨k,b,c,hc⟩
   ·by_cases e:j=k
    ·subst e;simp
    ·exact List.mem_append_left _ (hi.2.1 j (by omega) a)
  ·rw [if_neg hc]
   refine⟨hi.1,fun j f a=>?_,by omega⟩
   by_cases e:j=k
   ·subst e;exact absurd a hc
   ·exact hi.2.1 j (by omega) a
 ·simp only [yo]
  rw [d,zdx,zh (qm (by omega)),bu (by omega)]
  exact⟨_,rfl,hi⟩
structure CTree (n I:Nat) (O:Int) (s:Nat) (X:List (List Edge)):Prop where
 sh:CSh n I O X
 rng: ∀ a i,a<n→i<I→(cel X a i).to= -1∨(0≤(cel X a i).to∧(cel X a i).to<n)
 late: ∀ a i,s≤a+1→a<n→i<I→(cel X a i).to= -1
 tree: ∀ t,0<t→t<s→ ∃ a i,a<t∧i<I∧(cel X a i).to=(t:Int)
theorem zkb{s:Nat}{X:List (List Edge)}(h:CTree n I O s X)(m:0<s)(o:s<n){a i:Nat}(k:a<s)(hi:i<I)(p:(cel X a i).to<0):CTree n I O (s+1) (zja X a i ⟨(s:Int),(cel X a i).out⟩):=by
 have cs:=fun b j=>zf4 h.sh (e:=⟨(s:Int),(cel X a i).out⟩) (show a<n by omega) hi b j
 refine⟨zih h.sh (by omega) hi (h.sh.out a i (by omega) hi),fun b j c d=>?_,fun b j l c d=>?_,fun t f q=>?_⟩
 ·rw [cs]
  split
  ·exact .inr ⟨by simp,by simp;omega⟩
  ·exact h.rng b j c d
 ·rw [cs,if_neg (fun e=>by omega)]
  exact h.late b j (by omega) c d
 ·by_cases e:t=s
  ·subst e
   exact⟨a,i,k,hi,by rw [cs,if_pos ⟨rfl,rfl⟩]⟩
  ·obtain⟨b,j,c,d,g⟩:=h.tree t f (by omega)
   refine⟨b,j,c,d,?_⟩
   rw [cs,if_neg]
   ·exact g
   ·rintro⟨rfl,rfl⟩;omega
theorem zsn(w:CDOk x)(z:200≤N){X:List (List Edge)}(p:(1:Int)+x.fF%6=n)(r:(1:Int)+x.fA%3=I)(A:1≤I)(t:I≤3)(B:1≤n)(C:n≤6)(h:CTree n I O 1 X):
 ∃ Y,pq N x N 1 X=some Y∧CTree n I O n Y:=by
 refine z1a (fun F k (acc:List (List Edge))=>pq N x F (k:Int) acc) n (fun k acc=>0<k∧CTree n I O k acc) _ (fun F s acc u hi=> .inr ?_) (fun F acc hi=>?_) N 1 X B (by omega) ⟨by omega,h⟩
 ·obtain⟨c,a⟩:=hi
  obtain⟨l,D,d,f,E⟩:=zty (x:=x) z r a.sh A t C u
  have G:s*I≤6*3:=Nat.mul_le_mul (by omega) t
  have hpos:0<l.length:=by
   have g:((s-1)*I)/I=s-1:=Nat.mul_div_cancel _ (by omega)
   have i:((s-1)*I)%I=0:=Nat.mul_mod_left _ _
   have:=f ((s-1)*I) (Nat.mul_lt_mul_of_pos_right (by omega) (by omega)) (by rw [g,i,a.late (s-1) 0 (by omega) (by omega) (by omega)];omega)
   exact List.length_pos_of_mem this
  obtain⟨q,hq,j⟩: ∃ q,q<l.length∧(bd (
   gd (in64 ((s:Int)-1))<|
   bif decide (((s:Int)-1)<(x.fJ.length:Int)) then(
   gd (in64 ((s:Int)-1))<|
   gd (okI x.fJ ((s:Int)-1))<|
   gd (in64 (ix x.fJ ((s:Int)-1)))<|
   gd (okR (ix x.fJ ((s:Int)-1)) (l.length:Int))<|
   gd (okI l ((ix x.fJ ((s:Int)-1))%(l.length:Int)))<|
   some (ix l ((ix x.fJ ((s:Int)-1))%(l.length:Int)))) else(
   some (ix l 0))) some)=some (l.getD q default):=by
   rw [zh (qm (by omega)),show (s:Int)-1=((s-1:Nat):Int) by omega]
   by_cases ht:s-1<x.fJ.length
   ·have b:=w.tr _ ht
    refine⟨(x.fJ.getD (s-1) default).toNat%l.length,Nat.mod_lt _ hpos,?_⟩
    have e:x.fJ.getD (s-1) default%(l.length:Int)=(((x.fJ.getD (s-1) default).toNat%l.length:Nat):Int):=by
     rw [Int.natCast_emod,Int.toNat_of_nonneg b.1]
    rw [mo (by omega),zh (qm (by omega)),zh (qo ht),gu,zh (qm (by omega)),zh ⟨b.1,by omega⟩,e,zh (qo (Nat.mod_lt _ hpos))]
    rfl
   ·exact⟨0,hpos,by rw [bu (by omega)];rfl⟩
  obtain⟨k,H,m,o⟩:=d _ (z1g hq)
  have J:k/I<s:=Nat.div_lt_of_lt_mul (by rw [Nat.mul_comm];exact m)
  have v:k%I<I:=Nat.mod_lt _ (by omega)
  have g:(k:Int)/(I:Int)=((k/I:Nat):Int):=rfl
  have i:(k:Int)%(I:Int)=((k%I:Nat):Int):=rfl
  refine⟨zja acc (k/I) (k%I) ⟨(s:Int),(cel acc (k/I) (k%I)).out⟩,⟨by omega,zkb a c u J v o⟩,?_⟩
  simp only [pq]
  rw [r,p,mo (by omega),q9 D,zh (show okI l 0 from⟨by omega,by omega⟩)]
  have hqe':=j
  rw [H] at hqe'
  refine(q9 (x:=(k:Int)) ?_).trans ?_
  ·obtain⟨y,K,L⟩:=zk hqe'
   rw [K,←L]
  ·rw [g,i,zh ⟨by omega,by omega,by omega⟩,zh (qo (by rw [a.sh.len];omega)),zh ⟨by omega,by omega⟩,gu,zh (qo (by rw [a.sh.row _ (by omega)];exact v)),zh (qm (by omega))]
   rfl
 ·simp only [pq]
  rw [p,bu (by omega)]
  exact⟨_,rfl,hi.2⟩
structure CFill (n I:Nat) (O:Int) (s k:Nat) (X:List (List Edge)):Prop where
 sh:CSh n I O X
 rng: ∀ a i,a<n→i<I→(cel X a i).to= -1∨(0≤(cel X a i).to∧(cel X a i).to<n)
 done: ∀ a i,a<n→i<I→(a<s∨(a=s∧i<k))→0≤(cel X a i).to
 tree: ∀ t,0<t→t<n→ ∃ a i,a<t∧i<I∧(cel X a i).to=(t:Int)
theorem zn4(z:CDOk x)(J:200≤N){X:List (List Edge)}(A:(1:Int)+x.fF%6=n)(q:(1:Int)+x.fA%3=I)(B:I≤3)(K:1≤n)(L:n≤6){s:Nat}(g:s<n)(h:CFill n I O s 0 X):
 ∃ Y,yn N x (s:Int) N 0 X=some Y∧CFill n I O s I Y:=by
 have C:s*I≤6*3:=Nat.mul_le_mul (by omega) B
 refine z1a (fun F k (acc:List (List Edge))=>yn N x (s:Int) F (k:Int) acc) I (fun k acc=>CFill n I O s k acc) _ (fun F k acc i a=> .inr ?_) (fun F acc hi=>?_) N 0 X (Nat.zero_le _) (by omega) h
 ·obtain⟨v,D,l,E⟩:=number_eq (N:=N) z.ed (s*I+k)
  have r:=Int.emod_nonneg v (show (n:Int)≠0 by omega)
  have m:=Int.emod_lt_of_pos v (show 0<(n:Int) by omega)
  have G: ∀ Y,Y=(if(cel acc s k).to<0 then zja acc s k ⟨v%(n:Int),(cel acc s k).out⟩ else acc)→yn N x (s:Int) (F+1) (k:Int) acc=yn N x (s:Int) F ((k+1:Nat):Int) Y:=fun Y u=>by
   simp only [yn]
   rw [q,A,mo (by omega)]
   refine(q9 (x:=Y) ?_).trans (by rw [zh (qm (by omega))];rfl)
   have w:okI acc (s:Int):=qo (by rw [a.sh.len];exact g)
   have y:okI (ix acc (s:Int)) (k:Int):=qo (show k<(acc.getD s default).length by rw [a.sh.row _ g];exact i)
   rw [zh w,zh y]
   show (bif decide ((cel acc s k).to<0) then _ else _)=_
   by_cases hc:(cel acc s k).to<0
   ·rw [mo hc,u,if_pos hc,zh w,zdx,zh (qm (by omega)),show ((s*I:Nat):Int)+(k:Int)=((s*I+k:Nat):Int) from rfl,zh (qm (by omega)),q9 D,zh ⟨l,by omega⟩,zh y]
    rfl
   ·rw [bu hc,u,if_neg hc]
  refine⟨_,?_,G _ rfl⟩
  by_cases hc:(cel acc s k).to<0
  ·rw [if_pos hc]
   have cs:=fun b j=>zf4 a.sh (e:=⟨v%(n:Int),(cel acc s k).out⟩) g i b j
   refine⟨zih a.sh g i (a.sh.out s k g i),fun b j d f=>?_,fun b j d f c=>?_,fun t o H=>?_⟩
   ·rw [cs]
    split
    ·exact .inr ⟨r,m⟩
    ·exact a.rng b j d f
   ·rw [cs]
    split
    ·exact r
    ·rename_i hne
     exact a.done b j d f (by rcases c with c|⟨rfl,c⟩;exact .inl c;exact .inr ⟨rfl,by have: ¬j=k:=fun e=>hne ⟨rfl,e⟩;omega⟩)
   ·obtain⟨b,j,d,f,p⟩:=a.tree t o H
    refine⟨b,j,d,f,?_⟩
    rw [cs,if_neg]
    ·exact p
    ·rintro⟨rfl,rfl⟩;omega
  ·rw [if_neg hc]
   refine⟨a.sh,a.rng,fun b j d f c=>?_,a.tree⟩
   by_cases e:b=s∧j=k
   ·obtain⟨rfl,rfl⟩:=e;omega
   ·exact a.done b j d f (by rcases c with c|⟨rfl,c⟩;exact .inl c;exact .inr ⟨rfl,by have: ¬j=k:=fun e'=>e ⟨rfl,e'⟩;omega⟩)
 ·simp only [yn]
  rw [q,bu (by omega)]
  exact⟨_,rfl,hi⟩
theorem zsz(e:CDOk x)(f:200≤N){X:List (List Edge)}(c:(1:Int)+x.fF%6=n)(g:(1:Int)+x.fA%3=I)(j:I≤3)(l:1≤n)(m:n≤6)(h:CFill n I O 0 0 X):
 ∃ Y,pg N x N 0 X=some Y∧CFill n I O n 0 Y:=by
 refine z1a (fun F k (acc:List (List Edge))=>pg N x F (k:Int) acc) n (fun k acc=>CFill n I O k 0 acc) _ (fun F s acc o p=> .inr ?_) (fun F acc hi=>?_) N 0 X (Nat.zero_le _) (by omega) h
 ·obtain⟨Y,q,b⟩:=zn4 (N:=N) e f c g j l m o p
  refine⟨Y,⟨b.sh,b.rng,fun a i r hi d=>b.done a i r hi (by rcases d with d|⟨_,d⟩;exact(Nat.lt_or_ge a s).imp id (fun _=>⟨by omega,hi⟩);omega),b.tree⟩,?_⟩
  simp only [pg]
  rw [c,mo (by omega),q9 q,zh (qm (by omega))]
  rfl
 ·simp only [pg]
  rw [c,bu (by omega)]
  exact⟨_,rfl,hi⟩
end cof
theorem zqy{N:Nat}{x:Sb}(c:CDOk x)(g:200≤N): ∃ m,z06 N x=some m∧CMach m∧(m.rows.length:Int)=1+x.fF%6:=by
 obtain⟨u,D⟩:=c.st;obtain⟨E,F⟩:=c.ins;obtain⟨G,H⟩:=c.outs
 obtain⟨n,e⟩: ∃ n:Nat,(1:Int)+x.fF%6=n:=⟨((1:Int)+x.fF%6).toNat,by omega⟩
 obtain⟨I,f⟩: ∃ n:Nat,(1:Int)+x.fA%3=n:=⟨((1:Int)+x.fA%3).toNat,by omega⟩
 obtain⟨O,p⟩: ∃ O:Int,(1:Int)+x.fD%3=O:=⟨_,rfl⟩
 have h:1≤n:=by omega
 have j:n≤6:=by omega
 have v:1≤I:=by omega
 have k:I≤3:=by omega
 have q:1≤O:=by omega
 have w:O≤3:=by omega
 obtain⟨X,y,sX,fX⟩:=ztx (N:=N) c g e f p h j k q
 obtain⟨Y,z,tY⟩:=zsn (N:=N) (O:=O) c g e f v k h j (X:=X) ⟨sX,fun a i d hi=> .inl (fX a i d hi),fun a i _ d hi=>fX a i d hi,fun t J u=>by omega⟩
 obtain⟨Z,A,tZ⟩:=zsz (N:=N) (O:=O) c g e f k h j (X:=Y) ⟨tY.sh,tY.rng,fun a i d hi K=>by omega,tY.tree⟩
 refine⟨⟨(1:Int)+x.fA%3,(1:Int)+x.fD%3,Z⟩,?_,?_,by rw [e];exact congrArg Nat.cast tZ.sh.len⟩
 ·unfold z06
  rw [zh ⟨by omega,by omega⟩,zh (qm (by omega)),zh (qm (by omega)),zh ⟨by omega,by omega⟩,zh (qm (by omega)),zh (qm (by omega)),zh ⟨by omega,by omega⟩,zh (qm (by omega)),zh (qm (by omega)),q9 y,q9 z,q9 A]
 ·rw [f,p]
  have hrow: ∀ s,s<Z.length→(Z.getD s default).length=I:=fun s b=>tZ.sh.row s (by rw [tZ.sh.len] at b;exact b)
  have hlen:=tZ.sh.len
  have hdone: ∀ s i,s<n→i<I→0≤(cel Z s i).to:=fun s i b hi=>tZ.done s i b hi (.inl b)
  refine⟨⟨by show 1≤(I:Int);omega,by show (I:Int)≤16;omega,q,by show O≤16;omega,by show 1≤Z.length;omega,by show Z.length≤64;omega,fun s b=>by rw [hrow s b],fun s i b hi=>?_⟩,by show Z.length≤6;omega,by show (I:Int)≤3;omega,w,fun s i b hi=>?_,fun t l B=>?_⟩
  ·have hs':s<Z.length:=b
   have hi':i<(Z.getD s default).length:=hi
   rw [hrow s hs'] at hi'
   rw [hlen] at hs'
   have C:=hdone s i hs' hi'
   have L:=tZ.rng s i hs' hi'
   have r:=tZ.sh.out s i hs' hi'
   exact .inr ⟨C,by show (cel Z s i).to<(Z.length:Int);omega,r.1,r.2⟩
  ·have hs':s<Z.length:=b
   have hi':i<(Z.getD s default).length:=hi
   rw [hrow s hs'] at hi'
   rw [hlen] at hs'
   exact hdone s i hs' hi'
  ·have ht':t<Z.length:=B
   obtain⟨a,i,d,hi,o⟩:=tZ.tree t l (by omega)
   exact⟨a,i,d,by show i<(Z.getD a default).length;rw [hrow a (by omega)];exact hi,o⟩
theorem ztf{N:Nat}{x:Sb}(a:CDOk x)(b:200≤N): ∃ m,z06 N x=some m∧CMach m:=by
 obtain⟨m,c,d,_⟩:=zqy a b
 exact⟨m,c,d⟩
theorem CMach.all{m:Mach}(h:CMach m): ∀ t,t<m.rows.length→ ∃ j,j<(rch m 0).length∧((rch m 0).getD j default).st=t:=by
 have c:=h.ok
 have b:=z5o c (s0:=0) (by have:=c.r1;omega)
 generalize rch m 0=P at b⊢
 intro t
 induction t using Nat.strongRecOn with
 |ind t ih=>
  intro f
  by_cases h0:t=0
  ·subst h0;exact⟨0,b.pos,by rw [b.root]⟩
  ·obtain⟨a,i,g,hi,d⟩:=h.tree t (by omega) f
   obtain⟨q,k,e⟩:=ih a g (by omega)
   have hrow:=c.row a (by omega)
   have l:ed m (P.getD q default).st i=(t:Int):=by rw [e];exact d
   obtain⟨j,n,o,_⟩:=b.cls q i k (by omega) (by rw [l];omega)
   exact⟨j,n,by omega⟩
theorem CMach.len{m:Mach}(h:CMach m):(rch m 0).length=m.rows.length:=by
 have b:=h.ok
 have c:=z5o b (s0:=0) (by have:=b.r1;omega)
 have hall:=h.all
 generalize rch m 0=P at c hall⊢
 have f:=c.le
 have hsub:List.range m.rows.length⊆P.map (·.st):=by
  intro t d
  rw [List.mem_range] at d
  obtain⟨j,e,a⟩:=hall t d
  exact List.mem_map.2 ⟨_,z1g e,a⟩
 have:=List.Nodup.length_le_of_subset List.nodup_range hsub
 rw [List.length_range,List.length_map] at this
 omega
theorem zj5{l:List Edge}(h: ∀ i,i<l.length→0≤(l.getD i default).to): ∀ k,k≤l.length→zcg l k=k
 |0,_=>zfx l
 |k+1,a=>by rw [zgl l k (by omega),zj5 h k (by omega),if_pos (h k (by omega))]
theorem CMach.compl{m:Mach}(h:CMach m):zk6 m=true:=by
 have a:=h.ok
 have b:=a.i1
 have e: ∀ k,k≤m.rows.length→zb2 m k=k*m.inputs.toNat:=by
  intro k
  induction k with
  |zero=>intro _;simp [zb2]
  |succ k ih=>
   intro c
   have hrow:=a.row k (by omega)
   rw [zcu m k (by omega),ih (by omega),zj5 (h.full k · (by omega)) _ (Nat.le_refl _),Nat.succ_mul]
   omega
 unfold zk6 zra
 rw [e _ (Nat.le_refl _),decide_eq_true]
 rw [Int.natCast_mul,Int.toNat_of_nonneg (by omega)]
theorem zu4{x:Sb}(c:CDOk x):z0i 2000 x=some true:=by
 obtain⟨m,b,a⟩:=ztf (N:=2000) c (by decide)
 unfold z0i
 rw [q9 b]
 refine(q9 (zem (N:=2000) a.ok (by decide))).trans ?_
 refine(q9 (zme (N:=2000) a.ok.small (by decide))).trans ?_
 rw [(z8s m).2 a.ok]
 refine(q9 (x:=some true) ?_).trans ?_
 ·rw [zeo (by simp)]
  rw [show il 2000 ⟨m.inputs,m.outputs,m.rows⟩=_ from zh4 (N:=2000) a.ok (by decide),a.compl];rfl
 have d:(z2o (ry (rch m 0))).length=m.rows.length:=by rw [z5x,←a.len];simp [ry]
 have e:decide ((((z2o (ry (rch m 0))).length:Nat):Int)=(m.rows.length:Int))=true:=decide_eq_true (by rw [d])
 dsimp only
 rw [e,z5i]
 rfl
end GV
end Go.Proofs.Ytncblcdhmcmkmaa

namespace Go.Proofs.Ytncblcdhmcmkmaa
namespace GV
set_option maxRecDepth 1000000
theorem z1e(n:Int):0≤IntKind.u8.wrap n∧IntKind.u8.wrap n≤255:=by
 have h:IntKind.u8.wrap n=n%256:=by simp [IntKind.wrap,IntKind.signed,IntKind.bits]
 rw [h];omega
theorem zm7(n:Int):0≤IntKind.u16.wrap n∧IntKind.u16.wrap n≤65535:=by
 have h:IntKind.u16.wrap n=n%65536:=by simp [IntKind.wrap,IntKind.signed,IntKind.bits]
 rw [h];omega
def RngL(b:Int)(l:List Int):Prop:= ∀ z∈l,0≤z∧z≤b
theorem RngL.get{b:Int}{l:List Int}(h:RngL b l)(k:Nat)(a:k<l.length):0≤l.getD k default∧l.getD k default≤b:=h _ (z1g a)
theorem RngL.snoc{b z:Int}{l:List Int}(h:RngL b l)(c:0≤z∧z≤b):RngL b (l++[z]):=fun y a=>by
 rcases List.mem_append.1 a with a|a
 ·exact h y a
 ·rw [List.mem_singleton] at a;subst a;exact c
theorem zpa{k:Int}(g:0≤k∧k≤100002): ∃ r,vg 2000 2000 k [] [] 0=some r∧(0≤r.1∧r.1≤100002)∧RngL 65535 r.2.1∧RngL 255 r.2.2:=by
 refine z1a (σ:=Int×List Int×List Int) (fun F i s=>vg 2000 F s.1 s.2.1 s.2.2 (i:Int)) 18
  (fun i s=>(0≤s.1∧s.1≤100002)∧RngL 65535 s.2.1∧RngL 255 s.2.2∧s.2.1.length=i∧s.2.2.length=i) _ (fun F i s hi h=> .inr ?_) (fun F s h=>?_) 2000 0 (k,[],[]) (Nat.zero_le _) (by omega) ⟨g,fun z j=>by simp at j,fun z j=>by simp at j,rfl,rfl⟩
 ·obtain⟨a,l,t⟩:=s
  obtain⟨f,d,e,b,c⟩:=h
  dsimp only at f d e b c⊢
  have m:=Int.emod_nonneg (a*31+7*(i:Int)+11) (show (100003:Int)≠0 by decide)
  have n:=Int.emod_lt_of_pos (a*31+7*(i:Int)+11) (show (0:Int)<100003 by decide)
  refine⟨((a*31+7*(i:Int)+11)%100003,l++[IntKind.u16.wrap ((a*31+7*(i:Int)+11)%100003)],t++[IntKind.u8.wrap ((a*31+7*(i:Int)+11)%100003/7)]),⟨?_,?_,?_,?_,?_⟩,?_⟩
  rotate_right
  ·simp only [vg]
   rw [mo (by omega),zh (qm (by omega)),zh (qm (by omega)),zh (qm (by omega)),zh (qm (by omega)),zh ⟨by omega,by omega⟩,zh ⟨by simp only [List.length_singleton];omega,by simp only [List.length_singleton];omega⟩,zh ⟨by omega,by omega,by omega⟩,zh ⟨by simp only [List.length_singleton];omega,by simp only [List.length_singleton];omega⟩,zh (qm (by omega))]
   rfl
  ·exact⟨m,by omega⟩
  ·exact d.snoc (zm7 _)
  ·exact e.snoc (z1e _)
  ·simp only [List.length_append,List.length_singleton];omega
  ·simp only [List.length_append,List.length_singleton];omega
 ·obtain⟨a,l,t⟩:=s
  obtain⟨f,d,e,b,c⟩:=h
  dsimp only at f d e b c⊢
  simp only [vg]
  rw [bu (by omega)]
  exact⟨_,rfl,f,d,e⟩
theorem za5{a b c:Int}{p:Bool}{l:List Int}(d:RngL 65535 l):MDOk ⟨IntKind.u8.wrap a,IntKind.u8.wrap b,IntKind.u8.wrap c,p,l⟩:=⟨z1e _,z1e _,z1e _,d.get⟩
theorem zqo{a b c:Int}{t l:List Int}(d:RngL 255 t)(e:RngL 65535 l):CDOk ⟨IntKind.u8.wrap a,IntKind.u8.wrap b,IntKind.u8.wrap c,t,l⟩:=⟨z1e _,z1e _,z1e _,d.get,e.get⟩
theorem zl1{a b c:Int}:WDOk ⟨[IntKind.u8.wrap a,IntKind.u8.wrap b,1,2,IntKind.u8.wrap c]⟩:=by
 have h:RngL 255 [IntKind.u8.wrap a,IntKind.u8.wrap b,1,2,IntKind.u8.wrap c]:=by
  intro z d
  simp only [List.mem_cons,List.not_mem_nil,or_false] at d
  rcases d with rfl|rfl|rfl|rfl|rfl
  ·exact z1e _
  ·exact z1e _
  ·decide
  ·decide
  ·exact z1e _
 exact⟨h.get⟩
theorem zon: ∃ r,wy 2000 2000 1 0=some r∧r= .go ():=by
 refine z1a (σ:=Int) (fun F n k=>wy 2000 F k (n:Int)) 60 (fun n k=>0≤k∧k≤100002) _ (fun F n k g d=> .inr ?_) (fun F k d=>?_) 2000 0 1 (Nat.zero_le _) (by omega) (by omega)
 ·obtain⟨⟨a,l,t⟩,f,e,b,c⟩:=zpa d
  dsimp only at e b c
  refine⟨a,e,?_⟩
  simp only [wy]
  rw [mo (by omega),q9 f]
  dsimp only
  rw [zh ⟨by omega,by omega,by omega⟩,zh ⟨by omega,by omega,by omega⟩,zh ⟨by omega,by omega⟩,zh ⟨by omega,by omega,by omega⟩]
  refine(q9 (zka (za5 b))).trans ?_
  refine(q9 (x:=some true) ((zeo rfl).trans (by rw [zpg (za5 b) (z1e _) (z1e _)];rfl))).trans ?_
  refine(q9 (x:=some true) ((zeo rfl).trans (by rw [zq2 (za5 b) zl1];rfl))).trans ?_
  refine(q9 (x:=some true) ((zeo rfl).trans (by rw [zfm (za5 b) zl1 c.get];rfl))).trans ?_
  refine(q9 (x:=some true) ((zeo rfl).trans (by rw [zez (za5 b) (za5 b) (z1e _) (z1e _)];rfl))).trans ?_
  refine(zh (fun _=>⟨by omega,by omega,by omega⟩)).trans ?_
  refine(zh (fun _=>⟨by omega,by omega,by omega⟩)).trans ?_
  refine(q9 (x:=some true) ((zeo rfl).trans (by rw [zu4 (zqo c b)];rfl))).trans ?_
  refine(cf rfl).trans ?_
  exact zh (qm (by omega))
 ·simp only [wy]
  rw [bu (by omega)]
  exact⟨_,rfl,rfl⟩
def ringM:Mach:=⟨2,1,(List.range 64).map fun s=>[⟨(((s+63)%64:Nat):Int),0⟩,⟨(s:Int),0⟩]⟩
theorem zo1:nk 2000 2000 0 []=some ringM.rows:=by decide+kernel
theorem zlc:MOk ringM:=(z8s _).1 (by decide+kernel)
theorem zsu:(wdOf (rch ringM 0) 1).length=63:=by decide+kernel
theorem ztw:occ (rch ringM 0) 1=true:=by decide+kernel
theorem zti:(z4e 64 (rch ringM 10)).getD 10 default=0∧(z4e 64 (rch ringM 10)).getD 11 default=63∧(z4e 64 (rch ringM 10)).getD 9 default=1:=by decide+kernel
theorem zbl:ringM.rows.length=64:=by decide+kernel
theorem zmf:z0d 2000=some true:=by
 unfold z0d
 refine(q9 zo1).trans ?_
 refine(q9 (show z11 2000 ringM ((0:Nat):Int) ((1:Nat):Int)=_ from zls zlc (by decide) (by rw [zbl];decide) (by rw [zbl];decide))).trans ?_
 refine(q9 (show lw 2000 ringM ((10:Nat):Int)=_ from zla zlc (by decide) (by rw [zbl];decide))).trans ?_
 rw [zbl,ztw]
 have b:=zsu
 obtain⟨c,e,f⟩:=zti
 have a:=z7z 64 (rch ringM 10)
 generalize wdOf (rch ringM 0) 1=w at b⊢
 generalize z4e 64 (rch ringM 10)=d at c e f a⊢
 have g:ix d 10=0:=c
 have h:ix d 11=63:=e
 have i:ix d 9=1:=f
 refine(zh (fun _=>⟨by omega,by rw [a];decide⟩)).trans ?_
 refine(zh (fun _=>⟨by omega,by rw [a];decide⟩)).trans ?_
 refine(zh (fun _=>⟨by omega,by rw [a];decide⟩)).trans ?_
 refine(cf ?_).trans ?_
 ·dsimp only
  rw [g,h,i,a,b];rfl
 ·obtain⟨r,j,rfl⟩:=zon
  refine(q9 j).trans ?_
  rw [zdl,q9 z5i]
end GV
end Go.Proofs.Ytncblcdhmcmkmaa
