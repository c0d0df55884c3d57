
import Derived.Test.YtplgbkaollfmkaaGreatLaw39r
set_option linter.unusedVariables false
set_option linter.unusedSimpArgs false
namespace Go.Proofs.YtplgbkaollfmkaaGreat
namespace GV
set_option maxRecDepth 100000
/-! ### Machines that are complete-/
theorem zt7(m:Mach)(a:MOk m): ∀ k,k≤m.rows.length→zav m k≤m.inputs.toNat*k
 |0,_=>by simp [zav]
 |k+1,h=>by
  have b:=zt7 m a k (by omega)
  have c:=a.row k (by omega)
  have d:=zl3 (m.rows.getD k default) (m.rows.getD k default).length
  rw [z9p m k (by omega),Nat.mul_succ]
  omega
theorem zvp{m:Mach}(a:MOk m){k i:Nat}(b:k<m.rows.length)(hi:i<(m.rows.getD k default).length)(c:((m.rows.getD k default).getD i default).to<0): ∀ j,k<j→j≤m.rows.length→zav m j<m.inputs.toNat*j
 |0,h,_=>by omega
 |j+1,h,g=>by
  have hrow:=a.row j (by omega)
  have l:=zl3 (m.rows.getD j default) (m.rows.getD j default).length
  rw [z9p m j (by omega),Nat.mul_succ]
  by_cases e:k=j
  ·subst e
   have n:zav m k≤m.inputs.toNat*k:=zt7 m a k (by omega)
   have o:zg0 (m.rows.getD k default) (m.rows.getD k default).length<(m.rows.getD k default).length:=by
    unfold zg0
    rw [List.take_length]
    refine Nat.lt_of_le_of_ne List.countP_le_length fun d=>?_
    have f:=List.countP_eq_length.1 d _ (lq hi)
    exact absurd (of_decide_eq_true f) (by omega)
   omega
  ·have:=zvp a b hi c j (by omega) (by omega)
   omega
theorem zjk{m:Mach}(a:MOk m)(h:oo m=true){k i:Nat}(b:k<m.rows.length)(hi:i<(m.rows.getD k default).length):0≤((m.rows.getD k default).getD i default).to:=by
 by_cases hn:((m.rows.getD k default).getD i default).to<0
 ·have e:=zvp a b hi hn m.rows.length b (Nat.le_refl _)
  unfold oo at h
  have c:=of_decide_eq_true h
  rw [a.mul.2] at c
  have d:zrg m=m.rows.length*m.inputs.toNat:=Int.ofNat.inj c
  unfold zrg at d
  rw [Nat.mul_comm] at d
  omega
 ·omega
theorem z9i{m:Mach}(a:MOk m)(h:oo m=true){s i:Int}(c:0≤s∧s<m.rows.length)(hi:0≤i∧i<m.inputs):(0≤(ry m s i).to∧(ry m s i).to<m.rows.length)∧0≤(ry m s i).out:=by
 have hrow:=a.row s.toNat (by omega)
 have d:=zjk a h (k:=s.toNat) (i:=i.toNat) (by omega) (by omega)
 have b:=a.edge s.toNat i.toNat (by omega) (by omega)
 unfold ry
 rw [if_neg (by omega)]
 rcases b with b|b<;>omega
theorem zk0{m:Mach}(b:MOk m)(h:oo m=true): ∀ (s:Int) (w:List Int),(0≤s∧s<m.rows.length)→WOk m.inputs w→(0≤w9 m s w∧w9 m s w<m.rows.length)
 |s,[],a,_=>a
 |s,i::w,a,c=>zk0 b h _ w (z9i b h a (by simpa using c 0 (by simp))).1 (fun k d=>by simpa using c (k+1) (by simpa using d))
/-! ### The states along a word-/
def atL(m:Mach)(w:List Int):List Int:=(List.range (w.length+1)).map fun k=>w9 m 0 (w.take k)
theorem zhn{m:Mach}{w:List Int}:(atL m w).length=w.length+1:=by simp [atL]
theorem zl8{m:Mach}{w:List Int}{k:Nat}(h:k<w.length+1):(atL m w).getD k default=w9 m 0 (w.take k):=z0i _ h
theorem zq2{m:Mach}{w:List Int}(a:MOk m)(b:oo m=true)(c:WOk m.inputs w)(k:Nat):0≤w9 m 0 (w.take k)∧w9 m 0 (w.take k)<m.rows.length:=
 zk0 a b 0 _ ⟨by omega,by have:=a.r1;omega⟩ (zeg c k)
theorem zrk{m:Mach}{w:List Int}(b:MOk m)(e:oo m=true)(c:WOk m.inputs w){k:Nat}(d:k<w.length):
 okI m.rows (w9 m 0 (w.take k))∧okI (ix m.rows (w9 m 0 (w.take k))) (ix w (k:Int))∧(ix (ix m.rows (w9 m 0 (w.take k))) (ix w (k:Int))).to=w9 m 0 (w.take (k+1)):=by
 have h:=zq2 b e c k
 have a:=c k d
 have hrow:=b.row (w9 m 0 (w.take k)).toNat (by omega)
 refine⟨h,⟨a.1,by rw [zem m.rows,hrow];exact a.2⟩,?_⟩
 rw [zb6 m 0 w k d]
 unfold ry
 rw [if_neg (by omega)];rfl
theorem zyk{N:Nat}{m:Mach}{w:List Int}(c:MOk m)(d:oo m=true)(e:WOk m.inputs w)(o:w.length≤1024)(p:1100≤N):z01 N m w N 0 (mk 1 (0:Int))=some (atL m w):=by
 refine uk (σ:=List Int) (fun F k X=>z01 N m w F (k:Int) X) w.length (fun k X=>X=(List.range (k+1)).map fun j=>w9 m 0 (w.take j)) _ (fun F k X b hi=> .inr ?_) (fun F X hi=>?_) N 0 _ (Nat.zero_le _) (by omega) rfl
 ·subst hi
  refine⟨_,rfl,?_⟩
  obtain⟨f,g,h⟩:=zrk c d e b
  simp only [z01]
  have i:ix ((List.range (k+1)).map fun j=>w9 m 0 (w.take j)) (k:Int)=w9 m 0 (w.take k):=z0i _ (by omega)
  have a:((List.range (k+1)).map fun j=>w9 m 0 (w.take j)).length=k+1:=by simp
  have l:fits 8 ((List.range (k+1)).map fun j=>w9 m 0 (w.take j)) ([w9 m 0 (w.take (k+1))]:List Int):=⟨by rw [a,List.length_singleton];omega,by rw [a,List.length_singleton];omega⟩
  rw [uy (by omega),zk (qo b),zk (qo (by omega)),i,zk f,zk g,h,zk l,zk (qm (by omega)),List.range_succ (n:=k+1),List.map_append];rfl
 ·subst hi
  simp only [z01]
  rw [uo (by omega)];rfl
/-! ### Where the word identifies-/
def idB(d w:List Int)(k:Nat):Bool:=decide (k+d.length≤w.length)&&decide ((w.drop k).take d.length=d)
def idL(d w:List Int):List Bool:=(List.range (w.length+1)).map (idB d w)
theorem zl6{d w:List Int}:(idL d w).length=w.length+1:=by simp [idL]
theorem zi5{d w:List Int}{k:Nat}(h:k<w.length+1):(idL d w).getD k default=idB d w k:=z0i _ h
theorem q3x(w:List Int)(k n:Nat):cut w (k:Int) ((k:Int)+(n:Int))=(w.drop k).take n:=by
 unfold cut
 rw [show ((k:Int)+(n:Int)).toNat-((k:Int)).toNat=n by omega];rfl
theorem zwv{N:Nat}{d w X:List Int}(m:X.length=w.length+1)(n:d.length≤256)(o:w.length≤1024)(p:1100≤N):
 z05 N d w X N 0 (mk ((w.length:Int)+1) false) (mk ((w.length:Int)+1) false)=some (idL d w,idL d w):=by
 have j:mk ((w.length:Int)+1) false=List.replicate (w.length+1) false:=rfl
 rw [j]
 refine uk (σ:=List Bool×List Bool) (fun F k x=>z05 N d w X F (k:Int) x.1 x.2) (w.length+1) (fun k x=>x.1=(List.range k).map (idB d w)++List.replicate (w.length+1-k) false∧x.2=x.1) _ (fun F k x l hi=> .inr ?_) (fun F x hi=>?_) N 0 (_,_) (Nat.zero_le _) (by omega) ⟨rfl,rfl⟩
 ·obtain⟨Y,Z⟩:=x
  obtain⟨rfl,b⟩:=hi
  have h2':Z=(List.range k).map (idB d w)++List.replicate (w.length+1-k) false:=b
  subst h2'
  refine⟨((List.range (k+1)).map (idB d w)++List.replicate (w.length+1-(k+1)) false,(List.range (k+1)).map (idB d w)++List.replicate (w.length+1-(k+1)) false),⟨rfl,rfl⟩,?_⟩
  have c:((List.range k).map (idB d w)).length=k:=by simp
  have g:((List.range (k+1)).map (idB d w)++List.replicate (w.length+1-(k+1)) false).length=w.length+1:=by simp;omega
  have i:((List.range k).map (idB d w)++List.replicate (w.length+1-k) false).length=w.length+1:=by simp;omega
  have hset:((List.range k).map (idB d w)++List.replicate (w.length+1-k) false).set k (idB d w k)=(List.range (k+1)).map (idB d w)++List.replicate (w.length+1-(k+1)) false:=by
   rw [zhd c l,List.range_succ,List.map_append];rfl
  have f:ix ((List.range (k+1)).map (idB d w)++List.replicate (w.length+1-(k+1)) false) (k:Int)=idB d w k:=by
   rw [ak,List.getD_eq_getElem?_getD,List.getElem?_append_left (by simp)]
   rw [←List.getD_eq_getElem?_getD];exact z0i _ (by omega)
  simp only [z05]
  rw [uy (by omega),zk (qm (by omega)),zk (fun _=>qm (by omega))]
  by_cases h:(k:Int)+(d.length:Int)≤(w.length:Int)
  ·have a:(decide ((k:Int)+(d.length:Int)≤(w.length:Int))&&(some (decide ((w.drop k).take d.length=d))).getD default)=idB d w k:=by
    unfold idB
    rw [decide_eq_true h,decide_eq_true (show k+d.length≤w.length by omega)];rfl
   rw [zk (fun _=>⟨by omega,by omega,by omega⟩),decide_eq_true h]
   refine(zq6 rfl (show slices_Equal_int N (cut w (k:Int) ((k:Int)+(d.length:Int))) d=some (decide ((w.drop k).take d.length=d)) from by rw [q3x];exact zjj (by rw [List.length_take,List.length_drop];omega) (by rw [List.length_take,List.length_drop];omega))).trans ?_
   rw [decide_eq_true h] at a
   rw [a,zk (qo (by omega)),z4g,hset,zk (qo (by omega)),zk (qo (by omega)),zk (qm (by omega)),f,z4g,hset];rfl
  ·have a:idB d w k=false:=by
    unfold idB
    rw [decide_eq_false (show¬(k+d.length≤w.length) by omega)];rfl
   rw [a] at hset f
   rw [zk (fun e=>by rw [decide_eq_false h] at e;exact absurd e (by decide)),decide_eq_false h]
   refine(qc (x:=none) rfl).trans ?_
   rw [Bool.false_and,zk (qo (by omega)),z4g,hset,zk (qo (by omega)),zk (qo (by omega)),zk (qm (by omega)),f,z4g,hset];rfl
 ·obtain⟨Y,Z⟩:=x
  obtain⟨rfl,b⟩:=hi
  simp only [z05]
  rw [uo (by omega),show Z=_ from b]
  simp only [Nat.sub_self,List.replicate_zero,List.append_nil];rfl
end GV
end Go.Proofs.YtplgbkaollfmkaaGreat

namespace Go.Proofs.YtplgbkaollfmkaaGreat
namespace GV
set_option maxRecDepth 100000
theorem zzl{X:List Bool}{s k:Nat}(a:k<X.length):((X.set s true).getD k default=true)↔(X.getD k default=true∨s=k):=by
 rw [List.getD_eq_getElem?_getD,List.getD_eq_getElem?_getD]
 by_cases h:s=k
 ·subst h
  rw [List.getElem?_set_self a]
  exact⟨fun _=> .inr rfl,fun _=>rfl⟩
 ·rw [List.getElem?_set_ne h]
  exact⟨.inl,fun b=>b.resolve_right h⟩
theorem zz3{X Y:List Bool}(b:X.length=Y.length)(h: ∀ k,k<X.length→(X.getD k default=true↔Y.getD k default=true)):X=Y:=by
 apply List.ext_getElem b
 intro k a c
 have:=h k a
 rw [List.getD_eq_getElem?_getD,List.getD_eq_getElem?_getD,List.getElem?_eq_getElem a,List.getElem?_eq_getElem c] at this
 exact Bool.eq_iff_iff.2 this
def Cmp(d w:List Int)(i j k:Nat):Prop:= ∃ l,j+l+1=k∧(∀ t,t≤l→i+t<w.length∧j+t<w.length∧w.getD (i+t) default=w.getD (j+t) default)∧idB d w (i+l+1)=true
theorem cmp_eq{N:Nat}{d w e:List Int}{a b:Int}{c:List (List Edge)}{X:List Bool}{i j:Nat}(hi:i≤w.length)(I:j≤w.length)(B:X.length=w.length+1)(J:w.length≤1024)(K:1100≤N):
 ∃ Y,z2h N (i:Int) (j:Int) a b c w e (idL d w) X=some Y∧Y.length=w.length+1∧ ∀ k,k<w.length+1→(Y.getD k default=true↔X.getD k default=true∨Cmp d w i j k):=by
 unfold z2h
 have C:(idL d w).length=w.length+1:=zl6
 refine fo (σ:=List Bool) (fun F l Z=>o9 N (i:Int) (j:Int) w (idL d w) F (l:Int) Z) (w.length-max i j)
  (fun l Z=>Z.length=w.length+1∧(∀ t,t<l→i+t<w.length∧j+t<w.length∧w.getD (i+t) default=w.getD (j+t) default)∧ ∀ k,k<w.length+1→(Z.getD k default=true↔X.getD k default=true∨ ∃ l',l'<l∧j+l'+1=k∧idB d w (i+l'+1)=true))
  _ (fun F l Z D m=>?_) (fun F Z m=>?_) N 0 X (Nat.zero_le _) (by omega) ⟨B,fun t v=>by omega,fun k o=>⟨.inl,fun h=>h.elim id fun⟨l',h',_⟩=>by omega⟩⟩
 ·obtain⟨q,n,m⟩:=m
  simp only [o9]
  have r:max (i:Int) (j:Int)+(l:Int)<(w.length:Int):=by omega
  have E:okI w ((i:Int)+(l:Int)):=⟨by omega,by omega⟩
  have G:okI w ((j:Int)+(l:Int)):=⟨by omega,by omega⟩
  have z:okI (idL d w) ((i:Int)+(l:Int)+1):=⟨by omega,by omega⟩
  have H:okI Z ((j:Int)+(l:Int)+1):=⟨by omega,by omega⟩
  rw [zk (qm (by omega)),zk (fun _=>qm (by omega)),zk (fun _=>E),zk (fun _=>qm (by omega)),zk (fun _=>G),decide_eq_true r]
  by_cases s:w.getD (i+l) default=w.getD (j+l) default
  ·right
   have hw':ix w ((i:Int)+(l:Int))=ix w ((j:Int)+(l:Int)):=s
   have p:(true&&decide (ix w ((i:Int)+(l:Int))=ix w ((j:Int)+(l:Int))))=true:=by rw [decide_eq_true hw'];rfl
   have heq': ∀ t,t<l+1→i+t<w.length∧j+t<w.length∧w.getD (i+t) default=w.getD (j+t) default:=fun t v=>by
    by_cases e:t=l
    ·subst e;exact⟨by omega,by omega,s⟩
    ·exact n t (by omega)
   have A:ix (idL d w) ((i:Int)+(l:Int)+1)=idB d w (i+l+1):=zi5 (by omega)
   cases hb:idB d w (i+l+1)
   ·refine⟨Z,⟨q,heq',fun k o=>(m k o).trans (or_congr Iff.rfl ?_)⟩,?_⟩
    ·constructor
     ·rintro⟨l',h',f⟩
      exact⟨l',by omega,f⟩
     ·rintro⟨l',h',f,g⟩
      refine⟨l',?_,f,g⟩
      by_cases e:l'=l
      ·subst e;rw [hb] at g;exact absurd g (by decide)
      ·omega
    ·refine(ct p).trans ?_
     refine(qc (x:=Z) ?_).trans (zk (qm (by omega)))
     rw [zk (qm (by omega)),zk (qm (by omega)),zk z,A,hb]
     exact cf rfl
   ·refine⟨Z.set (j+l+1) true,⟨by rw [List.length_set];exact q,heq',fun k o=>(zzl (by omega)).trans ((or_congr (m k o) Iff.rfl).trans ?_)⟩,?_⟩
    ·constructor
     ·rintro((h|⟨l',h',f⟩)|h)
      ·exact .inl h
      ·exact .inr ⟨l',by omega,f⟩
      ·exact .inr ⟨l,by omega,h,hb⟩
     ·rintro(h|⟨l',h',f,g⟩)
      ·exact .inl (.inl h)
      ·by_cases e:l'=l
       ·subst e;exact .inr f
       ·exact .inl (.inr ⟨l',by omega,f,g⟩)
    ·refine(ct p).trans ?_
     refine(qc (x:=Z.set (j+l+1) true) ?_).trans (zk (qm (by omega)))
     rw [zk (qm (by omega)),zk (qm (by omega)),zk z,A,hb]
     refine(ct rfl).trans ?_
     rw [zk (qm (by omega)),zk (qm (by omega)),zk H];rfl
  ·left
   have hw': ¬ix w ((i:Int)+(l:Int))=ix w ((j:Int)+(l:Int)):=s
   have p:(true&&decide (ix w ((i:Int)+(l:Int))=ix w ((j:Int)+(l:Int))))=false:=by rw [decide_eq_false hw'];rfl
   refine⟨Z,cf p,q,fun k o=>(m k o).trans (or_congr Iff.rfl ?_)⟩
   constructor
   ·rintro⟨l',h',f,g⟩
    exact⟨l',f,fun t v=>n t (by omega),g⟩
   ·rintro⟨l',f,g,y⟩
    refine⟨l',?_,f,y⟩
    by_cases e:l≤l'
    ·exact absurd (g l e).2.2 s
    ·omega
 ·obtain⟨q,n,m⟩:=m
  simp only [o9]
  have r: ¬max (i:Int) (j:Int)+((w.length-max i j:Nat):Int)<(w.length:Int):=by omega
  have u: ∀ P:Prop,((true&&((decide (max (i:Int) (j:Int)+((w.length-max i j:Nat):Int)<(w.length:Int)))==true))=true→P):=fun P e=>by rw [decide_eq_false r] at e;exact absurd e (by decide)
  rw [zk (qm (by omega)),zk (u _),zk (u _),zk (u _),zk (u _)]
  have p: ∀ b:Bool,(decide (max (i:Int) (j:Int)+((w.length-max i j:Nat):Int)<(w.length:Int))&&b)=false:=fun b=>by rw [decide_eq_false r];rfl
  refine⟨Z,cf (p _),q,fun k o=>(m k o).trans (or_congr Iff.rfl ?_)⟩
  constructor
  ·rintro⟨l',h',f,g⟩
   exact⟨l',f,fun t v=>n t (by omega),g⟩
  ·rintro⟨l',f,g,y⟩
   have:=g l' (Nat.le_refl _)
   exact⟨l',by omega,f,y⟩
end GV
end Go.Proofs.YtplgbkaollfmkaaGreat

namespace Go.Proofs.YtplgbkaollfmkaaGreat
namespace GV
set_option maxRecDepth 100000
def q1e(m:Mach)(d w:List Int)(i j:Nat):Prop:=i≠j∧idB d w i=true∧idB d w j=true∧w9 m 0 (w.take i)=w9 m 0 (w.take j)
def zg7(m:Mach)(d w:List Int)(k:Nat):Prop:=idB d w k=true∨ ∃ j,j<w.length+1∧ ∃ i,i<w.length+1∧q1e m d w i j∧Cmp d w i j k
open Classical in
noncomputable def knL(m:Mach)(d w:List Int):List Bool:=(List.range (w.length+1)).map fun k=>decide (zg7 m d w k)
theorem zqn{m:Mach}{d w:List Int}:(knL m d w).length=w.length+1:=by simp [knL]
open Classical in
theorem zfk{m:Mach}{d w:List Int}{k:Nat}(h:k<w.length+1):(knL m d w).getD k default=true↔zg7 m d w k:=by
 unfold knL
 rw [z0i _ h,decide_eq_true_iff]
theorem zy8{N:Nat}{m:Mach}{d w:List Int}{X Z0:List Bool}{s:Nat}(v:s<w.length+1)(y:X.length=w.length+1)(z:w.length≤1024)(A:1100≤N):
 ∃ Y,z00 N m w (atL m w) (idL d w,Z0) (s:Int) N 0 X=some Y∧Y.length=w.length+1∧ ∀ k,k<w.length+1→(Y.getD k default=true↔X.getD k default=true∨ ∃ i,i<w.length+1∧q1e m d w i s∧Cmp d w i s k):=by
 have B:(idL d w).length=w.length+1:=zl6
 have C:(atL m w).length=w.length+1:=zhn
 refine fo (σ:=List Bool) (fun F i Z=>z00 N m w (atL m w) (idL d w,Z0) (s:Int) F (i:Int) Z) (w.length+1)
  (fun i Z=>Z.length=w.length+1∧ ∀ k,k<w.length+1→(Z.getD k default=true↔X.getD k default=true∨ ∃ i',i'<i∧q1e m d w i' s∧Cmp d w i' s k))
  _ (fun F i Z hi f=> .inr ?_) (fun F Z f=>?_) N 0 X (Nat.zero_le _) (by omega) ⟨y,fun k l=>⟨.inl,fun h=>h.elim id fun⟨i',h',_⟩=>by omega⟩⟩
 ·obtain⟨n,f⟩:=f
  simp only [z00]
  have D:okI (idL d w) (i:Int):=qo (by omega)
  have E:okI (idL d w) (s:Int):=qo (by omega)
  have G:okI (atL m w) (i:Int):=qo (by omega)
  have H:okI (atL m w) (s:Int):=qo (by omega)
  have p:ix (idL d w) (i:Int)=idB d w i:=zi5 hi
  have q:ix (idL d w) (s:Int)=idB d w s:=zi5 v
  have r:ix (atL m w) (i:Int)=w9 m 0 (w.take i):=zl8 hi
  have t:ix (atL m w) (s:Int)=w9 m 0 (w.take s):=zl8 v
  rw [uy (by omega),zk (fun _=>D),zk (fun _=>E),zk (fun _=>G),zk (fun _=>H),p,q,r,t]
  by_cases hp:q1e m d w i s
  ·obtain⟨Y,I,J,K⟩:=cmp_eq (N:=N) (d:=d) (w:=w) (e:=atL m w) (a:=m.inputs) (b:=m.outputs) (c:=m.rows) (X:=Z) (i:=i) (j:=s) (by omega) (by omega) n z A
   refine⟨Y,⟨J,fun k l=>(K k l).trans ((or_congr (f k l) Iff.rfl).trans ?_)⟩,?_⟩
   ·constructor
    ·rintro((h|⟨i',h',g⟩)|h)
     ·exact .inl h
     ·exact .inr ⟨i',by omega,g⟩
     ·exact .inr ⟨i,by omega,hp,h⟩
    ·rintro(h|⟨i',h',g,o⟩)
     ·exact .inl (.inl h)
     ·by_cases e:i'=i
      ·subst e;exact .inr o
      ·exact .inl (.inr ⟨i',by omega,g,o⟩)
   ·have u:((((decide ((i:Int)≠(s:Int)))&&idB d w i)&&idB d w s)&&(decide (w9 m 0 (w.take i)=w9 m 0 (w.take s))))=true:=by
     rw [decide_eq_true (show (i:Int)≠(s:Int) by have:=hp.1;omega),hp.2.1,hp.2.2.1,decide_eq_true hp.2.2.2];rfl
    refine(qc (x:=Y) ?_).trans (zk (qm (by omega)))
    refine(ct u).trans ?_
    exact qc I
  ·refine⟨Z,⟨n,fun k l=>(f k l).trans (or_congr Iff.rfl ?_)⟩,?_⟩
   ·constructor
    ·rintro⟨i',h',g⟩
     exact⟨i',by omega,g⟩
    ·rintro⟨i',h',g,o⟩
     by_cases e:i'=i
     ·subst e;exact absurd g hp
     ·exact⟨i',by omega,g,o⟩
   ·have u:((((decide ((i:Int)≠(s:Int)))&&idB d w i)&&idB d w s)&&(decide (w9 m 0 (w.take i)=w9 m 0 (w.take s))))=false:=by
     rw [Bool.eq_false_iff]
     intro h
     rw [Bool.and_eq_true,Bool.and_eq_true,Bool.and_eq_true,decide_eq_true_iff,decide_eq_true_iff] at h
     exact hp ⟨by have:=h.1.1.1;omega,h.1.1.2,h.1.2,h.2⟩
    refine(qc (x:=Z) ?_).trans (zk (qm (by omega)))
    exact cf u
 ·obtain⟨n,f⟩:=f
  simp only [z00]
  rw [uo (by omega)]
  exact⟨Z,rfl,n,f⟩
theorem zy5{N:Nat}{m:Mach}{d w:List Int}(p:w.length≤1024)(q:1100≤N):
 fq N m w (atL m w) (idL d w,idL d w) N 0 (idL d w)=some (knL m d w):=by
 have f:(idL d w).length=w.length+1:=zl6
 have r:(atL m w).length=w.length+1:=zhn
 obtain⟨Y,g,l,n⟩: ∃ Y,fq N m w (atL m w) (idL d w,idL d w) N 0 (idL d w)=some Y∧Y.length=w.length+1∧ ∀ k,k<w.length+1→(Y.getD k default=true↔zg7 m d w k):=by
  refine fo (σ:=List Bool) (fun F j Z=>fq N m w (atL m w) (idL d w,idL d w) F (j:Int) Z) (w.length+1)
   (fun j Z=>Z.length=w.length+1∧ ∀ k,k<w.length+1→(Z.getD k default=true↔idB d w k=true∨ ∃ j',j'<j∧ ∃ i,i<w.length+1∧q1e m d w i j'∧Cmp d w i j' k))
   _ (fun F j Z s a=> .inr ?_) (fun F Z a=>?_) N 0 (idL d w) (Nat.zero_le _) (by omega) ⟨f,fun k b=>by rw [zi5 b];exact⟨.inl,fun h=>h.elim id fun⟨j',h',_⟩=>by omega⟩⟩
  ·obtain⟨o,a⟩:=a
   obtain⟨Y,g,l,n⟩:=zy8 (m:=m) (d:=d) (Z0:=idL d w) s o p q
   refine⟨Y,⟨l,fun k b=>(n k b).trans ((or_congr (a k b) Iff.rfl).trans ?_)⟩,?_⟩
   ·constructor
    ·rintro((h|⟨j',h',c⟩)|h)
     ·exact .inl h
     ·exact .inr ⟨j',by omega,c⟩
     ·exact .inr ⟨j,by omega,h⟩
    ·rintro(h|⟨j',h',c⟩)
     ·exact .inl (.inl h)
     ·by_cases e:j'=j
      ·subst e;exact .inr c
      ·exact .inl (.inr ⟨j',by omega,c⟩)
   ·simp only [fq]
    rw [uy (by omega),qc g]
    exact zk (qm (by omega))
  ·obtain⟨o,a⟩:=a
   simp only [fq]
   rw [uo (by omega)]
   exact⟨Z,rfl,o,a⟩
 rw [g,show Y=knL m d w from zz3 (by rw [l,zqn]) fun k b=>(n k (by omega)).trans (zfk (by omega)).symm]
theorem follow_eq{N:Nat}{m:Mach}{d w:List Int}(f:MOk m)(h:oo m=true)(l:canI m d=0)(i:d.length≤256)(j:zki m w=0)(a:1100≤N):
 z4v N m d w=some (some ⟨m,w,atL m w,idL d w,knL m d w⟩,0):=by
 obtain⟨b,c⟩:=zwr j
 unfold z4v
 have e:in64 ((w.length:Int)+1):=qm (by omega)
 have g:okM 1 ((w.length:Int)+1):=⟨by omega,by omega,by omega⟩
 have k:okM 8 ((w.length:Int)+1)∧0≤(1:Int)∧(1:Int)≤(w.length:Int)+1:=⟨⟨by omega,by omega,by omega⟩,by omega,by omega⟩
 rw [qc (q6m f.small (by omega) (by omega)),uo (by omega),qc (q4c a),uo (by omega),zk e,zk k,zk e,zk g,zk e,zk g]
 rw [qc (zyk f h c b a),qc (zwv zhn i b a),qc (zy5 b a)]
end GV
end Go.Proofs.YtplgbkaollfmkaaGreat

namespace Go.Proofs.YtplgbkaollfmkaaGreat
namespace GV
set_option maxRecDepth 100000
theorem q27{X Y:List Int}(b:X.length=Y.length)(h: ∀ k,k<X.length→X.getD k default=Y.getD k default):X=Y:=by
 apply List.ext_getElem b
 intro k a c
 have:=h k a
 rwa [List.getD_eq_getElem?_getD,List.getD_eq_getElem?_getD,List.getElem?_eq_getElem a,List.getElem?_eq_getElem c] at this
end GV
end Go.Proofs.YtplgbkaollfmkaaGreat
