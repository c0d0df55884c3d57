
import Derived.Test.YtplgbkaollfmkaaLaw39r
set_option linter.unusedVariables false
set_option linter.unusedSimpArgs false
namespace Go.Proofs.Ytplgbkaollfmkaa
namespace GV
set_option maxRecDepth 100000
/-! ### Machines that are complete-/
theorem zq9(m:Mach)(a:MOk m): ∀ k,k≤m.rows.length→zas m k≤m.inputs.toNat*k
 |0,_=>by simp [zas]
 |k+1,h=>by
  have b:=zq9 m a k (by omega)
  have c:=a.row k (by omega)
  have d:=ziz (m.rows.getD k default) (m.rows.getD k default).length
  rw [zb2 m k (by omega),Nat.mul_succ]
  omega
theorem zsh{m:Mach}(a:MOk m){k i:Nat}(b:k<m.rows.length)(hi:i<(m.rows.getD k default).length)(c:((m.rows.getD k default).getD i default).to<0): ∀ j,k<j→j≤m.rows.length→zas m j<m.inputs.toNat*j
 |0,h,_=>by omega
 |j+1,h,g=>by
  have hrow:=a.row j (by omega)
  have l:=ziz (m.rows.getD j default) (m.rows.getD j default).length
  rw [zb2 m j (by omega),Nat.mul_succ]
  by_cases e:k=j
  ·subst e
   have n:zas m k≤m.inputs.toNat*k:=zq9 m a k (by omega)
   have o:zfi (m.rows.getD k default) (m.rows.getD k default).length<(m.rows.getD k default).length:=by
    unfold zfi
    rw [List.take_length]
    refine Nat.lt_of_le_of_ne List.countP_le_length fun d=>?_
    have f:=List.countP_eq_length.1 d _ (ay hi)
    exact absurd (of_decide_eq_true f) (by omega)
   omega
  ·have:=zsh a b hi c j (by omega) (by omega)
   omega
theorem zuk{m:Mach}(a:MOk m)(h:z0x m=true){k i:Nat}(b:k<m.rows.length)(hi:i<(m.rows.getD k default).length):0≤((m.rows.getD k default).getD i default).to:=by
 by_cases hn:((m.rows.getD k default).getD i default).to<0
 ·have e:=zsh a b hi hn m.rows.length b (Nat.le_refl _)
  unfold z0x at h
  have c:=of_decide_eq_true h
  rw [a.mul.2] at c
  have d:zvo m=m.rows.length*m.inputs.toNat:=Int.ofNat.inj c
  unfold zvo at d
  rw [Nat.mul_comm] at d
  omega
 ·omega
theorem zrb{m:Mach}(a:MOk m)(h:z0x m=true){s i:Int}(c:0≤s∧s<m.rows.length)(hi:0≤i∧i<m.inputs):(0≤(z1c m s i).to∧(z1c m s i).to<m.rows.length)∧0≤(z1c m s i).out:=by
 have hrow:=a.row s.toNat (by omega)
 have d:=zuk a h (k:=s.toNat) (i:=i.toNat) (by omega) (by omega)
 have b:=a.edge s.toNat i.toNat (by omega) (by omega)
 unfold z1c
 rw [if_neg (by omega)]
 rcases b with b|b<;>omega
theorem zmv{m:Mach}(b:MOk m)(h:z0x m=true): ∀ (s:Int) (w:List Int),(0≤s∧s<m.rows.length)→WOk m.inputs w→(0≤dx m s w∧dx m s w<m.rows.length)
 |s,[],a,_=>a
 |s,i::w,a,c=>zmv b h _ w (zrb b h a (by simpa using c 0 (by simp))).1 (fun k d=>by simpa using c (k+1) (by simpa using d))
/-! ### The states along a word-/
def atL(m:Mach)(w:List Int):List Int:=(List.range (w.length+1)).map fun k=>dx m 0 (w.take k)
theorem atL_len{m:Mach}{w:List Int}:(atL m w).length=w.length+1:=by simp [atL]
theorem znt{m:Mach}{w:List Int}{k:Nat}(h:k<w.length+1):(atL m w).getD k default=dx m 0 (w.take k):=xc _ h
theorem zxg{m:Mach}{w:List Int}(a:MOk m)(b:z0x m=true)(c:WOk m.inputs w)(k:Nat):0≤dx m 0 (w.take k)∧dx m 0 (w.take k)<m.rows.length:=
 zmv a b 0 _ ⟨by omega,by have:=a.r1;omega⟩ (zjn c k)
theorem zjd{m:Mach}{w:List Int}(b:MOk m)(e:z0x m=true)(c:WOk m.inputs w){k:Nat}(d:k<w.length):
 okI m.rows (dx m 0 (w.take k))∧okI (ix m.rows (dx m 0 (w.take k))) (ix w (k:Int))∧(ix (ix m.rows (dx m 0 (w.take k))) (ix w (k:Int))).to=dx m 0 (w.take (k+1)):=by
 have h:=zxg b e c k
 have a:=c k d
 have hrow:=b.row (dx m 0 (w.take k)).toNat (by omega)
 refine⟨h,⟨a.1,by rw [zev m.rows,hrow];exact a.2⟩,?_⟩
 rw [zh4 m 0 w k d]
 unfold z1c
 rw [if_neg (by omega)];rfl
theorem zwd{N:Nat}{m:Mach}{w:List Int}(c:MOk m)(d:z0x m=true)(e:WOk m.inputs w)(o:w.length≤1024)(p:1100≤N):sj N m w N 0 (mk 1 (0:Int))=some (atL m w):=by
 refine ug (σ:=List Int) (fun F k X=>sj N m w F (k:Int) X) w.length (fun k X=>X=(List.range (k+1)).map fun j=>dx m 0 (w.take j)) _ (fun F k X b hi=> .inr ?_) (fun F X hi=>?_) N 0 _ (Nat.zero_le _) (by omega) rfl
 ·subst hi
  refine⟨_,rfl,?_⟩
  obtain⟨f,g,h⟩:=zjd c d e b
  simp only [sj]
  have i:ix ((List.range (k+1)).map fun j=>dx m 0 (w.take j)) (k:Int)=dx m 0 (w.take k):=xc _ (by omega)
  have a:((List.range (k+1)).map fun j=>dx m 0 (w.take j)).length=k+1:=by simp
  have l:fits 8 ((List.range (k+1)).map fun j=>dx m 0 (w.take j)) ([dx m 0 (w.take (k+1))]:List Int):=⟨by rw [a,List.length_singleton];omega,by rw [a,List.length_singleton];omega⟩
  rw [uy (by omega),zm (qx b),zm (qx (by omega)),i,zm f,zm g,h,zm l,zm (qo (by omega)),List.range_succ (n:=k+1),List.map_append];rfl
 ·subst hi
  simp only [sj]
  rw [ul (by omega)];rfl
/-! ### Where the word identifies-/
def idB(d w:List Int)(k:Nat):Bool:=decide (k+d.length≤w.length)&&decide ((w.drop k).take d.length=d)
def idL(d w:List Int):List Bool:=(List.range (w.length+1)).map (idB d w)
theorem idL_len{d w:List Int}:(idL d w).length=w.length+1:=by simp [idL]
theorem ze0{d w:List Int}{k:Nat}(h:k<w.length+1):(idL d w).getD k default=idB d w k:=xc _ h
theorem zt2(w:List Int)(k n:Nat):cut w (k:Int) ((k:Int)+(n:Int))=(w.drop k).take n:=by
 unfold cut
 rw [show ((k:Int)+(n:Int)).toNat-((k:Int)).toNat=n by omega];rfl
theorem zu9{N:Nat}{d w X:List Int}(m:X.length=w.length+1)(n:d.length≤256)(o:w.length≤1024)(p:1100≤N):
 iy N d w X N 0 (mk ((w.length:Int)+1) false) (mk ((w.length:Int)+1) false)=some (idL d w,idL d w):=by
 have j:mk ((w.length:Int)+1) false=List.replicate (w.length+1) false:=rfl
 rw [j]
 refine ug (σ:=List Bool×List Bool) (fun F k x=>iy N d w X F (k:Int) x.1 x.2) (w.length+1) (fun k x=>x.1=(List.range k).map (idB d w)++List.replicate (w.length+1-k) false∧x.2=x.1) _ (fun F k x l hi=> .inr ?_) (fun F x hi=>?_) N 0 (_,_) (Nat.zero_le _) (by omega) ⟨rfl,rfl⟩
 ·obtain⟨Y,Z⟩:=x
  obtain⟨rfl,b⟩:=hi
  have h2':Z=(List.range k).map (idB d w)++List.replicate (w.length+1-k) false:=b
  subst h2'
  refine⟨((List.range (k+1)).map (idB d w)++List.replicate (w.length+1-(k+1)) false,(List.range (k+1)).map (idB d w)++List.replicate (w.length+1-(k+1)) false),⟨rfl,rfl⟩,?_⟩
  have c:((List.range k).map (idB d w)).length=k:=by simp
  have g:((List.range (k+1)).map (idB d w)++List.replicate (w.length+1-(k+1)) false).length=w.length+1:=by simp;omega
  have i:((List.range k).map (idB d w)++List.replicate (w.length+1-k) false).length=w.length+1:=by simp;omega
  have hset:((List.range k).map (idB d w)++List.replicate (w.length+1-k) false).set k (idB d w k)=(List.range (k+1)).map (idB d w)++List.replicate (w.length+1-(k+1)) false:=by
   rw [zgo c l,List.range_succ,List.map_append];rfl
  have f:ix ((List.range (k+1)).map (idB d w)++List.replicate (w.length+1-(k+1)) false) (k:Int)=idB d w k:=by
   rw [om,List.getD_eq_getElem?_getD,List.getElem?_append_left (by simp)]
   rw [←List.getD_eq_getElem?_getD];exact xc _ (by omega)
  simp only [iy]
  rw [uy (by omega),zm (qo (by omega)),zm (fun _=>qo (by omega))]
  by_cases h:(k:Int)+(d.length:Int)≤(w.length:Int)
  ·have a:(decide ((k:Int)+(d.length:Int)≤(w.length:Int))&&(some (decide ((w.drop k).take d.length=d))).getD default)=idB d w k:=by
    unfold idB
    rw [decide_eq_true h,decide_eq_true (show k+d.length≤w.length by omega)];rfl
   rw [zm (fun _=>⟨by omega,by omega,by omega⟩),decide_eq_true h]
   refine(zil rfl (show slices_Equal_int N (cut w (k:Int) ((k:Int)+(d.length:Int))) d=some (decide ((w.drop k).take d.length=d)) from by rw [zt2];exact zhg (by rw [List.length_take,List.length_drop];omega) (by rw [List.length_take,List.length_drop];omega))).trans ?_
   rw [decide_eq_true h] at a
   rw [a,zm (qx (by omega)),z4i,hset,zm (qx (by omega)),zm (qx (by omega)),zm (qo (by omega)),f,z4i,hset];rfl
  ·have a:idB d w k=false:=by
    unfold idB
    rw [decide_eq_false (show¬(k+d.length≤w.length) by omega)];rfl
   rw [a] at hset f
   rw [zm (fun e=>by rw [decide_eq_false h] at e;exact absurd e (by decide)),decide_eq_false h]
   refine(qc (x:=none) rfl).trans ?_
   rw [Bool.false_and,zm (qx (by omega)),z4i,hset,zm (qx (by omega)),zm (qx (by omega)),zm (qo (by omega)),f,z4i,hset];rfl
 ·obtain⟨Y,Z⟩:=x
  obtain⟨rfl,b⟩:=hi
  simp only [iy]
  rw [ul (by omega),show Z=_ from b]
  simp only [Nat.sub_self,List.replicate_zero,List.append_nil];rfl
end GV
end Go.Proofs.Ytplgbkaollfmkaa

namespace Go.Proofs.Ytplgbkaollfmkaa
namespace GV
set_option maxRecDepth 100000
theorem zvl{X:List Bool}{s k:Nat}(a:k<X.length):((X.set s true).getD k default=true)↔(X.getD k default=true∨s=k):=by
 rw [List.getD_eq_getElem?_getD,List.getD_eq_getElem?_getD]
 by_cases h:s=k
 ·subst h
  rw [List.getElem?_set_self a]
  exact⟨fun _=> .inr rfl,fun _=>rfl⟩
 ·rw [List.getElem?_set_ne h]
  exact⟨.inl,fun b=>b.resolve_right h⟩
theorem zvb{X Y:List Bool}(b:X.length=Y.length)(h: ∀ k,k<X.length→(X.getD k default=true↔Y.getD k default=true)):X=Y:=by
 apply List.ext_getElem b
 intro k a c
 have:=h k a
 rw [List.getD_eq_getElem?_getD,List.getD_eq_getElem?_getD,List.getElem?_eq_getElem a,List.getElem?_eq_getElem c] at this
 exact Bool.eq_iff_iff.2 this
def Cmp(d w:List Int)(i j k:Nat):Prop:= ∃ l,j+l+1=k∧(∀ t,t≤l→i+t<w.length∧j+t<w.length∧w.getD (i+t) default=w.getD (j+t) default)∧idB d w (i+l+1)=true
theorem cmp_eq{N:Nat}{d w e:List Int}{a b:Int}{c:List (List Edge)}{X:List Bool}{i j:Nat}(hi:i≤w.length)(I:j≤w.length)(B:X.length=w.length+1)(J:w.length≤1024)(K:1100≤N):
 ∃ Y,z10 N (i:Int) (j:Int) a b c w e (idL d w) X=some Y∧Y.length=w.length+1∧ ∀ k,k<w.length+1→(Y.getD k default=true↔X.getD k default=true∨Cmp d w i j k):=by
 unfold z10
 have C:(idL d w).length=w.length+1:=idL_len
 refine rf (σ:=List Bool) (fun F l Z=>dm N (i:Int) (j:Int) w (idL d w) F (l:Int) Z) (w.length-max i j)
  (fun l Z=>Z.length=w.length+1∧(∀ t,t<l→i+t<w.length∧j+t<w.length∧w.getD (i+t) default=w.getD (j+t) default)∧ ∀ k,k<w.length+1→(Z.getD k default=true↔X.getD k default=true∨ ∃ l',l'<l∧j+l'+1=k∧idB d w (i+l'+1)=true))
  _ (fun F l Z D m=>?_) (fun F Z m=>?_) N 0 X (Nat.zero_le _) (by omega) ⟨B,fun t v=>by omega,fun k o=>⟨.inl,fun h=>h.elim id fun⟨l',h',_⟩=>by omega⟩⟩
 ·obtain⟨q,n,m⟩:=m
  simp only [dm]
  have r:max (i:Int) (j:Int)+(l:Int)<(w.length:Int):=by omega
  have E:okI w ((i:Int)+(l:Int)):=⟨by omega,by omega⟩
  have G:okI w ((j:Int)+(l:Int)):=⟨by omega,by omega⟩
  have z:okI (idL d w) ((i:Int)+(l:Int)+1):=⟨by omega,by omega⟩
  have H:okI Z ((j:Int)+(l:Int)+1):=⟨by omega,by omega⟩
  rw [zm (qo (by omega)),zm (fun _=>qo (by omega)),zm (fun _=>E),zm (fun _=>qo (by omega)),zm (fun _=>G),decide_eq_true r]
  by_cases s:w.getD (i+l) default=w.getD (j+l) default
  ·right
   have hw':ix w ((i:Int)+(l:Int))=ix w ((j:Int)+(l:Int)):=s
   have p:(true&&decide (ix w ((i:Int)+(l:Int))=ix w ((j:Int)+(l:Int))))=true:=by rw [decide_eq_true hw'];rfl
   have heq': ∀ t,t<l+1→i+t<w.length∧j+t<w.length∧w.getD (i+t) default=w.getD (j+t) default:=fun t v=>by
    by_cases e:t=l
    ·subst e;exact⟨by omega,by omega,s⟩
    ·exact n t (by omega)
   have A:ix (idL d w) ((i:Int)+(l:Int)+1)=idB d w (i+l+1):=ze0 (by omega)
   cases hb:idB d w (i+l+1)
   ·refine⟨Z,⟨q,heq',fun k o=>(m k o).trans (or_congr Iff.rfl ?_)⟩,?_⟩
    ·constructor
     ·rintro⟨l',h',f⟩
      exact⟨l',by omega,f⟩
     ·rintro⟨l',h',f,g⟩
      refine⟨l',?_,f,g⟩
      by_cases e:l'=l
      ·subst e;rw [hb] at g;exact absurd g (by decide)
      ·omega
    ·refine(ct p).trans ?_
     refine(qc (x:=Z) ?_).trans (zm (qo (by omega)))
     rw [zm (qo (by omega)),zm (qo (by omega)),zm z,A,hb]
     exact cf rfl
   ·refine⟨Z.set (j+l+1) true,⟨by rw [List.length_set];exact q,heq',fun k o=>(zvl (by omega)).trans ((or_congr (m k o) Iff.rfl).trans ?_)⟩,?_⟩
    ·constructor
     ·rintro((h|⟨l',h',f⟩)|h)
      ·exact .inl h
      ·exact .inr ⟨l',by omega,f⟩
      ·exact .inr ⟨l,by omega,h,hb⟩
     ·rintro(h|⟨l',h',f,g⟩)
      ·exact .inl (.inl h)
      ·by_cases e:l'=l
       ·subst e;exact .inr f
       ·exact .inl (.inr ⟨l',by omega,f,g⟩)
    ·refine(ct p).trans ?_
     refine(qc (x:=Z.set (j+l+1) true) ?_).trans (zm (qo (by omega)))
     rw [zm (qo (by omega)),zm (qo (by omega)),zm z,A,hb]
     refine(ct rfl).trans ?_
     rw [zm (qo (by omega)),zm (qo (by omega)),zm H];rfl
  ·left
   have hw': ¬ix w ((i:Int)+(l:Int))=ix w ((j:Int)+(l:Int)):=s
   have p:(true&&decide (ix w ((i:Int)+(l:Int))=ix w ((j:Int)+(l:Int))))=false:=by rw [decide_eq_false hw'];rfl
   refine⟨Z,cf p,q,fun k o=>(m k o).trans (or_congr Iff.rfl ?_)⟩
   constructor
   ·rintro⟨l',h',f,g⟩
    exact⟨l',f,fun t v=>n t (by omega),g⟩
   ·rintro⟨l',f,g,y⟩
    refine⟨l',?_,f,y⟩
    by_cases e:l≤l'
    ·exact absurd (g l e).2.2 s
    ·omega
 ·obtain⟨q,n,m⟩:=m
  simp only [dm]
  have r: ¬max (i:Int) (j:Int)+((w.length-max i j:Nat):Int)<(w.length:Int):=by omega
  have u: ∀ P:Prop,((true&&((decide (max (i:Int) (j:Int)+((w.length-max i j:Nat):Int)<(w.length:Int)))==true))=true→P):=fun P e=>by rw [decide_eq_false r] at e;exact absurd e (by decide)
  rw [zm (qo (by omega)),zm (u _),zm (u _),zm (u _),zm (u _)]
  have p: ∀ b:Bool,(decide (max (i:Int) (j:Int)+((w.length-max i j:Nat):Int)<(w.length:Int))&&b)=false:=fun b=>by rw [decide_eq_false r];rfl
  refine⟨Z,cf (p _),q,fun k o=>(m k o).trans (or_congr Iff.rfl ?_)⟩
  constructor
  ·rintro⟨l',h',f,g⟩
   exact⟨l',f,fun t v=>n t (by omega),g⟩
  ·rintro⟨l',f,g,y⟩
   have:=g l' (Nat.le_refl _)
   exact⟨l',by omega,f,y⟩
end GV
end Go.Proofs.Ytplgbkaollfmkaa

namespace Go.Proofs.Ytplgbkaollfmkaa
namespace GV
set_option maxRecDepth 100000
def zgu(m:Mach)(d w:List Int)(i j:Nat):Prop:=i≠j∧idB d w i=true∧idB d w j=true∧dx m 0 (w.take i)=dx m 0 (w.take j)
def q0k(m:Mach)(d w:List Int)(k:Nat):Prop:=idB d w k=true∨ ∃ j,j<w.length+1∧ ∃ i,i<w.length+1∧zgu m d w i j∧Cmp d w i j k
open Classical in
noncomputable def knL(m:Mach)(d w:List Int):List Bool:=(List.range (w.length+1)).map fun k=>decide (q0k m d w k)
theorem knL_len{m:Mach}{d w:List Int}:(knL m d w).length=w.length+1:=by simp [knL]
open Classical in
theorem zsv{m:Mach}{d w:List Int}{k:Nat}(h:k<w.length+1):(knL m d w).getD k default=true↔q0k m d w k:=by
 unfold knL
 rw [xc _ h,decide_eq_true_iff]
theorem zvq{N:Nat}{m:Mach}{d w:List Int}{X Z0:List Bool}{s:Nat}(v:s<w.length+1)(y:X.length=w.length+1)(z:w.length≤1024)(A:1100≤N):
 ∃ Y,su N m w (atL m w) (idL d w,Z0) (s:Int) N 0 X=some Y∧Y.length=w.length+1∧ ∀ k,k<w.length+1→(Y.getD k default=true↔X.getD k default=true∨ ∃ i,i<w.length+1∧zgu m d w i s∧Cmp d w i s k):=by
 have B:(idL d w).length=w.length+1:=idL_len
 have C:(atL m w).length=w.length+1:=atL_len
 refine rf (σ:=List Bool) (fun F i Z=>su N m w (atL m w) (idL d w,Z0) (s:Int) F (i:Int) Z) (w.length+1)
  (fun i Z=>Z.length=w.length+1∧ ∀ k,k<w.length+1→(Z.getD k default=true↔X.getD k default=true∨ ∃ i',i'<i∧zgu m d w i' s∧Cmp d w i' s k))
  _ (fun F i Z hi f=> .inr ?_) (fun F Z f=>?_) N 0 X (Nat.zero_le _) (by omega) ⟨y,fun k l=>⟨.inl,fun h=>h.elim id fun⟨i',h',_⟩=>by omega⟩⟩
 ·obtain⟨n,f⟩:=f
  simp only [su]
  have D:okI (idL d w) (i:Int):=qx (by omega)
  have E:okI (idL d w) (s:Int):=qx (by omega)
  have G:okI (atL m w) (i:Int):=qx (by omega)
  have H:okI (atL m w) (s:Int):=qx (by omega)
  have p:ix (idL d w) (i:Int)=idB d w i:=ze0 hi
  have q:ix (idL d w) (s:Int)=idB d w s:=ze0 v
  have r:ix (atL m w) (i:Int)=dx m 0 (w.take i):=znt hi
  have t:ix (atL m w) (s:Int)=dx m 0 (w.take s):=znt v
  rw [uy (by omega),zm (fun _=>D),zm (fun _=>E),zm (fun _=>G),zm (fun _=>H),p,q,r,t]
  by_cases hp:zgu m d w i s
  ·obtain⟨Y,I,J,K⟩:=cmp_eq (N:=N) (d:=d) (w:=w) (e:=atL m w) (a:=m.inputs) (b:=m.outputs) (c:=m.rows) (X:=Z) (i:=i) (j:=s) (by omega) (by omega) n z A
   refine⟨Y,⟨J,fun k l=>(K k l).trans ((or_congr (f k l) Iff.rfl).trans ?_)⟩,?_⟩
   ·constructor
    ·rintro((h|⟨i',h',g⟩)|h)
     ·exact .inl h
     ·exact .inr ⟨i',by omega,g⟩
     ·exact .inr ⟨i,by omega,hp,h⟩
    ·rintro(h|⟨i',h',g,o⟩)
     ·exact .inl (.inl h)
     ·by_cases e:i'=i
      ·subst e;exact .inr o
      ·exact .inl (.inr ⟨i',by omega,g,o⟩)
   ·have u:((((decide ((i:Int)≠(s:Int)))&&idB d w i)&&idB d w s)&&(decide (dx m 0 (w.take i)=dx m 0 (w.take s))))=true:=by
     rw [decide_eq_true (show (i:Int)≠(s:Int) by have:=hp.1;omega),hp.2.1,hp.2.2.1,decide_eq_true hp.2.2.2];rfl
    refine(qc (x:=Y) ?_).trans (zm (qo (by omega)))
    refine(ct u).trans ?_
    exact qc I
  ·refine⟨Z,⟨n,fun k l=>(f k l).trans (or_congr Iff.rfl ?_)⟩,?_⟩
   ·constructor
    ·rintro⟨i',h',g⟩
     exact⟨i',by omega,g⟩
    ·rintro⟨i',h',g,o⟩
     by_cases e:i'=i
     ·subst e;exact absurd g hp
     ·exact⟨i',by omega,g,o⟩
   ·have u:((((decide ((i:Int)≠(s:Int)))&&idB d w i)&&idB d w s)&&(decide (dx m 0 (w.take i)=dx m 0 (w.take s))))=false:=by
     rw [Bool.eq_false_iff]
     intro h
     rw [Bool.and_eq_true,Bool.and_eq_true,Bool.and_eq_true,decide_eq_true_iff,decide_eq_true_iff] at h
     exact hp ⟨by have:=h.1.1.1;omega,h.1.1.2,h.1.2,h.2⟩
    refine(qc (x:=Z) ?_).trans (zm (qo (by omega)))
    exact cf u
 ·obtain⟨n,f⟩:=f
  simp only [su]
  rw [ul (by omega)]
  exact⟨Z,rfl,n,f⟩
theorem zvm{N:Nat}{m:Mach}{d w:List Int}(p:w.length≤1024)(q:1100≤N):
 af N m w (atL m w) (idL d w,idL d w) N 0 (idL d w)=some (knL m d w):=by
 have f:(idL d w).length=w.length+1:=idL_len
 have r:(atL m w).length=w.length+1:=atL_len
 obtain⟨Y,g,l,n⟩: ∃ Y,af N m w (atL m w) (idL d w,idL d w) N 0 (idL d w)=some Y∧Y.length=w.length+1∧ ∀ k,k<w.length+1→(Y.getD k default=true↔q0k m d w k):=by
  refine rf (σ:=List Bool) (fun F j Z=>af N m w (atL m w) (idL d w,idL d w) F (j:Int) Z) (w.length+1)
   (fun j Z=>Z.length=w.length+1∧ ∀ k,k<w.length+1→(Z.getD k default=true↔idB d w k=true∨ ∃ j',j'<j∧ ∃ i,i<w.length+1∧zgu m d w i j'∧Cmp d w i j' k))
   _ (fun F j Z s a=> .inr ?_) (fun F Z a=>?_) N 0 (idL d w) (Nat.zero_le _) (by omega) ⟨f,fun k b=>by rw [ze0 b];exact⟨.inl,fun h=>h.elim id fun⟨j',h',_⟩=>by omega⟩⟩
  ·obtain⟨o,a⟩:=a
   obtain⟨Y,g,l,n⟩:=zvq (m:=m) (d:=d) (Z0:=idL d w) s o p q
   refine⟨Y,⟨l,fun k b=>(n k b).trans ((or_congr (a k b) Iff.rfl).trans ?_)⟩,?_⟩
   ·constructor
    ·rintro((h|⟨j',h',c⟩)|h)
     ·exact .inl h
     ·exact .inr ⟨j',by omega,c⟩
     ·exact .inr ⟨j,by omega,h⟩
    ·rintro(h|⟨j',h',c⟩)
     ·exact .inl (.inl h)
     ·by_cases e:j'=j
      ·subst e;exact .inr c
      ·exact .inl (.inr ⟨j',by omega,c⟩)
   ·simp only [af]
    rw [uy (by omega),qc g]
    exact zm (qo (by omega))
  ·obtain⟨o,a⟩:=a
   simp only [af]
   rw [ul (by omega)]
   exact⟨Z,rfl,o,a⟩
 rw [g,show Y=knL m d w from zvb (by rw [l,knL_len]) fun k b=>(n k (by omega)).trans (zsv (by omega)).symm]
theorem follow_eq{N:Nat}{m:Mach}{d w:List Int}(f:MOk m)(h:z0x m=true)(l:canI m d=0)(i:d.length≤256)(j:zfm m w=0)(a:1100≤N):
 z0u N m d w=some (some ⟨m,w,atL m w,idL d w,knL m d w⟩,0):=by
 obtain⟨b,c⟩:=znj j
 unfold z0u
 have e:in64 ((w.length:Int)+1):=qo (by omega)
 have g:okM 1 ((w.length:Int)+1):=⟨by omega,by omega,by omega⟩
 have k:okM 8 ((w.length:Int)+1)∧0≤(1:Int)∧(1:Int)≤(w.length:Int)+1:=⟨⟨by omega,by omega,by omega⟩,by omega,by omega⟩
 rw [qc (zwv f.small (by omega) (by omega)),ul (by omega),qc (q17 a),ul (by omega),zm e,zm k,zm e,zm g,zm e,zm g]
 rw [qc (zwd f h c b a),qc (zu9 atL_len i b a),qc (zvm b a)]
theorem zrq{N:Nat}{m:Mach}{d w:List Int}(a:Small m)(b:canI m d≠0)(c:d.length≤300)(e:1100≤N):z0u N m d w=some (none,canI m d):=by
 unfold z0u
 rw [qc (zwv a c (by omega)),uy b]
end GV
end Go.Proofs.Ytplgbkaollfmkaa

namespace Go.Proofs.Ytplgbkaollfmkaa
namespace GV
set_option maxRecDepth 100000
def z0c(A:List Int)(M:List Bool):List Int:=(List.range A.length).map fun k=>if M.getD k default=true then A.getD k default else-1
theorem maskL_len{A:List Int}{M:List Bool}:(z0c A M).length=A.length:=by simp [z0c]
theorem zmd{A:List Int}{M:List Bool}{k:Nat}(h:k<A.length):(z0c A M).getD k default=if M.getD k default=true then A.getD k default else-1:=xc _ h
def zc9(A:List Int)(M:List Bool)(k:Nat):List Int:=(List.range A.length).map fun j=>if j<k then(if M.getD j default=true then A.getD j default else-1) else A.getD j default
theorem z1b{A:List Int}{M:List Bool}{k:Nat}:(zc9 A M k).length=A.length:=by simp [zc9]
theorem zdi{X Y:List Int}(b:X.length=Y.length)(h: ∀ k,k<X.length→X.getD k default=Y.getD k default):X=Y:=by
 apply List.ext_getElem b
 intro k a c
 have:=h k a
 rwa [List.getD_eq_getElem?_getD,List.getD_eq_getElem?_getD,List.getElem?_eq_getElem a,List.getElem?_eq_getElem c] at this
theorem maskT_0{A:List Int}{M:List Bool}:zc9 A M 0=A:=zdi z1b fun k a=>by
 rw [z1b] at a
 exact(xc _ a).trans (if_neg (by omega))
theorem zsk{A:List Int}{M:List Bool}:zc9 A M A.length=z0c A M:=zdi (by rw [z1b,maskL_len]) fun k a=>by
 rw [z1b] at a
 exact(xc _ a).trans ((if_pos a).trans (zmd a).symm)
theorem znl{A:List Int}{M:List Bool}{k:Nat}(b:k<A.length)(h:M.getD k default=false):(zc9 A M k).set k (-1)=zc9 A M (k+1):=zdi (by rw [List.length_set,z1b,z1b]) fun j a=>by
 rw [List.length_set,z1b] at a
 refine Eq.trans ?_ (xc _ a).symm
 by_cases e:k=j
 ·subst e
  rw [List.getD_eq_getElem?_getD,List.getElem?_set_self (by rw [z1b];exact a),if_pos (by omega),if_neg (by rw [h];decide)];rfl
 ·rw [List.getD_eq_getElem?_getD,List.getElem?_set_ne e,←List.getD_eq_getElem?_getD]
  refine(xc _ a).trans ?_
  by_cases h1:j<k
  ·rw [if_pos h1,if_pos (show j<k+1 by omega)]
  ·rw [if_neg h1,if_neg (show¬j<k+1 by omega)]
theorem zt1{A:List Int}{M:List Bool}{k:Nat}(b:k<A.length)(h:M.getD k default=true):zc9 A M k=zc9 A M (k+1):=zdi (by rw [z1b,z1b]) fun j a=>by
 rw [z1b] at a
 refine(xc _ a).trans (Eq.trans ?_ (xc _ a).symm)
 by_cases e:k=j
 ·subst e;rw [if_neg (by omega),if_pos (by omega),if_pos h]
 ·by_cases h1:j<k
  ·rw [if_pos h1,if_pos (show j<k+1 by omega)]
  ·rw [if_neg h1,if_neg (show¬j<k+1 by omega)]
theorem zok{N:Nat}{t:Sg}{M:List Bool}(d:M.length=t.fK.length)(e:t.fK.length≤1025)(f:1100≤N):z0n N t M=some (z0c t.fK M):=by
 unfold z0n
 have b:z2d N t.fK=some t.fK:=by
  unfold z2d
  rw [zm ⟨by rw [List.length_nil];omega,by rw [List.length_nil];omega⟩];rfl
 have c:z3k N t.fK=some t.fK:=by
  unfold z3k
  rw [zm (zti _),ziw]
 rw [qc b,qc c]
 refine(qc (x:=z0c t.fK M) ?_).trans rfl
 refine ug (σ:=List Int) (fun F k X=>mo N M F (k:Int) X) t.fK.length (fun k X=>X=zc9 t.fK M k) _ (fun F k X a hi=> .inr ?_) (fun F X hi=>?_) N 0 _ (Nat.zero_le _) (by omega) maskT_0.symm
 ·subst hi
  refine⟨_,rfl,?_⟩
  simp only [mo]
  rw [uy (by omega)]
  refine(qc (x:=zc9 t.fK M (k+1)) ?_).trans (zm (qo (by omega)))
  rw [zm (qx (by omega)),om]
  cases h:M.getD k default
  ·refine(ct rfl).trans ?_
   rw [zm (qx (by rw [z1b];exact a)),z4i,znl a h]
  ·refine(cf rfl).trans ?_
   rw [zt1 a h]
 ·subst hi
  simp only [mo]
  rw [ul (by omega),zsk]
theorem zl5{N:Nat}{m:Mach}{d w:List Int}(c:MOk m)(e:z0x m=true)(f:canI m d=0)(g:d.length≤256)(a:zfm m w=0)(b:1100≤N):
 fw N m d w=some (z0c (atL m w) (idL d w),0):=by
 have i:=(znj a).1
 unfold fw
 refine(qc (follow_eq c e f g a b)).trans ?_
 refine(ul (fun h=>h rfl)).trans ?_
 refine(zm rfl).trans ?_
 exact qc (zok (t:=⟨m,w,atL m w,idL d w,knL m d w⟩) (idL_len.trans atL_len.symm) (by show (atL m w).length≤_;rw [atL_len];omega) b)
theorem zro{N:Nat}{m:Mach}{d w:List Int}(c:MOk m)(e:z0x m=true)(f:canI m d=0)(g:d.length≤256)(a:zfm m w=0)(b:1100≤N):
 z3g N m d w=some (z0c (atL m w) (knL m d w),0):=by
 have i:=(znj a).1
 unfold z3g
 refine(qc (follow_eq c e f g a b)).trans ?_
 refine(ul (fun h=>h rfl)).trans ?_
 refine(zm rfl).trans ?_
 exact qc (zok (t:=⟨m,w,atL m w,idL d w,knL m d w⟩) (knL_len.trans atL_len.symm) (by show (atL m w).length≤_;rw [atL_len];omega) b)
end GV
end Go.Proofs.Ytplgbkaollfmkaa
