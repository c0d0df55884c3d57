
import Derived.Test.YtplgbkaollfmkaaLaw39g
import Derived.Test.YtplgbkaollfmkaaSpec09e
import Derived.Test.YtplgbkaollfmkaaSpec06m
set_option linter.unusedVariables false
set_option linter.unusedSimpArgs false
namespace Go.Proofs.Ytplgbkaollfmkaa
namespace GV
set_option maxRecDepth 100000
theorem zqq{N:Nat}{m:Mach}{w:List Int}(c:MOk m)(d:z0x m=true)(e:WOk m.inputs w)(o:w.length≤1024)(p:1100≤N):z0y N m w=some (atL m w):=by
 unfold z0y
 refine(qc (x:=atL m w) ?_).trans rfl
 refine ug (σ:=List Int) (fun F k X=>dw N m w F (k:Int) X) w.length (fun k X=>X=(List.range (k+1)).map fun j=>dx m 0 (w.take j)) _ (fun F k X b hi=> .inr ?_) (fun F X hi=>?_) N 0 _ (Nat.zero_le _) (by omega) rfl
 ·subst hi
  refine⟨_,rfl,?_⟩
  obtain⟨f,g,h⟩:=zjd c d e b
  simp only [dw]
  have i:ix ((List.range (k+1)).map fun j=>dx m 0 (w.take j)) (k:Int)=dx m 0 (w.take k):=xc _ (by omega)
  have a:((List.range (k+1)).map fun j=>dx m 0 (w.take j)).length=k+1:=by simp
  have l:fits 8 ((List.range (k+1)).map fun j=>dx m 0 (w.take j)) ([dx m 0 (w.take (k+1))]:List Int):=⟨by rw [a,List.length_singleton];omega,by rw [a,List.length_singleton];omega⟩
  rw [uy (by omega),zm (qx (by omega)),i,zm f,zm (qx b),zm g,h,zm l,zm (qo (by omega)),List.range_succ (n:=k+1),List.map_append];rfl
 ·subst hi
  simp only [dw]
  rw [ul (by omega)];rfl
theorem zpa{N:Nat}{m:Mach}{w:List Int}(c:MOk m)(d:z0x m=true)(e:WOk m.inputs w)(o:w.length≤1024)(p:1100≤N):z04 N m w=some (atL m w):=by
 unfold z04
 refine(qc (x:=atL m w) ?_).trans rfl
 refine ug (σ:=List Int) (fun F k X=>gu N m w F (k:Int) X) w.length (fun k X=>X=(List.range (k+1)).map fun j=>dx m 0 (w.take j)) _ (fun F k X b hi=> .inr ?_) (fun F X hi=>?_) N 0 _ (Nat.zero_le _) (by omega) rfl
 ·subst hi
  refine⟨_,rfl,?_⟩
  obtain⟨f,g,h⟩:=zjd c d e b
  simp only [gu]
  have i:ix ((List.range (k+1)).map fun j=>dx m 0 (w.take j)) (k:Int)=dx m 0 (w.take k):=xc _ (by omega)
  have a:((List.range (k+1)).map fun j=>dx m 0 (w.take j)).length=k+1:=by simp
  have l:fits 8 ((List.range (k+1)).map fun j=>dx m 0 (w.take j)) ([dx m 0 (w.take (k+1))]:List Int):=⟨by rw [a,List.length_singleton];omega,by rw [a,List.length_singleton];omega⟩
  rw [uy (by omega),zm (qx (by omega)),i,zm f,zm (qx b),zm g,h,zm l,zm (qo (by omega)),List.range_succ (n:=k+1),List.map_append];rfl
 ·subst hi
  simp only [gu]
  rw [ul (by omega)];rfl
theorem zd9{N:Nat}{m:Mach}{d w:List Int}(f:MOk m)(g:z0x m=true)(i:WOk m.inputs w)(j:w.length≤1024)(o:d.length≤256)(l:1100≤N):ae N m d w=some (z0c (atL m w) (idL d w)):=by
 have b:(atL m w).length=w.length+1:=atL_len
 unfold ae
 rw [qc (zpa f g i j l)]
 refine(qc (x:=z0c (atL m w) (idL d w)) ?_).trans rfl
 refine ug (σ:=List Int) (fun F k X=>vw N d w F (k:Int) X) (w.length+1) (fun k X=>X=zc9 (atL m w) (idL d w) k) _ (fun F k X n hi=> .inr ?_) (fun F X hi=>?_) N 0 _ (Nat.zero_le _) (by omega) maskT_0.symm
 ·subst hi
  refine⟨_,rfl,?_⟩
  simp only [vw]
  have c:(idL d w).getD k default=idB d w k:=ze0 n
  rw [uy (by omega)]
  refine(qc (x:=zc9 (atL m w) (idL d w) (k+1)) ?_).trans (zm (qo (by omega)))
  rw [zm (qo (by omega)),zm (fun _=>qo (by omega))]
  by_cases h:(w.length:Int)<(k:Int)+(d.length:Int)
  ·have a:idB d w k=false:=by
    unfold idB
    rw [decide_eq_false (show¬(k+d.length≤w.length) by omega)];rfl
   rw [zm (fun e=>by rw [decide_eq_true h] at e;exact absurd e (by decide)),decide_eq_true h]
   refine(qc (x:=none) rfl).trans ?_
   refine(ct rfl).trans ?_
   rw [zm (qx (by rw [z1b];omega)),z4i,znl (by omega) (by rw [c,a])]
  ·rw [zm (fun _=>⟨by omega,by omega,by omega⟩),decide_eq_false h]
   refine(zil rfl (show uk N (cut w (k:Int) ((k:Int)+(d.length:Int))) d=some (decide ((w.drop k).take d.length=d)) from by rw [zt2];exact zdk (by rw [List.length_take,List.length_drop];omega) (by rw [List.length_take,List.length_drop];omega))).trans ?_
   have a:idB d w k=decide ((w.drop k).take d.length=d):=by
    unfold idB
    rw [decide_eq_true (show k+d.length≤w.length by omega)];rfl
   cases h2:decide ((w.drop k).take d.length=d)
   ·refine(ct rfl).trans ?_
    rw [zm (qx (by rw [z1b];omega)),z4i,znl (by omega) (by rw [c,a,h2])]
   ·refine(cf rfl).trans ?_
    rw [zt1 (by omega) (by rw [c,a,h2])]
 ·subst hi
  simp only [vw]
  rw [ul (by omega),←b,zsk]
end GV
end Go.Proofs.Ytplgbkaollfmkaa

namespace Go.Proofs.Ytplgbkaollfmkaa
namespace GV
set_option maxRecDepth 100000
theorem ze9(w:List Int)(i n t:Nat)(h:t<n):((w.drop i).take n).getD t default=w.getD (i+t) default:=by
 rw [List.getD_eq_getElem?_getD,List.getD_eq_getElem?_getD,List.getElem?_take,if_pos h,List.getElem?_drop]
theorem ztf{d w:List Int}{i j k:Nat}(f:j<k)(g:k≤w.length):
 Cmp d w i j k↔i+(k-j)≤w.length∧(w.drop i).take (k-j)=(w.drop j).take (k-j)∧idB d w (i+(k-j))=true:=by
 constructor
 ·rintro⟨l,m,h,b⟩
  have n:=h l (Nat.le_refl _)
  refine⟨by omega,zdi (by rw [List.length_take,List.length_drop,List.length_take,List.length_drop];omega) fun t a=>?_,by rw [show i+(k-j)=i+l+1 by omega];exact b⟩
  rw [List.length_take] at a
  rw [ze9 _ _ _ _ (by omega),ze9 _ _ _ _ (by omega)]
  exact(h t (by omega)).2.2
 ·rintro⟨o,c,e⟩
  refine⟨k-j-1,by omega,fun t a=>⟨by omega,by omega,?_⟩,by rw [show i+(k-j-1)+1=i+(k-j) by omega];exact e⟩
  rw [←ze9 w i (k-j) t (by omega),←ze9 w j (k-j) t (by omega),c]
def hv39(m:Mach)(d w:List Int)(k:Nat):Int:=if idB d w k=true then dx m 0 (w.take k) else-1
theorem ztn{m:Mach}{d w:List Int}{k:Nat}(h:k<w.length+1):ix (z0c (atL m w) (idL d w)) (k:Int)=hv39 m d w k:=by
 rw [om,zmd (by rw [atL_len];exact h),ze0 h,znt h];rfl
theorem zqj{m:Mach}{d w:List Int}(a:MOk m)(b:z0x m=true)(c:WOk m.inputs w){k:Nat}:hv39 m d w k≠ -1↔idB d w k=true:=by
 have:=zxg a b c k
 unfold hv39
 by_cases h:idB d w k=true
 ·rw [if_pos h];exact⟨fun _=>h,fun _=>by omega⟩
 ·rw [if_neg h];exact⟨fun e=>absurd rfl e,fun e=>absurd e h⟩
end GV
end Go.Proofs.Ytplgbkaollfmkaa

namespace Go.Proofs.Ytplgbkaollfmkaa
namespace GV
set_option maxRecDepth 100000
theorem zwf(w:List Int)(a b:Nat):cut w (a:Int) (b:Int)=(w.drop a).take (b-a):=rfl
theorem zqu{N:Nat}{m:Mach}{d w:List Int}(o:MOk m)(p:z0x m=true)(q:WOk m.inputs w)(D:w.length≤1024)(E:1100≤N){j k:Nat}(A:j<k)(B:k≤w.length):
 ∃ r,yg N w (z0c (atL m w) (idL d w)) (k:Int) (j:Int) N 0=some r∧(((∃ i,i<w.length+1∧zgu m d w i j∧Cmp d w i j k)∧r=Ex.rt (Ex.rt true))∨(¬(∃ i,i<w.length+1∧zgu m d w i j∧Cmp d w i j k)∧r=Ex.go ())):=by
 have hI:(z0c (atL m w) (idL d w)).length=w.length+1:=maskL_len.trans atL_len
 refine rf (σ:=Unit) (fun F i _=>yg N w (z0c (atL m w) (idL d w)) (k:Int) (j:Int) F (i:Int)) (w.length-(k-j)+1) (fun i _=> ∀ i',i'<i→ ¬(zgu m d w i' j∧Cmp d w i' j k)) _ (fun F i _ hi s=>?_) (fun F _ s=>?_) N 0 () (Nat.zero_le _) (by omega) (fun i' h=>by omega)
 ·have ee:(i:Int)+(k:Int)-(j:Int)=((i+(k-j):Nat):Int):=by omega
  have u:((i+(k-j):Nat):Int)≤(w.length:Int):=by omega
  have oj:okI (z0c (atL m w) (idL d w)) (j:Int):=qx (by omega)
  simp only [yg]
  rw [ee,zm (qo (by omega)),zm (qo (by omega)),zm (fun _=>oj),decide_eq_true u,ztn (show j<w.length+1 by omega)]
  by_cases hid:idB d w j=true
  ·have a:hv39 m d w j≠ -1:=(zqj o p q).2 hid
   have oi:okI (z0c (atL m w) (idL d w)) (i:Int):=qx (by omega)
   have ok':okI (z0c (atL m w) (idL d w)) ((i+(k-j):Nat):Int):=qx (by omega)
   have v:okS w (i:Int) ((i+(k-j):Nat):Int):=⟨by omega,by omega,by omega⟩
   have y:okS w (j:Int) (k:Int):=⟨by omega,by omega,by omega⟩
   rw [decide_eq_true a,show (true&&true)=true from rfl,cond_true,zm (fun _=>oi),zm (fun _=>oj),zm (fun _=>qo (by omega)),zm (fun _=>qo (by omega)),zm (fun _=>ok'),zm (fun _=>qo (by omega)),zm (fun _=>qo (by omega)),zm (fun _=>v),zm (fun _=>y)]
   rw [ztn (show i<w.length+1 by omega),ztn (show i+(k-j)<w.length+1 by omega),zwf,zwf,show i+(k-j)-i=k-j by omega]
   have g:=ztf (d:=d) (w:=w) (i:=i) A B
   have n:=zqj o p q (d:=d) (k:=i+(k-j))
   have l:hv39 m d w i=hv39 m d w j↔(idB d w i=true∧dx m 0 (w.take i)=dx m 0 (w.take j)):=by
    have z:=zqj o p q (d:=d) (k:=i)
    constructor
    ·intro e
     have t:=z.1 (by rw [e];exact a)
     refine⟨t,?_⟩
     unfold hv39 at e
     rwa [if_pos t,if_pos hid] at e
    ·rintro⟨t,e⟩
     unfold hv39
     rw [if_pos t,if_pos hid,e]
   have C:uk N ((w.drop i).take (k-j)) ((w.drop j).take (k-j))=some (decide ((w.drop i).take (k-j)=(w.drop j).take (k-j))):=zdk (by rw [List.length_take,List.length_drop];omega) (by rw [List.length_take,List.length_drop];omega)
   generalize hcc:(((decide ((i:Int)≠(j:Int)))&&(decide (hv39 m d w i=hv39 m d w j)))&&(decide (hv39 m d w (i+(k-j))≠ -1)))=c
   cases c
   ·right
    refine⟨(),fun i' h'=>?_,?_⟩
    ·by_cases e:i'=i
     ·subst e
      rintro⟨f,b⟩
      rw [Bool.eq_false_iff] at hcc
      refine hcc ?_
      rw [Bool.and_eq_true,Bool.and_eq_true,decide_eq_true_iff,decide_eq_true_iff,decide_eq_true_iff]
      exact⟨⟨by have:=f.1;omega,l.2 ⟨f.2.1,f.2.2.2⟩⟩,n.2 (g.1 b).2.2⟩
     ·exact s i' (by omega)
    ·refine(qc (x:=none) rfl).trans ?_
     refine(cf rfl).trans ?_
     exact zm (qo (by omega))
   ·rw [Bool.and_eq_true,Bool.and_eq_true,decide_eq_true_iff,decide_eq_true_iff,decide_eq_true_iff] at hcc
    by_cases b:(w.drop i).take (k-j)=(w.drop j).take (k-j)
    ·left
     refine⟨_,(zil rfl C).trans (ct (by rw [decide_eq_true b];rfl)),.inl ⟨⟨i,by omega,⟨by have:=hcc.1.1;omega,(l.1 hcc.1.2).1,hid,(l.1 hcc.1.2).2⟩,g.2 ⟨by omega,b,n.1 hcc.2⟩⟩,rfl⟩⟩
    ·right
     refine⟨(),fun i' h'=>?_,(zil rfl C).trans ((cf (by rw [decide_eq_false b];rfl)).trans (zm (qo (by omega))))⟩
     by_cases e:i'=i
     ·subst e
      rintro⟨f,hq'⟩
      exact b (g.1 hq').2.1
     ·exact s i' (by omega)
  ·left
   have a: ¬(hv39 m d w j≠ -1):=fun h=>hid ((zqj o p q).1 h)
   refine⟨Ex.go (),?_,.inr ⟨?_,rfl⟩⟩
   ·rw [decide_eq_false a]
    exact cf rfl
   ·rintro⟨i',_,f,_⟩
    exact hid f.2.2.1
 ·have ee:((w.length-(k-j)+1:Nat):Int)+(k:Int)-(j:Int)=(w.length:Int)+1:=by omega
  have u: ¬((w.length:Int)+1≤(w.length:Int)):=by omega
  have oj:okI (z0c (atL m w) (idL d w)) (j:Int):=qx (by omega)
  simp only [yg]
  rw [ee,zm (qo (by omega)),zm (qo (by omega)),zm (fun _=>oj),decide_eq_false u]
  refine⟨Ex.go (),cf rfl,.inr ⟨?_,rfl⟩⟩
  rintro⟨i',_,f,b⟩
  have:=((ztf A B).1 b).1
  exact s i' (by omega) ⟨f,b⟩
end GV
end Go.Proofs.Ytplgbkaollfmkaa

namespace Go.Proofs.Ytplgbkaollfmkaa
namespace GV
set_option maxRecDepth 100000
theorem zrj{N:Nat}{m:Mach}{d w:List Int}(n:MOk m)(o:z0x m=true)(p:WOk m.inputs w)(s:w.length≤1024)(t:1100≤N){k:Nat}(u:k≤w.length):
 ∃ b,z0f N w (z0c (atL m w) (idL d w)) (k:Int)=some b∧(b=true↔ ∃ j,j<w.length+1∧ ∃ i,i<w.length+1∧zgu m d w i j∧Cmp d w i j k):=by
 obtain⟨r,v,c⟩: ∃ r,ym N w (z0c (atL m w) (idL d w)) (k:Int) N 0=some r∧(((∃ j,j<k∧ ∃ i,i<w.length+1∧zgu m d w i j∧Cmp d w i j k)∧r=Ex.rt true)∨(¬(∃ j,j<k∧ ∃ i,i<w.length+1∧zgu m d w i j∧Cmp d w i j k)∧r=Ex.go ())):=by
  refine rf (σ:=Unit) (fun F j _=>ym N w (z0c (atL m w) (idL d w)) (k:Int) F (j:Int)) k (fun j _=> ∀ j',j'<j→ ¬ ∃ i,i<w.length+1∧zgu m d w i j'∧Cmp d w i j' k) _ (fun F j _ f g=>?_) (fun F _ g=>?_) N 0 () (Nat.zero_le _) (by omega) (fun i' h=>by omega)
  ·obtain⟨q,x,a⟩:=zqu (d:=d) n o p s t f u
   simp only [ym]
   rw [uy (by omega),qc x]
   rcases a with⟨a,rfl⟩|⟨a,rfl⟩
   ·left
    exact⟨Ex.rt true,rfl,.inl ⟨⟨j,f,a⟩,rfl⟩⟩
   ·right
    refine⟨(),fun j' h'=>?_,?_⟩
    ·by_cases e:j'=j
     ·subst e;exact a
     ·exact g j' (by omega)
    ·rw [zkz]
     exact zm (qo (by omega))
  ·simp only [ym]
   rw [ul (by omega)]
   exact⟨Ex.go (),rfl,.inr ⟨fun⟨j,f,h⟩=>g j f h,rfl⟩⟩
 have hiff:(∃ j,j<w.length+1∧ ∃ i,i<w.length+1∧zgu m d w i j∧Cmp d w i j k)↔(∃ j,j<k∧ ∃ i,i<w.length+1∧zgu m d w i j∧Cmp d w i j k):=by
  constructor
  ·rintro⟨j,_,i,hi,a,l,hl',h⟩
   exact⟨j,by omega,i,hi,a,l,hl',h⟩
  ·rintro⟨j,f,h⟩
   exact⟨j,by omega,h⟩
 unfold z0f
 rw [qc v]
 rcases c with⟨c,rfl⟩|⟨c,rfl⟩
 ·exact⟨true,rfl,⟨fun _=>hiff.2 c,fun _=>rfl⟩⟩
 ·exact⟨false,rfl,⟨fun e=>absurd e (by decide),fun e=>absurd (hiff.1 e) c⟩⟩
end GV
end Go.Proofs.Ytplgbkaollfmkaa

namespace Go.Proofs.Ytplgbkaollfmkaa
namespace GV
set_option maxRecDepth 100000
theorem zu1{N:Nat}{m:Mach}{d w:List Int}(i:MOk m)(l:z0x m=true)(n:WOk m.inputs w)(o:w.length≤1024)(u:d.length≤256)(p:1100≤N):z1q N m d w=some (z0c (atL m w) (knL m d w)):=by
 have q:(atL m w).length=w.length+1:=atL_len
 have hI:(z0c (atL m w) (idL d w)).length=w.length+1:=maskL_len.trans atL_len
 unfold z1q
 rw [qc (zqq i l n o p),qc (zd9 i l n o u p)]
 refine(qc (x:=z0c (atL m w) (knL m d w)) ?_).trans rfl
 refine ug (σ:=List Int) (fun F k X=>ni N w (atL m w) (z0c (atL m w) (idL d w)) F X (k:Int)) (w.length+1) (fun k X=>X=(List.range k).map fun j=>if(knL m d w).getD j default=true then(atL m w).getD j default else-1) _ (fun F k X s hi=> .inr ?_) (fun F X hi=>?_) N 0 _ (Nat.zero_le _) (by omega) rfl
 ·subst hi
  refine⟨_,rfl,?_⟩
  simp only [ni]
  have c:((List.range k).map fun j=>if(knL m d w).getD j default=true then(atL m w).getD j default else-1).length=k:=by simp
  have t: ∀ x:Int,fits 8 ((List.range k).map fun j=>if(knL m d w).getD j default=true then(atL m w).getD j default else-1) ([x]:List Int):=fun x=>⟨by rw [c,List.length_singleton];omega,by rw [c,List.length_singleton];omega⟩
  rw [uy (by omega)]
  refine(qc (x:=(List.range (k+1)).map fun j=>if(knL m d w).getD j default=true then(atL m w).getD j default else-1) ?_).trans (zm (qo (by omega)))
  rw [zm (qx (by omega)),ztn s,List.range_succ,List.map_append]
  have f:=zsv (m:=m) (d:=d) (w:=w) s
  have g:=zqj i l n (d:=d) (k:=k)
  have hfin: ∀ b:Bool,(b=true↔q0k m d w k)→(bif b then(gd (okI (atL m w) (k:Int))<|gd (fits 8 ((List.range k).map fun j=>if(knL m d w).getD j default=true then(atL m w).getD j default else-1) ([ix (atL m w) (k:Int)]:List Int))<|some (((List.range k).map fun j=>if(knL m d w).getD j default=true then(atL m w).getD j default else-1)++([ix (atL m w) (k:Int)]:List Int))) else(gd (fits 8 ((List.range k).map fun j=>if(knL m d w).getD j default=true then(atL m w).getD j default else-1) ([(-1)]:List Int))<|some (((List.range k).map fun j=>if(knL m d w).getD j default=true then(atL m w).getD j default else-1)++([(-1)]:List Int))))=some (((List.range k).map fun j=>if(knL m d w).getD j default=true then(atL m w).getD j default else-1)++([k].map fun j=>if(knL m d w).getD j default=true then(atL m w).getD j default else-1)):=fun b a=>by
   cases b
   ·have v: ¬(knL m d w).getD k default=true:=fun h=>absurd (a.2 (f.1 h)) (by decide)
    refine(cf rfl).trans ((zm (t _)).trans ?_)
    rw [List.map_cons,List.map_nil,if_neg v]
   ·have r:(knL m d w).getD k default=true:=f.2 (a.1 rfl)
    refine(ct rfl).trans ((zm (qx (by omega))).trans ((zm (t _)).trans ?_))
    rw [List.map_cons,List.map_nil,if_pos r];rfl
  by_cases a:idB d w k=true
  ·rw [decide_eq_true (g.2 a)]
   refine(qc (x:=none) rfl).trans ?_
   exact hfin true ⟨fun _=> .inl a,fun _=>rfl⟩
  ·rw [decide_eq_false (fun e=>a (g.1 e))]
   obtain⟨b,r,y⟩:=zrj (d:=d) i l n o p (show k≤w.length by omega)
   refine(zil rfl r).trans ?_
   exact hfin b (y.trans ⟨.inr,fun h=>h.resolve_left a⟩)
 ·subst hi
  simp only [ni]
  rw [ul (by omega)]
  unfold z0c
  rw [q]
end GV
end Go.Proofs.Ytplgbkaollfmkaa

namespace Go.Proofs.Ytplgbkaollfmkaa
namespace GV
set_option maxRecDepth 100000
def wdL(w:List Int)(n:Int):List Int:=w.map fun x=>x%n
theorem zsl{N:Nat}{w:List Int}{n:Int}{most:Nat}(b: ∀ k,k<w.length→0≤w.getD k default∧w.getD k default≤255)(f:1≤n)(g:n≤16)(i:most≤1000)(j:1100≤N):lc N w n (most:Int)=some (wdL (w.take most) n):=by
 unfold lc
 refine(qc (x:=wdL (w.take most) n) ?_).trans rfl
 refine ug (σ:=List Int) (fun F k X=>mq N w n (most:Int) F X (k:Int)) (min w.length most) (fun k X=>X=wdL (w.take k) n) _ (fun F k X l hi=> .inr ?_) (fun F X hi=>?_) N 0 _ (Nat.zero_le _) (by omega) (by simp [wdL])
 ·subst hi
  refine⟨_,rfl,?_⟩
  have a:k<w.length:=by omega
  have m:=b k a
  have hlen:(wdL (w.take k) n).length=k:=by unfold wdL;rw [List.length_map,List.length_take];omega
  have c:fits 8 (wdL (w.take k) n) ([(ix w (k:Int))%n]:List Int):=⟨by rw [hlen,List.length_singleton];omega,by rw [hlen,List.length_singleton];omega⟩
  have d:okR (ix w (k:Int)) n:=by
   rw [om]
   exact⟨by omega,by omega⟩
  simp only [mq]
  refine(ct (by rw [Bool.and_eq_true,decide_eq_true_iff,decide_eq_true_iff];omega)).trans ?_
  rw [zm (qx a),zm (qo (by rw [om];omega)),zm d,zm c,zm (qo (by omega))]
  have e:w.take (k+1)=w.take k++[w.getD k default]:=by
   rw [List.take_add_one,List.getElem?_eq_getElem a,List.getD_eq_getElem?_getD,List.getElem?_eq_getElem a];rfl
  rw [e]
  unfold wdL
  rw [List.map_append];rfl
 ·subst hi
  simp only [mq]
  refine(cf (by rw [←Bool.not_eq_true,Bool.and_eq_true,decide_eq_true_iff,decide_eq_true_iff];omega)).trans ?_
  congr 2
  by_cases h:w.length≤most
  ·rw [Nat.min_eq_left h,List.take_length,List.take_of_length_le h]
  ·rw [Nat.min_eq_right (by omega)]
theorem zyh{w:List Int}{n:Int}(b:1≤n):WOk n (wdL w n):=fun k a=>by
 obtain⟨x,_,e⟩:=List.mem_map.1 (ay a)
 unfold wdL
 rw [←e]
 exact⟨Int.emod_nonneg _ (by omega),Int.emod_lt_of_pos _ (by omega)⟩
theorem q4t{x:Sk}(b:CDOk x.fP): ∃ m,z2c 2000 x=some m∧MOk m:=by
 have e:=b.st
 have hx':CDOk ⟨x.fP.fC%5,x.fP.fA,x.fP.fB,x.fP.fH,x.fP.fE⟩:=⟨⟨by dsimp only;omega,by dsimp only;omega⟩,b.ins,b.outs,b.tr,b.ed⟩
 obtain⟨c,f,a,g⟩:=zzt (N:=2000) hx' (by decide)
 have d:=a.ok
 refine⟨zyp c,?_,q30 d⟩
 unfold z2c
 rw [zm ⟨by omega,by omega⟩,qc f,qc (q1c d (by decide) a.rows a.ins)]
end GV
end Go.Proofs.Ytplgbkaollfmkaa
