
import Derived.Test.YtplgbkaollfmkaaGreatLaw39g
import Derived.Test.YtplgbkaollfmkaaGreatSpec09e
import Derived.Test.YtplgbkaollfmkaaGreatSpec06m
set_option linter.unusedVariables false
set_option linter.unusedSimpArgs false
namespace Go.Proofs.YtplgbkaollfmkaaGreat
namespace GV
set_option maxRecDepth 100000
theorem zlk{N:Nat}{m:Mach}{w:List Int}(c:MOk m)(d:mr m=true)(e:WOk m.inputs w)(o:w.length≤1024)(p:1100≤N):z02 N m w=some (atL m w):=by
 unfold z02
 refine(q8 (x:=atL m w) ?_).trans rfl
 refine kz (σ:=List Int) (fun F k X=>mo N m w F (k:Int) X) w.length (fun k X=>X=(List.range (k+1)).map fun j=>uk m 0 (w.take j)) _ (fun F k X b hi=> .inr ?_) (fun F X hi=>?_) N 0 _ (Nat.zero_le _) (by omega) rfl
 ·subst hi
  refine⟨_,rfl,?_⟩
  obtain⟨f,g,h⟩:=zn3 c d e b
  simp only [mo]
  have i:ix ((List.range (k+1)).map fun j=>uk m 0 (w.take j)) (k:Int)=uk m 0 (w.take k):=xw _ (by omega)
  have a:((List.range (k+1)).map fun j=>uk m 0 (w.take j)).length=k+1:=by simp
  have l:fits 8 ((List.range (k+1)).map fun j=>uk m 0 (w.take j)) ([uk m 0 (w.take (k+1))]:List Int):=⟨by rw [a,List.length_singleton];omega,by rw [a,List.length_singleton];omega⟩
  rw [ui (by omega),zh (ql (by omega)),i,zh f,zh (ql b),zh g,h,zh l,zh (qh (by omega)),List.range_succ (n:=k+1),List.map_append];rfl
 ·subst hi
  simp only [mo]
  rw [uh (by omega)];rfl
theorem zsq{N:Nat}{m:Mach}{w:List Int}(c:MOk m)(d:mr m=true)(e:WOk m.inputs w)(o:w.length≤1024)(p:1100≤N):z1g N m w=some (atL m w):=by
 unfold z1g
 refine(q8 (x:=atL m w) ?_).trans rfl
 refine kz (σ:=List Int) (fun F k X=>pg N m w F (k:Int) X) w.length (fun k X=>X=(List.range (k+1)).map fun j=>uk m 0 (w.take j)) _ (fun F k X b hi=> .inr ?_) (fun F X hi=>?_) N 0 _ (Nat.zero_le _) (by omega) rfl
 ·subst hi
  refine⟨_,rfl,?_⟩
  obtain⟨f,g,h⟩:=zn3 c d e b
  simp only [pg]
  have i:ix ((List.range (k+1)).map fun j=>uk m 0 (w.take j)) (k:Int)=uk m 0 (w.take k):=xw _ (by omega)
  have a:((List.range (k+1)).map fun j=>uk m 0 (w.take j)).length=k+1:=by simp
  have l:fits 8 ((List.range (k+1)).map fun j=>uk m 0 (w.take j)) ([uk m 0 (w.take (k+1))]:List Int):=⟨by rw [a,List.length_singleton];omega,by rw [a,List.length_singleton];omega⟩
  rw [ui (by omega),zh (ql (by omega)),i,zh f,zh (ql b),zh g,h,zh l,zh (qh (by omega)),List.range_succ (n:=k+1),List.map_append];rfl
 ·subst hi
  simp only [pg]
  rw [uh (by omega)];rfl
theorem zel{N:Nat}{m:Mach}{d w:List Int}(f:MOk m)(g:mr m=true)(i:WOk m.inputs w)(j:w.length≤1024)(o:d.length≤256)(l:1100≤N):fo N m d w=some (z0q (atL m w) (idL d w)):=by
 have b:(atL m w).length=w.length+1:=z5s
 unfold fo
 rw [q8 (zsq f g i j l)]
 refine(q8 (x:=z0q (atL m w) (idL d w)) ?_).trans rfl
 refine kz (σ:=List Int) (fun F k X=>yu N d w F (k:Int) X) (w.length+1) (fun k X=>X=zgk (atL m w) (idL d w) k) _ (fun F k X n hi=> .inr ?_) (fun F X hi=>?_) N 0 _ (Nat.zero_le _) (by omega) maskT_0.symm
 ·subst hi
  refine⟨_,rfl,?_⟩
  simp only [yu]
  have c:(idL d w).getD k default=idB d w k:=zbn n
  rw [ui (by omega)]
  refine(q8 (x:=zgk (atL m w) (idL d w) (k+1)) ?_).trans (zh (qh (by omega)))
  rw [zh (qh (by omega)),zh (fun _=>qh (by omega))]
  by_cases h:(w.length:Int)<(k:Int)+(d.length:Int)
  ·have a:idB d w k=false:=by
    unfold idB
    rw [decide_eq_false (show¬(k+d.length≤w.length) by omega)];rfl
   rw [zh (fun e=>by rw [decide_eq_true h] at e;exact absurd e (by decide)),decide_eq_true h]
   refine(q8 (x:=none) rfl).trans ?_
   refine(ct rfl).trans ?_
   rw [zh (ql (by rw [z3y];omega)),z1n,zwf (by omega) (by rw [c,a])]
  ·rw [zh (fun _=>⟨by omega,by omega,by omega⟩),decide_eq_false h]
   refine(zge rfl (show wm N (cut w (k:Int) ((k:Int)+(d.length:Int))) d=some (decide ((w.drop k).take d.length=d)) from by rw [zvw];exact zf0 (by rw [List.length_take,List.length_drop];omega) (by rw [List.length_take,List.length_drop];omega))).trans ?_
   have a:idB d w k=decide ((w.drop k).take d.length=d):=by
    unfold idB
    rw [decide_eq_true (show k+d.length≤w.length by omega)];rfl
   cases h2:decide ((w.drop k).take d.length=d)
   ·refine(ct rfl).trans ?_
    rw [zh (ql (by rw [z3y];omega)),z1n,zwf (by omega) (by rw [c,a,h2])]
   ·refine(cf rfl).trans ?_
    rw [q3k (by omega) (by rw [c,a,h2])]
 ·subst hi
  simp only [yu]
  rw [uh (by omega),←b,q3p]
end GV
end Go.Proofs.YtplgbkaollfmkaaGreat

namespace Go.Proofs.YtplgbkaollfmkaaGreat
namespace GV
set_option maxRecDepth 100000
theorem zfy(w:List Int)(i n t:Nat)(h:t<n):((w.drop i).take n).getD t default=w.getD (i+t) default:=by
 rw [List.getD_eq_getElem?_getD,List.getD_eq_getElem?_getD,List.getElem?_take,if_pos h,List.getElem?_drop]
theorem zwi{d w:List Int}{i j k:Nat}(f:j<k)(g:k≤w.length):
 Cmp d w i j k↔i+(k-j)≤w.length∧(w.drop i).take (k-j)=(w.drop j).take (k-j)∧idB d w (i+(k-j))=true:=by
 constructor
 ·rintro⟨l,m,h,b⟩
  have n:=h l (Nat.le_refl _)
  refine⟨by omega,zeh (by rw [List.length_take,List.length_drop,List.length_take,List.length_drop];omega) fun t a=>?_,by rw [show i+(k-j)=i+l+1 by omega];exact b⟩
  rw [List.length_take] at a
  rw [zfy _ _ _ _ (by omega),zfy _ _ _ _ (by omega)]
  exact(h t (by omega)).2.2
 ·rintro⟨o,c,e⟩
  refine⟨k-j-1,by omega,fun t a=>⟨by omega,by omega,?_⟩,by rw [show i+(k-j-1)+1=i+(k-j) by omega];exact e⟩
  rw [←zfy w i (k-j) t (by omega),←zfy w j (k-j) t (by omega),c]
def hv39(m:Mach)(d w:List Int)(k:Nat):Int:=if idB d w k=true then uk m 0 (w.take k) else-1
theorem zwk{m:Mach}{d w:List Int}{k:Nat}(h:k<w.length+1):ix (z0q (atL m w) (idL d w)) (k:Int)=hv39 m d w k:=by
 rw [dn,zfw (by rw [z5s];exact h),zbn h,zd4 h];rfl
theorem zr6{m:Mach}{d w:List Int}(a:MOk m)(b:mr m=true)(c:WOk m.inputs w){k:Nat}:hv39 m d w k≠ -1↔idB d w k=true:=by
 have:=zjl a b c k
 unfold hv39
 by_cases h:idB d w k=true
 ·rw [if_pos h];exact⟨fun _=>h,fun _=>by omega⟩
 ·rw [if_neg h];exact⟨fun e=>absurd rfl e,fun e=>absurd e h⟩
end GV
end Go.Proofs.YtplgbkaollfmkaaGreat

namespace Go.Proofs.YtplgbkaollfmkaaGreat
namespace GV
set_option maxRecDepth 100000
theorem q2j(w:List Int)(a b:Nat):cut w (a:Int) (b:Int)=(w.drop a).take (b-a):=rfl
theorem ztw{N:Nat}{m:Mach}{d w:List Int}(o:MOk m)(p:mr m=true)(q:WOk m.inputs w)(D:w.length≤1024)(E:1100≤N){j k:Nat}(A:j<k)(B:k≤w.length):
 ∃ r,xh N w (z0q (atL m w) (idL d w)) (k:Int) (j:Int) N 0=some r∧(((∃ i,i<w.length+1∧ziq m d w i j∧Cmp d w i j k)∧r=Ex.rt (Ex.rt true))∨(¬(∃ i,i<w.length+1∧ziq m d w i j∧Cmp d w i j k)∧r=Ex.go ())):=by
 have hI:(z0q (atL m w) (idL d w)).length=w.length+1:=maskL_len.trans z5s
 refine iy (σ:=Unit) (fun F i _=>xh N w (z0q (atL m w) (idL d w)) (k:Int) (j:Int) F (i:Int)) (w.length-(k-j)+1) (fun i _=> ∀ i',i'<i→ ¬(ziq m d w i' j∧Cmp d w i' j k)) _ (fun F i _ hi s=>?_) (fun F _ s=>?_) N 0 () (Nat.zero_le _) (by omega) (fun i' h=>by omega)
 ·have ee:(i:Int)+(k:Int)-(j:Int)=((i+(k-j):Nat):Int):=by omega
  have u:((i+(k-j):Nat):Int)≤(w.length:Int):=by omega
  have oj:okI (z0q (atL m w) (idL d w)) (j:Int):=ql (by omega)
  simp only [xh]
  rw [ee,zh (qh (by omega)),zh (qh (by omega)),zh (fun _=>oj),decide_eq_true u,zwk (show j<w.length+1 by omega)]
  by_cases hid:idB d w j=true
  ·have a:hv39 m d w j≠ -1:=(zr6 o p q).2 hid
   have oi:okI (z0q (atL m w) (idL d w)) (i:Int):=ql (by omega)
   have ok':okI (z0q (atL m w) (idL d w)) ((i+(k-j):Nat):Int):=ql (by omega)
   have v:okS w (i:Int) ((i+(k-j):Nat):Int):=⟨by omega,by omega,by omega⟩
   have y:okS w (j:Int) (k:Int):=⟨by omega,by omega,by omega⟩
   rw [decide_eq_true a,show (true&&true)=true from rfl,cond_true,zh (fun _=>oi),zh (fun _=>oj),zh (fun _=>qh (by omega)),zh (fun _=>qh (by omega)),zh (fun _=>ok'),zh (fun _=>qh (by omega)),zh (fun _=>qh (by omega)),zh (fun _=>v),zh (fun _=>y)]
   rw [zwk (show i<w.length+1 by omega),zwk (show i+(k-j)<w.length+1 by omega),q2j,q2j,show i+(k-j)-i=k-j by omega]
   have g:=zwi (d:=d) (w:=w) (i:=i) A B
   have n:=zr6 o p q (d:=d) (k:=i+(k-j))
   have l:hv39 m d w i=hv39 m d w j↔(idB d w i=true∧uk m 0 (w.take i)=uk m 0 (w.take j)):=by
    have z:=zr6 o p q (d:=d) (k:=i)
    constructor
    ·intro e
     have t:=z.1 (by rw [e];exact a)
     refine⟨t,?_⟩
     unfold hv39 at e
     rwa [if_pos t,if_pos hid] at e
    ·rintro⟨t,e⟩
     unfold hv39
     rw [if_pos t,if_pos hid,e]
   have C:wm N ((w.drop i).take (k-j)) ((w.drop j).take (k-j))=some (decide ((w.drop i).take (k-j)=(w.drop j).take (k-j))):=zf0 (by rw [List.length_take,List.length_drop];omega) (by rw [List.length_take,List.length_drop];omega)
   generalize hcc:(((decide ((i:Int)≠(j:Int)))&&(decide (hv39 m d w i=hv39 m d w j)))&&(decide (hv39 m d w (i+(k-j))≠ -1)))=c
   cases c
   ·right
    refine⟨(),fun i' h'=>?_,?_⟩
    ·by_cases e:i'=i
     ·subst e
      rintro⟨f,b⟩
      rw [Bool.eq_false_iff] at hcc
      refine hcc ?_
      rw [Bool.and_eq_true,Bool.and_eq_true,decide_eq_true_iff,decide_eq_true_iff,decide_eq_true_iff]
      exact⟨⟨by have:=f.1;omega,l.2 ⟨f.2.1,f.2.2.2⟩⟩,n.2 (g.1 b).2.2⟩
     ·exact s i' (by omega)
    ·refine(q8 (x:=none) rfl).trans ?_
     refine(cf rfl).trans ?_
     exact zh (qh (by omega))
   ·rw [Bool.and_eq_true,Bool.and_eq_true,decide_eq_true_iff,decide_eq_true_iff,decide_eq_true_iff] at hcc
    by_cases b:(w.drop i).take (k-j)=(w.drop j).take (k-j)
    ·left
     refine⟨_,(zge rfl C).trans (ct (by rw [decide_eq_true b];rfl)),.inl ⟨⟨i,by omega,⟨by have:=hcc.1.1;omega,(l.1 hcc.1.2).1,hid,(l.1 hcc.1.2).2⟩,g.2 ⟨by omega,b,n.1 hcc.2⟩⟩,rfl⟩⟩
    ·right
     refine⟨(),fun i' h'=>?_,(zge rfl C).trans ((cf (by rw [decide_eq_false b];rfl)).trans (zh (qh (by omega))))⟩
     by_cases e:i'=i
     ·subst e
      rintro⟨f,hq'⟩
      exact b (g.1 hq').2.1
     ·exact s i' (by omega)
  ·left
   have a: ¬(hv39 m d w j≠ -1):=fun h=>hid ((zr6 o p q).1 h)
   refine⟨Ex.go (),?_,.inr ⟨?_,rfl⟩⟩
   ·rw [decide_eq_false a]
    exact cf rfl
   ·rintro⟨i',_,f,_⟩
    exact hid f.2.2.1
 ·have ee:((w.length-(k-j)+1:Nat):Int)+(k:Int)-(j:Int)=(w.length:Int)+1:=by omega
  have u: ¬((w.length:Int)+1≤(w.length:Int)):=by omega
  have oj:okI (z0q (atL m w) (idL d w)) (j:Int):=ql (by omega)
  simp only [xh]
  rw [ee,zh (qh (by omega)),zh (qh (by omega)),zh (fun _=>oj),decide_eq_false u]
  refine⟨Ex.go (),cf rfl,.inr ⟨?_,rfl⟩⟩
  rintro⟨i',_,f,b⟩
  have:=((zwi A B).1 b).1
  exact s i' (by omega) ⟨f,b⟩
end GV
end Go.Proofs.YtplgbkaollfmkaaGreat

namespace Go.Proofs.YtplgbkaollfmkaaGreat
namespace GV
set_option maxRecDepth 100000
theorem zur{N:Nat}{m:Mach}{d w:List Int}(n:MOk m)(o:mr m=true)(p:WOk m.inputs w)(s:w.length≤1024)(t:1100≤N){k:Nat}(u:k≤w.length):
 ∃ b,z1w N w (z0q (atL m w) (idL d w)) (k:Int)=some b∧(b=true↔ ∃ j,j<w.length+1∧ ∃ i,i<w.length+1∧ziq m d w i j∧Cmp d w i j k):=by
 obtain⟨r,v,c⟩: ∃ r,xk N w (z0q (atL m w) (idL d w)) (k:Int) N 0=some r∧(((∃ j,j<k∧ ∃ i,i<w.length+1∧ziq m d w i j∧Cmp d w i j k)∧r=Ex.rt true)∨(¬(∃ j,j<k∧ ∃ i,i<w.length+1∧ziq m d w i j∧Cmp d w i j k)∧r=Ex.go ())):=by
  refine iy (σ:=Unit) (fun F j _=>xk N w (z0q (atL m w) (idL d w)) (k:Int) F (j:Int)) k (fun j _=> ∀ j',j'<j→ ¬ ∃ i,i<w.length+1∧ziq m d w i j'∧Cmp d w i j' k) _ (fun F j _ f g=>?_) (fun F _ g=>?_) N 0 () (Nat.zero_le _) (by omega) (fun i' h=>by omega)
  ·obtain⟨q,x,a⟩:=ztw (d:=d) n o p s t f u
   simp only [xk]
   rw [ui (by omega),q8 x]
   rcases a with⟨a,rfl⟩|⟨a,rfl⟩
   ·left
    exact⟨Ex.rt true,rfl,.inl ⟨⟨j,f,a⟩,rfl⟩⟩
   ·right
    refine⟨(),fun j' h'=>?_,?_⟩
    ·by_cases e:j'=j
     ·subst e;exact a
     ·exact g j' (by omega)
    ·rw [zi9]
     exact zh (qh (by omega))
  ·simp only [xk]
   rw [uh (by omega)]
   exact⟨Ex.go (),rfl,.inr ⟨fun⟨j,f,h⟩=>g j f h,rfl⟩⟩
 have hiff:(∃ j,j<w.length+1∧ ∃ i,i<w.length+1∧ziq m d w i j∧Cmp d w i j k)↔(∃ j,j<k∧ ∃ i,i<w.length+1∧ziq m d w i j∧Cmp d w i j k):=by
  constructor
  ·rintro⟨j,_,i,hi,a,l,hl',h⟩
   exact⟨j,by omega,i,hi,a,l,hl',h⟩
  ·rintro⟨j,f,h⟩
   exact⟨j,by omega,h⟩
 unfold z1w
 rw [q8 v]
 rcases c with⟨c,rfl⟩|⟨c,rfl⟩
 ·exact⟨true,rfl,⟨fun _=>hiff.2 c,fun _=>rfl⟩⟩
 ·exact⟨false,rfl,⟨fun e=>absurd e (by decide),fun e=>absurd (hiff.1 e) c⟩⟩
end GV
end Go.Proofs.YtplgbkaollfmkaaGreat

namespace Go.Proofs.YtplgbkaollfmkaaGreat
namespace GV
set_option maxRecDepth 100000
theorem zyy{N:Nat}{m:Mach}{d w:List Int}(i:MOk m)(l:mr m=true)(n:WOk m.inputs w)(o:w.length≤1024)(u:d.length≤256)(p:1100≤N):z3l N m d w=some (z0q (atL m w) (knL m d w)):=by
 have q:(atL m w).length=w.length+1:=z5s
 have hI:(z0q (atL m w) (idL d w)).length=w.length+1:=maskL_len.trans z5s
 unfold z3l
 rw [q8 (zlk i l n o p),q8 (zel i l n o u p)]
 refine(q8 (x:=z0q (atL m w) (knL m d w)) ?_).trans rfl
 refine kz (σ:=List Int) (fun F k X=>oz N w (atL m w) (z0q (atL m w) (idL d w)) F X (k:Int)) (w.length+1) (fun k X=>X=(List.range k).map fun j=>if(knL m d w).getD j default=true then(atL m w).getD j default else-1) _ (fun F k X s hi=> .inr ?_) (fun F X hi=>?_) N 0 _ (Nat.zero_le _) (by omega) rfl
 ·subst hi
  refine⟨_,rfl,?_⟩
  simp only [oz]
  have c:((List.range k).map fun j=>if(knL m d w).getD j default=true then(atL m w).getD j default else-1).length=k:=by simp
  have t: ∀ x:Int,fits 8 ((List.range k).map fun j=>if(knL m d w).getD j default=true then(atL m w).getD j default else-1) ([x]:List Int):=fun x=>⟨by rw [c,List.length_singleton];omega,by rw [c,List.length_singleton];omega⟩
  rw [ui (by omega)]
  refine(q8 (x:=(List.range (k+1)).map fun j=>if(knL m d w).getD j default=true then(atL m w).getD j default else-1) ?_).trans (zh (qh (by omega)))
  rw [zh (ql (by omega)),zwk s,List.range_succ,List.map_append]
  have f:=zc1 (m:=m) (d:=d) (w:=w) s
  have g:=zr6 i l n (d:=d) (k:=k)
  have hfin: ∀ b:Bool,(b=true↔zc8 m d w k)→(bif b then(gd (okI (atL m w) (k:Int))<|gd (fits 8 ((List.range k).map fun j=>if(knL m d w).getD j default=true then(atL m w).getD j default else-1) ([ix (atL m w) (k:Int)]:List Int))<|some (((List.range k).map fun j=>if(knL m d w).getD j default=true then(atL m w).getD j default else-1)++([ix (atL m w) (k:Int)]:List Int))) else(gd (fits 8 ((List.range k).map fun j=>if(knL m d w).getD j default=true then(atL m w).getD j default else-1) ([(-1)]:List Int))<|some (((List.range k).map fun j=>if(knL m d w).getD j default=true then(atL m w).getD j default else-1)++([(-1)]:List Int))))=some (((List.range k).map fun j=>if(knL m d w).getD j default=true then(atL m w).getD j default else-1)++([k].map fun j=>if(knL m d w).getD j default=true then(atL m w).getD j default else-1)):=fun b a=>by
   cases b
   ·have v: ¬(knL m d w).getD k default=true:=fun h=>absurd (a.2 (f.1 h)) (by decide)
    refine(cf rfl).trans ((zh (t _)).trans ?_)
    rw [List.map_cons,List.map_nil,if_neg v]
   ·have r:(knL m d w).getD k default=true:=f.2 (a.1 rfl)
    refine(ct rfl).trans ((zh (ql (by omega))).trans ((zh (t _)).trans ?_))
    rw [List.map_cons,List.map_nil,if_pos r];rfl
  by_cases a:idB d w k=true
  ·rw [decide_eq_true (g.2 a)]
   refine(q8 (x:=none) rfl).trans ?_
   exact hfin true ⟨fun _=> .inl a,fun _=>rfl⟩
  ·rw [decide_eq_false (fun e=>a (g.1 e))]
   obtain⟨b,r,y⟩:=zur (d:=d) i l n o p (show k≤w.length by omega)
   refine(zge rfl r).trans ?_
   exact hfin b (y.trans ⟨.inr,fun h=>h.resolve_left a⟩)
 ·subst hi
  simp only [oz]
  rw [uh (by omega)]
  unfold z0q
  rw [q]
end GV
end Go.Proofs.YtplgbkaollfmkaaGreat

namespace Go.Proofs.YtplgbkaollfmkaaGreat
namespace GV
set_option maxRecDepth 100000
def wdL(w:List Int)(n:Int):List Int:=w.map fun x=>x%n
theorem zpo{N:Nat}{w:List Int}{n:Int}{most:Nat}(b: ∀ k,k<w.length→0≤w.getD k default∧w.getD k default≤255)(f:1≤n)(g:n≤16)(i:most≤1000)(j:1100≤N):z01 N w n (most:Int)=some (wdL (w.take most) n):=by
 unfold z01
 refine(q8 (x:=wdL (w.take most) n) ?_).trans rfl
 refine kz (σ:=List Int) (fun F k X=>ak N w n (most:Int) F X (k:Int)) (min w.length most) (fun k X=>X=wdL (w.take k) n) _ (fun F k X l hi=> .inr ?_) (fun F X hi=>?_) N 0 _ (Nat.zero_le _) (by omega) (by simp [wdL])
 ·subst hi
  refine⟨_,rfl,?_⟩
  have a:k<w.length:=by omega
  have m:=b k a
  have hlen:(wdL (w.take k) n).length=k:=by unfold wdL;rw [List.length_map,List.length_take];omega
  have c:fits 8 (wdL (w.take k) n) ([(ix w (k:Int))%n]:List Int):=⟨by rw [hlen,List.length_singleton];omega,by rw [hlen,List.length_singleton];omega⟩
  have d:okR (ix w (k:Int)) n:=by
   rw [dn]
   exact⟨by omega,by omega⟩
  simp only [ak]
  refine(ct (by rw [Bool.and_eq_true,decide_eq_true_iff,decide_eq_true_iff];omega)).trans ?_
  rw [zh (ql a),zh (qh (by rw [dn];omega)),zh d,zh c,zh (qh (by omega))]
  have e:w.take (k+1)=w.take k++[w.getD k default]:=by
   rw [List.take_add_one,List.getElem?_eq_getElem a,List.getD_eq_getElem?_getD,List.getElem?_eq_getElem a];rfl
  rw [e]
  unfold wdL
  rw [List.map_append];rfl
 ·subst hi
  simp only [ak]
  refine(cf (by rw [←Bool.not_eq_true,Bool.and_eq_true,decide_eq_true_iff,decide_eq_true_iff];omega)).trans ?_
  congr 2
  by_cases h:w.length≤most
  ·rw [Nat.min_eq_left h,List.take_length,List.take_of_length_le h]
  ·rw [Nat.min_eq_right (by omega)]
theorem ztq{w:List Int}{n:Int}(b:1≤n):WOk n (wdL w n):=fun k a=>by
 obtain⟨x,_,e⟩:=List.mem_map.1 (l8 a)
 unfold wdL
 rw [←e]
 exact⟨Int.emod_nonneg _ (by omega),Int.emod_lt_of_pos _ (by omega)⟩
theorem q9s{x:Sm}(b:CDOk x.fO): ∃ m,z0v 2000 x=some m∧MOk m:=by
 have e:=b.st
 have hx':CDOk ⟨x.fO.fB%5,x.fO.fA,x.fO.fC,x.fO.fI,x.fO.fD⟩:=⟨⟨by dsimp only;omega,by dsimp only;omega⟩,b.ins,b.outs,b.tr,b.ed⟩
 obtain⟨c,f,a,g⟩:=zwd (N:=2000) hx' (by decide)
 have d:=a.ok
 refine⟨zkz c,?_,q1g d⟩
 unfold z0v
 rw [zh ⟨by omega,by omega⟩,q8 f,q8 (zw4 d (by decide) a.rows a.ins)]
end GV
end Go.Proofs.YtplgbkaollfmkaaGreat
