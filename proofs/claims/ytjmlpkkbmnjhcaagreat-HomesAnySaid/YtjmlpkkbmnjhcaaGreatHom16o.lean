
import Derived.Test.YtjmlpkkbmnjhcaaGreatHom16l
set_option linter.unusedVariables false
set_option linter.unusedSimpArgs false
set_option linter.unusedSectionVars false
namespace Go.Proofs.YtjmlpkkbmnjhcaaGreat
namespace GV
set_option maxRecDepth 100000
theorem q3y{m:Mach}(h:CM m){w:List Int}(d: ∀ k,k<w.length→0≤w.getD k default∧w.getD k default≤255):bu 1000000 w m 1000000 [] 0=some ((w.take 8).map fun z=>z%m.inputs):=by
 have e:=h.ok.i1
 refine z7n (fun F k s=>bu 1000000 w m F s (k:Int)) (min w.length 8) (fun k s=>s=(w.take k).map fun z=>z%m.inputs) _ (fun F k s g b=>?_) (fun F s b=>?_) 1000000 [] (by omega) rfl
 ·have a:k<w.length:=by omega
  have f:=d k a
  have c:s.length=k:=by rw [b,List.length_map,List.length_take];omega
  simp only [bu]
  rw [decide_eq_true (show (k:Int)<(w.length:Int) by omega),decide_eq_true (show (k:Int)<8 by omega)]
  simp only [Bool.and_self,cond_true]
  rw [zm (ky a),lg,zm (j3 (by omega)),zm ⟨f.1,e⟩,zm ⟨by simp only [List.length_singleton];omega,by simp only [List.length_singleton];omega⟩,zm (j3 (by omega)),uf]
  refine⟨_,?_,rfl⟩
  rw [z7d a,List.map_append,b];rfl
 ·simp only [bu]
  have:(decide ((((min w.length 8:Nat):Int))<(w.length:Int))&&decide (((min w.length 8:Nat):Int)<8))=false:=by
   by_cases c:w.length≤8
   ·rw [decide_eq_false (show¬(((min w.length 8:Nat):Int))<(w.length:Int) by omega),Bool.false_and]
   ·rw [decide_eq_false (show¬(((min w.length 8:Nat):Int))<8 by omega),Bool.and_false]
  rw [this,cond_false,b]
  congr 2
  by_cases c:w.length≤8
  ·rw [Nat.min_eq_left c,List.take_length,List.take_of_length_le c]
  ·rw [Nat.min_eq_right (by omega)]
theorem q42{m:Mach}{w v:List Int}(h:Syn m w):Syn m (w++v):=fun s a=>by rw [z0s,z0s,h s a]
theorem zop{m:Mach}{w:List Int}(h:Syn m w):Hom m w:=fun s t a b _=>by rw [h s a,h t b]
theorem zv2{m:Mach}{w v:List Int}(h:Hom m w):Hom m (w++v):=fun s t b c a=>by
 rw [zgd,zgd] at a
 have:=(List.append_inj a (by rw [z1g,z1g])).1
 rw [z0s,z0s,h s t b c this]
theorem q06{x:Sd}(S:CDOk x){w:List Int}(M: ∀ k,k<w.length→0≤w.getD k default∧w.getD k default≤255):z2q 1000000 x w=some true:=by
 obtain⟨m,T,O⟩:=ztc (N:=1000000) S (by omega)
 have h:=O.cm
 have P:=O.rows;have U:=h.ok.r1
 obtain⟨a,V,A⟩:=zjg h P (N:=1000000) (by omega)
 obtain⟨b,W,i⟩:=zew h P
 have ha':z2m 1000000 (⟨m.inputs,m.outputs,m.rows⟩:Mach)=some a:=V
 have hb':z11 1000000 (⟨m.inputs,m.outputs,m.rows⟩:Mach)=some b:=W
 obtain⟨B,X⟩:=zvl h M 8
 have j:=q3y h M
 generalize (w.take 8).map (fun z=>z%m.inputs)=v at B X j
 unfold z2q
 rw [qh T,qh ha',qh hb',qh j]
 have e:(bif decide (a.2=0) then(
  gd (fits 8 ([]:List Int) a.1)<|
  gd (fits 8 (([]:List Int)++a.1) v)<|
  bd (gop (true&&(((decide (b.2≠0))||(decide ((↑a.1.length:Int)<(↑b.1.length:Int))))==false)) (o8 1000000 (⟨m.inputs,m.outputs,m.rows⟩:Mach) ((([]:List Int)++a.1)++v))) fun d=>
  bd (gop (true&&((((decide (b.2≠0))||(decide ((↑a.1.length:Int)<(↑b.1.length:Int))))||(!(d.getD default)))==false)) (vk 1000000 (⟨m.inputs,m.outputs,m.rows⟩:Mach) a.1)) fun l=>
  bif (((decide (b.2≠0))||(decide ((↑a.1.length:Int)<(↑b.1.length:Int))))||(!(d.getD default)))||(!(l.getD default)) then(
  some (Ex.rt false)) else(
  xc 1000000 m a v 1000000 0)) else(
  some (Ex.go v)))=some (Ex.go v):=by
  rcases A with⟨u,rfl,C,c,n,hleast⟩|⟨rfl,_⟩
  ·rcases i with⟨D,rfl,_,Y,Z,E⟩|⟨rfl,G⟩
   ·have aa:=zhl (E u c (zop n))
    have e1:((decide ((0:Int)≠0))||(decide ((↑u.length:Int)<(↑D.length:Int))))=false:=by rw [decide_eq_false (show¬((u.length:Int)<(D.length:Int)) by omega)];rfl
    have s1:o8 1000000 (⟨m.inputs,m.outputs,m.rows⟩:Mach) (([]++u)++v)=some true:=by
     have:=zmi (N:=1000000) h (w:=u++v) (c.append B) (by rw [List.length_append];omega) (by omega)
     rw [zbk.2 (q42 n)] at this
     rw [List.nil_append];exact this
    have H:vk 1000000 (⟨m.inputs,m.outputs,m.rows⟩:Mach) u=some true:=by
     have:=zhr (N:=1000000) h c (by omega) (by omega) (by omega)
     rw [zcs.2 (zop n)] at this;exact this
    have I:xc 1000000 m (u,0) v 1000000 0=some (Ex.go v):=by
     refine zhq (σ:=Unit) (fun F s _=>xc 1000000 m (u,0) v F (s:Int)) m.rows.length (fun _=>()) _ (fun F s o=>?_) (fun F=>?_) (by omega)
     ·have is:InS m (s:Int):=⟨by omega,by omega⟩
      have it:InS m (0:Int):=⟨by omega,by omega⟩
      have p:z1w 1000000 (⟨m.inputs,m.outputs,m.rows⟩:Mach) (s:Int) 0=_:=zrs (N:=1000000) h (by omega) is it
      have r:peq (runT (pnx m) ((s:Int),(0:Int)) u)=true:=(h.mrg is it c).2 (n s o)
      obtain⟨q,hq,J⟩:=zoq (next:=pnx m) c r (g:=257) (by omega)
      have ae:=zhl (J.2.2 u c r)
      rw [show z8z (pnx (⟨m.inputs,m.outputs,m.rows⟩:Mach)) peq (nIn (⟨m.inputs,m.outputs,m.rows⟩:Mach)) 257 [(((s:Int),(0:Int)),[])] [((s:Int),(0:Int))]=some q from hq] at p
      simp only [xc]
      rw [ut (by omega),qh p]
      show (bif ((decide ((0:Int)≠0))||(decide ((u.length:Int)<(q.length:Int)))) then _ else _)=_
      rw [show ((decide ((0:Int)≠0))||(decide ((u.length:Int)<(q.length:Int))))=false by rw [decide_eq_false (show¬((u.length:Int)<(q.length:Int)) by omega)];rfl,cond_false,zm (j3 (by omega))];rfl
     ·simp only [xc]
      rw [ul (by omega)]
    rw [show decide ((u,(0:Int)).2=0)=true from rfl,cond_true,zm ⟨by simp only [List.length_nil];omega,by simp only [List.length_nil];omega⟩,zm ⟨by rw [List.nil_append];show (u.length+v.length)*8≤_;omega,by rw [List.nil_append];show u.length+v.length≤_;omega⟩]
    show bd (gop (true&&(((decide ((0:Int)≠0))||(decide ((↑u.length:Int)<(↑D.length:Int))))==false)) _) _=_
    rw [e1,qh (z9n (b:=(true&&(false==false))) rfl s1)]
    show bd (gop (true&&((false||(!((some true).getD default)))==false)) (vk 1000000 (⟨m.inputs,m.outputs,m.rows⟩:Mach) u)) _=_
    rw [qh (z9n (b:=(true&&((false||(!((some true).getD default)))==false))) rfl H)]
    show (bif ((false||(!((some true).getD default)))||(!((some true).getD default))) then _ else _)=_
    rw [show ((false||(!((some true).getD default)))||(!((some true).getD default)))=false from rfl,cond_false]
    exact I
   ·exact absurd (zop n) (G u c)
  ·rfl
 refine(qh e).trans ?_
 rw [z6z]
 have f:(bif decide (b.2=0) then(
  gd (fits 8 ([]:List Int) b.1)<|
  gd (fits 8 (([]:List Int)++b.1) v)<|
  bd (vk 1000000 (⟨m.inputs,m.outputs,m.rows⟩:Mach) ((([]:List Int)++b.1)++v)) fun t=>
  bif !t then(
  some (Ex.rt false)) else(
  xe 1000000 m 1000000 ((([]:List Int)++b.1)++v) 0)) else(
  some (Ex.go ())))=some (Ex.go ()):=by
  rcases i with⟨u,rfl,C,c,Q,_⟩|⟨rfl,_⟩
  ·have y:WIn (nIn m) (u++v):=c.append B
   have K:(u++v).length≤256:=by rw [List.length_append];omega
   have H:vk 1000000 (⟨m.inputs,m.outputs,m.rows⟩:Mach) (([]++u)++v)=some true:=by
    have:=zhr (N:=1000000) h y (by omega) (by omega) (by omega)
    rw [zcs.2 (zv2 Q)] at this
    rw [List.nil_append];exact this
   have L:xe 1000000 m 1000000 (([]++u)++v) 0=some (Ex.go ()):=by
    rw [List.nil_append]
    refine zhq (σ:=Unit) (fun F s _=>xe 1000000 m F (u++v) (s:Int)) m.rows.length (fun _=>()) _ (fun F s o=>?_) (fun F=>?_) (by omega)
    ·have r1:ma 1000000 (⟨m.inputs,m.outputs,m.rows⟩:Mach) (s:Int) (u++v)=some (yx m s (u++v)):=h.rrun o y (by omega) (by omega)
     have R:z0w 1000000 (⟨m.inputs,m.outputs,m.rows⟩:Mach) (u++v) (yx m s (u++v))=some (zd7 m (u++v) (yx m s (u++v))):=zpo h (by omega) y K (z1g m s _)
     have r3:vo 1000000 1000000 (⟨m.inputs,m.outputs,m.rows⟩:Mach) (s:Int) (u++v)=some (yo m s (u++v)):=h.raft o y (by omega)
     rw [zyf h y (zv2 Q) o] at R
     simp only [xe]
     rw [ut (by omega),qh r1,qh R,qh (z9n (b:=(true&&((decide ((yo m s (u++v),(0:Int)).2≠0))==false))) rfl r3)]
     show (bif ((decide ((0:Int)≠0))||(decide (yo m s (u++v)≠yo m s (u++v)))) then _ else _)=_
     rw [decide_eq_false (fun hh=>hh rfl: ¬yo m s (u++v)≠yo m s (u++v)),show ((decide ((0:Int)≠0))||false)=false from rfl,cond_false,zm (j3 (by omega))];rfl
    ·simp only [xe]
     rw [ul (by omega)]
   rw [show decide ((u,(0:Int)).2=0)=true from rfl,cond_true,zm ⟨by simp only [List.length_nil];omega,by simp only [List.length_nil];omega⟩,zm ⟨by rw [List.nil_append];show (u.length+v.length)*8≤_;omega,by rw [List.nil_append];show u.length+v.length≤_;omega⟩]
   show bd (vk 1000000 (⟨m.inputs,m.outputs,m.rows⟩:Mach) (([]++u)++v)) _=_
   rw [qh H,Bool.not_true,cond_false]
   exact L
  ·rfl
 refine(qh f).trans ?_
 rw [z6z,qh zaa]
end GV
end Go.Proofs.YtjmlpkkbmnjhcaaGreat

namespace Go.Proofs.YtjmlpkkbmnjhcaaGreat
namespace GV
set_option maxRecDepth 100000
theorem zxk{ρ:Type}(L:Nat→Nat→Option ρ)(n:Nat)(p:Nat→Bool)(d f:ρ)(b: ∀ F k,k<n→p k=true→L (F+1) k=some f)(skip: ∀ F k,k<n→p k=false→L (F+1) k=L F (k+1))(fin: ∀ F,L (F+1) n=some d){F:Nat}(h:n<F):
 L F 0=some (bif (List.range n).any p then f else d):=by
 refine z19 (σ:=Unit) (fun F k _=>L F k) n (fun k _=> ∀ j,j<k→p j=false) _ (fun F k s a c=>?_) (fun F s c=>?_) F 0 () (Nat.zero_le _) (by omega) (fun j g=>absurd g (by omega))
 ·cases hp:p k with
  |true=>
   left
   have:(List.range n).any p=true:=by rw [List.any_eq_true];exact⟨k,List.mem_range.2 a,hp⟩
   rw [this];exact b F k a hp
  |false=>
   right
   refine⟨(),fun j g=>?_,skip F k a hp⟩
   by_cases e:j=k
   ·subst e;exact hp
   ·exact c j (by omega)
 ·have:(List.range n).any p=false:=by rw [List.any_eq_false];intro k a;rw [c k (List.mem_range.1 a)];simp
  rw [this];exact fin F
theorem q2e{N:Nat}{w:List Int}{n:Int}(b:w.length<N)(j:w.length≤100000):z3r N w n=some (if w.any (z8v n)=true then 1 else 0):=by
 have c:gu N w n N 0=some (bif (List.range w.length).any (fun i=>z8v n (w.getD i default)) then Ex.rt 1 else Ex.go ()):=by
  refine zxk (fun F i=>gu N w n F (i:Int)) w.length _ _ _ (fun F i hi a=>?_) (fun F i hi a=>?_) (fun F=>?_) b
  ·simp only [gu]
   rw [ut (by omega),zm (ky hi),zm (fun _=>ky hi)]
   exact ct a
  ·simp only [gu]
   rw [ut (by omega),zm (ky hi),zm (fun _=>ky hi)]
   exact(cf a).trans (by rw [zm (j3 (by omega))];rfl)
  ·simp only [gu]
   rw [ul (by omega)]
 unfold z3r
 rw [qh c]
 have e:(List.range w.length).any (fun i=>z8v n (w.getD i default))=w.any (z8v n):=by
  cases h:w.any (z8v n) with
  |true=>
   obtain⟨x,d,f⟩:=List.any_eq_true.1 h
   obtain⟨i,hi,rfl⟩:=List.mem_iff_getElem.1 d
   exact zf1.2 ⟨i,hi,by rw [List.getD_eq_getElem?_getD,List.getElem?_eq_getElem hi];exact f⟩
  |false=>
   refine zax.2 fun k g=>?_
   have:=List.any_eq_false.1 h (w.getD k default) (z2e g)
   simpa using this
 rw [e]
 cases w.any (z8v n)<;>rfl
end GV
end Go.Proofs.YtjmlpkkbmnjhcaaGreat

namespace Go.Proofs.YtjmlpkkbmnjhcaaGreat
namespace GV
set_option maxRecDepth 100000
def rd(m:Mach):Int:=if z2l m≠0 then z2l m else if zdx m=true then 0 else 9
theorem zxw{N:Nat}{m:Mach}(b:Small m)(c:200≤N):z3i N m=some (rd m):=by
 unfold z3i rd
 rw [qh (zjq b c)]
 by_cases h:z2l m≠0
 ·rw [if_pos h]
  show (bif ((decide (z2l m=0))&&(!(zhh m))) then _ else _)=_
  rw [decide_eq_false h,Bool.false_and,cond_false]
 ·rw [if_neg h]
  have a:z2l m=0:=by simpa using h
  have d:=(z6w m).1 a
  show (bif ((decide (z2l m=0))&&(!(zhh m))) then some 9 else some (z2l m))=_
  rw [decide_eq_true a,q0q d,Bool.true_and,a]
  cases zdx m with
  |true=>rw [if_pos rfl];rfl
  |false=>rw [if_neg (by simp)];rfl
theorem zlu{N:Nat}{m:Mach}(b:Small m)(a:200≤N):z3f N m=some (rd m):=by
 unfold z3f rd
 rw [qh (zx4 b a)]
 by_cases h:z2l m≠0
 ·rw [if_pos h,ut h]
 ·rw [if_neg h,ul h]
  have c:z2l m=0:=by simpa using h
  rw [qh (zpg ((z6w m).1 c) a)]
  cases zdx m with
  |true=>rw [if_pos rfl];rfl
  |false=>rw [if_neg (by simp)];rfl
theorem q7d{m:Mach}(h:rd m=0):CM m:=by
 unfold rd at h
 by_cases h1:z2l m≠0
 ·rw [if_pos h1] at h;exact absurd h h1
 ·rw [if_neg h1] at h
  have a:=(z6w m).1 (by simpa using h1)
  by_cases h2:zdx m=true
  ·exact⟨a,fun s i b hi=>zxd a h2 b hi⟩
  ·rw [if_neg h2] at h;cases h
/-! ### lists that need be no sets-/
def zgf(m:Mach)(l:List Int)(k:Nat):Bool:=((decide (l.getD k default<0))||(decide ((m.rows.length:Int)≤l.getD k default)))||((decide ((0:Int)<(k:Int)))&&(decide (l.getD k default≤ix l ((k:Int)-1))))
def zgh(m:Mach)(l:List Int):Int:=if(List.range l.length).any (zgf m l)=true then 1 else 0
theorem zvv{m:Mach}{l:List Int}(h:zgh m l=0):LS16 m.rows.length l:=by
 have f: ∀ k,k<l.length→zgf m l k=false:=fun k a=>by
  unfold zgh at h
  cases c:zgf m l k with
  |false=>rfl
  |true=>rw [if_pos (List.any_eq_true.2 ⟨k,List.mem_range.2 a,c⟩)] at h;cases h
 have c: ∀ k,k<l.length→(0≤l.getD k default∧l.getD k default<(m.rows.length:Int))∧(0<k→l.getD (k-1) default<l.getD k default):=fun k a=>by
  have:=f k a
  unfold zgf at this
  rw [Bool.or_eq_false_iff,Bool.or_eq_false_iff] at this
  obtain⟨⟨b,o⟩,p⟩:=this
  have b:=of_decide_eq_false b
  have o:=of_decide_eq_false o
  refine⟨by omega,fun r=>?_⟩
  rw [decide_eq_true (show (0:Int)<(k:Int) by omega),Bool.true_and,show (k:Int)-1=((k-1:Nat):Int) by omega,lg] at p
  have:=of_decide_eq_false p
  omega
 have g: ∀ j i,i<j→j<l.length→l.getD i default<l.getD j default:=by
  intro j
  induction j with
  |zero=>intro i hi;omega
  |succ j ih=>
   intro i hi d
   have b:=(c (j+1) d).2 (by omega)
   rw [Nat.add_sub_cancel] at b
   by_cases e:i=j
   ·subst e;exact b
   ·have:=ih i (by omega) (by omega);omega
 refine⟨?_,fun z q=>?_⟩
 ·rw [List.pairwise_iff_getElem]
  intro i j hi d n
  have:=g j i n d
  rw [List.getD_eq_getElem?_getD,List.getD_eq_getElem?_getD,List.getElem?_eq_getElem hi,List.getElem?_eq_getElem d] at this
  exact this
 ·obtain⟨k,a,rfl⟩:=List.mem_iff_getElem.1 q
  have:=(c k a).1
  rw [List.getD_eq_getElem?_getD,List.getElem?_eq_getElem a] at this
  exact this
theorem zo6{k:Nat}{p:Bool}(a:((true&&p)&&((decide ((0:Int)<(k:Int)))==true))=true):0<k:=by
 rw [Bool.and_eq_true] at a
 have:=of_decide_eq_true (show decide ((0:Int)<(k:Int))=true by simpa using a.2)
 omega
theorem q2b{N:Nat}{m:Mach}{l:List Int}(i:5000≤N)(n:l.length≤300):z4k N m l=some (zgh m l):=by
 have g:lu N m l N 0=some (if(List.range l.length).any (zgf m l)=true then Ex.rt 1 else Ex.go ()):=by
  refine z19 (σ:=Unit) (fun F k _=>lu N m l F (k:Int)) l.length (fun k _=> ∀ j,j<k→zgf m l j=false) _ (fun F k _ d hi=>?_) (fun F _ hi=>?_) N 0 () (Nat.zero_le _) (by omega) fun j b=>by omega
  ·have ok:okI l (k:Int):=ky d
   simp only [lu]
   rw [ut (by omega),zm ok,zm (fun _=>ok),zm (fun _=>ok),zm (fun _=>j3 (by omega)),zm (fun c=>by have:=zo6 c;exact⟨by omega,by omega⟩),lg]
   cases a:zgf m l k with
   |true=>
    left
    rw [if_pos (List.any_eq_true.2 ⟨k,List.mem_range.2 d,a⟩)]
    unfold zgf at a
    rw [a,cond_true]
   |false=>
    right
    have hb':=a
    unfold zgf at hb'
    rw [hb',cond_false,zm (j3 (by omega)),uf]
    refine⟨(),fun j b=>?_,rfl⟩
    by_cases e:j=k
    ·subst e;exact a
    ·exact hi j (by omega)
  ·simp only [lu]
   rw [ul (by omega),if_neg]
   intro c
   obtain⟨j,b,f⟩:=List.any_eq_true.1 c
   rw [hi j (List.mem_range.1 b)] at f;cases f
 unfold z4k zgh
 rw [qh g]
 by_cases h:(List.range l.length).any (zgf m l)=true
 ·rw [if_pos h,if_pos h,z9e]
 ·rw [if_neg h,if_neg h,z6z]
theorem zhy{m:Mach}{l:List Int}(g:l.length≤300):z0b 1000000 m l 1000000 0=some (if(List.range l.length).any (zgf m l)=true then Ex.rt ([],1) else Ex.go ()):=by
 refine z19 (σ:=Unit) (fun F k _=>z0b 1000000 m l F (k:Int)) l.length (fun k _=> ∀ j,j<k→zgf m l j=false) _ (fun F k _ d hi=>?_) (fun F _ hi=>?_) 1000000 0 () (Nat.zero_le _) (by omega) fun j b=>by omega
 ·simp only [z0b]
  rw [ut (by omega),zm (ky d),zm (fun _=>j3 (by omega)),zm (fun c=>by have:=zo6 c;exact⟨by omega,by omega⟩),lg]
  cases a:zgf m l k with
  |true=>
   left
   rw [if_pos (List.any_eq_true.2 ⟨k,List.mem_range.2 d,a⟩)]
   unfold zgf at a
   rw [a,cond_true]
  |false=>
   right
   have hb':=a
   unfold zgf at hb'
   rw [hb',cond_false,zm (j3 (by omega)),uf]
   refine⟨(),fun j b=>?_,rfl⟩
   by_cases e:j=k
   ·subst e;exact a
   ·exact hi j (by omega)
 ·simp only [z0b]
  rw [ul (by omega),if_neg]
  intro c
  obtain⟨j,b,f⟩:=List.any_eq_true.1 c
  rw [hi j (List.mem_range.1 b)] at f;cases f
theorem zwa{N:Nat}{w:List Int}{n:Int}(c:5000≤N)(d:w.length≤300)(f:1≤n)(g:n≤16):z3e N ([w]:List (List Int)) n=some (z0f w n):=by
 have b:z0n N [w] n N 0=some (if z0f w n=0 then Ex.go () else Ex.rt (z0f w n)):=by
  obtain⟨M,rfl⟩: ∃ M,N=M+2:=⟨N-2,by omega⟩
  have ok:okI [w] (0:Int):=⟨by omega,by simp⟩
  simp only [z0n]
  rw [ut (by simp),zm ok,show ix [w] (0:Int)=w from rfl]
  unfold z7a
  by_cases hc:256<w.length
  ·have e:z0f w n=3:=zqv (.inr hc)
   rw [ut (by omega),z2r,ut (show (3:Int)≠0 by decide),e,if_neg (by decide)]
  ·rw [ul (by omega),z2r,ul (by decide),zm ok,qh (q2e (by omega) (by omega))]
   by_cases hb:w.any (z8v n)=true
   ·have e:z0f w n=1:=zrl (by omega) (.inr hb)
    rw [if_pos hb,ut (show (1:Int)≠0 by decide),e,if_neg (by decide)]
   ·have e:z0f w n=0:=zr6 (by omega) (fun a=>by
     rcases a with a|a
     ·omega
     ·exact hb a)
    rw [if_neg hb,ul (by decide),zm (j3 (by decide)),ul (by simp),e,if_pos rfl]
 unfold z3e
 rw [show ((decide (16<n))||(decide (4096<(([w]:List (List Int)).length:Int))))=false by rw [decide_eq_false (show¬16<n by omega)];rfl,cond_false,ul (by omega),qh b]
 by_cases hc:z0f w n=0
 ·rw [if_pos hc,z6z,hc]
 ·rw [if_neg hc,z9e]
theorem zx0{m:Mach}(h:CM m)(c:m.rows.length≤16){l w:List Int}(d:l.length≤300)(g:w.length≤300):z1e 1000000 m l w=some (if zgh m l≠0 then([],1) else if z0f w m.inputs≠0 then([],z0f w m.inputs) else(zc2 m l w,0)):=by
 by_cases hs:zgh m l≠0
 ·rw [if_pos hs]
  unfold z1e
  rw [qh (h.ready (by omega)),ul (by decide),qh (zhy d)]
  unfold zgh at hs
  by_cases b:(List.range l.length).any (zgf m l)=true
  ·rw [if_pos b,z9e]
  ·rw [if_neg b] at hs;exact absurd rfl hs
 ·rw [if_neg hs]
  have a:zgh m l=0:=by simpa using hs
  by_cases hc:z0f w m.inputs≠0
  ·rw [if_pos hc]
   unfold z1e
   rw [qh (h.ready (by omega)),ul (by decide),qh (zhy d),if_neg (fun b=>by unfold zgh at a;rw [if_pos b] at a;cases a),z6z,qh (z9y (by omega) (by omega)),ut hc]
  ·rw [if_neg hc]
   obtain⟨e,f⟩:=zd2 (w:=w) (n:=m.inputs) (by simpa using hc)
   exact zs9 h c (zvv a) (h.wok.2 e) f
theorem q1r{m:Mach}(h:CM m){w r:List Int}(c:w.length≤300):z0w 1000000 m w r=some (if z0f w m.inputs≠0 then(0,z0f w m.inputs) else if(w.length:Int)≠r.length then(0,1) else zd7 m w r):=by
 by_cases hc:z0f w m.inputs≠0
 ·rw [if_pos hc]
  unfold z0w
  rw [qh (h.ready (by omega)),ul (by decide),qh (z9y (by omega) (by omega)),ut hc]
 ·rw [if_neg hc]
  obtain⟨a,b⟩:=zd2 (w:=w) (n:=m.inputs) (by simpa using hc)
  by_cases hl:(w.length:Int)≠r.length
  ·rw [if_pos hl]
   unfold z0w
   rw [qh (h.ready (by omega)),ul (by decide),qh (z9y (by omega) (by omega)),ul hc,ut hl]
  ·rw [if_neg hl]
   exact zpo h (by omega) (h.wok.2 a) b (by omega)
def zgl(m:Mach)(s t:Int):Bool:=(((decide (s<0))||(decide (t<0)))||(decide ((m.rows.length:Int)≤s)))||(decide ((m.rows.length:Int)≤t))
theorem zxq{m:Mach}(h:CM m){s t:Int}: ∃ z,z1w 1000000 m s t=some z∧((zgl m s t=true∧z=([],1))∨(zgl m s t=false∧(z.2=0∨z.2=7))):=by
 cases hp:zgl m s t with
 |true=>
  refine⟨_,?_,.inl ⟨rfl,rfl⟩⟩
  unfold z1w
  unfold zgl at hp
  rw [qh (h.ready (by omega)),ul (by decide),hp,cond_true]
 |false=>
  unfold zgl at hp
  rw [Bool.or_eq_false_iff,Bool.or_eq_false_iff,Bool.or_eq_false_iff] at hp
  obtain⟨⟨⟨a,b⟩,c⟩,d⟩:=hp
  have a:=of_decide_eq_false a;have b:=of_decide_eq_false b;have c:=of_decide_eq_false c;have d:=of_decide_eq_false d
  refine⟨_,zrs (N:=1000000) h (by omega) ⟨by omega,by omega⟩ ⟨by omega,by omega⟩,.inr ⟨rfl,?_⟩⟩
  cases z8z (pnx m) peq (nIn m) 257 [((s,t),[])] [(s,t)] with
  |some w=>exact .inl rfl
  |none=>exact .inr rfl
theorem zzi{N:Nat}{m:Mach}(g:5000≤N): ∃ r,z1v N m=some r∧(r=0→m.rows.length≤6∧Small m):=by
 by_cases h6:6<m.rows.length
 ·refine⟨1,?_,fun h=>by cases h⟩
  unfold z1v
  rw [ut (by omega)]
 ·have c: ∃ r,ay N m N 0=some r∧(r=Ex.rt 1∨(r=Ex.go ()∧ ∀ k,k<m.rows.length→(m.rows.getD k default).length≤4)):=by
   refine rq (σ:=Unit) (fun F k _=>ay N m F (k:Int)) m.rows.length (fun k _=> ∀ j,j<k→(m.rows.getD j default).length≤4) _ (fun F k _ b hi=>?_) (fun F _ hi=>?_) N 0 () (Nat.zero_le _) (by omega) fun j d=>by omega
   ·simp only [ay]
    rw [ut (by omega),zm (ky b),lg]
    by_cases a:4<(m.rows.getD k default).length
    ·left
     rw [ut (by omega)]
     exact⟨_,rfl,.inl rfl⟩
    ·right
     rw [ul (by omega),zm (j3 (by omega)),uf]
     refine⟨(),fun j d=>?_,rfl⟩
     by_cases e:j=k
     ·subst e;omega
     ·exact hi j (by omega)
   ·simp only [ay]
    rw [ul (by omega)]
    exact⟨_,rfl,.inr ⟨rfl,hi⟩⟩
  obtain⟨r,f,a⟩:=c
  unfold z1v
  rw [ul (by omega),qh f]
  rcases a with rfl|⟨rfl,a⟩
  ·rw [z9e];exact⟨_,rfl,fun h=>by cases h⟩
  ·rw [z6z];exact⟨_,rfl,fun _=>⟨by omega,by omega,fun k b=>by have:=a k b;omega⟩⟩
theorem q4i{m:Mach}(h6:m.rows.length≤6)(U:Small m){y:Sj}(h1:y.fI.length≤300)(V:y.fH.length≤300)(h3:y.fE.length≤300):
 (bd (z3f 1000000 m) fun d=>
 bd (z2m 1000000 m) fun D=>
 bd (z11 1000000 m) fun E=>
 bd (z2i 1000000 m) fun u=>
 gd (((true&&((decide (d≠0))==true))&&((((decide (D.2≠d))||(decide (E.2≠d)))||(decide (u.2≠d)))==false))=true→in64 ((↑D.1.length:Int)+(↑E.1.length:Int)))<|
 gd (((true&&((decide (d≠0))==true))&&((((decide (D.2≠d))||(decide (E.2≠d)))||(decide (u.2≠d)))==false))=true→in64 (((↑D.1.length:Int)+(↑E.1.length:Int))+u.1))<|
 bif (decide (d≠0))&&((((decide (D.2≠d))||(decide (E.2≠d)))||(decide (u.2≠d)))||(decide ((((↑D.1.length:Int)+(↑E.1.length:Int))+u.1)≠0))) then(
 some false) else(
 bd (
 bif (decide (d=0))&&((((decide (y.fO<0))||(decide (y.fP<0)))||(decide ((↑m.rows.length:Int)≤y.fO)))||(decide ((↑m.rows.length:Int)≤y.fP))) then(
 some 1) else(
 some d)) fun v=>
 bd (
 bif decide (d=0) then(
 bd (z4k 1000000 m y.fI) fun G=>
 bd (z3e 1000000 ([y.fH]:List (List Int)) m.inputs) fun F=>
 bd (
 bif decide (G=0) then(
 some F) else(
 some G)) fun x=>
 bif (decide (F=0))&&(decide ((↑y.fH.length:Int)≠(↑y.fE.length:Int))) then(
 some (x,(1:Int))) else(
 some (x,F))) else(
 some (d,d))) fun i=>
 bd (z1w 1000000 m y.fO y.fP) fun j=>
 bd (z1e 1000000 m y.fI y.fH) fun k=>
 bd (z0w 1000000 m y.fH y.fE) fun p=>
 bif (((decide (v≠0))&&((decide (j.2≠v))||(decide ((↑j.1.length:Int)≠0))))||((decide (i.1≠0))&&((decide (k.2≠i.1))||(decide ((↑k.1.length:Int)≠0)))))||((decide (i.2≠0))&&((decide (p.2≠i.2))||(decide (p.1≠0)))) then(
 some false) else(
 bd (gop (((true&&((((decide (v=0))&&(decide (j.2≠0)))&&(decide (j.2≠7)))==false))&&((decide (i.1=0))==true))&&((decide (k.2≠0))==false)) (z04 1000000 m y.fI y.fH)) fun L=>
 bd (gop (((true&&((((decide (v=0))&&(decide (j.2≠0)))&&(decide (j.2≠7)))==false))&&((decide (i.1=0))==true))&&((decide (k.2≠0))==false)) (uq 1000000 k.1 (L.getD default))) fun M=>
 bif (((decide (v=0))&&(decide (j.2≠0)))&&(decide (j.2≠7)))||((decide (i.1=0))&&((decide (k.2≠0))||(!(M.getD default)))) then(
 some false) else(
 bif decide (i.2≠0) then(
 bd (lh 1000000) fun O=>
 some O) else(
 bd (z1j 1000000 m y.fH y.fE) fun C=>
 bd (gop (true&&(((decide (p.1=C.1))&&(decide (p.2=C.2)))==true)) (lh 1000000)) fun P=>
 some (((decide (p.1=C.1))&&(decide (p.2=C.2)))&&(P.getD default)))))))=some true:=by
 by_cases hf:rd m=0
 ·have h:=q7d hf
  obtain⟨a,ha,_⟩:=zjg h h6 (N:=1000000) (by omega)
  obtain⟨b,hb,_⟩:=zew h h6
  obtain⟨c,hc,_⟩:=zqz h (by omega)
  obtain⟨z,hz,Q⟩:=zxq h (s:=y.fO) (t:=y.fP)
  have S:=zx0 h (by omega) (l:=y.fI) (w:=y.fH) h1 V
  have T:=q1r h (w:=y.fH) (r:=y.fE) V
  have W:=zwa (N:=1000000) (w:=y.fH) (n:=m.inputs) (by omega) V h.ok.i1 h.ok.i2
  rw [qh (zlu U (by omega)),hf,qh ha,qh hb,qh hc,zm (fun B=>by cases B),zm (fun B=>by cases B)]
  rw [show (decide ((0:Int)≠0))=false from rfl,Bool.false_and,cond_false,show (decide ((0:Int)=0))=true from rfl,Bool.true_and,cond_true,qh (q2b (by omega) h1),qh W]
  obtain⟨X,R,H⟩: ∃ o,(bif zgl m y.fO y.fP then some (1:Int) else some 0)=some o∧((zgl m y.fO y.fP=true∧o=1)∨(zgl m y.fO y.fP=false∧o=0)):=by
   cases zgl m y.fO y.fP with
   |true=>exact⟨1,rfl,.inl ⟨rfl,rfl⟩⟩
   |false=>exact⟨0,rfl,.inr ⟨rfl,rfl⟩⟩
  unfold zgl at R
  rw [qh R]
  have Y:(bd (bif decide (zgh m y.fI=0) then some (z0f y.fH m.inputs) else some (zgh m y.fI)) fun x=>
   bif (decide (z0f y.fH m.inputs=0))&&(decide ((↑y.fH.length:Int)≠(↑y.fE.length:Int))) then(some (x,(1:Int))) else(some (x,z0f y.fH m.inputs)))=some ((if zgh m y.fI=0 then z0f y.fH m.inputs else zgh m y.fI),(if z0f y.fH m.inputs=0 then(if(↑y.fH.length:Int)≠(↑y.fE.length:Int) then 1 else 0) else z0f y.fH m.inputs)):=by
   by_cases e1:zgh m y.fI=0
   ·rw [decide_eq_true e1,cond_true,z2r,if_pos e1]
    by_cases g:z0f y.fH m.inputs=0
    ·rw [decide_eq_true g,Bool.true_and,if_pos g]
     by_cases A:(↑y.fH.length:Int)≠(↑y.fE.length:Int)
     ·rw [decide_eq_true A,cond_true,if_pos A]
     ·rw [decide_eq_false A,cond_false,if_neg A,g]
    ·rw [decide_eq_false g,Bool.false_and,cond_false,if_neg g]
   ·rw [decide_eq_false e1,cond_false,z2r,if_neg e1]
    by_cases g:z0f y.fH m.inputs=0
    ·rw [decide_eq_true g,Bool.true_and,if_pos g]
     by_cases A:(↑y.fH.length:Int)≠(↑y.fE.length:Int)
     ·rw [decide_eq_true A,cond_true,if_pos A]
     ·rw [decide_eq_false A,cond_false,if_neg A,g]
    ·rw [decide_eq_false g,Bool.false_and,cond_false,if_neg g]
  rw [qh Y,qh hz,qh S,qh T]
  have c1:((decide (X≠0))&&((decide (z.2≠X))||(decide ((↑z.1.length:Int)≠0))))=false:=by
   rcases H with⟨e,rfl⟩|⟨e,rfl⟩
   ·rcases Q with⟨_,rfl⟩|⟨g,_⟩
    ·rfl
    ·rw [e] at g;cases g
   ·rfl
  have c1':(((decide (X=0))&&(decide (z.2≠0)))&&(decide (z.2≠7)))=false:=by
   rcases H with⟨e,rfl⟩|⟨e,rfl⟩
   ·rfl
   ·rcases Q with⟨g,_⟩|⟨_,Z|Z⟩
    ·rw [e] at g;cases g
    ·rw [Z];rfl
    ·rw [Z];rfl
  rw [c1,c1']
  generalize hse:zgh m y.fI=se
  generalize hwe:z0f y.fH m.inputs=we
  have ao:se=0∨se=1:=by rw [←hse];unfold zgh;split<;>simp
  obtain⟨q,hq,q1,q2⟩: ∃ q:List Int×Int,(if se≠0 then([],1) else if we≠0 then([],we) else(zc2 m y.fI y.fH,0))=q∧((decide ((if se=0 then we else se)≠0))&&((decide (q.2≠(if se=0 then we else se)))||(decide ((↑q.1.length:Int)≠0))))=false∧(∃ ya,(gop (((true&&(false==false))&&((decide ((if se=0 then we else se)=0))==true))&&((decide (q.2≠0))==false)) (z04 1000000 m y.fI y.fH))=some ya∧ ∃ yb,(gop (((true&&(false==false))&&((decide ((if se=0 then we else se)=0))==true))&&((decide (q.2≠0))==false)) (uq 1000000 q.1 (ya.getD default)))=some yb∧((decide ((if se=0 then we else se)=0))&&((decide (q.2≠0))||(!(yb.getD default))))=false):=by
   refine⟨_,rfl,?_⟩
   by_cases e1:se=0
   ·rw [if_neg (show¬se≠0 from fun B=>B e1),if_pos e1]
    by_cases g:we=0
    ·rw [if_neg (show¬we≠0 from fun B=>B g),g]
     obtain⟨w1,w2⟩:=zd2 (w:=y.fH) (n:=m.inputs) (by rw [hwe,g])
     have hL:=zvv (m:=m) (l:=y.fI) (by rw [hse,e1])
     have hR:=znw (N:=1000000) h (by omega) (by omega) hL (h.wok.2 w1) w2
     have hlen:=hL.len
     have av:(zc2 m y.fI y.fH).length≤6:=by
      have:(zc2 m y.fI y.fH).length≤(z6t (y.fI.map fun s=>yo m s y.fH)).length:=zfe _ _
      rw [z7y,List.length_map] at this;omega
     refine⟨rfl,_,z9n rfl hR,_,z9n rfl (zkc (by omega) (by show (zc2 m y.fI y.fH).length<_;omega) (by show (zc2 m y.fI y.fH).length≤_;omega)),?_⟩
     simp
    ·rw [if_pos g]
     refine⟨?_,none,zaw ?_,none,zaw ?_,?_⟩
     ·show ((decide (we≠0))&&((decide (we≠we))||(decide ((↑([]:List Int).length:Int)≠0))))=false
      rw [decide_eq_false (fun B=>B rfl: ¬we≠we)];exact Bool.and_false _
     ·rw [decide_eq_false g];rfl
     ·rw [decide_eq_false g];rfl
     ·rw [decide_eq_false g];rfl
   ·have A:se=1:=by omega
    rw [A]
    exact⟨rfl,none,zaw rfl,none,zaw rfl,rfl⟩
  rw [hq]
  obtain⟨ya,I,yb,J,q3⟩:=q2
  simp only
  rw [q1]
  by_cases g:we=0
  ·rw [if_neg (show¬we≠0 from fun B=>B g),if_pos g]
   obtain⟨w1,w2⟩:=zd2 (w:=y.fH) (n:=m.inputs) (by rw [hwe,g])
   by_cases A:(↑y.fH.length:Int)≠(↑y.fE.length:Int)
   ·rw [if_pos A,if_pos A]
    rw [show ((false||false)||((decide ((1:Int)≠0))&&((decide ((1:Int)≠1))||(decide ((0:Int)≠0)))))=false from rfl,cond_false,qh I,qh J,q3,show (false||false)=false from rfl,cond_false,ut (show (1:Int)≠0 by decide),qh zaa]
   ·rw [if_neg A,if_neg A]
    rw [show ((false||false)||((decide ((0:Int)≠0))&&((decide ((zd7 m y.fH y.fE).2≠0))||(decide ((zd7 m y.fH y.fE).1≠0)))))=false from rfl,cond_false,qh I,qh J,q3,show (false||false)=false from rfl,cond_false,ul (by decide),qh (zqe (N:=1000000) h (by omega) (h.wok.2 w1) w2)]
    rw [decide_eq_true (rfl:(zd7 m y.fH y.fE).1=(zd7 m y.fH y.fE).1),decide_eq_true (rfl:(zd7 m y.fH y.fE).2=(zd7 m y.fH y.fE).2),qh (z9n (by rfl) zaa)]
    rfl
  ·rw [if_pos g,if_neg g]
   rw [show ((false||false)||((decide (we≠0))&&((decide (we≠we))||(decide ((0:Int)≠0)))))=false by rw [decide_eq_false (fun B=>B rfl: ¬we≠we),show (false||(decide ((0:Int)≠0)))=false from rfl,Bool.and_false];rfl,cond_false,qh I,qh J,q3,show (false||false)=false from rfl,cond_false,ut g,qh zaa]
 ·have K:=zxw (N:=1000000) U (by omega)
  have hS:z2m 1000000 m=some ([],rd m):=by unfold z2m;rw [qh K,ut hf]
  have ad:z11 1000000 m=some ([],rd m):=by unfold z11;rw [qh K,ut hf]
  have ae:z2i 1000000 m=some (0,rd m):=by unfold z2i;rw [qh K,ut hf]
  have hM:z1w 1000000 m y.fO y.fP=some ([],rd m):=by unfold z1w;rw [qh K,ut hf]
  have S:z1e 1000000 m y.fI y.fH=some ([],rd m):=by unfold z1e;rw [qh K,ut hf]
  have T:z0w 1000000 m y.fH y.fE=some (0,rd m):=by unfold z0w;rw [qh K,ut hf]
  rw [qh (zlu U (by omega)),qh hS,qh ad,qh ae]
  generalize rd m=f at hf hM S T
  have nf:decide (f≠f)=false:=decide_eq_false fun B=>B rfl
  have tf:decide (f≠0)=true:=decide_eq_true hf
  have ff:decide (f=0)=false:=decide_eq_false hf
  rw [zm (fun _=>by simp only [List.length_nil];exact j3 (by decide)),zm (fun _=>by simp only [List.length_nil];exact j3 (by decide))]
  simp only
  rw [nf,tf,ff,show (true&&(((false||false)||false)||(decide (((((([]:List Int).length:Int))+((([]:List Int).length:Int)))+0)≠0))))=false from by decide,cond_false,Bool.false_and,cond_false,z2r,cond_false,z2r,qh hM,qh S,qh T]
  simp only
  rw [nf,tf,ff]
  rw [show (((true&&(false||(decide (((([]:List Int).length:Int))≠0))))||(true&&(false||(decide (((([]:List Int).length:Int))≠0)))))||(true&&(false||(decide ((0:Int)≠0)))))=false from by decide,cond_false]
  rw [qh (zaw (by rfl)),qh (zaw (by rfl))]
  rw [show (((false&&true)&&(decide (f≠7)))||(false&&(true||(!((none:Option Bool).getD default)))))=false from rfl,cond_false,cond_true,qh zaa]
theorem q3m{m:Mach}{x:MDat}(a:MDOk x){y:Sj}:z3b 1000000 m x y=some true:=by
 obtain⟨r,i,b⟩:=zzi (N:=1000000) (m:=m) (by omega)
 have hr':z1v 1000000 (⟨m.inputs,m.outputs,m.rows⟩:Mach)=some r:=i
 unfold z3b
 rw [qh hr']
 cases hb:((((decide (r≠0))||(decide (300<(↑y.fI.length:Int))))||(decide (300<(↑y.fH.length:Int))))||(decide (300<(↑y.fE.length:Int)))) with
 |true=>rw [cond_true]
 |false=>
  rw [cond_false]
  rw [Bool.or_eq_false_iff,Bool.or_eq_false_iff,Bool.or_eq_false_iff] at hb
  obtain⟨⟨⟨c,f⟩,g⟩,h⟩:=hb
  have c:=of_decide_eq_false c;have f:=of_decide_eq_false f;have g:=of_decide_eq_false g;have h:=of_decide_eq_false h
  obtain⟨j,k⟩:=b (by simpa using c)
  by_cases he:(m.rows.length:Int)=0
  ·have d:=q6d a
   have h1':=a.st
   have e:(mOf x).rows.length≤6:=by
    show ((List.range x.n.toNat).map (zmt x)).length≤6
    rw [List.length_map,List.length_range];unfold MDat.n;omega
   rw [ut he,qh (q6y a (by omega)),z2r]
   exact q4i e d.small (by omega) (by omega) (by omega)
  ·rw [ul he,z2r]
   exact q4i j k (by omega) (by omega) (by omega)
end GV
end Go.Proofs.YtjmlpkkbmnjhcaaGreat
