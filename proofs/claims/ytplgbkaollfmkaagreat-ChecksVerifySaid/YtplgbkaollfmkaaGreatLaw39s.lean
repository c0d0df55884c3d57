
import Derived.Test.YtplgbkaollfmkaaGreatLaw39n
import Derived.Test.YtplgbkaollfmkaaGreatLaw39g
set_option linter.unusedVariables false
set_option linter.unusedSimpArgs false
namespace Go.Proofs.YtplgbkaollfmkaaGreat
namespace GV
set_option maxRecDepth 100000
theorem q7d{l:List Int}{n:Int}{k:Nat}:(wdL (l.take k) n).length≤k:=by unfold wdL;rw [List.length_map,List.length_take];omega
theorem zrn{m:Mach}{w:List Int}(a:WOk m.inputs w)(b:w.length≤1024):zkf m w=0:=by
 unfold zkf;rw [if_neg (by omega),q41 a];rfl
theorem q97{x:Sg}(b:CDOk x.fAa.fO)(c: ∀ k,k<x.fU.length→0≤x.fU.getD k default∧x.fU.getD k default≤255):
 ∃ m d,lw 2000 x=some (m,d)∧MOk m∧WOk m.inputs d∧d.length≤6:=by
 obtain⟨m,e,a⟩:=q9s b
 have hi:=a.i1;have f:=a.i2
 refine⟨m,wdL (x.fU.take 6) m.inputs,?_,a,ztq (by omega),q7d⟩
 unfold lw
 refine(q8 e).trans ?_
 exact q8 (show z01 2000 x.fU m.inputs ((6:Nat):Int)=_ from zpo c (by omega) (by omega) (by decide) (by decide))
end GV
end Go.Proofs.YtplgbkaollfmkaaGreat

namespace Go.Proofs.YtplgbkaollfmkaaGreat
namespace GV
set_option maxRecDepth 100000
theorem q3c{κ β:Type}[DecidableEq κ](z:β)(M:List (κ×β))(k:κ)(v:β)(j:κ):z7w z (zad M k v) j=if j=k then v else z7w z M j:=by
 induction M with
 |nil=>simp only [zad,z7w]
 |cons p l ih=>
  by_cases h:k=p.1
  ·have a:zad (p::l) k v=(k,v)::l:=by rw [zad,if_pos h]
   rw [a]
   simp only [z7w]
   by_cases e:j=k
   ·rw [if_pos e,if_pos e]
   ·rw [if_neg e,if_neg e,if_neg (fun q=>e (q.trans h.symm))]
  ·have a:zad (p::l) k v=p::zad l k v:=by rw [zad,if_neg h]
   rw [a]
   simp only [z7w,ih]
   by_cases e:j=p.1
   ·rw [if_pos e,if_pos e,if_neg (fun b=>h (b.symm.trans e))]
   ·rw [if_neg e,if_neg e]
def zf8(m:Mach)(d w:List Int)(s:Int):Prop:= ∃ k,k<w.length+1∧uk m 0 (w.take k)=s∧idB d w k=true
def zct(m:Mach)(d w:List Int)(s i:Int):Prop:= ∃ k,k<w.length∧uk m 0 (w.take k)=s∧w.getD k default=i∧zc8 m d w k∧zc8 m d w (k+1)
open Classical in
noncomputable def missS(m:Mach)(d w:List Int)(k:Nat):List Int:=((List.range k).filter fun s:Nat=>decide (¬zf8 m d w (s:Int))).map fun s:Nat=>(s:Int)
open Classical in
noncomputable def missR(m:Mach)(d w:List Int)(s k:Nat):List (Int×Int):=((List.range k).filter fun i:Nat=>decide (¬zct m d w (s:Int) (i:Int))).map fun i:Nat=>((s:Int),(i:Int))
noncomputable def missE(m:Mach)(d w:List Int)(k:Nat):List (Int×Int):=(List.range k).flatMap fun s=>missR m d w s m.inputs.toNat
open Classical in
noncomputable def verR(m:Mach)(d w:List Int):Sa:=⟨decide (zc8 m d w 0),missS m d w m.rows.length,missE m d w m.rows.length⟩
open Classical in
theorem zhb{m:Mach}{d w:List Int}{k:Nat}:missS m d w (k+1)=missS m d w k++(if zf8 m d w (k:Int) then [] else [(k:Int)]):=by
 unfold missS
 rw [List.range_succ,List.filter_append,List.map_append]
 by_cases h:zf8 m d w (k:Int)
 ·rw [if_pos h,List.filter_cons_of_neg (by rw [decide_eq_true_iff];exact fun e=>e h)];rfl
 ·rw [if_neg h,List.filter_cons_of_pos (p:=fun s:Nat=>decide (¬zf8 m d w (s:Int))) (a:=k) (decide_eq_true h)];rfl
open Classical in
theorem zgw{m:Mach}{d w:List Int}{s k:Nat}:missR m d w s (k+1)=missR m d w s k++(if zct m d w (s:Int) (k:Int) then [] else [((s:Int),(k:Int))]):=by
 unfold missR
 rw [List.range_succ,List.filter_append,List.map_append]
 by_cases h:zct m d w (s:Int) (k:Int)
 ·rw [if_pos h,List.filter_cons_of_neg (by rw [decide_eq_true_iff];exact fun e=>e h)];rfl
 ·rw [if_neg h,List.filter_cons_of_pos (p:=fun i:Nat=>decide (¬zct m d w (s:Int) (i:Int))) (a:=k) (decide_eq_true h)];rfl
theorem zdc{m:Mach}{d w:List Int}{k:Nat}:missE m d w (k+1)=missE m d w k++missR m d w k m.inputs.toNat:=by
 unfold missE
 rw [List.range_succ,List.flatMap_append];simp
theorem zk3{m:Mach}{d w:List Int}{k:Nat}:(missS m d w k).length≤k:=by
 unfold missS
 rw [List.length_map]
 exact Nat.le_trans (List.length_filter_le _ _) (Nat.le_of_eq List.length_range)
theorem zji{m:Mach}{d w:List Int}{s k:Nat}:(missR m d w s k).length≤k:=by
 unfold missR
 rw [List.length_map]
 exact Nat.le_trans (List.length_filter_le _ _) (Nat.le_of_eq List.length_range)
theorem zg7{m:Mach}{d w:List Int}: ∀ k,(missE m d w k).length≤k*m.inputs.toNat
 |0=>by simp [missE]
 |k+1=>by
  have a:=zg7 (m:=m) (d:=d) (w:=w) k
  have b:=zji (m:=m) (d:=d) (w:=w) (s:=k) (k:=m.inputs.toNat)
  rw [zdc,List.length_append,Nat.succ_mul];omega
theorem zb5{P:Nat→Prop}{k:Nat}:(∃ j,j<k+1∧P j)↔(∃ j,j<k∧P j)∨P k:=by
 constructor
 ·rintro⟨j,h,p⟩
  by_cases e:j=k
  ·subst e;exact .inr p
  ·exact .inl ⟨j,by omega,p⟩
 ·rintro(⟨j,h,p⟩|p)
  ·exact⟨j,by omega,p⟩
  ·exact⟨k,by omega,p⟩
theorem zyd{X:List Bool}{s k:Nat}{b:Bool}(a:k<X.length):(X.set s b).getD k default=if s=k then b else X.getD k default:=by
 rw [List.getD_eq_getElem?_getD,List.getD_eq_getElem?_getD]
 by_cases h:s=k
 ·subst h
  rw [List.getElem?_set_self a,if_pos rfl];rfl
 ·rw [List.getElem?_set_ne h,if_neg h]
theorem zyh{N:Nat}{m:Mach}{d w:List Int}(E:MOk m)(G:mr m=true)(o:WOk m.inputs w)(Q:w.length≤1024)(R:1100≤N):
 ∃ r,rz N w (some ⟨m,w,atL m w,idL d w,knL m d w⟩,0) N 0 (mk (m.rows.length:Int) false) []=some r∧r.1=⟨m,w,atL m w,idL d w,knL m d w⟩∧r.2.1.length=m.rows.length∧(∀ s,s<m.rows.length→(r.2.1.getD s default=true↔zf8 m d w (s:Int)))∧ ∀ s i:Int,z7w false r.2.2 (s,i)=true↔zct m d w s i:=by
 have H:(idL d w).length=w.length+1:=zl8
 have I:(atL m w).length=w.length+1:=z5s
 have J:(knL m d w).length=w.length+1:=zqm
 refine iy (σ:=List Bool×List ((Int×Int)×Bool)) (fun F k x=>rz N w (some ⟨m,w,atL m w,idL d w,knL m d w⟩,0) F (k:Int) x.1 x.2) (w.length+1)
  (fun k x=>x.1.length=m.rows.length∧(∀ s,s<m.rows.length→(x.1.getD s default=true↔ ∃ j,j<k∧uk m 0 (w.take j)=(s:Int)∧idB d w j=true))∧
   ∀ s i:Int,z7w false x.2 (s,i)=true↔ ∃ j,j<k∧j<w.length∧uk m 0 (w.take j)=s∧w.getD j default=i∧zc8 m d w j∧zc8 m d w (j+1))
  _ (fun F k x y hi=> .inr ?_) (fun F x hi=>?_) N 0 (_,_) (Nat.zero_le _) (by omega) ⟨by simp [mk],fun s c=>?_,fun s i=>?_⟩
 ·obtain⟨X,V⟩:=x
  obtain⟨n,f,g⟩:=hi
  dsimp only at n f g
  obtain⟨K,L⟩:=zjl E G o k
  have a:ix (atL m w) (k:Int)=uk m 0 (w.take k):=zd4 y
  have p:ix (idL d w) (k:Int)=idB d w k:=zbn y
  obtain⟨s,c⟩: ∃ s:Nat,uk m 0 (w.take k)=(s:Int):=⟨(uk m 0 (w.take k)).toNat,by omega⟩
  rw [c] at a K L
  have z:okI (atL m w) (k:Int):=ql (by omega)
  have M:okI X (s:Int):=ql (by omega)
  have A:okI (idL d w) (k:Int):=ql (by omega)
  have B:okI (knL m d w) (k:Int):=ql (by omega)
  have C:(((decide ((k:Int)<(w.length:Int)))&&(ix (knL m d w) (k:Int)))&&(ix (knL m d w) ((k:Int)+1)))=true↔(k<w.length∧zc8 m d w k∧zc8 m d w (k+1)):=by
   rw [Bool.and_eq_true,Bool.and_eq_true,decide_eq_true_iff]
   constructor
   ·rintro⟨⟨O,u⟩,v⟩
    exact⟨by omega,(zc1 (by omega)).1 u,(zc1 (by omega)).1 v⟩
   ·rintro⟨O,u,v⟩
    exact⟨⟨by omega,(zc1 (by omega)).2 u⟩,(zc1 (by omega)).2 v⟩
  have o2':okI X (ix (atL m w) (k:Int)):=by rw [a];exact M
  have hX': ∀ t,t<m.rows.length→((up X (ix (atL m w) (k:Int)) ((ix X (ix (atL m w) (k:Int)))||(ix (idL d w) (k:Int)))).getD t default=true↔ ∃ j,j<k+1∧uk m 0 (w.take j)=(t:Int)∧idB d w j=true):=fun t D=>by
   rw [a,p,z1n,zyd (show t<X.length by omega),zb5,dn]
   by_cases e:s=t
   ·subst e
    rw [if_pos rfl,Bool.or_eq_true]
    exact or_congr (f s D) ⟨fun q=>⟨c,q⟩,fun q=>q.2⟩
   ·rw [if_neg e]
    refine(f t D).trans ⟨.inl,fun q=>q.elim id fun q=>absurd (c.symm.trans q.1) (by omega)⟩
  have h:(up X (ix (atL m w) (k:Int)) ((ix X (ix (atL m w) (k:Int)))||(ix (idL d w) (k:Int)))).length=m.rows.length:=by rw [a,z1n,List.length_set];exact n
  have l: ∀ b:Bool,((true&&(((decide ((k:Int)<(w.length:Int)))&&b)==true))=true→k<w.length):=fun b e=>by
   by_cases q:(k:Int)<(w.length:Int)
   ·omega
   ·rw [decide_eq_false q] at e;exact absurd e (by cases b<;>decide)
  by_cases hv:k<w.length∧zc8 m d w k∧zc8 m d w (k+1)
  ·refine⟨(up X (ix (atL m w) (k:Int)) ((ix X (ix (atL m w) (k:Int)))||(ix (idL d w) (k:Int))),zad V (((ix (atL m w) (k:Int)),(ix w (k:Int))):(Int×Int)) true),⟨h,hX',fun t i=>?_⟩,?_⟩
   ·rw [q3c,zb5]
    by_cases e:((t,i):Int×Int)=(ix (atL m w) (k:Int),ix w (k:Int))
    ·rw [if_pos e]
     obtain⟨rfl,rfl⟩:=Prod.mk.inj e
     exact⟨fun _=> .inr ⟨hv.1,c.trans a.symm,rfl,hv.2⟩,fun _=>rfl⟩
    ·rw [if_neg e]
     refine(g t i).trans ⟨.inl,fun q=>q.elim id fun q=>absurd ?_ e⟩
     rw [←q.2.1,←q.2.2.1,c,a];rfl
   ·simp only [rz]
    refine(ui (show (k:Int)<((atL m w).length:Int) by omega)).trans ?_
    refine(q8 (x:=(up X (ix (atL m w) (k:Int)) ((ix X (ix (atL m w) (k:Int)))||(ix (idL d w) (k:Int))),zad V (((ix (atL m w) (k:Int)),(ix w (k:Int))):(Int×Int)) true)) ?_).trans (zh (qh (by omega)))
    refine(zh z).trans ((zh o2').trans ((zh (fun _=>A)).trans ((zh o2').trans ((zh (fun _=>B)).trans ((zh (fun _=>qh (by omega))).trans ((zh (fun e=>(show okI (knL m d w) ((k:Int)+1) from⟨by omega,by have:=l _ e;omega⟩))).trans ?_))))))
    refine(ct (C.2 hv)).trans ?_
    exact zh (ql hv.1)
  ·refine⟨(up X (ix (atL m w) (k:Int)) ((ix X (ix (atL m w) (k:Int)))||(ix (idL d w) (k:Int))),V),⟨h,hX',fun t i=>?_⟩,?_⟩
   ·rw [zb5]
    exact(g t i).trans ⟨.inl,fun q=>q.elim id fun q=>absurd ⟨q.1,q.2.2.2⟩ hv⟩
   ·simp only [rz]
    refine(ui (show (k:Int)<((atL m w).length:Int) by omega)).trans ?_
    refine(q8 (x:=(up X (ix (atL m w) (k:Int)) ((ix X (ix (atL m w) (k:Int)))||(ix (idL d w) (k:Int))),V)) ?_).trans (zh (qh (by omega)))
    refine(zh z).trans ((zh o2').trans ((zh (fun _=>A)).trans ((zh o2').trans ((zh (fun _=>B)).trans ((zh (fun _=>qh (by omega))).trans ((zh (fun e=>(show okI (knL m d w) ((k:Int)+1) from⟨by omega,by have:=l _ e;omega⟩))).trans ?_))))))
    exact cf (Bool.eq_false_iff.2 fun e=>hv (C.1 e))
 ·obtain⟨X,V⟩:=x
  obtain⟨n,f,g⟩:=hi
  simp only [rz]
  refine⟨_,(uh (show¬((w.length+1:Nat):Int)<((atL m w).length:Int) by omega)).trans rfl,rfl,n,f,fun s i=>(g s i).trans ⟨fun⟨j,_,q⟩=>⟨j,q⟩,fun⟨j,q⟩=>⟨j,by omega,q⟩⟩⟩
 ·constructor
  ·intro e
   replace e:(List.replicate m.rows.length false).getD s default=true:=e
   rw [List.getD_eq_getElem?_getD,List.getElem?_replicate,if_pos c] at e
   exact absurd e (by decide)
  ·rintro⟨j,P,_⟩;omega
 ·constructor
  ·intro e;exact absurd e (by simp [z7w])
  ·rintro⟨j,P,_⟩;omega
theorem zza{N:Nat}{m:Mach}{d w:List Int}{o:Sj×List Bool×List ((Int×Int)×Bool)}{Y:List Int}{E:List (Int×Int)}{s:Nat}(b:MOk m)(c: ∀ s i:Int,z7w false o.2.2 (s,i)=true↔zct m d w s i)(n:E.length≤100000)(p:1100≤N):
 z0a N m o (s:Int) Y N 0 E=some (Y,E++missR m d w s m.inputs.toNat):=by
 have f:=b.i1;have g:=b.i2
 refine kz (σ:=List (Int×Int)) (fun F i X=>z0a N m o (s:Int) Y F (i:Int) X) m.inputs.toNat (fun i X=>X=E++missR m d w s i) _ (fun F i X hi a=> .inr ?_) (fun F X a=>?_) N 0 E (Nat.zero_le _) (by omega) (by simp [missR])
 ·subst a
  refine⟨_,rfl,?_⟩
  have j:=zji (m:=m) (d:=d) (w:=w) (s:=s) (k:=i)
  have l:fits 16 (E++missR m d w s i) ([((s:Int),(i:Int))]:List (Int×Int)):=⟨by rw [List.length_append,List.length_singleton];omega,by rw [List.length_append,List.length_singleton];omega⟩
  simp only [z0a]
  rw [ui (by omega)]
  refine(q8 (x:=E++missR m d w s (i+1)) ?_).trans (zh (qh (by omega)))
  rw [zgw,←List.append_assoc]
  by_cases h:zct m d w (s:Int) (i:Int)
  ·rw [if_pos h,(c _ _).2 h,List.append_nil];exact cf rfl
  ·rw [if_neg h,Bool.eq_false_iff.2 (fun e=>h ((c _ _).1 e))]
   exact(ct rfl).trans (zh l)
 ·subst a
  simp only [z0a]
  rw [uh (by omega)]
theorem zy9{N:Nat}{m:Mach}{d w:List Int}{o:Sj×List Bool×List ((Int×Int)×Bool)}(a:MOk m)(u:o.2.1.length=m.rows.length)(c: ∀ s,s<m.rows.length→(o.2.1.getD s default=true↔zf8 m d w (s:Int)))(j: ∀ s i:Int,z7w false o.2.2 (s,i)=true↔zct m d w s i)(l:1100≤N):
 z0e N m o N 0 [] []=some (missS m d w m.rows.length,missE m d w m.rows.length):=by
 have n:=a.i1;have p:=a.i2;have v:=a.r2
 refine kz (σ:=List Int×List (Int×Int)) (fun F s x=>z0e N m o F (s:Int) x.1 x.2) m.rows.length (fun s x=>x=(missS m d w s,missE m d w s)) _ (fun F s x f b=> .inr ?_) (fun F x b=>?_) N 0 ([],[]) (Nat.zero_le _) (by omega) rfl
 ·subst b
  refine⟨_,rfl,?_⟩
  have q:=zk3 (m:=m) (d:=d) (w:=w) (k:=s)
  have r:=zg7 (m:=m) (d:=d) (w:=w) s
  have g:s*m.inputs.toNat≤64*16:=Nat.mul_le_mul (by omega) (by omega)
  have t:fits 8 (missS m d w s) ([(s:Int)]:List Int):=⟨by rw [List.length_singleton];omega,by rw [List.length_singleton];omega⟩
  simp only [z0e]
  rw [ui (by omega)]
  refine(q8 (x:=(missS m d w (s+1),missE m d w (s+1))) ?_).trans (zh (qh (by omega)))
  refine(q8 (x:=missS m d w (s+1)) ?_).trans ?_
  ·rw [zh (ql (by omega)),dn,zhb]
   by_cases h:zf8 m d w (s:Int)
   ·rw [if_pos h,(c s f).2 h,List.append_nil];exact cf rfl
   ·rw [if_neg h,Bool.eq_false_iff.2 (fun e=>h ((c s f).1 e))]
    exact(ct rfl).trans (zh t)
  ·rw [zdc]
   exact zza a j (by omega) l
 ·subst b
  simp only [z0e]
  rw [uh (by omega)]
open Classical in
theorem zkg{N:Nat}{m:Mach}{d w:List Int}(a:MOk m)(g:mr m=true)(o:canI m d=0)(p:d.length≤256)(i:zkf m w=0)(b:1100≤N):
 z2j N m d w=some (verR m d w,0):=by
 obtain⟨q,c⟩:=zw6 i
 have v:=a.r2
 unfold z2j
 refine(q8 (follow_eq a g o p i b)).trans ?_
 refine(uh (fun h=>h rfl)).trans ?_
 refine(zh ⟨by omega,by omega,by omega⟩).trans ?_
 obtain⟨⟨t,X,V⟩,e,j,k,l,n⟩:=zyh (N:=N) (d:=d) a g c q b
 dsimp only at j k l n
 subst j
 refine(q8 ((zh rfl).trans e)).trans ?_
 have r:(knL m d w).length=w.length+1:=zqm
 refine(zh (show okI (knL m d w) 0 from⟨by omega,by omega⟩)).trans ?_
 refine(q8 (zy9 (d:=d) (w:=w) a k l n b)).trans ?_
 have s: ∀ X:List Int,ig N X=some X:=fun X=>by
  unfold ig
  rw [zh (zlb _),zg5]
 have u: ∀ X:List (Int×Int),z0u N X=some X:=fun X=>by
  unfold z0u
  rw [zh (zlb _),zg5]
 refine(q8 (s _)).trans ?_
 refine(q8 (u _)).trans ?_
 have f:ix (knL m d w) 0=decide (zc8 m d w 0):=Bool.eq_iff_iff.2 ((zc1 (by omega)).trans decide_eq_true_iff.symm)
 unfold verR
 dsimp only
 rw [f]
theorem zon{m:Mach}{d w:List Int}: ∀ k,(∀ s:Nat,s<k→zf8 m d w (s:Int))→missS m d w k=[]
 |0,_=>rfl
 |k+1,h=>by rw [zhb,zon k (fun s a=>h s (by omega)),if_pos (h k (by omega))];rfl
theorem zp1{m:Mach}{d w:List Int}{s:Nat}: ∀ k,(∀ i:Nat,i<k→zct m d w (s:Int) (i:Int))→missR m d w s k=[]
 |0,_=>rfl
 |k+1,h=>by rw [zgw,zp1 k (fun s a=>h s (by omega)),if_pos (h k (by omega))];rfl
theorem zop{m:Mach}{d w:List Int}: ∀ k,(∀ s:Nat,s<k→ ∀ i:Nat,i<m.inputs.toNat→zct m d w (s:Int) (i:Int))→missE m d w k=[]
 |0,_=>rfl
 |k+1,h=>by rw [zdc,zop k (fun s a=>h s (by omega)),zp1 _ (h k (by omega))];rfl
open Classical in
theorem q45{m:Mach}{d w:List Int}(a:zc8 m d w 0)(b: ∀ s:Nat,s<m.rows.length→zf8 m d w (s:Int))(c: ∀ s:Nat,s<m.rows.length→ ∀ i:Nat,i<m.inputs.toNat→zct m d w (s:Int) (i:Int)):verR m d w=⟨true,[],[]⟩:=by
 unfold verR
 rw [zon _ b,zop _ c,decide_eq_true a]
end GV
end Go.Proofs.YtplgbkaollfmkaaGreat

namespace Go.Proofs.YtplgbkaollfmkaaGreat
namespace GV
set_option maxRecDepth 100000
theorem q9w{m:Mach}{d w:List Int}(b:MOk m)(c:mr m=true)(f:WOk m.inputs w){k s:Nat}(a:k<w.length+1):ix (z0q (atL m w) (idL d w)) (k:Int)=(s:Int)↔(uk m 0 (w.take k)=(s:Int)∧idB d w k=true):=by
 have g:=zjl b c f k
 rw [dn,zfw (by rw [z5s];exact a),zbn a,zd4 a]
 by_cases h:idB d w k=true
 ·rw [if_pos h]
  exact⟨fun e=>⟨e,h⟩,fun e=>e.1⟩
 ·rw [if_neg h]
  exact⟨fun e=>by omega,fun e=>absurd e.2 h⟩
theorem q18{m:Mach}{d w:List Int}{k:Nat}(a:k<w.length+1):(zc8 m d w k∧ix (z0q (atL m w) (knL m d w)) (k:Int)=uk m 0 (w.take k))∨(¬zc8 m d w k∧ix (z0q (atL m w) (knL m d w)) (k:Int)= -1):=by
 rw [dn,zfw (by rw [z5s];exact a),zd4 a]
 have:=zc1 (m:=m) (d:=d) a
 by_cases h:zc8 m d w k
 ·rw [if_pos (this.2 h)];exact .inl ⟨h,rfl⟩
 ·rw [if_neg (fun e=>h (this.1 e))];exact .inr ⟨h,rfl⟩
open Classical in
theorem q4g{N:Nat}{m:Mach}{d w:List Int}{s:Nat}(a:MOk m)(c:mr m=true)(f:WOk m.inputs w)(i:w.length≤1024)(l:1100≤N):
 xx N (z0q (atL m w) (idL d w)) (s:Int) N false 0=some (decide (zf8 m d w (s:Int))):=by
 have hI:(z0q (atL m w) (idL d w)).length=w.length+1:=maskL_len.trans z5s
 refine kz (σ:=Bool) (fun F k b=>xx N (z0q (atL m w) (idL d w)) (s:Int) F b (k:Int)) (w.length+1) (fun k b=>b=true↔ ∃ j,j<k∧uk m 0 (w.take j)=(s:Int)∧idB d w j=true) _ (fun F k b g hi=> .inr ?_) (fun F b hi=>?_) N 0 false (Nat.zero_le _) (by omega) ⟨fun e=>absurd e (by decide),fun⟨j,h,_⟩=>by omega⟩
 ·refine⟨b||decide (ix (z0q (atL m w) (idL d w)) (k:Int)=(s:Int)),?_,?_⟩
  ·rw [zb5,Bool.or_eq_true,decide_eq_true_iff]
   exact or_congr hi (q9w a c f g)
  ·simp only [xx]
   rw [ui (by omega),zh (fun _=>ql (by omega)),zh (qh (by omega))]
   rfl
 ·simp only [xx]
  rw [uh (by omega)]
  refine congrArg some (Bool.eq_iff_iff.2 ?_)
  rw [decide_eq_true_iff];exact hi
open Classical in
theorem q4s{N:Nat}{m:Mach}{d w:List Int}{s i:Nat}(l:MOk m)(n:mr m=true)(o:WOk m.inputs w)(p:w.length≤1024)(q:1100≤N):
 bq N w (z0q (atL m w) (knL m d w)) (s:Int) (i:Int) N false 0=some (decide (zct m d w (s:Int) (i:Int))):=by
 have hI:(z0q (atL m w) (knL m d w)).length=w.length+1:=maskL_len.trans z5s
 refine kz (σ:=Bool) (fun F k b=>bq N w (z0q (atL m w) (knL m d w)) (s:Int) (i:Int) F b (k:Int)) w.length (fun k b=>b=true↔ ∃ j,j<k∧uk m 0 (w.take j)=(s:Int)∧w.getD j default=(i:Int)∧zc8 m d w j∧zc8 m d w (j+1)) _ (fun F k b r hi=> .inr ?_) (fun F b hi=>?_) N 0 false (Nat.zero_le _) (by omega) ⟨fun e=>absurd e (by decide),fun⟨j,h,_⟩=>by omega⟩
 ·refine⟨b||(((decide (ix (z0q (atL m w) (knL m d w)) (k:Int)=(s:Int)))&&(decide (ix w (k:Int)=(i:Int))))&&(decide (ix (z0q (atL m w) (knL m d w)) ((k:Int)+1)≠(-1)))),?_,?_⟩
  rotate_left
  ·simp only [bq]
   rw [ui (by omega),zh (fun _=>ql (by omega)),zh (fun _=>ql (by omega)),zh (fun _=>qh (by omega)),zh (fun _=>⟨by omega,by omega⟩),zh (qh (by omega))]
   rfl
  ·rw [zb5,Bool.or_eq_true]
   refine or_congr hi ?_
   rw [Bool.and_eq_true,Bool.and_eq_true,decide_eq_true_iff,decide_eq_true_iff,decide_eq_true_iff]
   have t:=zjl l n o k
   have u:=zjl l n o (k+1)
   rcases q18 (m:=m) (d:=d) (w:=w) (k:=k) (by omega) with⟨a,c⟩|⟨a,c⟩
   ·rw [c]
    rcases q18 (m:=m) (d:=d) (w:=w) (k:=k+1) (by omega) with⟨f,g⟩|⟨f,g⟩
    ·rw [show ((k:Int)+1)=((k+1:Nat):Int) from rfl,g]
     exact⟨fun e=>⟨e.1.1,e.1.2,a,f⟩,fun e=>⟨⟨e.1,e.2.1⟩,by omega⟩⟩
    ·rw [show ((k:Int)+1)=((k+1:Nat):Int) from rfl,g]
     exact⟨fun e=>absurd rfl e.2,fun e=>absurd e.2.2.2 f⟩
   ·rw [c]
    exact⟨fun e=>by have:=e.1.1;omega,fun e=>absurd e.2.2.1 a⟩
 ·simp only [bq]
  rw [uh (by omega)]
  refine congrArg some (Bool.eq_iff_iff.2 ?_)
  rw [decide_eq_true_iff];exact hi
open Classical in
theorem q4l{N:Nat}{m:Mach}{d w Y:List Int}{E:List (Int×Int)}{s:Nat}(a:MOk m)(c:mr m=true)(e:WOk m.inputs w)(f:w.length≤1024)(p:E.length≤100000)(g:1100≤N):
 bf N m w (z0q (atL m w) (knL m d w)) (s:Int) Y N 0 E=some (Y,E++missR m d w s m.inputs.toNat):=by
 have j:=a.i1;have l:=a.i2
 refine kz (σ:=List (Int×Int)) (fun F i X=>bf N m w (z0q (atL m w) (knL m d w)) (s:Int) Y F (i:Int) X) m.inputs.toNat (fun i X=>X=E++missR m d w s i) _ (fun F i X hi b=> .inr ?_) (fun F X b=>?_) N 0 E (Nat.zero_le _) (by omega) (by simp [missR])
 ·subst b
  refine⟨_,rfl,?_⟩
  have n:=zji (m:=m) (d:=d) (w:=w) (s:=s) (k:=i)
  have o:fits 16 (E++missR m d w s i) ([((s:Int),(i:Int))]:List (Int×Int)):=⟨by rw [List.length_append,List.length_singleton];omega,by rw [List.length_append,List.length_singleton];omega⟩
  simp only [bf]
  rw [ui (by omega)]
  refine(q8 (x:=E++missR m d w s (i+1)) ?_).trans (zh (qh (by omega)))
  refine(q8 (q4s (d:=d) a c e f g)).trans ?_
  rw [zgw,←List.append_assoc]
  by_cases h:zct m d w (s:Int) (i:Int)
  ·rw [if_pos h,decide_eq_true h,List.append_nil];exact cf rfl
  ·rw [if_neg h,decide_eq_false h]
   exact(ct rfl).trans (zh o)
 ·subst b
  simp only [bf]
  rw [uh (by omega)]
open Classical in
theorem q4c{N:Nat}{m:Mach}{d w:List Int}(a:MOk m)(c:mr m=true)(e:WOk m.inputs w)(f:w.length≤1024)(g:1100≤N):
 bu N m w (z0q (atL m w) (idL d w)) (z0q (atL m w) (knL m d w)) N 0 [] []=some (missS m d w m.rows.length,missE m d w m.rows.length):=by
 have j:=a.i1;have l:=a.i2;have q:=a.r2
 refine kz (σ:=List Int×List (Int×Int)) (fun F s x=>bu N m w (z0q (atL m w) (idL d w)) (z0q (atL m w) (knL m d w)) F (s:Int) x.1 x.2) m.rows.length (fun s x=>x=(missS m d w s,missE m d w s)) _ (fun F s x r b=> .inr ?_) (fun F x b=>?_) N 0 ([],[]) (Nat.zero_le _) (by omega) rfl
 ·subst b
  refine⟨_,rfl,?_⟩
  have n:=zk3 (m:=m) (d:=d) (w:=w) (k:=s)
  have o:=zg7 (m:=m) (d:=d) (w:=w) s
  have i:s*m.inputs.toNat≤64*16:=Nat.mul_le_mul (by omega) (by omega)
  have p:fits 8 (missS m d w s) ([(s:Int)]:List Int):=⟨by rw [List.length_singleton];omega,by rw [List.length_singleton];omega⟩
  simp only [bu]
  rw [ui (by omega)]
  refine(q8 (x:=(missS m d w (s+1),missE m d w (s+1))) ?_).trans (zh (qh (by omega)))
  refine(q8 (q4g (d:=d) a c e f g)).trans ?_
  refine(q8 (x:=missS m d w (s+1)) ?_).trans ?_
  ·rw [zhb]
   by_cases h:zf8 m d w (s:Int)
   ·rw [if_pos h,decide_eq_true h,List.append_nil];exact cf rfl
   ·rw [if_neg h,decide_eq_false h]
    exact(ct rfl).trans (zh p)
  ·rw [zdc]
   exact q4l a c e f (by omega) g
 ·subst b
  simp only [bu]
  rw [uh (by omega)]
open Classical in
theorem zug{N:Nat}{m:Mach}{d w:List Int}(a:MOk m)(b:mr m=true)(c:WOk m.inputs w)(e:w.length≤1024)(i:d.length≤256)(f:1100≤N):z2t N m d w=some (verR m d w):=by
 have hI:(z0q (atL m w) (knL m d w)).length=w.length+1:=maskL_len.trans z5s
 have j:=a.r1
 unfold z2t
 refine(q8 (zel a b c e i f)).trans ?_
 refine(q8 (zyy a b c e i f)).trans ?_
 refine(zh ⟨by omega,by omega⟩).trans ?_
 refine(q8 (q4c a b c e f)).trans ?_
 unfold verR
 dsimp only
 congr 2
 rcases q18 (m:=m) (d:=d) (w:=w) (k:=0) (by omega) with⟨g,h⟩|⟨g,h⟩
 ·have q2':ix (z0q (atL m w) (knL m d w)) 0=0:=h
  rw [decide_eq_true q2',decide_eq_true g]
 ·have q2':ix (z0q (atL m w) (knL m d w)) 0= -1:=h
  rw [decide_eq_false (by rw [q2'];decide),decide_eq_false g]
theorem zvl{N:Nat}{r:Sa}(g:r.fB.length≤1000)(i:r.fD.length≤1030)(j:1100≤N):z2e N r r=some true:=by
 unfold z2e
 have d:decide (r.fF≠r.fF)=false:=decide_eq_false fun h=>h rfl
 rw [d]
 refine(zge rfl (zf0 (N:=N) (a:=r.fB) (b:=r.fB) (by omega) (by omega))).trans ?_
 have e:decide (r.fB=r.fB)=true:=decide_eq_true rfl
 have f:decide ((r.fD.length:Int)≠(r.fD.length:Int))=false:=decide_eq_false fun h=>h rfl
 dsimp only [Option.getD_some]
 rw [e,f]
 refine(cf rfl).trans ?_
 refine(q8 (x:=(Ex.go ():Ex Unit Bool)) ?_).trans rfl
 refine kz (σ:=Unit) (fun F k _=>au N r r F (k:Int)) r.fD.length (fun k _=>True) _ (fun F k _ c _=> .inr ⟨(),trivial,?_⟩) (fun F _ _=>?_) N 0 () (Nat.zero_le _) (by omega) trivial
 ·simp only [au]
  rw [ui (by omega),zh (ql c),zh (ql c)]
  refine(cf (by simp)).trans ?_
  exact zh (qh (by omega))
 ·simp only [au]
  rw [uh (by omega)]
theorem zq6{x:Sg}{w:List Int}(p:CDOk x.fAa.fO)(c: ∀ k,k<x.fU.length→0≤x.fU.getD k default∧x.fU.getD k default≤255)(q: ∀ k,k<w.length→0≤w.getD k default∧w.getD k default≤255):
 z03 2000 x w=some true:=by
 obtain⟨m,d,s,a,g,t⟩:=q97 p c
 have hi:=a.i1;have u:=a.i2;have i:=a.r2
 have hword:=zpo (N:=2000) (most:=40) q hi u (by decide) (by decide)
 have hwok:=ztq (w:=w.take 40) hi
 have e:=q7d (l:=w) (n:=m.inputs) (k:=40)
 generalize wdL (w.take 40) m.inputs=v at hword hwok e
 have y:=zrn hwok (by omega)
 unfold z03
 refine(q8 s).trans ?_
 refine(q8 hword).trans ?_
 have j:=zwb (N:=2000) (d:=d) a.small (by omega) (by decide)
 by_cases h0:canI m d=0
 ·have z:properM m=0:=by
   unfold canI at h0
   by_cases h:properM m=0
   ·exact h
   ·rw [if_pos h] at h0;exact h0
  obtain⟨_,b,_,_⟩:=zi7 z
  have f:v.length≤1024:=by omega
  have A:=zkg (N:=2000) a b h0 (by omega) y (by decide)
  refine(q8 A).trans ?_
  refine(q8 j).trans ?_
  refine(uh (fun h=>h h0)).trans ?_
  refine(zge rfl (zug (N:=2000) (d:=d) a b hwok f (by omega) (by decide))).trans ?_
  have D:(verR m d v).fB.length≤64:=Nat.le_trans zk3 i
  have E:(verR m d v).fD.length≤1024:=Nat.le_trans (zg7 _) (Nat.le_trans (Nat.mul_le_mul i (show m.inputs.toNat≤16 by omega)) (by decide))
  refine(zge rfl (zvl (N:=2000) (r:=verR m d v) (by omega) (by omega) (by decide))).trans ?_
  have o: ∀ n:Int,decide (n=n)=true:=fun n=>decide_eq_true rfl
  dsimp only [Option.getD_some]
  rw [o (((verR m d v).fB.length:Nat):Int),o (((verR m d v).fD.length:Nat):Int)]
  refine(zge rfl zdy).trans ?_
  rfl
 ·have B:=zuz (N:=2000) (d:=d) (w:=v) a.small h0 (by omega) (by decide)
  have C:z2j 2000 m d v=some (⟨false,[],[]⟩,canI m d):=by
   unfold z2j
   rw [q8 B,ui h0]
  refine(q8 C).trans ?_
  refine(q8 j).trans ?_
  refine(ui h0).trans ?_
  have g:decide (canI m d=canI m d)=true:=decide_eq_true rfl
  dsimp only
  rw [g]
  refine(zge rfl zdy).trans ?_
  rfl
end GV
end Go.Proofs.YtplgbkaollfmkaaGreat
