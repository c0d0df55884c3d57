
import Derived.Test.YtplgbkaollfmkaaGreatLaw39n
import Derived.Test.YtplgbkaollfmkaaGreatLaw39g
set_option linter.unusedVariables false
set_option linter.unusedSimpArgs false
namespace Go.Proofs.YtplgbkaollfmkaaGreat
namespace GV
set_option maxRecDepth 100000
theorem q8h{l:List Int}{n:Int}{k:Nat}:(wdL (l.take k) n).length≤k:=by unfold wdL;rw [List.length_map,List.length_take];omega
theorem zzv{m:Mach}{w:List Int}(a:WOk m.inputs w)(b:w.length≤1024):zki m w=0:=by
 unfold zki;rw [if_neg (by omega),q4t a];rfl
end GV
end Go.Proofs.YtplgbkaollfmkaaGreat

namespace Go.Proofs.YtplgbkaollfmkaaGreat
namespace GV
set_option maxRecDepth 100000
theorem q1u{κ β:Type}[DecidableEq κ](z:β)(M:List (κ×β))(k:κ)(v:β)(j:κ):z7s z (zai M k v) j=if j=k then v else z7s z M j:=by
 induction M with
 |nil=>simp only [zai,z7s]
 |cons p l ih=>
  by_cases h:k=p.1
  ·have a:zai (p::l) k v=(k,v)::l:=by rw [zai,if_pos h]
   rw [a]
   simp only [z7s]
   by_cases e:j=k
   ·rw [if_pos e,if_pos e]
   ·rw [if_neg e,if_neg e,if_neg (fun q=>e (q.trans h.symm))]
  ·have a:zai (p::l) k v=p::zai l k v:=by rw [zai,if_neg h]
   rw [a]
   simp only [z7s,ih]
   by_cases e:j=p.1
   ·rw [if_pos e,if_pos e,if_neg (fun b=>h (b.symm.trans e))]
   ·rw [if_neg e,if_neg e]
def zhw(m:Mach)(d w:List Int)(s:Int):Prop:= ∃ k,k<w.length+1∧w9 m 0 (w.take k)=s∧idB d w k=true
def zel(m:Mach)(d w:List Int)(s i:Int):Prop:= ∃ k,k<w.length∧w9 m 0 (w.take k)=s∧w.getD k default=i∧zg7 m d w k∧zg7 m d w (k+1)
open Classical in
noncomputable def missS(m:Mach)(d w:List Int)(k:Nat):List Int:=((List.range k).filter fun s:Nat=>decide (¬zhw m d w (s:Int))).map fun s:Nat=>(s:Int)
open Classical in
noncomputable def missR(m:Mach)(d w:List Int)(s k:Nat):List (Int×Int):=((List.range k).filter fun i:Nat=>decide (¬zel m d w (s:Int) (i:Int))).map fun i:Nat=>((s:Int),(i:Int))
noncomputable def missE(m:Mach)(d w:List Int)(k:Nat):List (Int×Int):=(List.range k).flatMap fun s=>missR m d w s m.inputs.toNat
open Classical in
noncomputable def verR(m:Mach)(d w:List Int):Sc:=⟨decide (zg7 m d w 0),missS m d w m.rows.length,missE m d w m.rows.length⟩
open Classical in
theorem zlx{m:Mach}{d w:List Int}{k:Nat}:missS m d w (k+1)=missS m d w k++(if zhw m d w (k:Int) then [] else [(k:Int)]):=by
 unfold missS
 rw [List.range_succ,List.filter_append,List.map_append]
 by_cases h:zhw m d w (k:Int)
 ·rw [if_pos h,List.filter_cons_of_neg (by rw [decide_eq_true_iff];exact fun e=>e h)];rfl
 ·rw [if_neg h,List.filter_cons_of_pos (p:=fun s:Nat=>decide (¬zhw m d w (s:Int))) (a:=k) (decide_eq_true h)];rfl
open Classical in
theorem znn{m:Mach}{d w:List Int}{s k:Nat}:missR m d w s (k+1)=missR m d w s k++(if zel m d w (s:Int) (k:Int) then [] else [((s:Int),(k:Int))]):=by
 unfold missR
 rw [List.range_succ,List.filter_append,List.map_append]
 by_cases h:zel m d w (s:Int) (k:Int)
 ·rw [if_pos h,List.filter_cons_of_neg (by rw [decide_eq_true_iff];exact fun e=>e h)];rfl
 ·rw [if_neg h,List.filter_cons_of_pos (p:=fun i:Nat=>decide (¬zel m d w (s:Int) (i:Int))) (a:=k) (decide_eq_true h)];rfl
theorem zh2{m:Mach}{d w:List Int}{k:Nat}:missE m d w (k+1)=missE m d w k++missR m d w k m.inputs.toNat:=by
 unfold missE
 rw [List.range_succ,List.flatMap_append];simp
theorem zox{m:Mach}{d w:List Int}{k:Nat}:(missS m d w k).length≤k:=by
 unfold missS
 rw [List.length_map]
 exact Nat.le_trans (List.length_filter_le _ _) (Nat.le_of_eq List.length_range)
theorem zot{m:Mach}{d w:List Int}{s k:Nat}:(missR m d w s k).length≤k:=by
 unfold missR
 rw [List.length_map]
 exact Nat.le_trans (List.length_filter_le _ _) (Nat.le_of_eq List.length_range)
theorem zjf{m:Mach}{d w:List Int}: ∀ k,(missE m d w k).length≤k*m.inputs.toNat
 |0=>by simp [missE]
 |k+1=>by
  have a:=zjf (m:=m) (d:=d) (w:=w) k
  have b:=zot (m:=m) (d:=d) (w:=w) (s:=k) (k:=m.inputs.toNat)
  rw [zh2,List.length_append,Nat.succ_mul];omega
theorem zgr{P:Nat→Prop}{k:Nat}:(∃ j,j<k+1∧P j)↔(∃ j,j<k∧P j)∨P k:=by
 constructor
 ·rintro⟨j,h,p⟩
  by_cases e:j=k
  ·subst e;exact .inr p
  ·exact .inl ⟨j,by omega,p⟩
 ·rintro(⟨j,h,p⟩|p)
  ·exact⟨j,by omega,p⟩
  ·exact⟨k,by omega,p⟩
theorem zyc{X:List Bool}{s k:Nat}{b:Bool}(a:k<X.length):(X.set s b).getD k default=if s=k then b else X.getD k default:=by
 rw [List.getD_eq_getElem?_getD,List.getD_eq_getElem?_getD]
 by_cases h:s=k
 ·subst h
  rw [List.getElem?_set_self a,if_pos rfl];rfl
 ·rw [List.getElem?_set_ne h,if_neg h]
theorem zxq{N:Nat}{m:Mach}{d w:List Int}(E:MOk m)(G:oo m=true)(o:WOk m.inputs w)(Q:w.length≤1024)(R:1100≤N):
 ∃ r,fw N w (some ⟨m,w,atL m w,idL d w,knL m d w⟩,0) N 0 (mk (m.rows.length:Int) false) []=some r∧r.1=⟨m,w,atL m w,idL d w,knL m d w⟩∧r.2.1.length=m.rows.length∧(∀ s,s<m.rows.length→(r.2.1.getD s default=true↔zhw m d w (s:Int)))∧ ∀ s i:Int,z7s false r.2.2 (s,i)=true↔zel m d w s i:=by
 have H:(idL d w).length=w.length+1:=zl6
 have I:(atL m w).length=w.length+1:=zhn
 have J:(knL m d w).length=w.length+1:=zqn
 refine fo (σ:=List Bool×List ((Int×Int)×Bool)) (fun F k x=>fw N w (some ⟨m,w,atL m w,idL d w,knL m d w⟩,0) F (k:Int) x.1 x.2) (w.length+1)
  (fun k x=>x.1.length=m.rows.length∧(∀ s,s<m.rows.length→(x.1.getD s default=true↔ ∃ j,j<k∧w9 m 0 (w.take j)=(s:Int)∧idB d w j=true))∧
   ∀ s i:Int,z7s false x.2 (s,i)=true↔ ∃ j,j<k∧j<w.length∧w9 m 0 (w.take j)=s∧w.getD j default=i∧zg7 m d w j∧zg7 m d w (j+1))
  _ (fun F k x y hi=> .inr ?_) (fun F x hi=>?_) N 0 (_,_) (Nat.zero_le _) (by omega) ⟨by simp [mk],fun s c=>?_,fun s i=>?_⟩
 ·obtain⟨X,V⟩:=x
  obtain⟨n,f,g⟩:=hi
  dsimp only at n f g
  obtain⟨K,L⟩:=zq2 E G o k
  have a:ix (atL m w) (k:Int)=w9 m 0 (w.take k):=zl8 y
  have p:ix (idL d w) (k:Int)=idB d w k:=zi5 y
  obtain⟨s,c⟩: ∃ s:Nat,w9 m 0 (w.take k)=(s:Int):=⟨(w9 m 0 (w.take k)).toNat,by omega⟩
  rw [c] at a K L
  have z:okI (atL m w) (k:Int):=qo (by omega)
  have M:okI X (s:Int):=qo (by omega)
  have A:okI (idL d w) (k:Int):=qo (by omega)
  have B:okI (knL m d w) (k:Int):=qo (by omega)
  have C:(((decide ((k:Int)<(w.length:Int)))&&(ix (knL m d w) (k:Int)))&&(ix (knL m d w) ((k:Int)+1)))=true↔(k<w.length∧zg7 m d w k∧zg7 m d w (k+1)):=by
   rw [Bool.and_eq_true,Bool.and_eq_true,decide_eq_true_iff]
   constructor
   ·rintro⟨⟨O,u⟩,v⟩
    exact⟨by omega,(zfk (by omega)).1 u,(zfk (by omega)).1 v⟩
   ·rintro⟨O,u,v⟩
    exact⟨⟨by omega,(zfk (by omega)).2 u⟩,(zfk (by omega)).2 v⟩
  have o2':okI X (ix (atL m w) (k:Int)):=by rw [a];exact M
  have hX': ∀ t,t<m.rows.length→((up X (ix (atL m w) (k:Int)) ((ix X (ix (atL m w) (k:Int)))||(ix (idL d w) (k:Int)))).getD t default=true↔ ∃ j,j<k+1∧w9 m 0 (w.take j)=(t:Int)∧idB d w j=true):=fun t D=>by
   rw [a,p,z4g,zyc (show t<X.length by omega),zgr,ak]
   by_cases e:s=t
   ·subst e
    rw [if_pos rfl,Bool.or_eq_true]
    exact or_congr (f s D) ⟨fun q=>⟨c,q⟩,fun q=>q.2⟩
   ·rw [if_neg e]
    refine(f t D).trans ⟨.inl,fun q=>q.elim id fun q=>absurd (c.symm.trans q.1) (by omega)⟩
  have h:(up X (ix (atL m w) (k:Int)) ((ix X (ix (atL m w) (k:Int)))||(ix (idL d w) (k:Int)))).length=m.rows.length:=by rw [a,z4g,List.length_set];exact n
  have l: ∀ b:Bool,((true&&(((decide ((k:Int)<(w.length:Int)))&&b)==true))=true→k<w.length):=fun b e=>by
   by_cases q:(k:Int)<(w.length:Int)
   ·omega
   ·rw [decide_eq_false q] at e;exact absurd e (by cases b<;>decide)
  by_cases hv:k<w.length∧zg7 m d w k∧zg7 m d w (k+1)
  ·refine⟨(up X (ix (atL m w) (k:Int)) ((ix X (ix (atL m w) (k:Int)))||(ix (idL d w) (k:Int))),zai V (((ix (atL m w) (k:Int)),(ix w (k:Int))):(Int×Int)) true),⟨h,hX',fun t i=>?_⟩,?_⟩
   ·rw [q1u,zgr]
    by_cases e:((t,i):Int×Int)=(ix (atL m w) (k:Int),ix w (k:Int))
    ·rw [if_pos e]
     obtain⟨rfl,rfl⟩:=Prod.mk.inj e
     exact⟨fun _=> .inr ⟨hv.1,c.trans a.symm,rfl,hv.2⟩,fun _=>rfl⟩
    ·rw [if_neg e]
     refine(g t i).trans ⟨.inl,fun q=>q.elim id fun q=>absurd ?_ e⟩
     rw [←q.2.1,←q.2.2.1,c,a];rfl
   ·simp only [fw]
    refine(uy (show (k:Int)<((atL m w).length:Int) by omega)).trans ?_
    refine(qc (x:=(up X (ix (atL m w) (k:Int)) ((ix X (ix (atL m w) (k:Int)))||(ix (idL d w) (k:Int))),zai V (((ix (atL m w) (k:Int)),(ix w (k:Int))):(Int×Int)) true)) ?_).trans (zk (qm (by omega)))
    refine(zk z).trans ((zk o2').trans ((zk (fun _=>A)).trans ((zk o2').trans ((zk (fun _=>B)).trans ((zk (fun _=>qm (by omega))).trans ((zk (fun e=>(show okI (knL m d w) ((k:Int)+1) from⟨by omega,by have:=l _ e;omega⟩))).trans ?_))))))
    refine(ct (C.2 hv)).trans ?_
    exact zk (qo hv.1)
  ·refine⟨(up X (ix (atL m w) (k:Int)) ((ix X (ix (atL m w) (k:Int)))||(ix (idL d w) (k:Int))),V),⟨h,hX',fun t i=>?_⟩,?_⟩
   ·rw [zgr]
    exact(g t i).trans ⟨.inl,fun q=>q.elim id fun q=>absurd ⟨q.1,q.2.2.2⟩ hv⟩
   ·simp only [fw]
    refine(uy (show (k:Int)<((atL m w).length:Int) by omega)).trans ?_
    refine(qc (x:=(up X (ix (atL m w) (k:Int)) ((ix X (ix (atL m w) (k:Int)))||(ix (idL d w) (k:Int))),V)) ?_).trans (zk (qm (by omega)))
    refine(zk z).trans ((zk o2').trans ((zk (fun _=>A)).trans ((zk o2').trans ((zk (fun _=>B)).trans ((zk (fun _=>qm (by omega))).trans ((zk (fun e=>(show okI (knL m d w) ((k:Int)+1) from⟨by omega,by have:=l _ e;omega⟩))).trans ?_))))))
    exact cf (Bool.eq_false_iff.2 fun e=>hv (C.1 e))
 ·obtain⟨X,V⟩:=x
  obtain⟨n,f,g⟩:=hi
  simp only [fw]
  refine⟨_,(uo (show¬((w.length+1:Nat):Int)<((atL m w).length:Int) by omega)).trans rfl,rfl,n,f,fun s i=>(g s i).trans ⟨fun⟨j,_,q⟩=>⟨j,q⟩,fun⟨j,q⟩=>⟨j,by omega,q⟩⟩⟩
 ·constructor
  ·intro e
   replace e:(List.replicate m.rows.length false).getD s default=true:=e
   rw [List.getD_eq_getElem?_getD,List.getElem?_replicate,if_pos c] at e
   exact absurd e (by decide)
  ·rintro⟨j,P,_⟩;omega
 ·constructor
  ·intro e;exact absurd e (by simp [z7s])
  ·rintro⟨j,P,_⟩;omega
theorem zx2{N:Nat}{m:Mach}{d w:List Int}{o:Sj×List Bool×List ((Int×Int)×Bool)}{Y:List Int}{E:List (Int×Int)}{s:Nat}(b:MOk m)(c: ∀ s i:Int,z7s false o.2.2 (s,i)=true↔zel m d w s i)(n:E.length≤100000)(p:1100≤N):
 z02 N m o (s:Int) Y N 0 E=some (Y,E++missR m d w s m.inputs.toNat):=by
 have f:=b.i1;have g:=b.i2
 refine uk (σ:=List (Int×Int)) (fun F i X=>z02 N m o (s:Int) Y F (i:Int) X) m.inputs.toNat (fun i X=>X=E++missR m d w s i) _ (fun F i X hi a=> .inr ?_) (fun F X a=>?_) N 0 E (Nat.zero_le _) (by omega) (by simp [missR])
 ·subst a
  refine⟨_,rfl,?_⟩
  have j:=zot (m:=m) (d:=d) (w:=w) (s:=s) (k:=i)
  have l:fits 16 (E++missR m d w s i) ([((s:Int),(i:Int))]:List (Int×Int)):=⟨by rw [List.length_append,List.length_singleton];omega,by rw [List.length_append,List.length_singleton];omega⟩
  simp only [z02]
  rw [uy (by omega)]
  refine(qc (x:=E++missR m d w s (i+1)) ?_).trans (zk (qm (by omega)))
  rw [znn,←List.append_assoc]
  by_cases h:zel m d w (s:Int) (i:Int)
  ·rw [if_pos h,(c _ _).2 h,List.append_nil];exact cf rfl
  ·rw [if_neg h,Bool.eq_false_iff.2 (fun e=>h ((c _ _).1 e))]
   exact(ct rfl).trans (zk l)
 ·subst a
  simp only [z02]
  rw [uo (by omega)]
theorem zxj{N:Nat}{m:Mach}{d w:List Int}{o:Sj×List Bool×List ((Int×Int)×Bool)}(a:MOk m)(u:o.2.1.length=m.rows.length)(c: ∀ s,s<m.rows.length→(o.2.1.getD s default=true↔zhw m d w (s:Int)))(j: ∀ s i:Int,z7s false o.2.2 (s,i)=true↔zel m d w s i)(l:1100≤N):
 z03 N m o N 0 [] []=some (missS m d w m.rows.length,missE m d w m.rows.length):=by
 have n:=a.i1;have p:=a.i2;have v:=a.r2
 refine uk (σ:=List Int×List (Int×Int)) (fun F s x=>z03 N m o F (s:Int) x.1 x.2) m.rows.length (fun s x=>x=(missS m d w s,missE m d w s)) _ (fun F s x f b=> .inr ?_) (fun F x b=>?_) N 0 ([],[]) (Nat.zero_le _) (by omega) rfl
 ·subst b
  refine⟨_,rfl,?_⟩
  have q:=zox (m:=m) (d:=d) (w:=w) (k:=s)
  have r:=zjf (m:=m) (d:=d) (w:=w) s
  have g:s*m.inputs.toNat≤64*16:=Nat.mul_le_mul (by omega) (by omega)
  have t:fits 8 (missS m d w s) ([(s:Int)]:List Int):=⟨by rw [List.length_singleton];omega,by rw [List.length_singleton];omega⟩
  simp only [z03]
  rw [uy (by omega)]
  refine(qc (x:=(missS m d w (s+1),missE m d w (s+1))) ?_).trans (zk (qm (by omega)))
  refine(qc (x:=missS m d w (s+1)) ?_).trans ?_
  ·rw [zk (qo (by omega)),ak,zlx]
   by_cases h:zhw m d w (s:Int)
   ·rw [if_pos h,(c s f).2 h,List.append_nil];exact cf rfl
   ·rw [if_neg h,Bool.eq_false_iff.2 (fun e=>h ((c s f).1 e))]
    exact(ct rfl).trans (zk t)
  ·rw [zh2]
   exact zx2 a j (by omega) l
 ·subst b
  simp only [z03]
  rw [uo (by omega)]
open Classical in
theorem zrx{N:Nat}{m:Mach}{d w:List Int}(a:MOk m)(g:oo m=true)(o:canI m d=0)(p:d.length≤256)(i:zki m w=0)(b:1100≤N):
 z6c N m d w=some (verR m d w,0):=by
 obtain⟨q,c⟩:=zwr i
 have v:=a.r2
 unfold z6c
 refine(qc (follow_eq a g o p i b)).trans ?_
 refine(uo (fun h=>h rfl)).trans ?_
 refine(zk ⟨by omega,by omega,by omega⟩).trans ?_
 obtain⟨⟨t,X,V⟩,e,j,k,l,n⟩:=zxq (N:=N) (d:=d) a g c q b
 dsimp only at j k l n
 subst j
 refine(qc ((zk rfl).trans e)).trans ?_
 have r:(knL m d w).length=w.length+1:=zqn
 refine(zk (show okI (knL m d w) 0 from⟨by omega,by omega⟩)).trans ?_
 refine(qc (zxj (d:=d) (w:=w) a k l n b)).trans ?_
 have s: ∀ X:List Int,lv N X=some X:=fun X=>by
  unfold lv
  rw [zk (zq3 _),zj2]
 have u: ∀ X:List (Int×Int),z0m N X=some X:=fun X=>by
  unfold z0m
  rw [zk (zq3 _),zj2]
 refine(qc (s _)).trans ?_
 refine(qc (u _)).trans ?_
 have f:ix (knL m d w) 0=decide (zg7 m d w 0):=Bool.eq_iff_iff.2 ((zfk (by omega)).trans decide_eq_true_iff.symm)
 unfold verR
 dsimp only
 rw [f]
end GV
end Go.Proofs.YtplgbkaollfmkaaGreat

namespace Go.Proofs.YtplgbkaollfmkaaGreat
namespace GV
set_option maxRecDepth 100000
end GV
end Go.Proofs.YtplgbkaollfmkaaGreat
