
import Derived.Test.YtplgbkaollfmkaaGreatLaw39s
import Derived.Test.YtplgbkaollfmkaaGreatSpec06e
import Derived.Test.YtplgbkaollfmkaaGreatSpec06k
set_option linter.unusedVariables false
set_option linter.unusedSimpArgs false
namespace Go.Proofs.YtplgbkaollfmkaaGreat
namespace GV
set_option maxRecDepth 100000
def zbp(P:List BE):List (List Int):=P.map fun e=>e.wd
theorem z9u{P:List BE}:(zbp P).length=P.length:=by simp [zbp]
theorem zkx{P:List BE}{k:Nat}(h:k<P.length):ix (zbp P) (k:Int)=(P.getD k default).wd:=by
 unfold zbp
 rw [ak,List.getD_eq_getElem?_getD,List.getElem?_map,List.getElem?_eq_getElem h,List.getD_eq_getElem?_getD,List.getElem?_eq_getElem h];rfl
theorem q4j{m:Mach}{x:BE}{All:List BE}{i:Nat}(h:0≤ed m x.st i):push m x All i=if occ All (ed m x.st i).toNat=true then All else All++[⟨(ed m x.st i).toNat,x.st,i,x.wd++[(i:Int)]⟩]:=by
 unfold push
 rw [if_neg (by omega)]
section leads
variable {N : Nat} {m : Mach} {s0 : Nat}
theorem zlw(a:MOk m)(c:oo m=true){s i:Nat}(b:s<m.rows.length)(hi:i<m.inputs.toNat):0≤ed m s i∧ed m s i<m.rows.length:=by
 have e:=a.row s b
 have d:=zjk a c b (i:=i) (by omega)
 rcases z94 a b hi with h|h
 ·have f:0≤ed m s i:=d
  omega
 ·exact h
theorem zm4{p k:Nat}{All:List BE}(h:Inv m s0 p k All): ∀ j,j<All.length→(All.getD j default).wd.length≤j:=by
 intro j
 induction j using Nat.strongRecOn with
 |ind j ih=>
  intro a
  by_cases h0:0<j
  ·obtain⟨q,i,b,_,_,_,c,_⟩:=h.par j h0 a
   have:=ih q b (by omega)
   rw [c,List.length_append,List.length_singleton];omega
  ·rw [show j=0 by omega,h.root];exact Nat.le_refl _
end leads
end GV
end Go.Proofs.YtplgbkaollfmkaaGreat

namespace Go.Proofs.YtplgbkaollfmkaaGreat
namespace GV
set_option maxRecDepth 100000
section leads
variable {N : Nat} {m : Mach} {s0 : Nat}
theorem zvy(b:MOk m){p k:Nat}{All:List BE}(h:Inv m s0 p k All): ∀ j,j<All.length→WOk m.inputs (All.getD j default).wd:=by
 intro j
 have c:=b.i1
 induction j using Nat.strongRecOn with
 |ind j ih=>
  intro d
  by_cases h0:0<j
  ·obtain⟨q,i,f,l,_,_,g,_⟩:=h.par j h0 d
   have:=ih q f (by omega)
   rw [g]
   intro t a
   rw [List.length_append,List.length_singleton] at a
   by_cases e:t<(All.getD q default).wd.length
   ·rw [List.getD_eq_getElem?_getD,List.getElem?_append_left e,←List.getD_eq_getElem?_getD];exact this t e
   ·rw [List.getD_eq_getElem?_getD,List.getElem?_append_right (by omega),show t-(All.getD q default).wd.length=0 by omega]
    exact⟨by show (0:Int)≤(i:Int);omega,by show (i:Int)<_;omega⟩
  ·rw [show j=0 by omega,h.root]
   intro t a;exact absurd a (by simp)
theorem zim(m:Mach): ∀ (s:Int) (w:List Int) (i:Int),w9 m s (w++[i])=(ry m (w9 m s w) i).to
 |s,[],i=>rfl
 |s,a::w,i=>by simp only [List.cons_append,w9];exact zim m _ w i
theorem zaw{n:Int}{u v:List Int}(a:WOk n u)(b:WOk n v):WOk n (u++v):=fun t c=>by
 rw [List.length_append] at c
 by_cases e:t<u.length
 ·rw [List.getD_eq_getElem?_getD,List.getElem?_append_left e,←List.getD_eq_getElem?_getD];exact a t e
 ·rw [List.getD_eq_getElem?_getD,List.getElem?_append_right (by omega),←List.getD_eq_getElem?_getD];exact b _ (by omega)
theorem zvf{n i:Int}(h:0≤i∧i<n):WOk n [i]:=fun t a=>by
 have e:t=0:=by simpa using a
 subst e;exact h
theorem q4b(a:MOk m)(k:oo m=true)(s:200≤N){p i:Nat}{A:List BE}(hI:Inv m s0 p i A)(t:s0<m.rows.length)(d:p<A.length)(hi:i<m.inputs.toNat):
 mh N m (s0:Int) (p:Int) (i:Int) (zbp A) N true 0=some (!(occ A (ed m (A.getD p default).st i).toNat)):=by
 have l:=a.i1;have o:=a.i2;have q:=a.r2
 have hlen:=zfg hI
 have f:=zvy a hI
 have g:=zm4 hI
 obtain⟨u,v⟩:=zlw a k (hI.rng p d) hi
 have hsok:SOk m (s0:Int):= .inr ⟨by omega,by omega⟩
 have hnew:vg N N m (s0:Int) (([]++(ix (zbp A) (p:Int)))++([(i:Int)]:List Int))=some (ed m (A.getD p default).st i):=by
  rw [zkx d,List.nil_append,zhi a N _ _ hsok (zaw (f p d) (zvf ⟨by omega,by omega⟩)) (by rw [List.length_append,List.length_singleton];have:=g p d;omega),zim,hI.aft p d]
  unfold ry
  rw [if_neg (by omega)];rfl
 refine uk (σ:=Bool) (fun F n b=>mh N m (s0:Int) (p:Int) (i:Int) (zbp A) F b (n:Int)) A.length
  (fun n b=>b= !((A.take n).any fun e=>decide (e.st=(ed m (A.getD p default).st i).toNat))) _ (fun F n b c j=> .inr ?_) (fun F b j=>?_) N 0 true (Nat.zero_le _) (by omega) rfl
 ·have hold:vg N N m (s0:Int) (ix (zbp A) (n:Int))=some ((A.getD n default).st:Int):=by
   rw [zkx c,zhi a N _ _ hsok (f n c) (by have:=g n c;omega),hI.aft n c]
  have r:decide (((A.getD n default).st:Int)≠ed m (A.getD p default).st i)= !(decide ((A.getD n default).st=(ed m (A.getD p default).st i).toNat)):=by
   by_cases h:(A.getD n default).st=(ed m (A.getD p default).st i).toNat
   ·rw [decide_eq_true h,decide_eq_false (by omega)];rfl
   ·rw [decide_eq_false h,decide_eq_true (by omega)];rfl
  refine⟨b&&decide (((A.getD n default).st:Int)≠ed m (A.getD p default).st i),?_,?_⟩
  ·rw [z7o _ A n c,j,r]
   cases (A.take n).any _<;>rfl
  ·simp only [mh]
   rw [uy (by rw [z9u];omega),zk (fun _=>qo (by rw [z9u];exact c)),zef (fun _=>hold),zef (fun _=>hnew)]
   cases b
   ·exact zk (qm (by omega))
   ·exact zk (qm (by omega))
 ·simp only [mh]
  rw [uo (by rw [z9u];omega),j,List.take_length];rfl
theorem q4i(d:MOk m)(n:oo m=true)(o:200≤N){p:Nat}{All:List BE}(h:Inv m s0 p 0 All)(q:s0<m.rows.length)(f:p<All.length):
 mo N m (s0:Int) (p:Int) N 0 (zbp All)=some (Ex.go (zbp (z6k m (All.getD p default) All m.inputs.toNat))):=by
 have r:=d.i1;have s:=d.i2;have t:=d.r2
 refine uk (σ:=List (List Int)) (fun F i x=>mo N m (s0:Int) (p:Int) F (i:Int) x) m.inputs.toNat
  (fun i x=>x=zbp (z6k m (All.getD p default) All i)) _ (fun F i x hi b=> .inr ?_) (fun F x b=>?_) N 0 _ (Nat.zero_le _) (by omega) rfl
 ·subst b
  refine⟨_,rfl,?_⟩
  have hI:=zkz d h f i (by omega)
  have hpre:=z5g m (All.getD p default) All i
  have a:p<(z6k m (All.getD p default) All i).length:=Nat.lt_of_lt_of_le f hpre.length_le
  have e:(z6k m (All.getD p default) All i).getD p default=All.getD p default:=zic hpre f
  obtain⟨u,v⟩:=zlw d n (h.rng p f) hi
  have hlen:=zfg hI
  have g:=zm4 hI p a
  rw [show z6k m (All.getD p default) All (i+1)=push m (All.getD p default) (z6k m (All.getD p default) All i) i from rfl,q4j u]
  have c:=q4b d n o hI q a hi
  have b:ix (zbp (z6k m (All.getD p default) All i)) (p:Int)=(All.getD p default).wd:=by rw [zkx a,e]
  rw [e] at c g
  generalize z6k m (All.getD p default) All i=A at hI a hlen c b⊢
  generalize All.getD p default=x at*
  have j:fits 8 ([]:List Int) (ix (zbp A) (p:Int)):=⟨by rw [b,List.length_nil];omega,by rw [b,List.length_nil];omega⟩
  have k:fits 8 (([]:List Int)++(ix (zbp A) (p:Int))) ([(i:Int)]:List Int):=⟨by rw [b,List.nil_append,List.length_singleton];omega,by rw [b,List.nil_append,List.length_singleton];omega⟩
  have l:fits 24 (zbp A) ([((([]:List Int)++(ix (zbp A) (p:Int)))++([(i:Int)]:List Int))]:List (List Int)):=⟨by simp only [z9u,List.length_singleton];omega,by simp only [z9u,List.length_singleton];omega⟩
  simp only [mo]
  rw [uy (by omega)]
  refine(qc (x:=zbp (if occ A (ed m x.st i).toNat=true then A else A++[⟨(ed m x.st i).toNat,x.st,i,x.wd++[(i:Int)]⟩])) ?_).trans (zk (qm (by omega)))
  rw [zk (qo (by rw [z9u];exact a)),zk j,zk k,qc c]
  cases occ A (ed m x.st i).toNat
  ·refine(ct rfl).trans ((zk l).trans ?_)
   rw [if_neg Bool.false_ne_true,b]
   unfold zbp
   rw [List.map_append,List.nil_append];rfl
  ·rw [if_pos rfl];exact cf rfl
 ·subst b
  simp only [mo]
  rw [uo (by omega)]
theorem zvh(a:MOk m)(r:oo m=true)(s:200≤N)(i:s0<m.rows.length){t:Nat}(k: ∃ j,j<(rch m s0).length∧((rch m s0).getD j default).st=t): ∀ (g p F:Nat) (All:List BE),bfs m g p All=rch m s0→p+g=m.rows.length→p≤All.length→Inv m s0 p 0 All→(∀ j,j<p→(All.getD j default).st≠t)→g<F→
 l8 N m (s0:Int) (t:Int) F (p:Int) (zbp All)=some (Ex.rt (wdOf (rch m s0) t))
 |g,p,0,All,_,_,_,_,_,u=>by omega
 |0,p,F+1,All,b,y,l,h,f,u=>by
  have:=zfg h
  obtain⟨j,n,c⟩:=k
  rw [←b,show bfs m 0 p All=All from rfl] at n c
  exact absurd c (f j (by omega))
 |g+1,p,F+1,All,b,y,l,h,f,u=>by
  have z:=a.r2
  have A:=zh5 a i
  by_cases hp:p<All.length
  ·have v:ix (zbp All) (p:Int)=(All.getD p default).wd:=zkx hp
   have hlen:=zfg h
   have B:=zm4 h p hp
   have d:vg N N m (s0:Int) (ix (zbp All) (p:Int))=some ((All.getD p default).st:Int):=by
    rw [v,zhi a N _ _ (.inr ⟨by omega,by omega⟩) (zvy a h p hp) (by omega),h.aft p hp]
   simp only [l8]
   rw [uy (by rw [z9u];omega)]
   by_cases e:(All.getD p default).st=t
   ·have hpre:All<+:rch m s0:=by rw [←b];exact zvr m _ _ _
    have o:(rch m s0).getD p default=All.getD p default:=zic hpre hp
    have w:=A.wdOf (j:=p) (Nat.lt_of_lt_of_le hp hpre.length_le)
    rw [o,e] at w
    refine(qc (x:=Ex.rt (Ex.rt (wdOf (rch m s0) t))) ?_).trans rfl
    rw [zk (qo (by rw [z9u];exact hp)),qc d,uy (by omega),zk (qo (by rw [z9u];exact hp)),v,w]
   ·have hI:=zt9 (zkz a h hp m.inputs.toNat (Nat.le_refl _)) (Nat.lt_of_lt_of_le hp (z5g m _ All _).length_le)
    refine(qc (x:=Ex.go (zbp (z6k m (All.getD p default) All m.inputs.toNat))) ?_).trans ?_
    ·rw [zk (qo (by rw [z9u];exact hp)),qc d,uo (by omega)]
     exact q4i a r s h i hp
    ·refine Eq.trans zkt ((zk (qm (by omega))).trans ?_)
     refine zvh a r s i k g (p+1) F _ ?_ (by omega) (Nat.le_trans hp (z5g m _ All _).length_le) hI (fun j C=>?_) (by omega)
     ·rw [←b,bfs,if_pos hp]
     ·rw [zic (z5g m (All.getD p default) All _) (show j<All.length by omega)]
      by_cases q:j=p
      ·subst q;exact e
      ·exact f j (by omega)
  ·obtain⟨j,n,c⟩:=k
   rw [←b,q23 hp] at n c
   exact absurd c (f j (by omega))
theorem q44(a:MOk m)(c:oo m=true)(d:200≤N)(b:s0<m.rows.length){t:Nat}(e: ∃ j,j<(rch m s0).length∧((rch m s0).getD j default).st=t):
 su N m (s0:Int) (t:Int)=some (wdOf (rch m s0) t):=by
 have f:=a.r2
 unfold su
 refine(qc (zvh a c d b e m.rows.length 0 N [⟨s0,-1,-1,[]⟩] rfl (by omega) (Nat.zero_le _) (zss b) (fun j g=>by omega) (by omega))).trans rfl
theorem zpf(n:MOk m)(c:(knotsL m).length≤1){s t:Nat}(g:s<m.rows.length)(h:t<m.rows.length):Reach m s t:=by
 have p:=n.r1
 have key: ∀ u,u<m.rows.length→kn1 m u=0:=fun u k=>by
  have o:=zae m k
  have i:kn1 m u<m.rows.length:=by omega
  by_cases e:kn1 m u=0
  ·exact e
  ·exfalso
   have q:=zae m (s:=0) (by omega)
   have j:kn1 m 0=0:=by omega
   have hself:=q2l (m:=m) k
   unfold knotsL at c
   rw [List.length_map] at c
   have d:0∈(List.range m.rows.length).filter fun s=>decide (kn1 m s=s):=List.mem_filter.2 ⟨List.mem_range.2 (by omega),decide_eq_true j⟩
   have f:kn1 m u∈(List.range m.rows.length).filter fun s=>decide (kn1 m s=s):=List.mem_filter.2 ⟨List.mem_range.2 i,decide_eq_true hself⟩
   generalize (List.range m.rows.length).filter (fun s=>decide (kn1 m s=s))=L at c d f
   match L,c,d,f with
   | [],_,d,_=>exact absurd d (by simp)
   | [a],_,d,f=>
    have r:0=a:=by simpa using d
    have v:kn1 m u=a:=by simpa using f
    omega
   |a::b::l,c,_,_=>simp only [List.length_cons] at c;omega
 exact((zis g h).1 ((zqt g h).1 (by rw [key s g,key t h]))).1
theorem zwi(c:MOk m){s t:Nat}(d:s<m.rows.length)(h:Reach m s t): ∃ j,j<(rch m s).length∧((rch m s).getD j default).st=t:=by
 have b:=zh5 c d
 induction h with
 |refl=>exact⟨0,b.pos,by rw [b.root]⟩
 | @step a i _ f hi g ih=>
  obtain⟨j,k,e⟩:=ih
  have hrow:=c.row a f
  obtain⟨q,l,n,_⟩:=b.cls j i k (by omega) (by rw [e];show ((m.rows.getD a default).getD i default).to≠ -1;omega)
  refine⟨q,l,?_⟩
  rw [e] at n
  have o:ed m a i=((m.rows.getD a default).getD i default).to:=rfl
  omega
def LD(m:Mach)(s t:Nat):List Int:=wdOf (rch m s) t
theorem zw6(b:MOk m)(g:(knotsL m).length≤1){s t:Nat}(c:s<m.rows.length)(h:t<m.rows.length):WOk m.inputs (LD m s t)∧w9 m (s:Int) (LD m s t)=(t:Int)∧(LD m s t).length<m.rows.length:=by
 have a:=zh5 b c
 obtain⟨j,d,e⟩:=zwi b c (zpf b g c h)
 have f:=a.wdOf d
 rw [e] at f
 have i:=a.wok j d
 have k:=a.aft j d
 have l:=a.le
 unfold LD
 rw [f]
 exact⟨i.1,by rw [k,e],by omega⟩
theorem q2r(a:MOk m)(c:oo m=true)(d:(knotsL m).length≤1)(e:200≤N){s t:Nat}(b:s<m.rows.length)(f:t<m.rows.length):su N m (s:Int) (t:Int)=some (LD m s t):=
 q44 a c e b (zwi a b (zpf a d b f))
end leads
end GV
end Go.Proofs.YtplgbkaollfmkaaGreat

namespace Go.Proofs.YtplgbkaollfmkaaGreat
namespace GV
set_option maxRecDepth 100000
def dst(m:Mach)(d:List Int)(s:Nat):Nat:=(w9 m (s:Int) d).toNat
def frm(n s:Nat):Nat:=if s=0 then n-1 else s-1
def brw(m:Mach)(d:List Int)(s:Nat):List Int:=LD m (dst m d (frm m.rows.length s)) s
def wd1(m:Mach)(d:List Int):Nat→List Int
 |0=>d
 |k+1=>wd1 m d k++(brw m d ((k+1)%m.rows.length)++d)
def go2(m:Mach)(d:List Int)(s:Nat)(x:List Int×Nat):List Int:=if x.2=frm m.rows.length s then x.1 else x.1++(LD m (dst m d x.2) (frm m.rows.length s)++d)
def st2(m:Mach)(d:List Int)(s i:Nat)(x:List Int×Nat):List Int×Nat:=(go2 m d s x++(brw m d s++[(i:Int)]++d),(ed m s i).toNat)
def zfw(m:Mach)(d:List Int)(s:Nat):Nat→List Int×Nat→List Int×Nat
 |0,x=>x
 |i+1,x=>st2 m d s i (zfw m d s i x)
def all2(m:Mach)(d:List Int):Nat→List Int×Nat→List Int×Nat
 |0,x=>x
 |s+1,x=>zfw m d s m.inputs.toNat (all2 m d s x)
def zna(m:Mach)(d:List Int):List Int:=(all2 m d m.rows.length (wd1 m d m.rows.length,0)).1
structure Wf (m:Mach) (d w:List Int) (f:Nat):Prop where
 lt:f<m.rows.length
 ok:WOk m.inputs w
 ends: ∃ u,w=u++d∧w9 m 0 u=(f:Int)
section build
variable {m : Mach} {d : List Int}
structure Bd (m:Mach) (d:List Int):Prop where
 hm:MOk m
 hc:oo m=true
 hk:(knotsL m).length≤1
 hd:WOk m.inputs d
theorem Bd.dst_ok(h:Bd m d){s:Nat}(a:s<m.rows.length):dst m d s<m.rows.length∧w9 m (s:Int) d=(dst m d s:Int):=by
 have b:=zk0 h.hm h.hc (s:Int) d ⟨by omega,by omega⟩ h.hd
 unfold dst
 omega
theorem Bd.frm_lt(h:Bd m d){s:Nat}(a:s<m.rows.length):frm m.rows.length s<m.rows.length:=by
 unfold frm
 split<;>omega
theorem Bd.brw_ok(h:Bd m d){s:Nat}(a:s<m.rows.length):WOk m.inputs (brw m d s)∧w9 m (dst m d (frm m.rows.length s):Int) (brw m d s)=(s:Int)∧(brw m d s).length<m.rows.length:=
 zw6 h.hm h.hk (h.dst_ok (h.frm_lt a)).1 a
theorem Wf.aft(h:Bd m d){w:List Int}{f:Nat}(a:Wf m d w f):w9 m 0 w=(dst m d f:Int):=by
 obtain⟨u,rfl,b⟩:=a.ends
 rw [z3l,b,(h.dst_ok a.lt).2]
theorem Wf.add(h:Bd m d){w v:List Int}{f g:Nat}(a:Wf m d w f)(b:WOk m.inputs v)(c:g<m.rows.length)(e:w9 m (dst m d f:Int) v=(g:Int)):Wf m d (w++(v++d)) g:=by
 refine⟨c,zaw a.ok (zaw b h.hd),w++v,by rw [List.append_assoc],?_⟩
 rw [z3l,a.aft h,e]
theorem Bd.wf0(h:Bd m d):Wf m d d 0:=⟨by have:=h.hm.r1;omega,h.hd,[],rfl,rfl⟩
theorem zid{n k:Nat}(h:k<n):frm n ((k+1)%n)=k%n:=by
 unfold frm
 by_cases e:k+1=n
 ·subst e
  rw [Nat.mod_self,if_pos rfl,Nat.mod_eq_of_lt (by omega)];omega
 ·rw [Nat.mod_eq_of_lt (show k+1<n by omega),if_neg (by omega),Nat.mod_eq_of_lt h];omega
theorem Bd.wf1(h:Bd m d): ∀ k,k≤m.rows.length→Wf m d (wd1 m d k) (k%m.rows.length)
 |0,_=>by rw [Nat.zero_mod];exact h.wf0
 |k+1,e=>by
  have a:(k+1)%m.rows.length<m.rows.length:=Nat.mod_lt _ (by omega)
  have c:=h.wf1 k (by omega)
  have b:=h.brw_ok a
  rw [zid (by omega)] at b
  exact c.add h b.1 a b.2.1
theorem Bd.wf_go(h:Bd m d){s:Nat}(b:s<m.rows.length){x:List Int×Nat}(a:Wf m d x.1 x.2):Wf m d (go2 m d s x) (frm m.rows.length s):=by
 unfold go2
 by_cases e:x.2=frm m.rows.length s
 ·rw [if_pos e,←e];exact a
 ·rw [if_neg e]
  have c:=zw6 h.hm h.hk (h.dst_ok a.lt).1 (h.frm_lt b)
  exact a.add h c.1 (h.frm_lt b) c.2.1
theorem Bd.edn(h:Bd m d){s i:Nat}(a:s<m.rows.length)(hi:i<m.inputs.toNat):(ed m s i).toNat<m.rows.length∧(ry m (s:Int) (i:Int)).to=((ed m s i).toNat:Int):=by
 obtain⟨b,c⟩:=zlw h.hm h.hc a hi
 refine⟨by omega,?_⟩
 unfold ry
 rw [if_neg (by omega),Int.toNat_of_nonneg b];rfl
theorem Bd.wf_st(h:Bd m d){s i:Nat}(a:s<m.rows.length)(hi:i<m.inputs.toNat){x:List Int×Nat}(e:Wf m d x.1 x.2):Wf m d (st2 m d s i x).1 (st2 m d s i x).2:=by
 have f:=h.wf_go a e
 have b:=h.brw_ok a
 have c:=h.edn a hi
 refine f.add h (zaw b.1 (zvf ⟨by omega,by have:=h.hm.i1;omega⟩)) c.1 ?_
 rw [zim,b.2.1,c.2];rfl
theorem Bd.wf_row(h:Bd m d){s:Nat}(a:s<m.rows.length){x:List Int×Nat}(b:Wf m d x.1 x.2): ∀ i,i≤m.inputs.toNat→Wf m d (zfw m d s i x).1 (zfw m d s i x).2
 |0,_=>b
 |i+1,hi=>h.wf_st a (by omega) (h.wf_row a b i (by omega))
theorem Bd.wf_all(h:Bd m d){x:List Int×Nat}(a:Wf m d x.1 x.2): ∀ s,s≤m.rows.length→Wf m d (all2 m d s x).1 (all2 m d s x).2
 |0,_=>a
 |s+1,b=>h.wf_row (by omega) (h.wf_all a s (by omega)) _ (Nat.le_refl _)
/-! ### Lengths-/
def cap2(m:Mach)(d:List Int):Nat:=2*m.rows.length+2*d.length
theorem Bd.len1(h:Bd m d): ∀ k,k≤m.rows.length→(wd1 m d k).length≤(k+1)*cap2 m d
 |0,_=>by unfold cap2 wd1;omega
 |k+1,a=>by
  have b:=h.len1 k (by omega)
  have c:=(h.brw_ok (s:=(k+1)%m.rows.length) (Nat.mod_lt _ (by omega))).2.2
  have e:cap2 m d=2*m.rows.length+2*d.length:=rfl
  rw [Nat.succ_mul (k+1)]
  unfold wd1
  rw [List.length_append,List.length_append]
  omega
theorem Bd.len_go(h:Bd m d){s:Nat}(a:s<m.rows.length){x:List Int×Nat}(b:Wf m d x.1 x.2):(go2 m d s x).length≤x.1.length+(m.rows.length-1+d.length):=by
 unfold go2
 by_cases e:x.2=frm m.rows.length s
 ·rw [if_pos e];omega
 ·rw [if_neg e,List.length_append,List.length_append]
  have c:=zw6 h.hm h.hk (h.dst_ok b.lt).1 (h.frm_lt a)
  omega
theorem Bd.len_st(h:Bd m d){s i:Nat}(a:s<m.rows.length){x:List Int×Nat}(b:Wf m d x.1 x.2):(st2 m d s i x).1.length≤x.1.length+cap2 m d:=by
 have c:=h.len_go a b
 have e:=(h.brw_ok a).2.2
 unfold st2 cap2
 dsimp only
 rw [List.length_append,List.length_append,List.length_append,List.length_singleton]
 omega
theorem Bd.len_row(h:Bd m d){s:Nat}(a:s<m.rows.length){x:List Int×Nat}(b:Wf m d x.1 x.2): ∀ i,i≤m.inputs.toNat→(zfw m d s i x).1.length≤x.1.length+i*cap2 m d
 |0,_=>by rw [zfw];omega
 |i+1,hi=>by
  have c:=h.len_row a b i (by omega)
  have e:=h.len_st (i:=i) a (h.wf_row a b i (by omega))
  rw [zfw,Nat.succ_mul];omega
theorem Bd.len_all(h:Bd m d){x:List Int×Nat}(a:Wf m d x.1 x.2): ∀ s,s≤m.rows.length→(all2 m d s x).1.length≤x.1.length+s*m.inputs.toNat*cap2 m d
 |0,_=>by rw [all2];omega
 |s+1,b=>by
  have c:=h.len_all a s (by omega)
  have e:=h.len_row (s:=s) (by omega) (h.wf_all a s (by omega)) _ (Nat.le_refl _)
  rw [all2,Nat.succ_mul,Nat.add_mul];omega
theorem Bd.wfW(h:Bd m d): ∃ f,Wf m d (zna m d) f:=⟨_,h.wf_all (x:=(wd1 m d m.rows.length,0)) (by have:=h.wf1 m.rows.length (Nat.le_refl _);rwa [Nat.mod_self] at this) _ (Nat.le_refl _)⟩
theorem Bd.lenW(h:Bd m d):(zna m d).length≤(m.rows.length*m.inputs.toNat+m.rows.length+1)*cap2 m d:=by
 have b:=h.len1 m.rows.length (Nat.le_refl _)
 have a:=h.len_all (x:=(wd1 m d m.rows.length,0)) (by have:=h.wf1 m.rows.length (Nat.le_refl _);rwa [Nat.mod_self] at this) _ (Nat.le_refl _)
 unfold zna
 rw [Nat.add_assoc,Nat.add_mul]
 dsimp only at a
 omega
/-! ### What is in front-/
theorem go_pre{s:Nat}{x:List Int×Nat}:x.1<+:go2 m d s x:=by
 unfold go2
 split
 ·exact List.prefix_refl _
 ·exact List.prefix_append _ _
theorem q0o{s i:Nat}{x:List Int×Nat}:x.1<+:(st2 m d s i x).1:=go_pre.trans (List.prefix_append _ _)
theorem zwf{s:Nat}{x:List Int×Nat}: ∀ i,x.1<+:(zfw m d s i x).1
 |0=>List.prefix_refl _
 |i+1=>(zwf i).trans q0o
theorem zqz{s:Nat}{x:List Int×Nat}{i:Nat}: ∀ j,i≤j→(zfw m d s i x).1<+:(zfw m d s j x).1
 |0,h=>by rw [show i=0 by omega];exact List.prefix_refl _
 |j+1,h=>by
  by_cases e:i=j+1
  ·subst e;exact List.prefix_refl _
  ·exact(zqz j (by omega)).trans q0o
theorem zms{x:List Int×Nat}{s:Nat}: ∀ t,s≤t→(all2 m d s x).1<+:(all2 m d t x).1
 |0,h=>by rw [show s=0 by omega];exact List.prefix_refl _
 |t+1,h=>by
  by_cases e:s=t+1
  ·subst e;exact List.prefix_refl _
  ·exact(zms t (by omega)).trans (zwf _)
theorem zry{k:Nat}: ∀ j,k≤j→wd1 m d k<+:wd1 m d j
 |0,h=>by rw [show k=0 by omega];exact List.prefix_refl _
 |j+1,h=>by
  by_cases e:k=j+1
  ·subst e;exact List.prefix_refl _
  ·exact(zry j (by omega)).trans (List.prefix_append _ _)
end build
end GV
end Go.Proofs.YtplgbkaollfmkaaGreat

namespace Go.Proofs.YtplgbkaollfmkaaGreat
namespace GV
set_option maxRecDepth 100000
section build
variable {m : Mach} {d : List Int}
theorem Bd.wf10(h:Bd m d):Wf m d (wd1 m d m.rows.length,0).1 (wd1 m d m.rows.length,0).2:=by
 have:=h.wf1 m.rows.length (Nat.le_refl _)
 rwa [Nat.mod_self] at this
end build
end GV
end Go.Proofs.YtplgbkaollfmkaaGreat
