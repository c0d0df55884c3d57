
import Derived.Test.YtplgbkaollfmkaaGreatLaw39s
import Derived.Test.YtplgbkaollfmkaaGreatSpec06e
import Derived.Test.YtplgbkaollfmkaaGreatSpec06k
set_option linter.unusedVariables false
set_option linter.unusedSimpArgs false
namespace Go.Proofs.YtplgbkaollfmkaaGreat
namespace GV
set_option maxRecDepth 100000
theorem zwo{P:List BE}(b: ∀ i j,i<P.length→j<P.length→(P.getD i default).st=(P.getD j default).st→i=j){j:Nat}: ∀ k,k≤P.length→j<k→wdOf (P.take k) (P.getD j default).st=(P.getD j default).wd
 |0,_,d=>by omega
 |k+1,g,d=>by
  rw [zdu P k (by omega),zg4]
  by_cases e:j=k
  ·subst e
   have a:occ (P.take j) (P.getD j default).st=false:=by
    cases hc:occ (P.take j) (P.getD j default).st with
    |false=>rfl
    |true=>
     obtain⟨i,hi,c⟩:=z4p.1 hc
     rw [List.length_take] at hi
     have f:(P.take j).getD i default=P.getD i default:=by simp only [List.getD_eq_getElem?_getD,List.getElem?_take,if_pos (show i<j by omega)]
     rw [f] at c
     have:=b i j (by omega) (by omega) c
     omega
   rw [a,if_neg (by decide),if_pos rfl]
  ·have ih:=zwo b k (by omega) (show j<k by omega)
   have a:occ (P.take k) (P.getD j default).st=true:=z4p.2 ⟨j,by rw [List.length_take];omega,by simp only [List.getD_eq_getElem?_getD,List.getElem?_take,if_pos (show j<k by omega)]⟩
   rw [if_pos a,ih]
theorem q85{P:List BE}(a: ∀ i j,i<P.length→j<P.length→(P.getD i default).st=(P.getD j default).st→i=j){j:Nat}(b:j<P.length):wdOf P (P.getD j default).st=(P.getD j default).wd:=by
 have:=zwo a (j:=j) P.length (Nat.le_refl _) b
 rwa [List.take_length] at this
theorem zfx{P:List BE}:(z16 P).length=P.length:=by simp [z16]
theorem zxc{P:List BE}{k:Nat}(h:k<P.length):ix (z16 P) (k:Int)=((P.getD k default).st:Int):=by
 unfold z16
 rw [dn,List.getD_eq_getElem?_getD,List.getElem?_map,List.getElem?_eq_getElem h,List.getD_eq_getElem?_getD,List.getElem?_eq_getElem h];rfl
def zbl(P:List BE):List (List Int):=P.map fun e=>e.wd
theorem z9i{P:List BE}:(zbl P).length=P.length:=by simp [zbl]
theorem zlf{P:List BE}{k:Nat}(h:k<P.length):ix (zbl P) (k:Int)=(P.getD k default).wd:=by
 unfold zbl
 rw [dn,List.getD_eq_getElem?_getD,List.getElem?_map,List.getElem?_eq_getElem h,List.getD_eq_getElem?_getD,List.getElem?_eq_getElem h];rfl
theorem zwq{m:Mach}{x:BE}{All:List BE}{i:Nat}(h:0≤ed m x.st i):push m x All i=if occ All (ed m x.st i).toNat=true then All else All++[⟨(ed m x.st i).toNat,x.st,i,x.wd++[(i:Int)]⟩]:=by
 unfold push
 rw [if_neg (by omega)]
section leads
variable {N : Nat} {m : Mach} {s0 : Nat}
theorem zqf(a:MOk m)(c:mr m=true){s i:Nat}(b:s<m.rows.length)(hi:i<m.inputs.toNat):0≤ed m s i∧ed m s i<m.rows.length:=by
 have e:=a.row s b
 have d:=zov a c b (i:=i) (by omega)
 rcases zcr a b hi with h|h
 ·have f:0≤ed m s i:=d
  omega
 ·exact h
theorem zit{p k:Nat}{All:List BE}(h:Inv m s0 p k All): ∀ j,j<All.length→(All.getD j default).wd.length≤j:=by
 intro j
 induction j using Nat.strongRecOn with
 |ind j ih=>
  intro a
  by_cases h0:0<j
  ·obtain⟨q,i,b,_,_,_,c,_⟩:=h.par j h0 a
   have:=ih q b (by omega)
   rw [c,List.length_append,List.length_singleton];omega
  ·rw [show j=0 by omega,h.root];exact Nat.le_refl _
theorem zzz(d:MOk m)(z:mr m=true)(I:200≤N){p:Nat}{All:List BE}(h:Inv m s0 p 0 All)(f:p<All.length):
 z0t N m (p:Int) (z16 All) N 0 (o9 m.rows.length All) (z08 m.rows.length All) (z16 All)=
  some (o9 m.rows.length (z0p m (All.getD p default) All m.inputs.toNat),z08 m.rows.length (z0p m (All.getD p default) All m.inputs.toNat),z16 (z0p m (All.getD p default) All m.inputs.toNat)):=by
 have B:=d.i1;have C:=d.i2;have D:=d.r2
 have a:=h.rng p f
 have hrow:=d.row (All.getD p default).st a
 have g:ix (z16 All) (p:Int)=((All.getD p default).st:Int):=zxc f
 have j:ix m.rows (ix (z16 All) (p:Int))=m.rows.getD (All.getD p default).st default:=by rw [g,dn]
 refine kz (σ:=List (List Int)×List Bool×List Int) (fun F i x=>z0t N m (p:Int) (z16 All) F (i:Int) x.1 x.2.1 x.2.2) m.inputs.toNat
  (fun i x=>x=(o9 m.rows.length (z0p m (All.getD p default) All i),z08 m.rows.length (z0p m (All.getD p default) All i),z16 (z0p m (All.getD p default) All i))) _ (fun F i x hi o=> .inr ?_) (fun F x o=>?_) N 0 (_,_,_) (Nat.zero_le _) (by omega) rfl
 ·subst o
  refine⟨_,rfl,?_⟩
  have hI:=zg0 d h f i (by omega)
  have hpre:=z2p m (All.getD p default) All i
  have b:p<(z0p m (All.getD p default) All i).length:=Nat.lt_of_lt_of_le f hpre.length_le
  have k:(z0p m (All.getD p default) All i).getD p default=All.getD p default:=zez hpre f
  obtain⟨l,q⟩:=zqf d z a hi
  have r:(ix (m.rows.getD (All.getD p default).st default) (i:Int)).to=ed m (All.getD p default).st i:=rfl
  have hlen:=zc4 hI
  have s:=zit hI p b
  rw [k] at s
  rw [show z0p m (All.getD p default) All (i+1)=push m (All.getD p default) (z0p m (All.getD p default) All i) i from rfl,zwq l]
  have c:=q85 hI.dis b
  rw [k] at c
  generalize z0p m (All.getD p default) All i=A at hI b hlen c⊢
  generalize All.getD p default=x at*
  have E:okI (m.rows.getD x.st default) (i:Int):=ql (by omega)
  have y:okI (z08 m.rows.length A) (ed m x.st i):=⟨l,by rw [z4a];exact q⟩
  have G:okI (o9 m.rows.length A) (ed m x.st i):=⟨l,by rw [z0x];exact q⟩
  have H:okI (o9 m.rows.length A) ((x.st:Nat):Int):=ql (by rw [z0x];exact a)
  have t:ix (o9 m.rows.length A) ((x.st:Nat):Int)=x.wd:=by rw [dn,z5q a,c]
  have u:ix (z08 m.rows.length A) (ed m x.st i)=occ A (ed m x.st i).toNat:=zqw l q
  simp only [z0t]
  rw [j,ui (by omega)]
  refine(q8 (x:=(o9 m.rows.length (if occ A (ed m x.st i).toNat=true then A else A++[⟨(ed m x.st i).toNat,x.st,i,x.wd++[(i:Int)]⟩]),z08 m.rows.length (if occ A (ed m x.st i).toNat=true then A else A++[⟨(ed m x.st i).toNat,x.st,i,x.wd++[(i:Int)]⟩]),z16 (if occ A (ed m x.st i).toNat=true then A else A++[⟨(ed m x.st i).toNat,x.st,i,x.wd++[(i:Int)]⟩]))) ?_).trans (zh (qh (by omega)))
  rw [zh E,r,zh y,u]
  cases ho:occ A (ed m x.st i).toNat
  ·refine(ct rfl).trans ?_
   have v:fits 8 x.wd ([(i:Int)]:List Int):=⟨by rw [List.length_singleton];omega,by rw [List.length_singleton];omega⟩
   have w:fits 8 (z16 A) ([ed m x.st i]:List Int):=⟨by rw [List.length_singleton,zfx];omega,by rw [List.length_singleton,zfx];omega⟩
   rw [zh y,g,zh H,t,q8 zwl,zh v,zh G,zh w,if_neg Bool.false_ne_true]
   refine congrArg some (Prod.ext ?_ (Prod.ext ?_ ?_))
   ·exact zlt (n:=m.rows.length) (P:=A) (e:=⟨(ed m x.st i).toNat,x.st,i,x.wd++[(i:Int)]⟩) (by show (ed m x.st i).toNat<_;omega) ho
   ·exact zk6 (n:=m.rows.length) (All:=A) (e:=⟨(ed m x.st i).toNat,x.st,i,x.wd++[(i:Int)]⟩) (by show (ed m x.st i).toNat<_;omega)
   ·show z16 A++[ed m x.st i]=z16 (A++[_])
    unfold z16
    rw [List.map_append]
    show _=_++[(((ed m x.st i).toNat:Nat):Int)]
    rw [Int.toNat_of_nonneg l]
  ·rw [if_pos rfl];exact cf rfl
 ·subst o
  simp only [z0t]
  rw [j,uh (by omega)]
theorem zs9(a:MOk m)(e:mr m=true)(f:200≤N): ∀ (g p F:Nat) (All:List BE),p+g=m.rows.length→p≤All.length→Inv m s0 p 0 All→g<F→
 z1r N m F (p:Int) (o9 m.rows.length All) (z08 m.rows.length All) (z16 All)=some (o9 m.rows.length (bfs m g p All))
 |g,p,0,All,_,_,_,i=>by omega
 |0,p,F+1,All,j,b,h,i=>by
  have:=zc4 h
  simp only [z1r]
  rw [uh (by rw [zfx];omega)];rfl
 |g+1,p,F+1,All,j,b,h,i=>by
  have k:=a.r2
  simp only [z1r]
  by_cases hp:p<All.length
  ·have c:=h.rng p hp
   have d:ix (z16 All) (p:Int)=((All.getD p default).st:Int):=zxc hp
   have hI:=zll (zg0 a h hp m.inputs.toNat (Nat.le_refl _)) (Nat.lt_of_lt_of_le hp (z2p m _ All _).length_le)
   rw [ui (by rw [zfx];omega),zh (ql (by rw [zfx];exact hp)),zh (by rw [d];exact ql c),q8 (zzz a e f h hp),zh (qh (by omega))]
   rw [show bfs m (g+1) p All=bfs m g (p+1) (z0p m (All.getD p default) All m.inputs.toNat) by rw [bfs,if_pos hp]]
   exact zs9 a e f g (p+1) F _ (by omega) (Nat.le_trans hp (z2p m _ All _).length_le) hI (by omega)
  ·rw [uh (by rw [zfx];omega),zrl hp]
theorem ztp(d:MOk m)(f:mr m=true)(g:200≤N)(b:s0<m.rows.length):z7a N m (s0:Int)=some (o9 m.rows.length (rch m s0)):=by
 have i:=d.r2
 unfold z7a
 have c:(mk (m.rows.length:Int) false).length=m.rows.length:=by rw [z6f,List.length_replicate]
 rw [zh ⟨by omega,by omega,by omega⟩,zh ⟨by omega,by omega,by omega⟩,zh (ql (by rw [c];exact b))]
 have j:mk (m.rows.length:Int) ([]:List Int)=o9 m.rows.length [⟨s0,-1,-1,[]⟩]:=by
  rw [z6f]
  refine z5e (by rw [List.length_replicate,z0x]) fun k a=>?_
  rw [List.length_replicate] at a
  rw [z5q a,show ([⟨s0,-1,-1,[]⟩]:List BE)=[]++[⟨s0,-1,-1,[]⟩] from rfl,zg4,List.getD_eq_getElem?_getD,List.getElem?_replicate_of_lt a]
  by_cases h:s0=k
  ·simp [occ,h]
  ·simp [occ,h]
 have l:up (mk (m.rows.length:Int) false) (s0:Int) true=z08 m.rows.length [⟨s0,-1,-1,[]⟩]:=by
  rw [z6f,z1n]
  have o:List.replicate m.rows.length false=z08 m.rows.length []:=by
   refine z5e (by rw [List.length_replicate,z4a]) fun k a=>?_
   rw [List.length_replicate] at a
   rw [z7x a,List.getD_eq_getElem?_getD,List.getElem?_replicate_of_lt a];rfl
  rw [o]
  exact zk6 (n:=m.rows.length) (All:=[]) (e:=⟨s0,-1,-1,[]⟩) b
 rw [j,l]
 refine Eq.trans (q8 (x:=o9 m.rows.length (rch m s0)) ?_) rfl
 exact zs9 d f g m.rows.length 0 N [⟨s0,-1,-1,[]⟩] (by omega) (Nat.zero_le _) (zm2 b) (by omega)
end leads
end GV
end Go.Proofs.YtplgbkaollfmkaaGreat

namespace Go.Proofs.YtplgbkaollfmkaaGreat
namespace GV
set_option maxRecDepth 100000
section leads
variable {N : Nat} {m : Mach} {s0 : Nat}
theorem zvz(b:MOk m){p k:Nat}{All:List BE}(h:Inv m s0 p k All): ∀ j,j<All.length→WOk m.inputs (All.getD j default).wd:=by
 intro j
 have c:=b.i1
 induction j using Nat.strongRecOn with
 |ind j ih=>
  intro d
  by_cases h0:0<j
  ·obtain⟨q,i,f,l,_,_,g,_⟩:=h.par j h0 d
   have:=ih q f (by omega)
   rw [g]
   intro t a
   rw [List.length_append,List.length_singleton] at a
   by_cases e:t<(All.getD q default).wd.length
   ·rw [List.getD_eq_getElem?_getD,List.getElem?_append_left e,←List.getD_eq_getElem?_getD];exact this t e
   ·rw [List.getD_eq_getElem?_getD,List.getElem?_append_right (by omega),show t-(All.getD q default).wd.length=0 by omega]
    exact⟨by show (0:Int)≤(i:Int);omega,by show (i:Int)<_;omega⟩
  ·rw [show j=0 by omega,h.root]
   intro t a;exact absurd a (by simp)
theorem zem(m:Mach): ∀ (s:Int) (w:List Int) (i:Int),uk m s (w++[i])=(z1m m (uk m s w) i).to
 |s,[],i=>rfl
 |s,a::w,i=>by simp only [List.cons_append,uk];exact zem m _ w i
theorem zar{n:Int}{u v:List Int}(a:WOk n u)(b:WOk n v):WOk n (u++v):=fun t c=>by
 rw [List.length_append] at c
 by_cases e:t<u.length
 ·rw [List.getD_eq_getElem?_getD,List.getElem?_append_left e,←List.getD_eq_getElem?_getD];exact a t e
 ·rw [List.getD_eq_getElem?_getD,List.getElem?_append_right (by omega),←List.getD_eq_getElem?_getD];exact b _ (by omega)
theorem zpz{n i:Int}(h:0≤i∧i<n):WOk n [i]:=fun t a=>by
 have e:t=0:=by simpa using a
 subst e;exact h
theorem q4d(a:MOk m)(k:mr m=true)(s:200≤N){p i:Nat}{A:List BE}(hI:Inv m s0 p i A)(t:s0<m.rows.length)(d:p<A.length)(hi:i<m.inputs.toNat):
 ny N m (s0:Int) (p:Int) (i:Int) (zbl A) N true 0=some (!(occ A (ed m (A.getD p default).st i).toNat)):=by
 have l:=a.i1;have o:=a.i2;have q:=a.r2
 have hlen:=zc4 hI
 have f:=zvz a hI
 have g:=zit hI
 obtain⟨u,v⟩:=zqf a k (hI.rng p d) hi
 have hsok:SOk m (s0:Int):= .inr ⟨by omega,by omega⟩
 have hnew:ww N N m (s0:Int) (([]++(ix (zbl A) (p:Int)))++([(i:Int)]:List Int))=some (ed m (A.getD p default).st i):=by
  rw [zlf d,List.nil_append,zin a N _ _ hsok (zar (f p d) (zpz ⟨by omega,by omega⟩)) (by rw [List.length_append,List.length_singleton];have:=g p d;omega),zem,hI.aft p d]
  unfold z1m
  rw [if_neg (by omega)];rfl
 refine kz (σ:=Bool) (fun F n b=>ny N m (s0:Int) (p:Int) (i:Int) (zbl A) F b (n:Int)) A.length
  (fun n b=>b= !((A.take n).any fun e=>decide (e.st=(ed m (A.getD p default).st i).toNat))) _ (fun F n b c j=> .inr ?_) (fun F b j=>?_) N 0 true (Nat.zero_le _) (by omega) rfl
 ·have hold:ww N N m (s0:Int) (ix (zbl A) (n:Int))=some ((A.getD n default).st:Int):=by
   rw [zlf c,zin a N _ _ hsok (f n c) (by have:=g n c;omega),hI.aft n c]
  have r:decide (((A.getD n default).st:Int)≠ed m (A.getD p default).st i)= !(decide ((A.getD n default).st=(ed m (A.getD p default).st i).toNat)):=by
   by_cases h:(A.getD n default).st=(ed m (A.getD p default).st i).toNat
   ·rw [decide_eq_true h,decide_eq_false (by omega)];rfl
   ·rw [decide_eq_false h,decide_eq_true (by omega)];rfl
  refine⟨b&&decide (((A.getD n default).st:Int)≠ed m (A.getD p default).st i),?_,?_⟩
  ·rw [z7j _ A n c,j,r]
   cases (A.take n).any _<;>rfl
  ·simp only [ny]
   rw [ui (by rw [z9i];omega),zh (fun _=>ql (by rw [z9i];exact c)),zek (fun _=>hold),zek (fun _=>hnew)]
   cases b
   ·exact zh (qh (by omega))
   ·exact zh (qh (by omega))
 ·simp only [ny]
  rw [uh (by rw [z9i];omega),j,List.take_length];rfl
theorem q3x(d:MOk m)(n:mr m=true)(o:200≤N){p:Nat}{All:List BE}(h:Inv m s0 p 0 All)(q:s0<m.rows.length)(f:p<All.length):
 ma N m (s0:Int) (p:Int) N 0 (zbl All)=some (Ex.go (zbl (z0p m (All.getD p default) All m.inputs.toNat))):=by
 have r:=d.i1;have s:=d.i2;have t:=d.r2
 refine kz (σ:=List (List Int)) (fun F i x=>ma N m (s0:Int) (p:Int) F (i:Int) x) m.inputs.toNat
  (fun i x=>x=zbl (z0p m (All.getD p default) All i)) _ (fun F i x hi b=> .inr ?_) (fun F x b=>?_) N 0 _ (Nat.zero_le _) (by omega) rfl
 ·subst b
  refine⟨_,rfl,?_⟩
  have hI:=zg0 d h f i (by omega)
  have hpre:=z2p m (All.getD p default) All i
  have a:p<(z0p m (All.getD p default) All i).length:=Nat.lt_of_lt_of_le f hpre.length_le
  have e:(z0p m (All.getD p default) All i).getD p default=All.getD p default:=zez hpre f
  obtain⟨u,v⟩:=zqf d n (h.rng p f) hi
  have hlen:=zc4 hI
  have g:=zit hI p a
  rw [show z0p m (All.getD p default) All (i+1)=push m (All.getD p default) (z0p m (All.getD p default) All i) i from rfl,zwq u]
  have c:=q4d d n o hI q a hi
  have b:ix (zbl (z0p m (All.getD p default) All i)) (p:Int)=(All.getD p default).wd:=by rw [zlf a,e]
  rw [e] at c g
  generalize z0p m (All.getD p default) All i=A at hI a hlen c b⊢
  generalize All.getD p default=x at*
  have j:fits 8 ([]:List Int) (ix (zbl A) (p:Int)):=⟨by rw [b,List.length_nil];omega,by rw [b,List.length_nil];omega⟩
  have k:fits 8 (([]:List Int)++(ix (zbl A) (p:Int))) ([(i:Int)]:List Int):=⟨by rw [b,List.nil_append,List.length_singleton];omega,by rw [b,List.nil_append,List.length_singleton];omega⟩
  have l:fits 24 (zbl A) ([((([]:List Int)++(ix (zbl A) (p:Int)))++([(i:Int)]:List Int))]:List (List Int)):=⟨by simp only [z9i,List.length_singleton];omega,by simp only [z9i,List.length_singleton];omega⟩
  simp only [ma]
  rw [ui (by omega)]
  refine(q8 (x:=zbl (if occ A (ed m x.st i).toNat=true then A else A++[⟨(ed m x.st i).toNat,x.st,i,x.wd++[(i:Int)]⟩])) ?_).trans (zh (qh (by omega)))
  rw [zh (ql (by rw [z9i];exact a)),zh j,zh k,q8 c]
  cases occ A (ed m x.st i).toNat
  ·refine(ct rfl).trans ((zh l).trans ?_)
   rw [if_neg Bool.false_ne_true,b]
   unfold zbl
   rw [List.map_append,List.nil_append];rfl
  ·rw [if_pos rfl];exact cf rfl
 ·subst b
  simp only [ma]
  rw [uh (by omega)]
theorem zw3(a:MOk m)(r:mr m=true)(s:200≤N)(i:s0<m.rows.length){t:Nat}(k: ∃ j,j<(rch m s0).length∧((rch m s0).getD j default).st=t): ∀ (g p F:Nat) (All:List BE),bfs m g p All=rch m s0→p+g=m.rows.length→p≤All.length→Inv m s0 p 0 All→(∀ j,j<p→(All.getD j default).st≠t)→g<F→
 l7 N m (s0:Int) (t:Int) F (p:Int) (zbl All)=some (Ex.rt (wdOf (rch m s0) t))
 |g,p,0,All,_,_,_,_,_,u=>by omega
 |0,p,F+1,All,b,y,l,h,f,u=>by
  have:=zc4 h
  obtain⟨j,n,c⟩:=k
  rw [←b,show bfs m 0 p All=All from rfl] at n c
  exact absurd c (f j (by omega))
 |g+1,p,F+1,All,b,y,l,h,f,u=>by
  have z:=a.r2
  have A:=zdp a i
  by_cases hp:p<All.length
  ·have v:ix (zbl All) (p:Int)=(All.getD p default).wd:=zlf hp
   have hlen:=zc4 h
   have B:=zit h p hp
   have d:ww N N m (s0:Int) (ix (zbl All) (p:Int))=some ((All.getD p default).st:Int):=by
    rw [v,zin a N _ _ (.inr ⟨by omega,by omega⟩) (zvz a h p hp) (by omega),h.aft p hp]
   simp only [l7]
   rw [ui (by rw [z9i];omega)]
   by_cases e:(All.getD p default).st=t
   ·have hpre:All<+:rch m s0:=by rw [←b];exact zwa m _ _ _
    have o:(rch m s0).getD p default=All.getD p default:=zez hpre hp
    have w:=A.wdOf (j:=p) (Nat.lt_of_lt_of_le hp hpre.length_le)
    rw [o,e] at w
    refine(q8 (x:=Ex.rt (Ex.rt (wdOf (rch m s0) t))) ?_).trans rfl
    rw [zh (ql (by rw [z9i];exact hp)),q8 d,ui (by omega),zh (ql (by rw [z9i];exact hp)),v,w]
   ·have hI:=zll (zg0 a h hp m.inputs.toNat (Nat.le_refl _)) (Nat.lt_of_lt_of_le hp (z2p m _ All _).length_le)
    refine(q8 (x:=Ex.go (zbl (z0p m (All.getD p default) All m.inputs.toNat))) ?_).trans ?_
    ·rw [zh (ql (by rw [z9i];exact hp)),q8 d,uh (by omega)]
     exact q3x a r s h i hp
    ·refine Eq.trans zi9 ((zh (qh (by omega))).trans ?_)
     refine zw3 a r s i k g (p+1) F _ ?_ (by omega) (Nat.le_trans hp (z2p m _ All _).length_le) hI (fun j C=>?_) (by omega)
     ·rw [←b,bfs,if_pos hp]
     ·rw [zez (z2p m (All.getD p default) All _) (show j<All.length by omega)]
      by_cases q:j=p
      ·subst q;exact e
      ·exact f j (by omega)
  ·obtain⟨j,n,c⟩:=k
   rw [←b,zrl hp] at n c
   exact absurd c (f j (by omega))
theorem q4k(a:MOk m)(c:mr m=true)(d:200≤N)(b:s0<m.rows.length){t:Nat}(e: ∃ j,j<(rch m s0).length∧((rch m s0).getD j default).st=t):
 sj N m (s0:Int) (t:Int)=some (wdOf (rch m s0) t):=by
 have f:=a.r2
 unfold sj
 refine(q8 (zw3 a c d b e m.rows.length 0 N [⟨s0,-1,-1,[]⟩] rfl (by omega) (Nat.zero_le _) (zm2 b) (fun j g=>by omega) (by omega))).trans rfl
theorem zo6(n:MOk m)(c:(knotsL m).length≤1){s t:Nat}(g:s<m.rows.length)(h:t<m.rows.length):Reach m s t:=by
 have p:=n.r1
 have key: ∀ u,u<m.rows.length→kn1 m u=0:=fun u k=>by
  have o:=za5 m k
  have i:kn1 m u<m.rows.length:=by omega
  by_cases e:kn1 m u=0
  ·exact e
  ·exfalso
   have q:=za5 m (s:=0) (by omega)
   have j:kn1 m 0=0:=by omega
   have hself:=q2i (m:=m) k
   unfold knotsL at c
   rw [List.length_map] at c
   have d:0∈(List.range m.rows.length).filter fun s=>decide (kn1 m s=s):=List.mem_filter.2 ⟨List.mem_range.2 (by omega),decide_eq_true j⟩
   have f:kn1 m u∈(List.range m.rows.length).filter fun s=>decide (kn1 m s=s):=List.mem_filter.2 ⟨List.mem_range.2 i,decide_eq_true hself⟩
   generalize (List.range m.rows.length).filter (fun s=>decide (kn1 m s=s))=L at c d f
   match L,c,d,f with
   | [],_,d,_=>exact absurd d (by simp)
   | [a],_,d,f=>
    have r:0=a:=by simpa using d
    have v:kn1 m u=a:=by simpa using f
    omega
   |a::b::l,c,_,_=>simp only [List.length_cons] at c;omega
 exact((zhz g h).1 ((zpk g h).1 (by rw [key s g,key t h]))).1
theorem zw2(c:MOk m){s t:Nat}(d:s<m.rows.length)(h:Reach m s t): ∃ j,j<(rch m s).length∧((rch m s).getD j default).st=t:=by
 have b:=zdp c d
 induction h with
 |refl=>exact⟨0,b.pos,by rw [b.root]⟩
 | @step a i _ f hi g ih=>
  obtain⟨j,k,e⟩:=ih
  have hrow:=c.row a f
  obtain⟨q,l,n,_⟩:=b.cls j i k (by omega) (by rw [e];show ((m.rows.getD a default).getD i default).to≠ -1;omega)
  refine⟨q,l,?_⟩
  rw [e] at n
  have o:ed m a i=((m.rows.getD a default).getD i default).to:=rfl
  omega
def LD(m:Mach)(s t:Nat):List Int:=wdOf (rch m s) t
theorem zrf(b:MOk m)(g:(knotsL m).length≤1){s t:Nat}(c:s<m.rows.length)(h:t<m.rows.length):WOk m.inputs (LD m s t)∧uk m (s:Int) (LD m s t)=(t:Int)∧(LD m s t).length<m.rows.length:=by
 have a:=zdp b c
 obtain⟨j,d,e⟩:=zw2 b c (zo6 b g c h)
 have f:=a.wdOf d
 rw [e] at f
 have i:=a.wok j d
 have k:=a.aft j d
 have l:=a.le
 unfold LD
 rw [f]
 exact⟨i.1,by rw [k,e],by omega⟩
theorem zzy(a:MOk m)(c:mr m=true)(d:(knotsL m).length≤1)(e:200≤N){s t:Nat}(b:s<m.rows.length)(f:t<m.rows.length):sj N m (s:Int) (t:Int)=some (LD m s t):=
 q4k a c e b (zw2 a b (zo6 a d b f))
end leads
end GV
end Go.Proofs.YtplgbkaollfmkaaGreat

namespace Go.Proofs.YtplgbkaollfmkaaGreat
namespace GV
set_option maxRecDepth 100000
def dst(m:Mach)(d:List Int)(s:Nat):Nat:=(uk m (s:Int) d).toNat
def frm(n s:Nat):Nat:=if s=0 then n-1 else s-1
def brw(m:Mach)(d:List Int)(s:Nat):List Int:=LD m (dst m d (frm m.rows.length s)) s
def wd1(m:Mach)(d:List Int):Nat→List Int
 |0=>d
 |k+1=>wd1 m d k++(brw m d ((k+1)%m.rows.length)++d)
def go2(m:Mach)(d:List Int)(s:Nat)(x:List Int×Nat):List Int:=if x.2=frm m.rows.length s then x.1 else x.1++(LD m (dst m d x.2) (frm m.rows.length s)++d)
def st2(m:Mach)(d:List Int)(s i:Nat)(x:List Int×Nat):List Int×Nat:=(go2 m d s x++(brw m d s++[(i:Int)]++d),(ed m s i).toNat)
def zb9(m:Mach)(d:List Int)(s:Nat):Nat→List Int×Nat→List Int×Nat
 |0,x=>x
 |i+1,x=>st2 m d s i (zb9 m d s i x)
def all2(m:Mach)(d:List Int):Nat→List Int×Nat→List Int×Nat
 |0,x=>x
 |s+1,x=>zb9 m d s m.inputs.toNat (all2 m d s x)
def zak(m:Mach)(d:List Int):List Int:=(all2 m d m.rows.length (wd1 m d m.rows.length,0)).1
structure Wf (m:Mach) (d w:List Int) (f:Nat):Prop where
 lt:f<m.rows.length
 ok:WOk m.inputs w
 ends: ∃ u,w=u++d∧uk m 0 u=(f:Int)
section build
variable {m : Mach} {d : List Int}
structure Bd (m:Mach) (d:List Int):Prop where
 hm:MOk m
 hc:mr m=true
 hk:(knotsL m).length≤1
 hd:WOk m.inputs d
theorem Bd.dst_ok(h:Bd m d){s:Nat}(a:s<m.rows.length):dst m d s<m.rows.length∧uk m (s:Int) d=(dst m d s:Int):=by
 have b:=zav h.hm h.hc (s:Int) d ⟨by omega,by omega⟩ h.hd
 unfold dst
 omega
theorem Bd.frm_lt(h:Bd m d){s:Nat}(a:s<m.rows.length):frm m.rows.length s<m.rows.length:=by
 unfold frm
 split<;>omega
theorem Bd.brw_ok(h:Bd m d){s:Nat}(a:s<m.rows.length):WOk m.inputs (brw m d s)∧uk m (dst m d (frm m.rows.length s):Int) (brw m d s)=(s:Int)∧(brw m d s).length<m.rows.length:=
 zrf h.hm h.hk (h.dst_ok (h.frm_lt a)).1 a
theorem Wf.aft(h:Bd m d){w:List Int}{f:Nat}(a:Wf m d w f):uk m 0 w=(dst m d f:Int):=by
 obtain⟨u,rfl,b⟩:=a.ends
 rw [z0o,b,(h.dst_ok a.lt).2]
theorem Wf.add(h:Bd m d){w v:List Int}{f g:Nat}(a:Wf m d w f)(b:WOk m.inputs v)(c:g<m.rows.length)(e:uk m (dst m d f:Int) v=(g:Int)):Wf m d (w++(v++d)) g:=by
 refine⟨c,zar a.ok (zar b h.hd),w++v,by rw [List.append_assoc],?_⟩
 rw [z0o,a.aft h,e]
theorem Bd.wf0(h:Bd m d):Wf m d d 0:=⟨by have:=h.hm.r1;omega,h.hd,[],rfl,rfl⟩
theorem zb8{n k:Nat}(h:k<n):frm n ((k+1)%n)=k%n:=by
 unfold frm
 by_cases e:k+1=n
 ·subst e
  rw [Nat.mod_self,if_pos rfl,Nat.mod_eq_of_lt (by omega)];omega
 ·rw [Nat.mod_eq_of_lt (show k+1<n by omega),if_neg (by omega),Nat.mod_eq_of_lt h];omega
theorem Bd.wf1(h:Bd m d): ∀ k,k≤m.rows.length→Wf m d (wd1 m d k) (k%m.rows.length)
 |0,_=>by rw [Nat.zero_mod];exact h.wf0
 |k+1,e=>by
  have a:(k+1)%m.rows.length<m.rows.length:=Nat.mod_lt _ (by omega)
  have c:=h.wf1 k (by omega)
  have b:=h.brw_ok a
  rw [zb8 (by omega)] at b
  exact c.add h b.1 a b.2.1
theorem Bd.wf_go(h:Bd m d){s:Nat}(b:s<m.rows.length){x:List Int×Nat}(a:Wf m d x.1 x.2):Wf m d (go2 m d s x) (frm m.rows.length s):=by
 unfold go2
 by_cases e:x.2=frm m.rows.length s
 ·rw [if_pos e,←e];exact a
 ·rw [if_neg e]
  have c:=zrf h.hm h.hk (h.dst_ok a.lt).1 (h.frm_lt b)
  exact a.add h c.1 (h.frm_lt b) c.2.1
theorem Bd.edn(h:Bd m d){s i:Nat}(a:s<m.rows.length)(hi:i<m.inputs.toNat):(ed m s i).toNat<m.rows.length∧(z1m m (s:Int) (i:Int)).to=((ed m s i).toNat:Int):=by
 obtain⟨b,c⟩:=zqf h.hm h.hc a hi
 refine⟨by omega,?_⟩
 unfold z1m
 rw [if_neg (by omega),Int.toNat_of_nonneg b];rfl
theorem Bd.wf_st(h:Bd m d){s i:Nat}(a:s<m.rows.length)(hi:i<m.inputs.toNat){x:List Int×Nat}(e:Wf m d x.1 x.2):Wf m d (st2 m d s i x).1 (st2 m d s i x).2:=by
 have f:=h.wf_go a e
 have b:=h.brw_ok a
 have c:=h.edn a hi
 refine f.add h (zar b.1 (zpz ⟨by omega,by have:=h.hm.i1;omega⟩)) c.1 ?_
 rw [zem,b.2.1,c.2];rfl
theorem Bd.wf_row(h:Bd m d){s:Nat}(a:s<m.rows.length){x:List Int×Nat}(b:Wf m d x.1 x.2): ∀ i,i≤m.inputs.toNat→Wf m d (zb9 m d s i x).1 (zb9 m d s i x).2
 |0,_=>b
 |i+1,hi=>h.wf_st a (by omega) (h.wf_row a b i (by omega))
theorem Bd.wf_all(h:Bd m d){x:List Int×Nat}(a:Wf m d x.1 x.2): ∀ s,s≤m.rows.length→Wf m d (all2 m d s x).1 (all2 m d s x).2
 |0,_=>a
 |s+1,b=>h.wf_row (by omega) (h.wf_all a s (by omega)) _ (Nat.le_refl _)
/-! ### Lengths-/
def cap2(m:Mach)(d:List Int):Nat:=2*m.rows.length+2*d.length
theorem Bd.len1(h:Bd m d): ∀ k,k≤m.rows.length→(wd1 m d k).length≤(k+1)*cap2 m d
 |0,_=>by unfold cap2 wd1;omega
 |k+1,a=>by
  have b:=h.len1 k (by omega)
  have c:=(h.brw_ok (s:=(k+1)%m.rows.length) (Nat.mod_lt _ (by omega))).2.2
  have e:cap2 m d=2*m.rows.length+2*d.length:=rfl
  rw [Nat.succ_mul (k+1)]
  unfold wd1
  rw [List.length_append,List.length_append]
  omega
theorem Bd.len_go(h:Bd m d){s:Nat}(a:s<m.rows.length){x:List Int×Nat}(b:Wf m d x.1 x.2):(go2 m d s x).length≤x.1.length+(m.rows.length-1+d.length):=by
 unfold go2
 by_cases e:x.2=frm m.rows.length s
 ·rw [if_pos e];omega
 ·rw [if_neg e,List.length_append,List.length_append]
  have c:=zrf h.hm h.hk (h.dst_ok b.lt).1 (h.frm_lt a)
  omega
theorem Bd.len_st(h:Bd m d){s i:Nat}(a:s<m.rows.length){x:List Int×Nat}(b:Wf m d x.1 x.2):(st2 m d s i x).1.length≤x.1.length+cap2 m d:=by
 have c:=h.len_go a b
 have e:=(h.brw_ok a).2.2
 unfold st2 cap2
 dsimp only
 rw [List.length_append,List.length_append,List.length_append,List.length_singleton]
 omega
theorem Bd.len_row(h:Bd m d){s:Nat}(a:s<m.rows.length){x:List Int×Nat}(b:Wf m d x.1 x.2): ∀ i,i≤m.inputs.toNat→(zb9 m d s i x).1.length≤x.1.length+i*cap2 m d
 |0,_=>by rw [zb9];omega
 |i+1,hi=>by
  have c:=h.len_row a b i (by omega)
  have e:=h.len_st (i:=i) a (h.wf_row a b i (by omega))
  rw [zb9,Nat.succ_mul];omega
theorem Bd.len_all(h:Bd m d){x:List Int×Nat}(a:Wf m d x.1 x.2): ∀ s,s≤m.rows.length→(all2 m d s x).1.length≤x.1.length+s*m.inputs.toNat*cap2 m d
 |0,_=>by rw [all2];omega
 |s+1,b=>by
  have c:=h.len_all a s (by omega)
  have e:=h.len_row (s:=s) (by omega) (h.wf_all a s (by omega)) _ (Nat.le_refl _)
  rw [all2,Nat.succ_mul,Nat.add_mul];omega
theorem Bd.wfW(h:Bd m d): ∃ f,Wf m d (zak m d) f:=⟨_,h.wf_all (x:=(wd1 m d m.rows.length,0)) (by have:=h.wf1 m.rows.length (Nat.le_refl _);rwa [Nat.mod_self] at this) _ (Nat.le_refl _)⟩
theorem Bd.lenW(h:Bd m d):(zak m d).length≤(m.rows.length*m.inputs.toNat+m.rows.length+1)*cap2 m d:=by
 have b:=h.len1 m.rows.length (Nat.le_refl _)
 have a:=h.len_all (x:=(wd1 m d m.rows.length,0)) (by have:=h.wf1 m.rows.length (Nat.le_refl _);rwa [Nat.mod_self] at this) _ (Nat.le_refl _)
 unfold zak
 rw [Nat.add_assoc,Nat.add_mul]
 dsimp only at a
 omega
/-! ### What is in front-/
theorem go_pre{s:Nat}{x:List Int×Nat}:x.1<+:go2 m d s x:=by
 unfold go2
 split
 ·exact List.prefix_refl _
 ·exact List.prefix_append _ _
theorem q1k{s i:Nat}{x:List Int×Nat}:x.1<+:(st2 m d s i x).1:=go_pre.trans (List.prefix_append _ _)
theorem zpu{s:Nat}{x:List Int×Nat}: ∀ i,x.1<+:(zb9 m d s i x).1
 |0=>List.prefix_refl _
 |i+1=>(zpu i).trans q1k
theorem zml{s:Nat}{x:List Int×Nat}{i:Nat}: ∀ j,i≤j→(zb9 m d s i x).1<+:(zb9 m d s j x).1
 |0,h=>by rw [show i=0 by omega];exact List.prefix_refl _
 |j+1,h=>by
  by_cases e:i=j+1
  ·subst e;exact List.prefix_refl _
  ·exact(zml j (by omega)).trans q1k
theorem zcm{x:List Int×Nat}{s:Nat}: ∀ t,s≤t→(all2 m d s x).1<+:(all2 m d t x).1
 |0,h=>by rw [show s=0 by omega];exact List.prefix_refl _
 |t+1,h=>by
  by_cases e:s=t+1
  ·subst e;exact List.prefix_refl _
  ·exact(zcm t (by omega)).trans (zpu _)
theorem ziz{k:Nat}: ∀ j,k≤j→wd1 m d k<+:wd1 m d j
 |0,h=>by rw [show k=0 by omega];exact List.prefix_refl _
 |j+1,h=>by
  by_cases e:k=j+1
  ·subst e;exact List.prefix_refl _
  ·exact(ziz j (by omega)).trans (List.prefix_append _ _)
end build
end GV
end Go.Proofs.YtplgbkaollfmkaaGreat

namespace Go.Proofs.YtplgbkaollfmkaaGreat
namespace GV
set_option maxRecDepth 100000
theorem zi3{u w:List Int}(h:u<+:w):w.take u.length=u:=by
 obtain⟨v,rfl⟩:=h
 rw [List.take_append_of_le_length (Nat.le_refl _),List.take_length]
theorem zka{d u w:List Int}(h:u++d<+:w):idB d w u.length=true:=by
 obtain⟨v,rfl⟩:=h
 unfold idB
 rw [Bool.and_eq_true,decide_eq_true_iff,decide_eq_true_iff]
 refine⟨by rw [List.length_append,List.length_append];omega,?_⟩
 rw [List.append_assoc,List.drop_left,List.take_left]
theorem ztr{u c w:List Int}(h:u++c<+:w){t:Nat}(a:t<c.length):u.length+t<w.length∧w.getD (u.length+t) default=c.getD t default:=by
 obtain⟨v,rfl⟩:=h
 refine⟨by rw [List.length_append,List.length_append];omega,?_⟩
 rw [List.getD_eq_getElem?_getD,List.append_assoc,List.getElem?_append_right (by omega),Nat.add_sub_cancel_left,List.getElem?_append_left a,←List.getD_eq_getElem?_getD]
theorem zy7{m:Mach}{d w a c b:List Int}(f:a++(d++(b++d))<+:w)(e:c++(d++b)<+:w)(g:d.length+b.length=0∨a.length<c.length)(n:uk m 0 a=uk m 0 c):zc8 m d w (c.length+d.length+b.length):=by
 have h:idB d w c.length=true:=zka ((List.prefix_append _ b).trans (by rw [List.append_assoc];exact e))
 by_cases h0:d.length+b.length=0
 ·refine .inl ?_
  rw [show c.length+d.length+b.length=c.length by omega];exact h
 have s:a.length<c.length:=g.resolve_left h0
 have o:idB d w a.length=true:=zka ((List.prefix_append _ (b++d)).trans (by rw [List.append_assoc];exact f))
 have p:idB d w (a++(d++b)).length=true:=zka (by rw [List.append_assoc,List.append_assoc];exact f)
 have i:a++(d++b)<+:w:=(List.prefix_append _ d).trans (by rw [List.append_assoc,List.append_assoc];exact f)
 have j:a<+:w:=(List.prefix_append _ _).trans i
 have q:c<+:w:=(List.prefix_append _ _).trans e
 have u:=j.length_le
 have r:=e.length_le
 rw [List.length_append,List.length_append] at r
 refine .inr ⟨c.length,by omega,a.length,by omega,⟨by omega,o,h,by rw [zi3 j,zi3 q,n]⟩,d.length+b.length-1,by omega,fun t v=>?_,?_⟩
 ·have k:=ztr i (t:=t) (by rw [List.length_append];omega)
  have l:=ztr e (t:=t) (by rw [List.length_append];omega)
  exact⟨k.1,l.1,by rw [k.2,l.2]⟩
 ·rw [List.length_append,List.length_append] at p
  rwa [show a.length+(d.length+b.length-1)+1=a.length+(d.length+b.length) by omega]
section build
variable {m : Mach} {d : List Int}
theorem Bd.one(h:Bd m d){s:Nat}(a:s<m.rows.length): ∃ u,u++(d++(brw m d s++d))<+:wd1 m d m.rows.length∧uk m 0 u=(frm m.rows.length s:Int):=by
 have b:=h.frm_lt a
 have e:(frm m.rows.length s+1)%m.rows.length=s:=by
  unfold frm
  by_cases h0:s=0
  ·rw [if_pos h0,show m.rows.length-1+1=m.rows.length by omega,Nat.mod_self,h0]
  ·rw [if_neg h0,show s-1+1=s by omega,Nat.mod_eq_of_lt a]
 have c:=h.wf1 (frm m.rows.length s) (by omega)
 rw [Nat.mod_eq_of_lt b] at c
 obtain⟨u,g,i⟩:=c.ends
 refine⟨u,?_,i⟩
 have f:=ziz (m:=m) (d:=d) (k:=frm m.rows.length s+1) m.rows.length b
 rw [show wd1 m d (frm m.rows.length s+1)=wd1 m d (frm m.rows.length s)++(brw m d ((frm m.rows.length s+1)%m.rows.length)++d) from rfl,e,g,List.append_assoc] at f
 exact f
theorem Bd.wf10(h:Bd m d):Wf m d (wd1 m d m.rows.length,0).1 (wd1 m d m.rows.length,0).2:=by
 have:=h.wf1 m.rows.length (Nat.le_refl _)
 rwa [Nat.mod_self] at this
theorem Bd.two(h:Bd m d){s i:Nat}(a:s<m.rows.length)(hi:i<m.inputs.toNat): ∃ z u,z=u++d∧wd1 m d m.rows.length<+:z∧z++(brw m d s++[(i:Int)]++d)<+:zak m d∧uk m 0 u=(frm m.rows.length s:Int):=by
 have b:=h.wf_all h.wf10 s (by omega)
 have c:=h.wf_row a b i (by omega)
 have e:=h.wf_go a c
 obtain⟨u,f,g⟩:=e.ends
 refine⟨go2 m d s (zb9 m d s i (all2 m d s (wd1 m d m.rows.length,0))),u,f,?_,?_,g⟩
 ·exact((zcm (m:=m) (d:=d) (x:=(wd1 m d m.rows.length,0)) (s:=0) s (Nat.zero_le _)).trans (zpu i)).trans go_pre
 ·exact(zml (i:=i+1) m.inputs.toNat hi).trans (zcm (s:=s+1) m.rows.length a)
theorem Bd.checking(h:Bd m d):verR m d (zak m d)=⟨true,[],[]⟩:=by
 have r:=h.hm.r1
 have h1W:wd1 m d m.rows.length<+:zak m d:=zcm (m:=m) (d:=d) (x:=(wd1 m d m.rows.length,0)) (s:=0) m.rows.length (Nat.zero_le _)
 refine q45 (.inl ?_) (fun s a=>?_) fun s a i hi=>?_
 ·exact zka (u:=[]) ((ziz (k:=0) m.rows.length (Nat.zero_le _)).trans h1W)
 ·obtain⟨u,p,f⟩:=h.one a
  have j:(u++(d++brw m d s))++d<+:zak m d:=by
   rw [List.append_assoc,List.append_assoc];exact p.trans h1W
  have q:u++(d++brw m d s)<+:zak m d:=(List.prefix_append _ _).trans j
  have B:=q.length_le
  refine⟨(u++(d++brw m d s)).length,by omega,?_,zka j⟩
  rw [zi3 q,z0o,z0o,f,(h.dst_ok (h.frm_lt a)).2,(h.brw_ok a).2.1]
 ·obtain⟨C,p,f⟩:=h.one a
  obtain⟨z,b,rfl,v,l,n⟩:=h.two a hi
  have g:(b++(d++brw m d s))++([(i:Int)]++d)<+:zak m d:=by
   simp only [List.append_assoc] at l⊢;exact l
  have o:b++(d++brw m d s)<+:zak m d:=(List.prefix_append _ _).trans g
  have w:=(p.trans v).length_le
  simp only [List.length_append] at w
  have y:=zy7 (m:=m) (p.trans h1W) o (by omega) (f.trans n.symm)
  have e:(b++(d++brw m d s)).length=b.length+d.length+(brw m d s).length:=by simp only [List.length_append];omega
  have c:=ztr g (t:=0) (by simp)
  rw [Nat.add_zero,e] at c
  have hend:uk m 0 (b++(d++brw m d s))=(s:Int):=by rw [z0o,z0o,n,(h.dst_ok (h.frm_lt a)).2,(h.brw_ok a).2.1]
  refine⟨b.length+d.length+(brw m d s).length,c.1,?_,c.2,y,.inl ?_⟩
  ·rw [←e,zi3 o,hend]
  ·have A:((b++(d++brw m d s))++[(i:Int)])++d<+:zak m d:=by rw [List.append_assoc];exact g
   have:=zka A
   rwa [List.length_append,e,List.length_singleton] at this
end build
end GV
end Go.Proofs.YtplgbkaollfmkaaGreat
