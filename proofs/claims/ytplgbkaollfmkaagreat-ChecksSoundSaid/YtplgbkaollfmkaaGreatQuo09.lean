import Derived.Test.YtplgbkaollfmkaaGreatEqv09
import Derived.Test.YtplgbkaollfmkaaGreatSpec06k
set_option linter.unusedVariables false
set_option linter.unusedSimpArgs false
namespace Go.Proofs.YtplgbkaollfmkaaGreat
namespace GV
theorem zlo{α:Type}{r:α→α→Prop}(hi: ∀ a,¬r a a)(d: ∀ a b,r a b→ ¬r b a): ∀ {X Y:List α},X.Pairwise r→Y.Pairwise r→(∀ a,a∈X↔a∈Y)→X=Y
 | [],[],_,_,_=>rfl
 | [],y::Y,_,_,h=>by have:=(h y).2 (by simp);simp at this
 |x::X,[],_,_,h=>by have:=(h x).1 (by simp);simp at this
 |x::X,y::Y,i,j,h=>by
  obtain⟨f,k⟩:=List.pairwise_cons.1 i
  obtain⟨g,l⟩:=List.pairwise_cons.1 j
  have e:x=y:=by
   rcases List.mem_cons.1 ((h x).1 (by simp)) with e|m
   ·exact e
   ·rcases List.mem_cons.1 ((h y).2 (by simp)) with e|n
    ·exact e.symm
    ·exact absurd (g x m) (d _ _ (f y n))
  subst e
  rw [zlo hi d k l fun a=>?_]
  constructor
  ·intro c
   rcases List.mem_cons.1 ((h a).1 (List.mem_cons_of_mem _ c)) with e|h'
   ·subst e;exact absurd (f _ c) (hi _)
   ·exact h'
  ·intro c
   rcases List.mem_cons.1 ((h a).2 (List.mem_cons_of_mem _ c)) with e|h'
   ·subst e;exact absurd (g _ c) (hi _)
   ·exact h'
theorem zxr{a b:List Int}(h:llt a b): ¬llt b a:=fun k=>zd3 _ (zb4 h k)
def zqb(P:List BE):List (List Int):=P.map (·.wd)
section
variable {m : Mach} {s0 : Nat} {P : List BE}
theorem getD_map{α β:Type}[Inhabited α][Inhabited β]{X:List α}{f:α→β}{k:Nat}(h:k<X.length):(X.map f).getD k default=f (X.getD k default):=by
 simp [List.getD_eq_getElem?_getD,h]
theorem zn6(h:Rch m s0 P):(zqb P).Pairwise llt:=by
 unfold zqb
 rw [List.pairwise_iff_getElem]
 intro i j hi a b
 rw [List.length_map] at hi a
 have:=h.inc i j b a
 rw [List.getElem_map,List.getElem_map]
 simpa [List.getD_eq_getElem?_getD,hi,a] using this
theorem q51{w:List Int}:w∈zqb P↔ ∃ j,j<P.length∧(P.getD j default).wd=w:=by
 unfold zqb;rw [List.mem_map]
 constructor
 ·rintro⟨e,b,rfl⟩
  obtain⟨j,a,rfl⟩:=List.mem_iff_getElem.1 b
  exact⟨j,a,by simp [List.getD_eq_getElem?_getD,a]⟩
 ·rintro⟨j,a,rfl⟩;exact⟨_,lq a,rfl⟩
def q6b(m:Mach)(s0:Nat)(w:List Int):Prop:=WOk m.inputs w∧w9 m s0 w≠ -1∧ ∀ v,WOk m.inputs v→w9 m s0 v=w9 m s0 w→lle w v
theorem zp7(b:MOk m)(h:Rch m s0 P){w:List Int}:w∈zqb P↔q6b m s0 w:=by
 rw [q51]
 constructor
 ·rintro⟨j,a,rfl⟩
  refine⟨(h.wok j a).1,by rw [h.aft j a];omega,fun v c e=>h.min b a c (by rw [e,h.aft j a])⟩
 ·rintro⟨d,f,g⟩
  obtain⟨j,a,i,k⟩:=h.least b _ w rfl d f
  have l:=g _ (h.wok j a).1 (by rw [h.aft j a,i])
  refine⟨j,a,?_⟩
  rcases k with e|e
  ·exact e
  ·exact absurd e (zdn l)
theorem zzn(o:MOk m){P':List BE}(h:Rch m s0 P)(h':Rch m s0 P'):P=P':=by
 have p:zqb P=zqb P':=zlo zd3 (fun _ _=>zxr) (zn6 h) (zn6 h') fun w=>by rw [zp7 o h,zp7 o h']
 have s:P.length=P'.length:=by have:=congrArg List.length p;simpa [zqb] using this
 have d: ∀ j,j<P.length→(P.getD j default).wd=(P'.getD j default).wd:=fun j c=>by
  have:=congrArg (fun l:List (List Int)=>l.getD j default) p
  simp only [zqb] at this
  rw [getD_map (X:=P) c,getD_map (X:=P') (by omega)] at this
  exact this
 have k: ∀ j,j<P.length→(P.getD j default).st=(P'.getD j default).st:=fun j c=>by
  have e:=h.aft j c
  have n:=h'.aft j (by omega)
  rw [d j c,n] at e
  omega
 refine z5s s fun j c=>?_
 by_cases h0:j=0
 ·subst h0;rw [h.root,h'.root]
 ·obtain⟨q,i,D,hi,e,n,t,_⟩:=h.par j (by omega) c
  obtain⟨q',i',hq',hi',h1',h2',h3',_⟩:=h'.par j (by omega) (by omega)
  have r:=d j c
  rw [t,h3'] at r
  obtain⟨u,v⟩:=List.append_inj' r rfl
  have z:i=i':=by
   have:(i:Int)=(i':Int):=by simpa using v
   omega
  subst z
  have A:(P.getD q default).st=(P'.getD q' default).st:=by
   have B:=h.aft q (by omega)
   have C:=h'.aft q' (by omega)
   rw [u,C] at B
   omega
  have a:=d j c
  have b:=k j c
  rw [A] at e
  have f:(P.getD j default).par=(P'.getD j default).par:=by rw [e,h1']
  have g:(P.getD j default).inp=(P'.getD j default).inp:=by rw [n,h2']
  generalize P.getD j default=x at a b f g⊢
  generalize P'.getD j default=y at a b f g⊢
  cases x;cases y
  simp only at a b f g
  rw [a,b,f,g]
end
/-! ### Homomorphisms-/
def hI(h:Nat→Nat)(z:Int):Int:=if z= -1 then-1 else(h z.toNat:Int)
theorem zqr(h:Nat→Nat):hI h (-1)= -1:=rfl
theorem zdr(h:Nat→Nat)(s:Nat):hI h (s:Int)=(h s:Int):=by unfold hI;rw [if_neg (by omega),Int.toNat_natCast]
structure Hom (m q:Mach) (h:Nat→Nat):Prop where
 ok:MOk m
 ok':MOk q
 inp:q.inputs=m.inputs
 rng: ∀ s,s<m.rows.length→h s<q.rows.length
 out: ∀ s i,s<m.rows.length→i<m.inputs.toNat→ou q (h s) i=ou m s i
 to: ∀ s i,s<m.rows.length→i<m.inputs.toNat→ed q (h s) i=hI h (ed m s i)
section
variable {m q : Mach} {h : Nat → Nat}
theorem Hom.run(H:Hom m q h): ∀ (w:List Int) {s:Nat},s<m.rows.length→WOk m.inputs w→vv q (h s:Int) w=vv m (s:Int) w∧w9 q (h s:Int) w=hI h (w9 m (s:Int) w)
 | [],s,a,_=>⟨rfl,(zdr h s).symm⟩
 |c::w,s,a,b=>by
  have d:0≤c∧c<m.inputs:=b 0 (by simp)
  obtain⟨i,rfl⟩:=Int.eq_ofNat_of_zero_le d.1
  have hi:i<m.inputs.toNat:=by omega
  have hw':WOk m.inputs w:=fun j f=>b (j+1) (by simpa using f)
  rw [z8d,z8d,zos,zos,H.out s i a hi,H.to s i a hi]
  rcases z94 H.ok a hi with e|⟨g,o⟩
  ·rw [e,zqr,zmj,zmj,zi8,zi8,zqr];exact⟨rfl,rfl⟩
  ·obtain⟨t,k⟩:=Int.eq_ofNat_of_zero_le g
   rw [k,zdr]
   obtain⟨l,n⟩:=H.run w (s:=t) (by omega) hw'
   rw [l,n];exact⟨rfl,rfl⟩
def q28(h:Nat→Nat)(e:BE):BE:=⟨h e.st,hI h e.par,e.inp,e.wd⟩
def z3e(h:Nat→Nat)(P:List BE)(j:Nat):Nat:=h (P.getD j default).st
def zcr(h:Nat→Nat)(P:List BE):List BE:=(z9n (z3e h P) P.length).map fun j=>q28 h (P.getD j default)
theorem zso{P:List BE}:(zcr h P).length=cntF (z3e h P) P.length:=by unfold zcr;rw [List.length_map,z7l]
theorem zs1{P:List BE}{c:Nat}(a:c<cntF (z3e h P) P.length):(zcr h P).getD c default=q28 h (P.getD ((z9n (z3e h P) P.length).getD c 0) default):=by
 unfold zcr
 rw [List.getD_eq_getElem?_getD,List.getElem?_map]
 have:=(z7l (f:=z3e h P) P.length).symm▸a
 rw [List.getD_eq_getElem?_getD (l:=z9n _ _),List.getElem?_eq_getElem this]
 rfl
theorem zl5{P:List BE}{u:Nat}(a:u<P.length)(b:z2x (z3e h P) u=true):cntF (z3e h P) u<cntF (z3e h P) P.length∧(zcr h P).getD (cntF (z3e h P) u) default=q28 h (P.getD u default):=by
 have c:=zax (z3e h P) a b
 rw [zs1 c,zmn a b]
 exact⟨c,rfl⟩
theorem q55(H:Hom m q h){s0:Nat}(O:s0<m.rows.length){P:List BE}(a:Rch m s0 P):Rch q (h s0) (zcr h P):=by
 have hm:=H.ok
 have hlen:=zso (h:=h) (P:=P)
 have cs: ∀ c,c<(zcr h P).length→ ∃ u,u<P.length∧z2x (z3e h P) u=true∧cntF (z3e h P) u=c∧(zcr h P).getD c default=q28 h (P.getD u default):=fun c k=>by
  rw [hlen] at k
  obtain⟨f,Q,R⟩:=zb5 k
  exact⟨_,f,Q,R,zs1 k⟩
 have hmono: ∀ u v,u<P.length→v<P.length→lle (P.getD u default).wd (P.getD v default).wd→u≤v:=fun u v b n g=>by
  rcases Nat.lt_or_ge v u with f|f
  ·exact absurd (a.inc v u f b) (zdn g)
  ·exact f
 have f0:z2x (z3e h P) 0=true:=z08.2 fun t K=>by omega
 have rng: ∀ c,c<(zcr h P).length→((zcr h P).getD c default).st<q.rows.length:=fun c k=>by
  obtain⟨u,b,_,_,e⟩:=cs c k
  rw [e];exact H.rng _ (a.rng u b)
 have dis: ∀ i j,i<(zcr h P).length→j<(zcr h P).length→((zcr h P).getD i default).st=((zcr h P).getD j default).st→i=j:=fun i j hi d e=>by
  obtain⟨u,b,fu,rfl,eu⟩:=cs i hi
  obtain⟨v,n,fv,rfl,ev⟩:=cs j d
  rw [eu,ev] at e
  have:z8m (z3e h P) u=z8m (z3e h P) v:=zmu e
  rw [zcl fu,zcl fv] at this
  rw [this]
 refine⟨?_,?_,?_,rng,dis,fun j d=>?_,fun j S d=>?_,fun i j z d=>?_,fun c i k hi l=>?_⟩
 ·rw [hlen];have:=zax (z3e h P) a.pos f0;omega
 ·have A:((zcr h P).map (·.st)).Nodup:=by
   rw [List.nodup_iff_pairwise_ne,List.pairwise_iff_getElem]
   intro i j hi d z e
   rw [List.length_map] at hi d
   rw [List.getElem_map,List.getElem_map] at e
   have:=dis i j hi d (by simpa [List.getD_eq_getElem?_getD,d,hi] using e)
   omega
  have hsub:((zcr h P).map (·.st))⊆List.range q.rows.length:=by
   intro x T
   obtain⟨e,U,rfl⟩:=List.mem_map.1 T
   obtain⟨j,d,rfl⟩:=List.mem_iff_getElem.1 U
   have:=rng j d
   rw [List.mem_range]
   simpa [List.getD_eq_getElem?_getD,d] using this
  have:=List.Nodup.length_le_of_subset A hsub
  simpa using this
 ·obtain⟨_,e⟩:=zl5 a.pos f0
  have V:(zcr h P).getD 0 default=q28 h (P.getD 0 default):=e
  rw [V,a.root];rfl
 ·obtain⟨u,b,_,_,e⟩:=cs j d
  rw [e]
  show w9 q (h s0) (P.getD u default).wd=((h (P.getD u default).st:Nat):Int)
  rw [(H.run _ O (a.wok u b).1).2,a.aft u b,zdr]
 ·obtain⟨u,b,fu,k,e⟩:=cs j d
  have B:0<u:=by
   rcases Nat.eq_zero_or_pos u with o|o
   ·subst o;have:cntF (z3e h P) 0=0:=rfl;omega
   ·exact o
  obtain⟨r,i,W,hi,X,Y,L,M⟩:=a.par u B b
  have fr:z2x (z3e h P) r=true:=z08.2 fun t K C=>by
   have heq':h (P.getD t default).st=h (P.getD r default).st:=C
   have D:=a.inc t r K (by omega)
   have E:=a.rng t (by omega)
   have F:=a.rng r (by omega)
   have w:hI h (ed m (P.getD t default).st i)=((h (P.getD u default).st:Nat):Int):=by
    rw [←H.to _ _ E hi,heq',H.to _ _ F hi,M,zdr]
   have l:ed m (P.getD t default).st i≠ -1:=fun o=>by rw [o,zqr] at w;omega
   obtain⟨v,n,p,g⟩:=a.cls t i (by omega) hi l
   have y:llt (P.getD v default).wd (P.getD u default).wd:=by rw [L];exact zqa g (zmc _ _ D)
   have G:v<u:=by
    have:=hmono v u n b (.inr y)
    rcases Nat.lt_or_ge v u with f|f
    ·exact f
    ·have:v=u:=by omega
     subst this;exact absurd y (zd3 _)
   refine z08.1 fu v G ?_
   show h (P.getD v default).st=h (P.getD u default).st
   rw [←p,zdr] at w
   omega
  obtain⟨N,s⟩:=zl5 (by omega) fr
  refine⟨cntF (z3e h P) r,i,by rw [←k];exact zax _ W fr,by rw [H.inp];exact hi,?_,?_,?_,?_⟩
  ·rw [e,s];show hI h (P.getD u default).par=_;rw [X,zdr];rfl
  ·rw [e];exact Y
  ·rw [e,s];exact L
  ·rw [e,s]
   show ed q (h (P.getD r default).st) i=((h (P.getD u default).st:Nat):Int)
   rw [H.to _ _ (a.rng r (by omega)) hi,M,zdr]
 ·obtain⟨u,b,fu,I,eu⟩:=cs i (by omega)
  obtain⟨v,n,fv,Z,ev⟩:=cs j d
  rw [eu,ev]
  refine a.inc u v ?_ n
  rcases Nat.lt_or_ge u v with f|f
  ·exact f
  ·have:=zob (z3e h P) f;omega
 ·obtain⟨u,b,fu,I,eu⟩:=cs c k
  rw [H.inp] at hi
  rw [eu] at l⊢
  have J:=a.rng u b
  have w:ed q (h (P.getD u default).st) i=hI h (ed m (P.getD u default).st i):=H.to _ _ J hi
  have hne':ed m (P.getD u default).st i≠ -1:=fun o=>l (by show ed q (h (P.getD u default).st) i= -1;rw [w,o];rfl)
  obtain⟨v,n,p,g⟩:=a.cls u i b hi hne'
  obtain⟨r1,r2,r3⟩:=z4i (z3e h P) v
  have fr:=z98 (z3e h P) v
  obtain⟨N,s⟩:=zl5 (h:=h) (u:=z8m (z3e h P) v) (by omega) fr
  refine⟨_,by rw [hlen];exact N,?_,?_⟩
  ·rw [s]
   show ((h (P.getD (z8m (z3e h P) v) default).st:Nat):Int)=ed q (h (P.getD u default).st) i
   have r2':h (P.getD (z8m (z3e h P) v) default).st=h (P.getD v default).st:=r2
   rw [w,←p,zdr,r2']
  ·rw [s]
   show lle (P.getD (z8m (z3e h P) v) default).wd ((P.getD u default).wd++[(i:Int)])
   refine zpe ?_ g
   by_cases e:z8m (z3e h P) v=v
   ·rw [e];exact .inl rfl
   ·exact .inr (a.inc _ _ (by omega) n)
theorem q7c(H:Hom m q h){s0:Nat}(a:s0<m.rows.length):rch q (h s0)=zcr h (rch m s0):=
 zzn H.ok' (zh5 H.ok' (H.rng _ a)) (q55 H a (zh5 H.ok a))
end
/-! ### Machines with the same responses-/
section
variable {a b : Mach}
end
/-! ### The quotient-/
def zcv(m:Mach):Mach:=⟨m.inputs,m.outputs,(z9n (cls m) m.rows.length).map fun u=>(m.rows.getD u default).map fun e=>⟨hI (cls m) e.to,e.out⟩⟩
def zmx(m:Mach):Mach:=q73 (zcv m)
section
variable {m : Mach}
theorem zhk:(zcv m).rows.length=cntF (cls m) m.rows.length:=by unfold zcv;rw [List.length_map,z7l]
theorem zhj(s:Nat):name (cls m) s=cls m s:=zhl
theorem zh4{s:Nat}(a:s<m.rows.length):cls m s<cntF (cls m) m.rows.length:=by rw [←zhj];exact q4a a
theorem zqw{c:Nat}(a:c<cntF (cls m) m.rows.length):(zcv m).rows.getD c default=(m.rows.getD ((z9n (cls m) m.rows.length).getD c 0) default).map fun e=>⟨hI (cls m) e.to,e.out⟩:=by
 unfold zcv
 dsimp only
 have:=(z7l (f:=cls m) m.rows.length).symm▸a
 rw [List.getD_eq_getElem?_getD,List.getElem?_map,List.getD_eq_getElem?_getD (l:=z9n _ _),List.getElem?_eq_getElem this]
 rfl
theorem zpp(b:MOk m){c i:Nat}(a:c<cntF (cls m) m.rows.length)(hi:i<m.inputs.toNat):ed (zcv m) c i=hI (cls m) (ed m ((z9n (cls m) m.rows.length).getD c 0) i)∧ou (zcv m) c i=ou m ((z9n (cls m) m.rows.length).getD c 0) i:=by
 obtain⟨d,_,_⟩:=zb5 a
 have e:=b.row _ d
 unfold ed ou
 rw [zqw a,getD_map (by omega)]
 exact⟨rfl,rfl⟩
theorem zq1(e:MOk m){s:Nat}(a:s<m.rows.length):(z9n (cls m) m.rows.length).getD (cls m s) 0<m.rows.length∧cls m ((z9n (cls m) m.rows.length).getD (cls m s) 0)=cls m s:=by
 obtain⟨b,c,d⟩:=zb5 (zh4 a)
 refine⟨b,?_⟩
 rw [←zhj,zfn c,d]
theorem zme(a:MOk m):MOk (zcv m):=by
 have e:=zhk (m:=m)
 have k:=a.r1;have l:=a.r2;have n:=zc7 (cls m) m.rows.length
 have o:=zh4 (m:=m) (s:=0) (by omega)
 refine⟨a.i1,a.i2,a.o1,a.o2,by omega,by omega,fun s b=>?_,fun s i b hi=>?_⟩
 ·rw [e] at b
  obtain⟨c,_,_⟩:=zb5 b
  rw [zqw b,List.length_map]
  exact a.row _ c
 ·rw [e] at b
  obtain⟨c,_,_⟩:=zb5 b
  rw [zqw b] at hi⊢
  rw [List.length_map] at hi
  rw [getD_map hi]
  have p:=a.row _ c
  rcases a.edge _ i c hi with⟨d,f⟩|⟨d,f,g,h⟩
  ·left;rw [d,f];exact⟨rfl,rfl⟩
  ·right
   obtain⟨t,j⟩:=Int.eq_ofNat_of_zero_le d
   rw [j,zdr]
   have:=zh4 (m:=m) (s:=t) (by omega)
   exact⟨by show (0:Int)≤(cls m t:Int);omega,by show ((cls m t:Nat):Int)<((zcv m).rows.length:Int);omega,g,h⟩
theorem q3u(b:MOk m):Hom m (zcv m) (cls m):=by
 refine⟨b,zme b,rfl,fun s a=>by rw [zhk];exact zh4 a,fun s i a hi=>?_,fun s i a hi=>?_⟩
 ·obtain⟨c,d⟩:=zq1 b a
  rw [(zpp b (zh4 a) hi).2]
  exact(zn1 b c a d hi).1
 ·obtain⟨c,d⟩:=zq1 b a
  obtain⟨j,f,h⟩:=zn1 b c a d hi
  rw [(zpp b (zh4 a) hi).1]
  unfold hI
  by_cases e:ed m s i= -1
  ·rw [if_pos e,if_pos (f.2 e)]
  ·have g:ed m ((z9n (cls m) m.rows.length).getD (cls m s) 0) i≠ -1:=fun k=>e (f.1 k)
   rw [if_neg e,if_neg g,h g]
theorem zr8:cls m 0=0:=by rw [←zhj,zp6]
theorem q72(a:MOk m):MOk (zmx m):=q4f (zme a)
end
end GV
end Go.Proofs.YtplgbkaollfmkaaGreat
