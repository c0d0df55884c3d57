
import Derived.Test.YtjmlpkkbmnjhcaaGreatHom16j
set_option linter.unusedVariables false
set_option linter.unusedSimpArgs false
set_option linter.unusedSectionVars false
namespace Go.Proofs.YtjmlpkkbmnjhcaaGreat
namespace GV
set_option maxRecDepth 100000
/-! ### told apart-/
def z9w(m:Mach)(s t:Nat):Prop:= ∃ w,WIn (nIn m) w∧yx m s w≠yx m t w
theorem q4y{m:Mach}(h:CM m){s t:Nat}(c:s<m.rows.length)(d:t<m.rows.length)(f: ∀ w,WIn (nIn m) w→w.length<m.rows.length→yx m s w=yx m t w): ∀ w,WIn (nIn m) w→yx m s w=yx m t w:=by
 have a:=h.ok
 have g:=a.r1
 obtain⟨k,n,b,_⟩:=zvx a
 have i:pkc m (m.rows.length-1) s=pkc m (m.rows.length-1) t:=(zgc a _ c d).2 fun w e o=>f w (h.wok.2 e) (by omega)
 have j:pkc m k s=pkc m k t:=q60 (by omega) i
 have l:cls m s=cls m t:=by
  show pkc m m.rows.length s=pkc m m.rows.length t
  rw [za1 a b m.rows.length (by omega) s c,za1 a b m.rows.length (by omega) t d,j]
 exact fun w e=>(q2y a c d).1 l w (h.wok.1 e)
theorem zxx{N:Nat}{m:Mach}(h:CM m){s t:Nat}(d:s<m.rows.length)(f:t<m.rows.length){w:List Int}(a:WIn (nIn m) w)(b:w.length<N)(c:w.length≤100000):z4b N m w (s:Int) (t:Int)=some (if yx m s w=yx m t w then 0 else 1):=by
 have g:(yx m s w).length=w.length:=z1g m s w
 unfold z4b
 rw [qh (h.rrun d a b c),qh (h.rrun f a b c),qh (q1b (by omega) (by omega))]
 by_cases e:yx m s w=yx m t w
 ·rw [decide_eq_true e,cond_true,if_pos e]
 ·rw [decide_eq_false e,cond_false,if_neg e]
theorem zp6{m:Mach}(h:CM m){w:List Int}:WIn (nIn m) w↔Dg m.inputs w:=by
 have b:=h.nin
 constructor
 ·intro a d hd;have:=a d hd;omega
 ·intro a d hd;have:=a d hd;omega
theorem zqc{N:Nat}{m:Mach}(h:CM m)(D:5000≤N)(E:m.rows.length≤6)(f:m.inputs≤3){s t:Nat}(p:s<m.rows.length)(q:t<m.rows.length): ∃ r,z2x N m (s:Int) (t:Int)=some r∧(r.2=true↔z9w m s t)∧(r.2=true→ ∃ w,WIn (nIn m) w∧w.length≤5∧yx m s w≠yx m t w):=by
 have c:=h.ok.i1;have y:=h.ok.r1
 have b: ∀ k,Dg m.inputs (zc8 m.inputs k):=zr4 c
 have hlen: ∀ k,(zc8 m.inputs k).length≤k:=by
  intro k
  induction k with
  |zero=>simp [zc8]
  |succ k ih=>have:=(q2m (K:=m.inputs) (w:=zc8 m.inputs k)).2;show (zfu m.inputs (zc8 m.inputs k)).length≤_;omega
 have hmax:(max (m.rows.length:Int) 2)=((max m.rows.length 2:Nat):Int):=by omega
 have z: ∃ r,pg N m (s:Int) (t:Int) N []=some r∧((∃ w,r=Ex.rt (w,true)∧WIn (nIn m) w∧w.length≤5∧yx m s w≠yx m t w)∨(r=Ex.go ()∧ ∀ w,WIn (nIn m) w→w.length<max m.rows.length 2→yx m s w=yx m t w)):=by
  refine rq (σ:=Unit) (fun F k _=>pg N m (s:Int) (t:Int) F (zc8 m.inputs k)) 364 (fun k _=> ∀ v,Dg m.inputs v→llt v (zc8 m.inputs k)→yx m s v=yx m t v) _ (fun F k _ G hi=>?_) (fun F _ hi=>?_) N 0 () (Nat.zero_le _) (by omega) fun v _ a=>?_
  ·have H:=hlen k
   simp only [pg]
   rw [hmax]
   by_cases u:(zc8 m.inputs k).length<max m.rows.length 2
   ·rw [ut (by omega),qh (zxx h p q ((zp6 h).2 (b k)) (by omega) (by omega))]
    by_cases e:yx m s (zc8 m.inputs k)=yx m t (zc8 m.inputs k)
    ·right
     rw [if_pos e,ul (by decide),qh (zyr (by omega) (by omega) (b k) (by omega))]
     refine⟨(),fun v a g=>?_,rfl⟩
     rcases (zqo c (b k)).2.2 v a g with i|i
     ·rw [i];exact e
     ·exact hi v a i
    ·left
     rw [if_neg e,ut rfl]
     exact⟨_,rfl,.inl ⟨_,rfl,(zp6 h).2 (b k),by omega,e⟩⟩
   ·left
    rw [ul (by omega)]
    exact⟨_,rfl,.inr ⟨rfl,fun w d j=>hi w ((zp6 h).1 d) (.inl (by omega))⟩⟩
  ·have hlong:=zsj m.inputs c f
   simp only [pg]
   rw [hmax,ul (by omega)]
   exact⟨_,rfl,.inr ⟨rfl,fun w d j=>hi w ((zp6 h).1 d) (.inl (by omega))⟩⟩
  ·rcases a with a|⟨_,a⟩
   ·have a:v.length<0:=a
    omega
   ·cases v<;>exact a.elim
 obtain⟨r,A,u⟩:=z
 unfold z2x
 rw [qh A]
 rcases u with⟨w,rfl,x,B,f⟩|⟨rfl,l⟩
 ·rw [z9e]
  exact⟨_,rfl,⟨fun _=>⟨w,x,f⟩,fun _=>rfl⟩,fun _=>⟨w,x,B,f⟩⟩
 ·rw [z6z]
  refine⟨_,rfl,⟨fun n=>by simp at n,fun⟨w,d,o⟩=>absurd (q4y h p q (fun v a C=>l v a (by omega)) w d) o⟩,fun n=>by simp at n⟩
/-! ### merged,by few symbols-/
def Mgd(m:Mach)(s t:Nat):Prop:= ∃ w,WIn (nIn m) w∧yo m s w=yo m t w
def nrm(x:Int×Int):Int×Int:=if x.1=x.2 then(0,0) else if x.1<x.2 then x else(x.2,x.1)
def unx(m:Mach)(x:Int×Int)(i:Int):Int×Int:=nrm (pnx m x i)
theorem q2c{m:Mach}(x:Int×Int)(i:Int):nrm (pnx m (nrm x) i)=if x.1=x.2 then(0,0) else nrm (pnx m x i):=by
 by_cases h:x.1=x.2
 ·rw [if_pos h]
  have:nrm x=(0,0):=by unfold nrm;rw [if_pos h]
  rw [this]
  unfold nrm pnx
  rw [if_pos rfl]
 ·rw [if_neg h]
  by_cases h2:x.1<x.2
  ·have:nrm x=x:=by unfold nrm;rw [if_neg h,if_pos h2]
   rw [this]
  ·have:nrm x=(x.2,x.1):=by unfold nrm;rw [if_neg h,if_neg h2]
   rw [this]
   unfold nrm pnx
   simp only
   by_cases h3:(edI m x.1 i).to=(edI m x.2 i).to
   ·rw [if_pos h3.symm,if_pos h3]
   ·rw [if_neg (fun e=>h3 e.symm),if_neg h3]
    by_cases h4:(edI m x.1 i).to<(edI m x.2 i).to
    ·rw [if_pos h4,if_neg (by omega)]
    ·rw [if_neg h4,if_pos (by omega)]
theorem zhm{m:Mach}: ∀ (w:List Int) (x:Int×Int),runT (unx m) (nrm x) w=nrm (runT (pnx m) x w)
 | [],x=>rfl
 |i::w,x=>by
  show runT (unx m) (nrm (pnx m (nrm x) i)) w=nrm (runT (pnx m) (pnx m x i) w)
  rw [q2c]
  by_cases h:x.1=x.2
  ·rw [if_pos h]
   have e:nrm (pnx m x i)=(0,0):=by unfold nrm pnx;rw [if_pos (show (edI m x.1 i).to=(edI m x.2 i).to by rw [h])]
   rw [←e,zhm w]
  ·rw [if_neg h,zhm w]
def InU(x:Int×Int):Prop:=x=(0,0)∨(0≤x.1∧x.1<x.2∧x.2<6)
def q8u:List (Int×Int):=[(0,0),(0,1),(0,2),(1,2),(0,3),(1,3),(2,3),(0,4),(1,4),(2,4),(3,4),(0,5),(1,5),(2,5),(3,5),(4,5)]
theorem q2s{x:Int×Int}(h:InU x):x∈q8u:=by
 obtain⟨a,b⟩:=x
 rcases h with h|⟨c,d,e⟩
 ·rw [h];decide
 ·simp only at c d e
  have f:b=1∨b=2∨b=3∨b=4∨b=5:=by omega
  have g:a=0∨a=1∨a=2∨a=3∨a=4:=by omega
  rcases g with rfl|rfl|rfl|rfl|rfl<;>rcases f with rfl|rfl|rfl|rfl|rfl<;>first|decide|omega
theorem q3f{m:Mach}(d:m.rows.length≤6){x:Int×Int}(a:InP m x):InU (nrm x):=by
 obtain⟨⟨b,e⟩,c,b2⟩:=a
 unfold nrm InU
 by_cases h:x.1=x.2
 ·rw [if_pos h];exact .inl rfl
 ·rw [if_neg h]
  by_cases h2:x.1<x.2
  ·rw [if_pos h2];exact .inr ⟨b,h2,by omega⟩
  ·rw [if_neg h2];exact .inr ⟨c,by show x.2<x.1;omega,by show x.1<6;omega⟩
theorem zv0(x:Int×Int):peq (nrm x)=peq x:=by
 unfold peq nrm
 by_cases h:x.1=x.2
 ·rw [if_pos h,decide_eq_true h];rfl
 ·rw [if_neg h,decide_eq_false h]
  by_cases h2:x.1<x.2
  ·rw [if_pos h2,decide_eq_false h]
  ·rw [if_neg h2];exact decide_eq_false fun e=>h e.symm
theorem zna{m:Mach}(h:CM m)(e:m.rows.length≤6){s t:Nat}(o:s<m.rows.length)(p:t<m.rows.length)(f:Mgd m s t): ∃ w,WIn (nIn m) w∧w.length≤15∧yo m s w=yo m t w:=by
 obtain⟨v,d,g⟩:=f
 have is:InS m (s:Int):=⟨by omega,by omega⟩
 have it:InS m (t:Int):=⟨by omega,by omega⟩
 have j:InP m ((s:Int),(t:Int)):=⟨is,it⟩
 have q:=h.nin
 have k:peq (runT (unx m) (nrm ((s:Int),(t:Int))) v)=true:=by rw [zhm,zv0];exact(h.mrg is it d).2 g
 obtain⟨w,a,r⟩:=zha (B:=16) (fun S l b=>by
  have hsub:S⊆q8u:=fun x c=>by
   obtain⟨u,n,rfl⟩:=b x c
   rw [zhm]
   exact q2s (q3f e (zic (next:=pnx m) (P:=InP m) (ni:=nIn m) (fun x i c hi=>h.pnx c (by omega) (by omega)) j n))
  exact List.Nodup.length_le_of_subset l hsub) d k
 refine⟨w,a.1,by omega,?_⟩
 have:=a.2.1
 rw [zhm,zv0] at this
 exact(h.mrg is it a.1).1 this
/-! ### one word for all pairs-/
theorem zlp{m:Mach}{R:Nat→Nat→List Int→Prop}{B:Nat}(hmono: ∀ s t w v,WIn (nIn m) w→WIn (nIn m) v→R s t w→R s t (w++v)): ∀ (P:List (Nat×Nat)),(∀ p∈P,∀ w,WIn (nIn m) w→ ¬R p.1 p.2 w→ ∃ v,WIn (nIn m) v∧v.length≤B∧R p.1 p.2 (w++v))→ ∃ w,WIn (nIn m) w∧w.length≤P.length*B∧ ∀ p∈P,R p.1 p.2 w
 | [],_=>⟨[],WIn.nil,Nat.zero_le _,fun p b=>absurd b List.not_mem_nil⟩
 |p::P,h=>by
  obtain⟨w,c,i,e⟩:=zlp hmono P fun q a=>h q (List.mem_cons_of_mem _ a)
  by_cases b:R p.1 p.2 w
  ·refine⟨w,c,by rw [List.length_cons,Nat.add_mul];omega,fun q a=>?_⟩
   rcases List.mem_cons.1 a with rfl|a
   ·exact b
   ·exact e q a
  ·obtain⟨v,f,g,d⟩:=h p (List.mem_cons_self ..) w c b
   refine⟨w++v,c.append f,by rw [List.length_append,List.length_cons,Nat.add_mul];omega,fun q a=>?_⟩
   rcases List.mem_cons.1 a with rfl|a
   ·exact d
   ·exact hmono _ _ _ _ c f (e q a)
def q1q(n:Nat):List (Nat×Nat):=(List.range n).flatMap fun s=>(List.range s).map fun t=>(s,t)
theorem zfw{n s t:Nat}:(s,t)∈q1q n↔s<n∧t<s:=by
 unfold q1q
 rw [List.mem_flatMap]
 constructor
 ·rintro⟨a,g,h⟩
  obtain⟨b,c,e⟩:=List.mem_map.1 h
  obtain⟨i,j⟩:=Prod.mk.inj e
  have d:=List.mem_range.1 g
  have f:=List.mem_range.1 c
  omega
 ·rintro⟨d,f⟩
  exact⟨s,List.mem_range.2 d,List.mem_map.2 ⟨t,List.mem_range.2 f,rfl⟩⟩
theorem q07: ∀ n,n≤6→(q1q n).length≤15:=by
 intro n a
 have:n=0∨n=1∨n=2∨n=3∨n=4∨n=5∨n=6:=by omega
 rcases this with rfl|rfl|rfl|rfl|rfl|rfl|rfl<;>decide
theorem zgd{m:Mach}(s:Int)(w v:List Int):yx m s (w++v)=yx m s w++yx m (yo m s w) v:=zfr m s w v
theorem q6w{m:Mach}(h:CM m)(r:m.rows.length≤6):(∃ w,WIn (nIn m) w∧Syn m w)↔ ∀ s t,s<m.rows.length→t<s→Mgd m s t:=by
 have u:=h.ok.r1
 constructor
 ·rintro⟨w,c,l⟩ s t d x
  exact⟨w,c,by rw [l s d,l t (by omega)]⟩
 ·intro n
  obtain⟨w,c,_,y⟩:=zlp (m:=m) (R:=fun s t w=>yo m s w=yo m t w) (B:=15) (fun s t w v _ _ z=>by rw [z0s,z0s,z]) (q1q m.rows.length) fun p A w c f=>by
   obtain⟨s,t⟩:=p
   obtain⟨d,x⟩:=zfw.1 A
   obtain⟨a,o,ea⟩:=h.aftN d c
   obtain⟨b,q,eb⟩:=h.aftN (show t<m.rows.length by omega) c
   have g:a≠b:=fun e=>f (by show yo m (s:Int) w=yo m (t:Int) w;rw [ea,eb,e])
   have hMab:Mgd m a b:=by
    rcases Nat.lt_or_gt_of_ne g with i|i
    ·obtain⟨v,j,e⟩:=n b a q i;exact⟨v,j,e.symm⟩
    ·exact n a b o i
   obtain⟨v,j,k,e⟩:=zna h r o q hMab
   exact⟨v,j,k,by show yo m (s:Int) (w++v)=yo m (t:Int) (w++v);rw [z0s,z0s,ea,eb,e]⟩
  refine⟨w,c,fun s d=>?_⟩
  by_cases e:s=0
  ·subst e;rfl
  ·exact y (s,0) (zfw.2 ⟨d,by omega⟩)
theorem q0x{m:Mach}(h:CM m)(d:m.rows.length≤6):(∃ w,WIn (nIn m) w∧Hom m w)→ ∀ s t,s<m.rows.length→t<s→Mgd m s t∨z9w m s t:=by
 rintro⟨w,a,b⟩ s t c e
 by_cases hr:yx m s w=yx m t w
 ·exact .inl ⟨w,a,b s t c (by omega) hr⟩
 ·exact .inr ⟨w,a,hr⟩
theorem zza{m:Mach}(h:CM m)(z:m.rows.length≤6)(A: ∀ s t,s<m.rows.length→t<s→Mgd m s t∨z9w m s t): ∃ w,WIn (nIn m) w∧w.length≤225∧Hom m w:=by
 obtain⟨w,k,H,C⟩:=zlp (m:=m) (R:=fun s t w=>yx m s w=yx m t w→yo m s w=yo m t w) (B:=15) (fun s t w v _ _ E g=>by
  rw [zgd,zgd] at g
  have:=(List.append_inj g (by rw [z1g,z1g])).1
  rw [z0s,z0s,E this]) (q1q m.rows.length) fun p F w k i=>by
  obtain⟨s,t⟩:=p
  obtain⟨l,D⟩:=zfw.1 F
  have ht':t<m.rows.length:=by omega
  obtain⟨a,n,ea⟩:=h.aftN l k
  obtain⟨b,o,eb⟩:=h.aftN ht' k
  have g:yx m (s:Int) w=yx m (t:Int) w:=Classical.byContradiction fun d=>i fun c=>absurd c d
  have q:a≠b:=fun e=>i fun _=>by show yo m (s:Int) w=yo m (t:Int) w;rw [ea,eb,e]
  have hMab:Mgd m a b∨z9w m a b:=by
   rcases Nat.lt_or_gt_of_ne q with c|c
   ·rcases A b a o c with⟨v,f,e⟩|⟨v,f,e⟩
    ·exact .inl ⟨v,f,e.symm⟩
    ·exact .inr ⟨v,f,fun d=>e d.symm⟩
   ·exact A a b n c
  rcases hMab with hMab|r
  ·obtain⟨v,f,j,e⟩:=zna h z n o hMab
   exact⟨v,f,j,fun _=>by show yo m (s:Int) (w++v)=yo m (t:Int) (w++v);rw [z0s,z0s,ea,eb,e]⟩
  ·obtain⟨v,f,j,e⟩: ∃ v,WIn (nIn m) v∧v.length<m.rows.length∧yx m a v≠yx m b v:=Classical.byContradiction fun x=>by
    obtain⟨v,f,e⟩:=r
    exact e (q4y h n o (fun u G y=>Classical.byContradiction fun d=>x ⟨u,G,y,d⟩) v f)
   refine⟨v,f,by omega,fun d=>?_⟩
   have d:yx m (s:Int) (w++v)=yx m (t:Int) (w++v):=d
   rw [zgd,zgd,ea,eb] at d
   exact absurd (List.append_inj d (by rw [z1g,z1g])).2 e
 refine⟨w,k,by have:=Nat.mul_le_mul_right 15 (q07 _ z);omega,fun s t l D g=>?_⟩
 rcases Nat.lt_trichotomy s t with c|c|c
 ·exact(C (t,s) (zfw.2 ⟨D,c⟩) g.symm).symm
 ·rw [c]
 ·exact C (s,t) (zfw.2 ⟨l,c⟩) g
/-! ### what the law asks of pairs-/
theorem merged_eq{N:Nat}{m:Mach}(h:CM m)(y:5000≤N)(z:m.rows.length≤6)(A:m.inputs≤3)(ap:Bool): ∃ b,z0i N m ap=some b∧(b=true↔ ∀ s t,s<m.rows.length→t<s→Mgd m s t∨(ap=true∧z9w m s t)):=by
 obtain⟨D,B,l⟩:=q04 h y
 have hcell: ∀ s t,s<m.rows.length→t<m.rows.length→(z2u D s t<0↔ ¬Mgd m s t):=fun s t c d=>by
  rcases l.val s t c d with⟨k,g⟩|⟨w,i,J⟩
  ·exact⟨fun _ ⟨w,i,e⟩=>g w i e,fun _=>by omega⟩
  ·exact⟨fun _=>by omega,fun f=>absurd ⟨w,i.1,(h.mrg (s:=(s:Int)) (t:=(t:Int)) ⟨by omega,by omega⟩ ⟨by omega,by omega⟩ i.1).1 i.2.1⟩ f⟩
 have good:Nat→Nat→Prop:=fun s t=>Mgd m s t∨(ap=true∧z9w m s t)
 have n: ∀ s,s<m.rows.length→ ∃ r,mg N m ap D (s:Int) N 0=some r∧((r=Ex.go ()∧ ∀ t,t<s→Mgd m s t∨(ap=true∧z9w m s t))∨(r=Ex.rt (Ex.rt false)∧ ∃ t,t<s∧ ¬(Mgd m s t∨(ap=true∧z9w m s t)))):=fun s c=>by
  refine rq (σ:=Unit) (fun F t _=>mg N m ap D (s:Int) F (t:Int)) s (fun t _=> ∀ u,u<t→Mgd m s u∨(ap=true∧z9w m s u)) _ (fun F t _ d hi=>?_) (fun F _ hi=>?_) N 0 () (Nat.zero_le _) (by omega) fun u o=>by omega
  ·have ht':t<m.rows.length:=by omega
   obtain⟨q,C,j,_⟩:=zqc h y z A c ht'
   have E:okI D (s:Int):=ky (by rw [l.sh.len];exact c)
   have G:okI (ix D (s:Int)) (t:Int):=ky (by rw [lg,l.sh.row s c];exact ht')
   have H:ix (ix D (s:Int)) (t:Int)=z2u D s t:=rfl
   simp only [mg]
   rw [ut (by omega),qh C,zm E,zm G,H]
   by_cases a:Mgd m s t∨(ap=true∧z9w m s t)
   ·right
    have p:(decide (z2u D s t<0)&&(!(ap&&q.2)))=false:=by
     rcases a with a|⟨k,g⟩
     ·rw [decide_eq_false fun f=>(hcell s t c ht').1 f a,Bool.false_and]
     ·rw [k,j.2 g,Bool.true_and,Bool.not_true,Bool.and_false]
    rw [p,cond_false,zm (j3 (by omega)),uf]
    refine⟨(),fun u o=>?_,rfl⟩
    by_cases e:u=t
    ·subst e;exact a
    ·exact hi u (by omega)
   ·left
    have p:(decide (z2u D s t<0)&&(!(ap&&q.2)))=true:=by
     rw [decide_eq_true ((hcell s t c ht').2 fun f=>a (.inl f)),Bool.true_and]
     cases k:ap with
     |false=>rfl
     |true=>
      cases g:q.2 with
      |false=>rfl
      |true=>exact absurd (.inr ⟨k,j.1 g⟩) a
    rw [p,cond_true]
    exact⟨_,rfl,.inr ⟨rfl,t,d,a⟩⟩
  ·simp only [mg]
   rw [ul (by omega)]
   exact⟨_,rfl,.inl ⟨rfl,hi⟩⟩
 have I: ∃ r,tq N m ap D N 0=some r∧((r=Ex.go ()∧ ∀ s t,s<m.rows.length→t<s→Mgd m s t∨(ap=true∧z9w m s t))∨(r=Ex.rt false∧ ∃ s t,s<m.rows.length∧t<s∧ ¬(Mgd m s t∨(ap=true∧z9w m s t)))):=by
  refine rq (σ:=Unit) (fun F s _=>tq N m ap D F (s:Int)) m.rows.length (fun s _=> ∀ u t,u<s→t<u→Mgd m u t∨(ap=true∧z9w m u t)) _ (fun F s _ c hi=>?_) (fun F _ hi=>?_) N 0 () (Nat.zero_le _) (by omega) fun u t o=>by omega
  ·obtain⟨r,v,x⟩:=n s c
   simp only [tq]
   rw [ut (by omega),qh v]
   rcases x with⟨rfl,a⟩|⟨rfl,t,d,a⟩
   ·right
    rw [z6z,zm (j3 (by omega)),uf]
    refine⟨(),fun u t o d=>?_,rfl⟩
    by_cases e:u=s
    ·subst e;exact a t d
    ·exact hi u t (by omega) d
   ·left
    rw [z9e]
    exact⟨_,rfl,.inr ⟨rfl,s,t,c,d,a⟩⟩
  ·simp only [tq]
   rw [ul (by omega)]
   exact⟨_,rfl,.inl ⟨rfl,hi⟩⟩
 obtain⟨r,v,x⟩:=I
 unfold z0i
 rw [qh B,qh v]
 rcases x with⟨rfl,a⟩|⟨rfl,s,t,c,d,a⟩
 ·rw [z6z];exact⟨_,rfl,fun _=>a,fun _=>rfl⟩
 ·rw [z9e];exact⟨_,rfl,fun f=>(by cases f),fun f=>absurd (f s t c d) a⟩
theorem zjg{m:Mach}(h:CM m)(j:m.rows.length≤6){N:Nat}(n:5000≤N): ∃ z,z2m N m=some z∧((∃ w,z=(w,0)∧w.length≤64∧WIn (nIn m) w∧Syn m w∧ ∀ v,WIn (nIn m) v→Syn m v→lle w v)∨(z=([],7)∧ ∀ v,WIn (nIn m) v→ ¬Syn m v)):=by
 refine⟨_,q3r h n (by omega),?_⟩
 cases e:z8z (stx m) zxs (nIn m) 257 [(z8k m.rows.length,[])] [z8k m.rows.length] with
 |some w=>
  have b:=zcz zbv e
  have k:=(zos h (by omega) b.1).1 b.2.1
  obtain⟨u,c,f⟩:=zlr h (by omega) b.1 k
  have i:2^m.rows.length≤2^6:=Nat.pow_le_pow_right (by decide) j
  have o:=zhl (b.2.2 u c.1 c.2.1)
  exact .inl ⟨w,rfl,by omega,b.1,k,fun v d a=>b.2.2 v d ((zos h (by omega) d).2 a)⟩
 |none=>
  refine .inr ⟨rfl,fun v d a=>?_⟩
  obtain⟨u,c,f⟩:=zlr h (by omega) d a
  have i:2^m.rows.length≤2^6:=Nat.pow_le_pow_right (by decide) j
  obtain⟨w,l,_⟩:=zoq c.1 c.2.1 (g:=257) (by omega)
  rw [e] at l;cases l
theorem zew{m:Mach}(h:CM m)(i:m.rows.length≤6): ∃ z,z11 1000000 m=some z∧((∃ w,z=(w,0)∧w.length≤225∧WIn (nIn m) w∧Hom m w∧ ∀ v,WIn (nIn m) v→Hom m v→lle w v)∨(z=([],7)∧ ∀ v,WIn (nIn m) v→ ¬Hom m v)):=by
 refine⟨_,zwl h i,?_⟩
 have short: ∀ v,WIn (nIn m) v→Hom m v→ ∃ u,WIn (nIn m) u∧u.length≤225∧Hom m u:=fun v c n=>zza h i (q0x h i ⟨v,c,n⟩)
 cases e:z8z (htx m) zzg (nIn m) 257 [(l0 m.rows.length,[])] [l0 m.rows.length] with
 |some w=>
  have d:=zcz zbv e
  have k:=(zkg h (by omega) d.1).1 d.2.1
  obtain⟨u,f,j,a⟩:=short w d.1 k
  have o:=zhl (d.2.2 u f ((zkg h (by omega) f).2 a))
  exact .inl ⟨w,rfl,by omega,d.1,k,fun v c b=>d.2.2 v c ((zkg h (by omega) c).2 b)⟩
 |none=>
  refine .inr ⟨rfl,fun v c b=>?_⟩
  obtain⟨u,f,j,a⟩:=short v c b
  obtain⟨w,l,_⟩:=zoq f ((zkg h (by omega) f).2 a) (g:=257) (by omega)
  rw [e] at l;cases l
theorem zrt{a b:List Int}(h:lle a b)(k:lle b a):a=b:=by
 rcases h with h|h
 ·exact h
 ·exact absurd h (q2a k)
theorem zww{x:Sd}(W:CDOk x):z2d 1000000 x=some true:=by
 obtain⟨m,X,G⟩:=ztc (N:=1000000) W (by omega)
 have h:=G.cm
 have o:=G.rows;have F:=G.ins
 obtain⟨a,Y,k⟩:=zjg h o (N:=1000000) (by omega)
 obtain⟨b,Z,l⟩:=zew h o
 obtain⟨p,hp,H⟩:=merged_eq (N:=1000000) h (by omega) o F false
 obtain⟨q,hq,I⟩:=merged_eq (N:=1000000) h (by omega) o F true
 obtain⟨c,J,A⟩:=zyx (N:=1000000) h (by omega) F
 obtain⟨d,hd,B⟩:=zsi (N:=1000000) h (by omega) F
 have ha':z2m 1000000 (⟨m.inputs,m.outputs,m.rows⟩:Mach)=some a:=Y
 have hb':z11 1000000 (⟨m.inputs,m.outputs,m.rows⟩:Mach)=some b:=Z
 have hp':z0i 1000000 (⟨m.inputs,m.outputs,m.rows⟩:Mach) false=some p:=hp
 have hq':z0i 1000000 (⟨m.inputs,m.outputs,m.rows⟩:Mach) true=some q:=hq
 have hc':z3s 1000000 (⟨m.inputs,m.outputs,m.rows⟩:Mach) 4=some c:=J
 have hd':z2o 1000000 (⟨m.inputs,m.outputs,m.rows⟩:Mach) 4=some d:=hd
 have ep:decide (a.2=0)=p:=by
  have hpi':p=true↔ ∃ w,WIn (nIn m) w∧Syn m w:=by
   rw [H,q6w h o]
   exact⟨fun j s t n r=>(j s t n r).resolve_right (fun⟨e,_⟩=>(by cases e)),fun j s t n r=> .inl (j s t n r)⟩
  rcases k with⟨w,rfl,_,g,i,_⟩|⟨rfl,f⟩
  ·rw [hpi'.2 ⟨w,g,i⟩];rfl
  ·cases hpv:p with
   |false=>rfl
   |true=>obtain⟨w,g,i⟩:=hpi'.1 hpv;exact absurd i (f w g)
 have eq:decide (b.2=0)=q:=by
  have hqi':q=true↔ ∃ w,WIn (nIn m) w∧Hom m w:=by
   rw [I]
   constructor
   ·intro j
    obtain⟨w,g,_,i⟩:=zza h o fun s t n r=>(j s t n r).imp id (·.2)
    exact⟨w,g,i⟩
   ·intro j s t n r
    exact(q0x h o j s t n r).imp id fun e=>⟨rfl,e⟩
  rcases l with⟨w,rfl,_,g,i,_⟩|⟨rfl,f⟩
  ·rw [hqi'.2 ⟨w,g,i⟩];rfl
  ·cases hqv:q with
   |false=>rfl
   |true=>obtain⟨w,g,i⟩:=hqi'.1 hqv;exact absurd i (f w g)
 unfold z2d
 rw [qh X,qh ha',qh hb',qh hp',ep,decide_eq_false (fun j=>j rfl: ¬p≠p),qh (z9n (b:=(true&&(false==false))) rfl hq'),Option.getD_some,eq,decide_eq_false (fun j=>j rfl: ¬q≠q)]
 have K: ∀ w,a=(w,0)→ ∃ yb,(gop (true&&(c.2==true)) (uq 1000000 a.1 c.1))=some yb∧(c.2&&(!(yb.getD default)))=false∧((!c.2)&&(decide (a.2=0))&&(decide ((a.1.length:Int)≤4)))=false:=fun w e=>by
  subst e
  rcases k with⟨w',e',L,g,i,M⟩|⟨e',_⟩
  ·obtain⟨rfl,_⟩:=Prod.mk.inj e'
   rcases A with⟨v,rfl,O,u,z,C⟩|⟨rfl,f⟩
   ·have:w=v:=zrt (M v u z) (C w g i)
    subst this
    exact⟨_,z9n rfl (zkc (by omega) (by show w.length<_;omega) (by show w.length≤_;omega)),by simp,rfl⟩
   ·refine⟨_,zaw rfl,rfl,?_⟩
    have: ¬w.length≤4:=fun j=>f w g j i
    show ((!false)&&decide ((0:Int)=0)&&decide ((w.length:Int)≤4))=false
    rw [decide_eq_false (show¬((w.length:Int)≤4) by omega),Bool.and_false]
  ·cases (Prod.mk.inj e').2
 have P: ∀ w,b=(w,0)→ ∃ yb,(gop (true&&(d.2==true)) (uq 1000000 b.1 d.1))=some yb∧(d.2&&(!(yb.getD default)))=false∧((!d.2)&&(decide (b.2=0))&&(decide ((b.1.length:Int)≤4)))=false:=fun w e=>by
  subst e
  rcases l with⟨w',e',L,g,i,M⟩|⟨e',_⟩
  ·obtain⟨rfl,_⟩:=Prod.mk.inj e'
   rcases B with⟨v,rfl,O,u,z,C⟩|⟨rfl,f⟩
   ·have:w=v:=zrt (M v u z) (C w g i)
    subst this
    exact⟨_,z9n rfl (zkc (by omega) (by show w.length<_;omega) (by show w.length≤_;omega)),by simp,rfl⟩
   ·refine⟨_,zaw rfl,rfl,?_⟩
    have: ¬w.length≤4:=fun j=>f w g j i
    show ((!false)&&decide ((0:Int)=0)&&decide ((w.length:Int)≤4))=false
    rw [decide_eq_false (show¬((w.length:Int)≤4) by omega),Bool.and_false]
  ·cases (Prod.mk.inj e').2
 have Q:a=([],7)→c=([],false):=fun e=>by
  subst e
  rcases k with⟨w',e',_⟩|⟨_,f⟩
  ·cases (Prod.mk.inj e').2
  ·rcases A with⟨v,rfl,O,u,z,C⟩|⟨rfl,_⟩
   ·exact absurd z (f v u)
   ·rfl
 have R:b=([],7)→d=([],false):=fun e=>by
  subst e
  rcases l with⟨w',e',_⟩|⟨_,f⟩
  ·cases (Prod.mk.inj e').2
  ·rcases B with⟨v,rfl,O,u,z,C⟩|⟨rfl,_⟩
   ·exact absurd z (f v u)
   ·rfl
 have qa: ∃ yb,(gop (true&&(c.2==true)) (uq 1000000 a.1 c.1))=some yb∧(c.2&&(!(yb.getD default)))=false∧((!c.2)&&(decide (a.2=0))&&(decide ((a.1.length:Int)≤4)))=false:=by
  rcases k with⟨w,e,_⟩|⟨e,_⟩
  ·exact K w e
  ·rw [Q e,e];exact⟨_,zaw rfl,rfl,rfl⟩
 have qb: ∃ yb,(gop (true&&(d.2==true)) (uq 1000000 b.1 d.1))=some yb∧(d.2&&(!(yb.getD default)))=false∧((!d.2)&&(decide (b.2=0))&&(decide ((b.1.length:Int)≤4)))=false:=by
  rcases l with⟨w,e,_⟩|⟨e,_⟩
  ·exact P w e
  ·rw [R e,e];exact⟨_,zaw rfl,rfl,rfl⟩
 obtain⟨ya,S,T,D⟩:=qa
 obtain⟨yb,U,V,E⟩:=qb
 rw [ep] at D
 rw [eq] at E
 have za:((decide (a.2≠0))&&((decide (a.2≠7))||(decide ((a.1.length:Int)≠0))))=false:=by
  rcases k with⟨w,rfl,_⟩|⟨rfl,_⟩<;>rfl
 have zb:((decide (b.2≠0))&&((decide (b.2≠7))||(decide ((b.1.length:Int)≠0))))=false:=by
  rcases l with⟨w,rfl,_⟩|⟨rfl,_⟩<;>rfl
 rw [za,zb]
 simp only [Bool.or_self,cond_false]
 rw [qh hc',qh hd',qh S,T,show ((true&&(false==false))&&(d.2==true))=(true&&(d.2==true)) from rfl,qh U,V,D,E]
 simp only [Bool.or_self,cond_false]
 have sa: ∃ y,gop (true&&((decide (a.2≠0))==false)) (o8 1000000 (⟨m.inputs,m.outputs,m.rows⟩:Mach) a.1)=some y∧((decide (a.2≠0))||(y.getD default))=true:=by
  rcases k with⟨w,rfl,L,g,i,_⟩|⟨rfl,_⟩
  ·have n:o8 1000000 (⟨m.inputs,m.outputs,m.rows⟩:Mach) w=some true:=by
    have:=zmi (N:=1000000) h g (by omega) (by omega)
    rw [zbk.2 i] at this;exact this
   exact⟨_,z9n rfl n,rfl⟩
  ·exact⟨_,zaw rfl,rfl⟩
 have sb: ∃ y,gop (true&&((decide (b.2≠0))==false)) (vk 1000000 (⟨m.inputs,m.outputs,m.rows⟩:Mach) b.1)=some y∧((decide (b.2≠0))||(y.getD default))=true:=by
  rcases l with⟨w,rfl,L,g,i,_⟩|⟨rfl,_⟩
  ·have n:vk 1000000 (⟨m.inputs,m.outputs,m.rows⟩:Mach) w=some true:=by
    have:=zhr (N:=1000000) h g (by omega) (by omega) (by omega)
    rw [zcs.2 i] at this;exact this
   exact⟨_,z9n rfl n,rfl⟩
  ·exact⟨_,zaw rfl,rfl⟩
 obtain⟨y1,e1,e2⟩:=sa
 obtain⟨y2,e3,e4⟩:=sb
 rw [qh e1,e2,show ((true&&(true==true))&&((decide (b.2≠0))==false))=(true&&((decide (b.2≠0))==false)) from rfl,qh e3,e4]
 rw [qh (z9n (by rfl) zaa)]
 rfl
end GV
end Go.Proofs.YtjmlpkkbmnjhcaaGreat

namespace Go.Proofs.YtjmlpkkbmnjhcaaGreat
namespace GV
set_option maxRecDepth 100000
theorem CM.wcheck{m:Mach}(h:CM m){w:List Int}(a:WIn (nIn m) w)(b:w.length≤256):z0f w m.inputs=0:=zwp h.ok.i1 h.ok.i2 (h.wok.1 a) b
theorem CM.mrun{N:Nat}{m:Mach}(h:CM m)(d:5000≤N){s:Nat}(e:s<m.rows.length){w:List Int}(a:WIn (nIn m) w)(b:w.length≤256):z8b N m (s:Int) w=some (yx m s w,0):=by
 have c:z9g m (s:Int)=0:=zo8 h.ok ⟨by omega,by omega⟩
 rw [q5c h.ok.small (by omega) (by omega) (by omega)]
 unfold q61 zwo
 rw [if_neg (by rw [c];simp),if_neg (by rw [h.wcheck a b];simp),if_neg (by rw [c];simp),h.wcheck a b]
theorem CM.maft{N:Nat}{m:Mach}(h:CM m)(d:5000≤N){s:Nat}(e:s<m.rows.length){w:List Int}(a:WIn (nIn m) w)(b:w.length≤256):z5h N m (s:Int) w=some (yo m s w,0):=by
 have c:z9g m (s:Int)=0:=zo8 h.ok ⟨by omega,by omega⟩
 rw [q0c h.ok.small (by omega) (by omega) (by omega)]
 unfold q69 zwo
 rw [if_neg (by rw [c];simp),if_neg (by rw [h.wcheck a b];simp),if_neg (by rw [c];simp),h.wcheck a b]
/-! ### After-/
def zc2(m:Mach)(l w:List Int):List Int:=cpt (z6t (l.map fun s=>yo m s w))
theorem zyp{m:Mach}{l w:List Int}:(zc2 m l w).Pairwise (· < ·):=ztr (zij _)
theorem q0g{m:Mach}{l w:List Int}{z:Int}:z∈zc2 m l w↔ ∃ s∈l,yo m s w=z:=by
 unfold zc2
 rw [zvz,(zgv _).mem_iff,List.mem_map]
theorem zs9{m:Mach}(h:CM m)(q:m.rows.length≤16){l w:List Int}(c:LS16 m.rows.length l)(j:WIn (nIn m) w)(b:w.length≤256):z1e 1000000 m l w=some (zc2 m l w,0):=by
 have hlen:=c.len
 have f:z0b 1000000 m l 1000000 0=some (Ex.go ()):=by
  refine zhq (σ:=Unit) (fun F k _=>z0b 1000000 m l F (k:Int)) l.length (fun _=>()) _ (fun F k a=>?_) (fun F=>?_) (by omega)
  ·obtain⟨r,u⟩:=c.rng _ (z4m a)
   have v:(((decide (l.getD k default<0))||(decide ((m.rows.length:Int)≤l.getD k default)))||((decide ((0:Int)<(k:Int)))&&(decide (l.getD k default≤ix l ((k:Int)-1)))))=false:=by
    rw [decide_eq_false (show¬l.getD k default<0 by omega),decide_eq_false (show¬(m.rows.length:Int)≤l.getD k default by omega)]
    by_cases n:k=0
    ·subst n;rfl
    ·have:=zkf c.ord (show k-1<k by omega) a
     have e:ix l ((k:Int)-1)=l.getD (k-1) default:=by rw [show (k:Int)-1=((k-1:Nat):Int) by omega,lg]
     rw [e,decide_eq_false (show¬l.getD k default≤l.getD (k-1) default by omega),Bool.and_false];rfl
   simp only [z0b]
   rw [ut (by omega),zm (ky a),lg,zm (fun _=>j3 (by omega)),zm (fun o=>?_),v,cond_false,zm (j3 (by omega))];rfl
   have n:0<k:=by
    rw [Bool.and_eq_true] at o
    have:=o.2
    have:=of_decide_eq_true (show decide ((0:Int)<(k:Int))=true by simpa using this)
    omega
   exact⟨by omega,by omega⟩
  ·simp only [z0b]
   rw [ul (by omega)]
 have g:z2v 1000000 m l w 1000000 [] 0=some (l.map fun s=>yo m s w):=by
  refine z7n (fun F k s=>z2v 1000000 m l w F s (k:Int)) l.length (fun k s=>s=(l.take k).map (fun s=>yo m s w)) _ (fun F k s a d=>?_) (fun F s d=>?_) 1000000 [] (by omega) rfl
  ·obtain⟨r,u⟩:=c.rng _ (z4m a)
   have x:s.length=k:=by rw [d,List.length_map,List.length_take];omega
   obtain⟨t,p⟩: ∃ t:Nat,l.getD k default=(t:Int):=⟨(l.getD k default).toNat,by omega⟩
   simp only [z2v]
   rw [ut (by omega),zm (ky a),lg,p,qh (h.maft (by omega) (by omega) j b),zm ⟨by simp only [List.length_singleton];omega,by simp only [List.length_singleton];omega⟩,zm (j3 (by omega)),uf]
   refine⟨_,?_,rfl⟩
   rw [z7d a,List.map_append,d,p];rfl
  ·simp only [z2v]
   rw [ul (by omega),d,List.take_length]
 have i:slices_Sort_int 1000000 (l.map fun s=>yo m s w)=some (z6t (l.map fun s=>yo m s w)):=q1t (by rw [List.length_map];omega)
 have y:slices_Compact_int 1000000 (z6t (l.map fun s=>yo m s w))=some (zc2 m l w):=q95 (by rw [z7y,List.length_map];omega)
 unfold z1e
 rw [qh (h.ready (by omega)),ul (by decide),qh f,z6z,qh (z9y (by omega) (by omega)),h.wcheck j b,ul (by decide),qh g,qh i,qh y,qh ze3]
theorem znw{N:Nat}{m:Mach}(h:CM m)(A:5000≤N)(o:m.rows.length≤16){l w:List Int}(i:LS16 m.rows.length l)(p:WIn (nIn m) w)(q:w.length≤256):z04 N m l w=some (zc2 m l w):=by
 have hlen:=i.len
 have key: ∃ r,au N m l w N [] 0=some r∧(r.Pairwise (· < ·)∧ ∀ z,z∈r↔ ∃ s∈l.take l.length,yo m s w=z):=by
  have v:=rq (fun F k s=>au N m l w F s (k:Int)) l.length (fun k s=>(s.Pairwise (· < ·)∧ ∀ z,z∈s↔ ∃ t∈l.take k,yo m t w=z)∧s.length≤k) (fun r=>r.Pairwise (· < ·)∧ ∀ z,z∈r↔ ∃ s∈l.take l.length,yo m s w=z) (fun F k s c d=> .inr ?_) (fun F s d=>?_) N 0 [] (Nat.zero_le _) (by omega) ⟨⟨List.Pairwise.nil,fun z=>by simp⟩,Nat.zero_le _⟩
  ·exact v
  ·obtain⟨⟨x,y⟩,B⟩:=d
   obtain⟨C,D⟩:=i.rng _ (z4m c)
   obtain⟨t,j⟩: ∃ t:Nat,l.getD k default=(t:Int):=⟨(l.getD k default).toNat,by omega⟩
   obtain⟨r,f,g,b,E⟩:=put_eq (N:=N) (n:=yo m (t:Int) w) x (by omega) (by omega)
   simp only [au]
   rw [ut (by omega),zm (ky c),lg,j,qh (h.raft (by omega) p (by omega)),qh f,zm (j3 (by omega)),uf]
   refine⟨r,⟨⟨g,fun z=>?_⟩,by omega⟩,rfl⟩
   rw [b z,y z,z7d c,j]
   constructor
   ·rintro(rfl|⟨u,a,e⟩)
    ·exact⟨_,List.mem_append.2 (.inr (List.mem_singleton.2 rfl)),rfl⟩
    ·exact⟨u,List.mem_append.2 (.inl a),e⟩
   ·rintro⟨u,a,e⟩
    rcases List.mem_append.1 a with a|a
    ·exact .inr ⟨u,a,e⟩
    ·rw [List.mem_singleton.1 a] at e;exact .inl e.symm
  ·simp only [au]
   rw [ul (by omega)]
   exact⟨s,rfl,d.1⟩
 obtain⟨r,f,g,b⟩:=key
 rw [List.take_length] at b
 unfold z04
 rw [qh f]
 congr 1
 exact q5d g zyp fun z=>by rw [b z,q0g]
/-! ### Home-/
def zgn(m:Mach)(w r:List Int)(s:Nat)(a:Int):Option Int:=if yx m s w=r then(if a≠ -1∧a≠yo m s w then none else some (yo m s w)) else some a
def zd9(m:Mach)(w r:List Int):Nat→Option Int
 |0=>some (-1)
 |k+1=>(zd9 m w r k).bind (zgn m w r k)
def zd7(m:Mach)(w r:List Int):Int×Int:=match zd9 m w r m.rows.length with
 |none=>(0,7)
 |some a=>if a= -1 then(0,7) else(a,0)
theorem zn4{m:Mach}{w r:List Int}{k:Nat}(h:zd9 m w r k=none): ∀ {j},k≤j→zd9 m w r j=none:=by
 intro j a
 induction a with
 |refl=>exact h
 |step _ ih=>unfold zd9;rw [ih];rfl
theorem zt6{N:Nat}{a b:List Int}(c:a.length<N)(d:a.length≤1000000):slices_Equal_int N a b=some (decide (a=b)):=zxo c (by omega)
theorem zpo{N:Nat}{m:Mach}(h:CM m)(g:5000≤N){w r:List Int}(d:WIn (nIn m) w)(c:w.length≤256)(o:r.length=w.length):z0w N m w r=some (zd7 m w r):=by
 have j:=h.ok.r2
 have k:z3x N m w r N (-1) 0=some (match zd9 m w r m.rows.length with|none=>Ex.rt (0,7)|some a=>Ex.go a):=by
  refine z19 (fun F s a=>z3x N m w r F a (s:Int)) m.rows.length (fun s a=>zd9 m w r s=some a) _ (fun F s a i f=>?_) (fun F a f=>?_) N 0 (-1) (Nat.zero_le _) (by omega) rfl
  ·have l:(yx m s w).length=w.length:=z1g m s w
   have b:zd9 m w r (s+1)=zgn m w r s a:=by show (zd9 m w r s).bind _=_;rw [f];rfl
   simp only [z3x]
   rw [ut (by omega),qh (h.mrun g i d c),qh (zt6 (by show (yx m s w).length<N;omega) (by show (yx m s w).length≤_;omega))]
   unfold zgn at b
   by_cases hc:yx m s w=r
   ·rw [if_pos hc] at b
    rw [decide_eq_true hc,Bool.not_true,cond_false,qh (h.maft g i d c)]
    by_cases hb:a≠ -1∧a≠yo m s w
    ·left
     rw [if_pos hb] at b
     rw [zn4 b (by omega)]
     rw [show ((decide (a≠ -1))&&(decide (a≠yo m s w)))=true by rw [decide_eq_true hb.1,decide_eq_true hb.2];rfl,cond_true,z2r,z9e]
    ·right
     rw [if_neg hb] at b
     have:((decide (a≠ -1))&&(decide (a≠yo m s w)))=false:=by
      by_cases h1:a≠ -1
      ·rw [decide_eq_false (fun n=>hb ⟨h1,n⟩),Bool.and_false]
      ·rw [decide_eq_false h1,Bool.false_and]
     rw [this,cond_false,z2r,z6z,zm (j3 (by omega)),uf]
     exact⟨_,b,rfl⟩
   ·right
    rw [if_neg hc] at b
    rw [decide_eq_false hc,Bool.not_false,cond_true,z2r,z6z,zm (j3 (by omega)),uf]
    exact⟨_,b,rfl⟩
  ·simp only [z3x]
   rw [ul (by omega),f]
 unfold z0w zd7
 rw [qh (h.ready (by omega)),ul (by decide),qh (z9y (by omega) (by omega)),h.wcheck d c,ul (by decide),ul (by omega),qh k]
 cases zd9 m w r m.rows.length with
 |none=>rw [z9e]
 |some a=>
  rw [z6z]
  simp only
  by_cases e:a= -1
  ·rw [ut e,if_pos e]
  ·rw [ul e,if_neg e]
theorem zqe{N:Nat}{m:Mach}(h:CM m)(g:5000≤N){w r:List Int}(d:WIn (nIn m) w)(i:w.length≤256):z1j N m w r=some (zd7 m w r):=by
 have j:=h.ok.r2
 have k:ry N m w r N (-1) 0=some (match zd9 m w r m.rows.length with|none=>Ex.rt (0,7)|some a=>Ex.go a):=by
  refine z19 (fun F s a=>ry N m w r F a (s:Int)) m.rows.length (fun s a=>zd9 m w r s=some a) _ (fun F s a f c=>?_) (fun F a c=>?_) N 0 (-1) (Nat.zero_le _) (by omega) rfl
  ·have l:(yx m s w).length=w.length:=z1g m s w
   have b:zd9 m w r (s+1)=zgn m w r s a:=by show (zd9 m w r s).bind _=_;rw [c];rfl
   have hsame:z1b N (yx m s w) r=some (decide (yx m s w=r)):=by
    unfold z1b
    rw [qh (zlb g (by omega) (by omega))]
   simp only [ry]
   rw [ut (by omega),qh (h.rrun f d (by omega) (by omega)),qh hsame]
   unfold zgn at b
   by_cases hc:yx m s w=r
   ·rw [if_pos hc] at b
    rw [decide_eq_true hc,Bool.not_true,cond_false,qh (h.raft f d (by omega))]
    by_cases hb:a≠ -1∧a≠yo m s w
    ·left
     rw [if_pos hb] at b
     rw [zn4 b (by omega)]
     rw [show ((decide (a≠ -1))&&(decide (a≠yo m s w)))=true by rw [decide_eq_true hb.1,decide_eq_true hb.2];rfl,cond_true,z2r,z9e]
    ·right
     rw [if_neg hb] at b
     have:((decide (a≠ -1))&&(decide (a≠yo m s w)))=false:=by
      by_cases h1:a≠ -1
      ·rw [decide_eq_false (fun n=>hb ⟨h1,n⟩),Bool.and_false]
      ·rw [decide_eq_false h1,Bool.false_and]
     rw [this,cond_false,z2r,z6z,zm (j3 (by omega)),uf]
     exact⟨_,b,rfl⟩
   ·right
    rw [if_neg hc] at b
    rw [decide_eq_false hc,Bool.not_false,cond_true,z2r,z6z,zm (j3 (by omega)),uf]
    exact⟨_,b,rfl⟩
  ·simp only [ry]
   rw [ul (by omega),c]
 unfold z1j zd7
 rw [qh k]
 cases zd9 m w r m.rows.length with
 |none=>rw [z9e]
 |some a=>
  rw [z6z]
  simp only
  by_cases e:a= -1
  ·rw [ut e,if_pos e]
  ·rw [ul e,if_neg e]
theorem zyf{m:Mach}(h:CM m){w:List Int}(g:WIn (nIn m) w)(i:Hom m w){s:Nat}(f:s<m.rows.length):zd7 m w (yx m s w)=(yo m s w,0):=by
 obtain⟨t,l,et⟩:=h.aftN f g
 have key: ∀ k,k≤m.rows.length→(zd9 m w (yx m s w) k=some (-1)∧k≤s)∨zd9 m w (yx m s w) k=some (yo m s w):=by
  intro k
  induction k with
  |zero=>intro _;exact .inl ⟨rfl,Nat.zero_le _⟩
  |succ k ih=>
   intro n
   have b: ∀ a,zd9 m w (yx m s w) k=some a→zd9 m w (yx m s w) (k+1)=zgn m w (yx m s w) k a:=fun a e=>by show (zd9 m w (yx m s w) k).bind _=_;rw [e];rfl
   by_cases hc:yx m k w=yx m s w
   ·right
    have ea:yo m k w=yo m s w:=i k s (by omega) f hc
    rcases ih (by omega) with⟨e,_⟩|e
    ·rw [b _ e];unfold zgn;rw [if_pos hc,if_neg (fun c=>c.1 rfl),ea]
    ·rw [b _ e];unfold zgn;rw [if_pos hc,if_neg (fun c=>c.2 ea.symm),ea]
   ·have j:k≠s:=fun e=>hc (by rw [e])
    rcases ih (by omega) with⟨e,d⟩|e
    ·left
     exact⟨by rw [b _ e];unfold zgn;rw [if_neg hc],by omega⟩
    ·right
     rw [b _ e];unfold zgn;rw [if_neg hc]
 unfold zd7
 rcases key m.rows.length (Nat.le_refl _) with⟨_,d⟩|e
 ·omega
 ·rw [e]
  show (if yo m s w= -1 then _ else _)=_
  rw [if_neg (by rw [et];omega)]
/-! ### the laws-/
theorem q8e{a n:Int}(b:0≤a)(c:1≤n):0≤a%n∧a%n<n:=⟨Int.emod_nonneg a (by omega),Int.emod_lt_of_pos a (by omega)⟩
theorem zvl{m:Mach}(h:CM m){w:List Int}(b: ∀ k,k<w.length→0≤w.getD k default∧w.getD k default≤255)(c:Nat):WIn (nIn m) ((w.take c).map fun z=>z%m.inputs)∧((w.take c).map fun z=>z%m.inputs).length≤c:=by
 have j:=h.nin;have d:=h.ok.i1
 refine⟨fun i hi=>?_,by rw [List.length_map,List.length_take];omega⟩
 obtain⟨z,f,rfl⟩:=List.mem_map.1 hi
 obtain⟨k,a,e⟩:=List.mem_iff_getElem.1 (List.mem_of_mem_take f)
 have:=b k a
 rw [List.getD_eq_getElem?_getD,List.getElem?_eq_getElem a] at this
 have g:0≤z:=by rw [←e];exact this.1
 have:=q8e g d
 omega
theorem q53{m:Mach}(h:CM m){w:List Int}(d: ∀ k,k<w.length→0≤w.getD k default∧w.getD k default≤255):xu 1000000 w m 1000000 [] 0=some ((w.take 12).map fun z=>z%m.inputs):=by
 have e:=h.ok.i1
 refine z7n (fun F k s=>xu 1000000 w m F s (k:Int)) (min w.length 12) (fun k s=>s=(w.take k).map fun z=>z%m.inputs) _ (fun F k s g b=>?_) (fun F s b=>?_) 1000000 [] (by omega) rfl
 ·have a:k<w.length:=by omega
  have f:=d k a
  have c:s.length=k:=by rw [b,List.length_map,List.length_take];omega
  simp only [xu]
  rw [decide_eq_true (show (k:Int)<(w.length:Int) by omega),decide_eq_true (show (k:Int)<12 by omega)]
  simp only [Bool.and_self,cond_true]
  rw [zm (ky a),lg,zm (j3 (by omega)),zm ⟨f.1,e⟩,zm ⟨by simp only [List.length_singleton];omega,by simp only [List.length_singleton];omega⟩,zm (j3 (by omega)),uf]
  refine⟨_,?_,rfl⟩
  rw [z7d a,List.map_append,b];rfl
 ·simp only [xu]
  have:(decide ((((min w.length 12:Nat):Int))<(w.length:Int))&&decide (((min w.length 12:Nat):Int)<12))=false:=by
   by_cases c:w.length≤12
   ·rw [decide_eq_false (show¬(((min w.length 12:Nat):Int))<(w.length:Int) by omega),Bool.false_and]
   ·rw [decide_eq_false (show¬(((min w.length 12:Nat):Int))<12 by omega),Bool.and_false]
  rw [this,cond_false,b]
  congr 2
  by_cases c:w.length≤12
  ·rw [Nat.min_eq_left c,List.take_length,List.take_of_length_le c]
  ·rw [Nat.min_eq_right (by omega)]
theorem q5t{m:Mach}(h:CM m)(g:m.rows.length≤6){z:Int×Int}(i:0≤z.1∧z.1≤255): ∃ l,xw 1000000 z m 1000000 [] 0=some l∧LS16 m.rows.length l:=by
 have e:=rq (fun F k s=>xw 1000000 z m F s (k:Int)) m.rows.length (fun k s=>s.Pairwise (· < ·)∧(∀ y∈s,0≤y∧y<(k:Int))∧s.length≤k) (fun r=>LS16 m.rows.length r) (fun F k s j b=> .inr ?_) (fun F s b=>?_) 1000000 0 [] (Nat.zero_le _) (by omega) ⟨List.Pairwise.nil,fun y a=>absurd a List.not_mem_nil,Nat.zero_le _⟩
 ·exact e
 ·obtain⟨d,c,n⟩:=b
  obtain⟨q,f⟩: ∃ q:Nat,z.1=(q:Int):=⟨z.1.toNat,by omega⟩
  simp only [xw]
  rw [ut (by omega),zm ⟨by omega,by show (k:Int)≤8;omega⟩,f,zg0,zm ⟨Int.natCast_nonneg _,by decide⟩]
  by_cases hc:((q/2^k:Nat):Int)%2=1
  ·rw [ut hc,zm ⟨by simp only [List.length_singleton];omega,by simp only [List.length_singleton];omega⟩,z2r,zm (j3 (by omega)),uf]
   refine⟨_,⟨zde d fun y a=>(c y a).2,fun y a=>?_,by simp only [List.length_append,List.length_singleton];omega⟩,rfl⟩
   rcases List.mem_append.1 a with a|a
   ·have:=c y a;omega
   ·rw [List.mem_singleton.1 a];omega
  ·rw [ul hc,z2r,zm (j3 (by omega)),uf]
   exact⟨_,⟨d,fun y a=>by have:=c y a;omega,by omega⟩,rfl⟩
 ·simp only [xw]
  rw [ul (by omega)]
  exact⟨s,rfl,b.1,b.2.1⟩
theorem q3d{N:Nat}{m:Mach}(h:CM m){s:Nat}(a:s<m.rows.length){w:List Int}(b:WIn (nIn m) w)(c:w.length<N)(d:w.length≤100000):z3g N m (s:Int) w=some (yx m s w):=by
 have e: ∀ F (s:Int) out k,z0m N m w F s out k=iy N m w F s out k:=by
  intro F
  induction F with
  |zero=>intro s out k;rfl
  |succ F ih=>
   intro s out k
   simp only [z0m,iy,ih]
 have:=h.rrun a b c d
 unfold ma at this
 unfold z3g
 rw [e];exact this
theorem zxp{x:Sd}(A:CDOk x){w:List Int}(e: ∀ k,k<w.length→0≤w.getD k default∧w.getD k default≤255){z:Int×Int}(B:0≤z.1∧z.1≤255)(f:0≤z.2∧z.2≤255):z2f 1000000 x w z=some true:=by
 obtain⟨m,C,u⟩:=ztc (N:=1000000) A (by omega)
 have h:=u.cm
 have D:=u.rows;have E:=h.ok.r1
 obtain⟨l,F,p⟩:=q5t h D B
 obtain⟨d,G⟩:=zvl h e 12
 have g:=q53 h e
 generalize (w.take 12).map (fun z=>z%m.inputs)=v at d G g
 have H:z1e 1000000 (⟨m.inputs,m.outputs,m.rows⟩:Mach) l v=some (zc2 m l v,0):=zs9 h (by omega) p d (by omega)
 have I:z04 1000000 (⟨m.inputs,m.outputs,m.rows⟩:Mach) l v=some (zc2 m l v):=znw h (by omega) (by omega) p d (by omega)
 have hlen:=p.len
 have J:(zc2 m l v).length≤6:=by
  have:(zc2 m l v).length≤(z6t (l.map fun s=>yo m s v)).length:=zfe _ _
  rw [z7y,List.length_map] at this;omega
 obtain⟨s0,K⟩:=q8e f.1 (show 1≤(m.rows.length:Int) by omega)
 unfold z2f
 rw [qh C,qh g,qh F,qh H,qh (z9n (b:=(true&&((decide ((0:Int)≠0))==false))) rfl I),qh (z9n (b:=(true&&((decide ((0:Int)≠0))==false))) rfl (zkc (a:=zc2 m l v) (b:=((some (zc2 m l v)).getD default)) (by omega) (by omega) (by omega)))]
 rw [show ((some (zc2 m l v)).getD default)=zc2 m l v from rfl,decide_eq_true (rfl:zc2 m l v=zc2 m l v)]
 show (bif ((decide ((0:Int)≠0))||(!((some true).getD default))) then some false else _)=some true
 rw [show ((decide ((0:Int)≠0))||(!((some true).getD default)))=false from rfl,cond_false,zm (j3 (by omega)),zm ⟨f.1,by omega⟩]
 generalize z.2%(m.rows.length:Int)=s at s0 K
 obtain⟨s,rfl⟩: ∃ k:Nat,s=(k:Int):=⟨s.toNat,by omega⟩
 have o:s<m.rows.length:=by omega
 have q:z3g 1000000 (⟨m.inputs,m.outputs,m.rows⟩:Mach) (s:Int) v=some (yx m s v):=q3d h o d (by omega) (by omega)
 have j:(yx m s v).length=v.length:=z1g m s v
 rw [qh q]
 obtain⟨r,hr,hrr⟩: ∃ r,(bif (decide (200<z.2))&&(decide (0<((yx m s v).length:Int))) then(
  gd (in64 (((yx m s v).length:Int)-1))<|
  gd (okI (yx m s v) (((yx m s v).length:Int)-1))<|
  gd (in64 ((ix (yx m s v) (((yx m s v).length:Int)-1))+1))<|
  gd (okI (yx m s v) (((yx m s v).length:Int)-1))<|
  some (up (yx m s v) (((yx m s v).length:Int)-1) ((ix (yx m s v) (((yx m s v).length:Int)-1))+1))) else(
  some (yx m s v)))=some r∧r.length=v.length:=by
  cases hb:((decide (200<z.2))&&(decide (0<((yx m s v).length:Int)))) with
  |false=>rw [cond_false];exact⟨_,rfl,j⟩
  |true=>
   rw [Bool.and_eq_true] at hb
   have hpos:=of_decide_eq_true hb.2
   have n:okI (yx m s v) (((yx m s v).length:Int)-1):=⟨by omega,by omega⟩
   have hout: -1≤ix (yx m s v) (((yx m s v).length:Int)-1)∧ix (yx m s v) (((yx m s v).length:Int)-1)≤16:=by
    have L: ∀ (w:List Int) (s:Int),InS m s→WIn (nIn m) w→ ∀ y∈yx m s w,-1≤y∧y≤16:=by
     intro w
     induction w with
     |nil=>intro s _ _ y c;exact absurd c List.not_mem_nil
     |cons i w ih=>
      intro s o e y c
      have hi:=e.head
      rw [h.nin] at hi
      have M:=h.edge o hi.1 hi.2
      have P:=h.ok.o2
      have c:y∈(z5c m s i).out::yx m (z5c m s i).to w:=c
      rw [zcy o] at c
      rcases List.mem_cons.1 c with rfl|c
      ·omega
      ·exact ih _ M.1 e.tail y c
    refine L v (s:Int) ⟨by omega,by omega⟩ d _ ?_
    rw [show (((yx m s v).length:Int)-1)=(((yx m s v).length-1:Nat):Int) by omega,lg]
    exact z4m (by omega)
   rw [cond_true,zm (j3 (by omega)),zm n,zm (j3 (by omega)),zm n]
   refine⟨_,rfl,?_⟩
   show ((yx m s v).set _ _).length=_
   rw [List.length_set,j]
 rw [qh hr]
 have O:z0w 1000000 (⟨m.inputs,m.outputs,m.rows⟩:Mach) v r=some (zd7 m v r):=zpo h (by omega) d (by omega) hrr
 have t:z1j 1000000 (⟨m.inputs,m.outputs,m.rows⟩:Mach) v r=some (zd7 m v r):=zqe h (by omega) d (by omega)
 rw [qh O,qh t,decide_eq_true (rfl:(zd7 m v r).1=(zd7 m v r).1),decide_eq_true (rfl:(zd7 m v r).2=(zd7 m v r).2),qh (z9n (by rfl) zaa)]
 rfl
end GV
end Go.Proofs.YtjmlpkkbmnjhcaaGreat
