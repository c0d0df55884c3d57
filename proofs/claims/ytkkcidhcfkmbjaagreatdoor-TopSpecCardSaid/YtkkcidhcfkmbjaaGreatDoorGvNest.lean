
import Derived.Test.YtkkcidhcfkmbjaaGreatDoorGvFun
set_option linter.unusedVariables false
set_option linter.unusedSimpArgs false
set_option linter.unusedSectionVars false
namespace Go.Proofs.YtkkcidhcfkmbjaaGreatDoor
namespace GV
def zep:Value→Nat
 | .pointer (some a)=>a.block
 |_=>0
structure NewBox where
 idx:Nat
 cells:List Value
 ty:TypeId
def zm2(o:Oper):List Nat:=(o.after.toList.filter fun e=>Region.binds .any e).map (·.on)
def zc2(os:List Oper)(S:List Nat)(k:Nat):List Nat:=if S.contains k=true then(match os[k]? with|some o=>S++zm2 o|none=>S) else S
def forced(os:List Oper)(o:Oper)(i:Nat):List Nat:=(List.range i).reverse.foldl (zc2 os) (zm2 o)
def z6r(os:List Oper)(listed:Array Bool):Prop:= ∀ (k:Nat) o,os[k]? =some o→listed.getD k false=true→ ∀ e∈o.after,Region.binds .any e=true→listed.getD e.on false=true
theorem za0{listed:Array Bool}{o:Oper}(h: ∀ e∈o.after,Region.binds .any e=true→listed.getD e.on false=true): ∀ j∈zm2 o,listed.getD j false=true:=by
 intro j a
 obtain⟨e,b,rfl⟩:=List.mem_map.1 a
 obtain⟨c,d⟩:=List.mem_filter.1 b
 exact h e (by simpa using c) d
theorem z0j{os:List Oper}{listed:Array Bool}(d:z6r os listed){o:Oper}{i:Nat}(h: ∀ e∈o.after,Region.binds .any e=true→listed.getD e.on false=true): ∀ j∈forced os o i,listed.getD j false=true:=by
 have key: ∀ (ks S:List Nat),(∀ j∈S,listed.getD j false=true)→ ∀ j∈ks.foldl (zc2 os) S,listed.getD j false=true:=by
  intro ks
  induction ks with
  |nil=>exact fun S b=>b
  |cons k ks ih=>
   intro S b
   refine ih _ fun j a=>?_
   unfold zc2 at a
   split at a
   ·rename_i hk
    cases ho:os[k]? with
    |none=>rw [ho] at a;exact b j a
    |some o'=>
     rw [ho] at a
     rcases List.mem_append.1 a with c|c
     ·exact b j c
     ·exact za0 (d k o' ho (b k (by simpa using hk))) j c
   ·exact b j a
 exact key _ _ (za0 h)
section draw
variable (P : Program) (ρ : Option Nat) (gs : List Oper) (al : List NewBox) (φs : List (Value → RH → Prop)) (l0 : Nat → Value) (R0 : RH) (O : List Frag)
def phi(k:Nat):Value→RH→Prop:=φs.getD k fun _ _=>True
def uu(k:Nat):Option Nat:=(gs[k]?).bind (·.dst)
def z7d:List Nat:=gs.filterMap (·.dst)
def zl6(l:Nat→Value)(R:RH):List Edge→Prop
 | []=>True
 |e::r=>(match uu gs e.on with|some d=>Region.binds .any e=true→phi φs e.on (l d) R|none=>True)∧zl6 l R r
def z9q(k:Nat):Option NewBox:=al.find? fun a=>Nat.beq a.idx k
def Stp(k:Nat)(o:Oper)(l:Nat→Value)(R:RH):Prop:=
 match z9q al k with
 |none=>Eff P ρ o l R O fun v R' O'=>O'=O∧phi φs k v R'
 |some a=>o.op= .alloc a.ty∧(∀ w,∃ z,(zeroValue a.ty).run P w= .ok z w∧z.cells=a.cells.toArray)∧ ∀ b R,phi φs k (.pointer (some ⟨b,0,none⟩)) R
def GStep(k:Nat)(o:Oper)(l:Nat→Value)(R:RH):Prop:=
 match o.guard with
 |none=>Stp P ρ al φs O k o l R
 |some (j,want)=>z9q al k=none∧ ∃ s,uu gs j=some s∧
  ((∃ b,l s= .bool b∧(b=want→Stp P ρ al φs O k o l R)∧(b≠want→phi φs k undef R))∨(l s=undef∧phi φs k undef R))
def Agree(l:Nat→Value):Prop:= ∀ s,(z7d gs).contains s=false→l s=l0 s
def zj4:Nat→List Oper→Prop
 |_,[]=>True
 |k,o::r=>(∀ l R,RH.le R0 R→Agree gs l0 l→zl6 gs φs l R o.after.toList→GStep P ρ gs al φs O k o l R)∧zj4 (k+1) r
def z8j(l:Nat→Value):List Frag:=al.map fun a=>box (zep (l ((uu gs a.idx).getD 0))) a.cells a.ty
def zik(R:RH)(K:List (Nat×Value)→Prop):Nat→List Oper→Prop
 |_,[]=>K []
 |k,o::r=> ∀ v,phi φs k v R→zik R (fun acc=>K ((o.dst.getD 0,v)::acc)) (k+1) r
def zak:Prop:= ∀ k v R R',RH.le R R'→phi φs k v R→phi φs k v R'
def z7q(n:Nat)(ts:List Oper):Bool:=
 (gs.all fun o=>match o.dst with|some d=>Nat.blt d n|none=>false)&&
 decide (z7d gs).Nodup&&
 ((gs++ts).zipIdx.all fun(o,i)=>o.after.all fun e=> !Region.binds .any e||Nat.blt e.on i)&&
 ((ts.zipIdx gs.length).all fun(o,i)=>(match o.dst with|some d=>Nat.blt d n|none=>true)&&(List.range i).all fun j=>(forced (gs++ts) o i).contains j)&&
 (al.all fun a=>Nat.blt a.idx gs.length)&&decide (al.map (·.idx)).Nodup
end draw
theorem zhn{P:Program}{ρ:Option Nat}{gs:List Oper}{al:List NewBox}{φs:List (Value→RH→Prop)}{l0:Nat→Value}{R0:RH}{O:List Frag}: ∀ (os:List Oper) (k:Nat),zj4 P ρ gs al φs l0 R0 O k os→
 ∀ (i:Nat) (o:Oper),os[i]? =some o→ ∀ l R,RH.le R0 R→Agree gs l0 l→zl6 gs φs l R o.after.toList→GStep P ρ gs al φs O (k+i) o l R
 | [],k,_,i,o,h=>by simp at h
 |o'::os,k,a,i,o,h=>by
  cases i with
  |zero=>simp at h;subst h;exact a.1
  |succ i=>
   have:=zhn os (k+1) a.2 i o (by simpa using h)
   rwa [show k+1+i=k+(i+1) from by omega] at this
theorem zjk{gs:List Oper}{φs:List (Value→RH→Prop)}{l:Nat→Value}{R:RH}: ∀ (es:List Edge),(∀ e∈es,Region.binds .any e=true→ ∀ d,uu gs e.on=some d→phi φs e.on (l d) R)→zl6 gs φs l R es
 | [],_=>trivial
 |e::es,h=>⟨by
  cases hd:uu gs e.on with
  |none=>trivial
  |some d=>exact fun a=>h e (List.mem_cons_self ..) a d hd,zjk es fun e' he'=>h e' (List.mem_cons_of_mem _ he')⟩
theorem zg9{φs:List (Value→RH→Prop)}{R:RH}{l:Nat→Value}: ∀ (os:List Oper) (k:Nat) (K:List (Nat×Value)→Prop),zik φs R K k os→(∀ i o d,os[i]? =some o→o.dst=some d→phi φs (k+i) (l d) R)→
 (∀ o∈os,o.dst.isSome=true)→K (os.map fun o=>(o.dst.getD 0,l (o.dst.getD 0)))
 | [],k,K,h,_,_=>h
 |o::os,k,K,h,hφ,a=>by
  obtain⟨d,b⟩:=Option.isSome_iff_exists.1 (a o (List.mem_cons_self ..))
  have c:=hφ 0 o d rfl b
  have:=h (l d) c
  have ih:=zg9 (l:=l) os (k+1) _ this (fun i o' d' hi hd'=>by have:=hφ (i+1) o' d' (by simpa using hi) hd';rwa [show k+(i+1)=k+1+i from by omega] at this) (fun o' ho'=>a o' (List.mem_cons_of_mem _ ho'))
  simpa [b] using ih
theorem zi8{gs:List Oper}{l l0:Nat→Value}(h:Agree gs l0 l)(a: ∀ o∈gs,o.dst.isSome=true):l=z0z l0 (gs.map fun o=>(o.dst.getD 0,l (o.dst.getD 0))):=by
 have key: ∀ (os:List Oper),(∀ o∈os,o.dst.isSome=true)→ ∀ s,z0z l0 (os.map fun o=>(o.dst.getD 0,l (o.dst.getD 0))) s=if s∈os.filterMap (·.dst) then l s else l0 s:=by
  intro os
  induction os with
  |nil=>intro _ s;simp [z0z]
  |cons o os ih=>
   intro a s
   obtain⟨d,b⟩:=Option.isSome_iff_exists.1 (a o (List.mem_cons_self ..))
   simp only [List.map_cons,z0z,b,Option.getD_some,List.filterMap_cons]
   unfold upd
   by_cases e:s=d
   ·subst e;simp
   ·have:Nat.beq s d=false:=by
     cases hb:Nat.beq s d
     ·rfl
     ·exact absurd (Nat.eq_of_beq_eq_true hb) e
    rw [this]
    have:=ih (fun o' ho'=>a o' (List.mem_cons_of_mem _ ho')) s
    simp only [cond_false,this,List.mem_cons,e,false_or]
 funext s
 rw [key gs a s]
 split
 ·rfl
 ·rename_i hn
  refine h s ?_
  simpa [z7d] using hn
section main
variable {P : Program} {ρ : Option Nat} {n : Nat} {Q : Po} {D : List Nat} {gs ts : List Oper} {al : List NewBox} {φs : List (Value → RH → Prop)} {l0 : Nat → Value} {R0 : RH} {O : List Frag}
def z1q(gs:List Oper)(al:List NewBox)(listed:Array Bool)(l:Nat→Value):List Frag:=
 (al.filter fun a=>listed.getD a.idx false).map fun a=>box (zep (l ((uu gs a.idx).getD 0))) a.cells a.ty
structure J (gs:List Oper) (al:List NewBox) (φs:List (Value→RH→Prop)) (l0:Nat→Value) (R0:RH) (O:List Frag) (n:Nat) (D:List Nat) (listed:Array Bool) (a:Act) (w:World):Prop where
 ex: ∃ l R,Fr n l D a∧Holds R (z1q gs al listed l++O++D.map z1n) w∧RH.le R0 R∧Agree gs l0 l∧(∀ i d,listed.getD i false=true→uu gs i=some d→phi φs i (l d) R)
theorem zfo{k d:Nat}(h:uu gs k=some d):d∈z7d gs:=by
 unfold uu at h
 cases ho:gs[k]? with
 |none=>rw [ho] at h;cases h
 |some o=>rw [ho] at h;exact List.mem_filterMap.2 ⟨o,List.mem_of_getElem? ho,h⟩
theorem z1u{listed:Array Bool}{i:Nat}(hi:i<listed.size)(d:Bool):(listed.setIfInBounds i true).getD i d=true:=by
 rw [Array.getD_eq_getD_getElem?,Array.getElem?_setIfInBounds];simp [hi]
theorem z4z(h:z7q gs al n ts=true):(∀ (i:Nat) o,gs[i]? =some o→ ∃ d,o.dst=some d∧d<n)∧(z7d gs).Nodup∧
 (∀ (i:Nat) o,(gs++ts)[i]? =some o→ ∀ e∈o.after,Region.binds .any e=true→e.on<i)∧
 (∀ (p:Nat) o,ts[p]? =some o→(∀ d,o.dst=some d→d<n)∧ ∀ j,j<gs.length+p→j∈forced (gs++ts) o (gs.length+p))∧
 (∀ a∈al,a.idx<gs.length)∧(al.map (·.idx)).Nodup:=by
 simp only [z7q,Bool.and_eq_true,List.all_eq_true,decide_eq_true_eq] at h
 obtain⟨⟨⟨⟨⟨k,l⟩,m⟩,q⟩,r⟩,s⟩:=h
 refine⟨fun i o b=>?_,l,fun i o b e t u=>?_,fun p o b=>?_,fun a v=>by have:=r a v;simpa using this,s⟩
 ·have:=k o (List.mem_of_getElem? b)
  cases c:o.dst with
  |none=>rw [c] at this;cases this
  |some d=>rw [c] at this;exact⟨d,rfl,by simpa using this⟩
 ·have f:(o,i)∈(gs++ts).zipIdx:=by
   rw [List.mem_iff_getElem?]
   exact⟨i,by rw [List.getElem?_zipIdx,b];simp⟩
  have:=m _ f
  simp only [Array.all_eq_true_iff_forall_mem] at this
  have:=this e t
  simpa [u] using this
 ·have f:(o,gs.length+p)∈ts.zipIdx gs.length:=by
   rw [List.mem_iff_getElem?]
   exact⟨p,by rw [List.getElem?_zipIdx,b];simp⟩
  have:=q _ f
  simp only [List.mem_range] at this
  obtain⟨g,w⟩:=this
  refine⟨fun d c=>?_,fun j x=>?_⟩
  ·rw [c] at g;simpa using g
  ·have:=w j x
   simpa using this
theorem z8g(m:(z7d gs).Nodup){i j d:Nat}(hi:uu gs i=some d)(g:uu gs j=some d):i=j:=by
 have key: ∀ (os:List Oper),(os.filterMap (·.dst)).Nodup→ ∀ (i j:Nat) (oi oj:Oper),os[i]? =some oi→os[j]? =some oj→oi.dst=some d→oj.dst=some d→i=j:=by
  intro os
  induction os with
  |nil=>intro _ i j oi oj h;simp at h
  |cons o os ih=>
   intro c i j oi oj a b e f
   cases ho:o.dst with
   |none=>
    rw [List.filterMap_cons,ho] at c
    cases i with
    |zero=>simp at a;subst a;rw [ho] at e;cases e
    |succ i=>cases j with
     |zero=>simp at b;subst b;rw [ho] at f;cases f
     |succ j=>rw [ih c i j oi oj (by simpa using a) (by simpa using b) e f]
   |some q=>
    rw [List.filterMap_cons,ho] at c
    obtain⟨l,hnd'⟩:=List.nodup_cons.1 c
    have hmem: ∀ (k:Nat) (ok:Oper),os[k]? =some ok→ok.dst=some d→d∈os.filterMap (·.dst):=fun k ok n p=>List.mem_filterMap.2 ⟨ok,List.mem_of_getElem? n,p⟩
    cases i with
    |zero=>cases j with
     |zero=>rfl
     |succ j=>
      simp at a;subst a;rw [ho] at e;cases e
      exact absurd (hmem j oj (by simpa using b) f) l
    |succ i=>cases j with
     |zero=>
      simp at b;subst b;rw [ho] at f;cases f
      exact absurd (hmem i oi (by simpa using a) e) l
     |succ j=>rw [ih hnd' i j oi oj (by simpa using a) (by simpa using b) e f]
 unfold uu at hi g
 cases a:gs[i]? with
 |none=>rw [a] at hi;cases hi
 |some oi=>cases b:gs[j]? with
  |none=>rw [b] at g;cases g
  |some oj=>rw [a] at hi;rw [b] at g;exact key gs m i j oi oj a b hi g
theorem zkg(ad:z7q gs al n ts=true)(hmono:zak φs)(hobl:zj4 P ρ gs al φs l0 R0 O 0 gs){listed:Array Bool}{a:Act}{w:World}{i:Nat}{o:Oper}(av:listed.size=gs.length+ts.length)(hi:gs[i]? =some o)
 (hj:J gs al φs l0 R0 O n D listed a w) (V:listed.getD i true=false) (hdep: ∀ e∈o.after,Region.binds .any e=true→listed.getD e.on false=true):
 wpOpIn (wide ρ) 0 P (gs++ts).toArray (lift n Q) i (J gs al φs l0 R0 O n D (listed.setIfInBounds i true)) a w:=by
 obtain⟨W,s2,s3,s4,s5,s6⟩:=z4z ad
 obtain⟨l,R,M,hh,X,Y,hφ⟩:=hj.ex
 obtain⟨d,N,S⟩:=W i o hi
 have af:i<gs.length:=(List.getElem?_eq_some_iff.1 hi).1
 have ag:(gs++ts).toArray[i]? =some o:=by simp [List.getElem?_append_left af,hi]
 have H:uu gs i=some d:=by simp [uu,hi,N]
 have p:=zhn gs 0 hobl i o hi l R X Y (zjk _ fun e he F d' hd'=>hφ e.on d' (hdep e (by simpa using he) F) hd')
 rw [Nat.zero_add] at p
 have hother: ∀ (v:Value) (k d':Nat),k≠i→uu gs k=some d'→upd l d v d'=l d':=fun v k d' U hd'=>by
  have z:d'≠d:=fun e=>by subst e;exact U (z8g s2 hd' H)
  unfold upd
  cases F:Nat.beq d' d
  ·rfl
  ·exact absurd (Nat.eq_of_beq_eq_true F) z
 have hself: ∀ v,upd l d v d=v:=fun v=>by simp [upd]
 have hag': ∀ v,Agree gs l0 (upd l d v):=fun v s I=>by
  have z:s≠d:=fun e=>by subst e;have:=zfo H;simp [this] at I
  have:upd l d v s=l s:=by
   unfold upd
   cases F:Nat.beq s d
   ·rfl
   ·exact absurd (Nat.eq_of_beq_eq_true F) z
  rw [this];exact Y s I
 have hlist: ∀ k,k≠i→(listed.setIfInBounds i true).getD k false=listed.getD k false:=fun k U=>getD_set_ne false (Ne.symm U)
 have close: ∀ (v:Value) (R':RH) (a':Act) (w':World),RH.le R R'→phi φs i v R'→Fr n (upd l d v) D a'→Holds R' (z1q gs al (listed.setIfInBounds i true) (upd l d v)++O++D.map z1n) w'→
  J gs al φs l0 R0 O n D (listed.setIfInBounds i true) a' w':=fun v R' a' w' hle' Z hf' hh'=>
  ⟨upd l d v,R',hf',hh',X.trans hle',hag' v,fun k d' U hd'=>by
   by_cases e:k=i
   ·subst e
    rw [H] at hd';cases hd'
    rw [hself];exact Z
   ·rw [hother v k d' e hd']
    exact hmono _ _ _ _ hle' (hφ k d' (by rw [hlist k e] at U;exact U) hd')⟩
 have hboxes: ∀ v,z9q al i=none→z1q gs al (listed.setIfInBounds i true) (upd l d v)=z1q gs al listed l:=fun v hnone=>by
  unfold z1q
  have aa: ∀ a∈al,a.idx≠i:=fun a T e=>by
   have:=List.find?_eq_none.1 hnone a T
   subst e;simp at this
  have e1:(al.filter fun a=>(listed.setIfInBounds i true).getD a.idx false)=al.filter fun a=>listed.getD a.idx false:=
   List.filter_congr fun a T=>hlist a.idx (aa a T)
  rw [e1]
  refine List.map_congr_left fun a T=>?_
  have ha':=(List.mem_filter.1 T).1
  cases m:uu gs a.idx with
  |none=>
   obtain⟨K,B,_⟩:=W a.idx _ (List.getElem?_eq_getElem (s5 a ha'))
   simp [uu,List.getElem?_eq_getElem (s5 a ha'),B] at m
  |some K=>rw [Option.getD_some,hother v a.idx K (aa a ha') m]
 have plain:z9q al i=none→Stp P ρ al φs O i o l R→o.wpIn (wide ρ) 0 P a w (J gs al φs l0 R0 O n D (listed.setIfInBounds i true)) (lift n Q):=fun hnone I=>by
  simp only [Stp,hnone] at I
  refine z3g (A:=z1q gs al listed l++D.map z1n) M (u6 hh ?_) I ?_
  ·rw [←List.append_assoc]
   exact List.perm_append_comm.append_right _
  ·rintro v R' O' w' hle' hh' ⟨rfl,Z⟩
   refine close v R' _ w' hle' Z (by have:=M.put (d:=o.dst) (fun t L=>by rw [N] at L;cases L;exact S) v;rw [N] at this⊢;exact this) ?_
   rw [hboxes v hnone]
   refine u6 hh' ?_
   rw [←List.append_assoc]
   exact List.perm_append_comm.append_right _
 have fresh: ∀ na,z9q al i=some na→Stp P ρ al φs O i o l R→o.wpIn (wide ρ) 0 P a w (J gs al φs l0 R0 O n D (listed.setIfInBounds i true)) (lift n Q):=fun na hsome I=>by
  simp only [Stp,hsome] at I
  obtain⟨ab,hz,Z⟩:=I
  have hmem:na∈al:=List.mem_of_find?_eq_some hsome
  have hidx:na.idx=i:=Nat.eq_of_beq_eq_true (by simpa using List.find?_some hsome)
  have heff:Eff P ρ o l R (z1q gs al listed l++O) (fun v R' O'=>R'=R∧ ∃ b,v= .pointer (some ⟨b,0,none⟩)∧O'=box b na.cells na.ty::(z1q gs al listed l++O)):=by
   obtain⟨dst,op,ty,pos,after,g⟩:=o
   simp only at ab
   subst ab
   exact ze5 hz
  refine z3g (A:=D.map z1n) M hh heff ?_
  rintro v R' O' w' hle' hh' ⟨rfl,b,rfl,rfl⟩
  refine close _ R' _ w' hle' (Z b R') (by have:=M.put (d:=o.dst) (fun t L=>by rw [N] at L;cases L;exact S) (.pointer (some ⟨b,0,none⟩));rw [N] at this⊢;exact this) ?_
  refine u6 hh' ?_
  have ah:listed.getD i false=false:=by
   have hsz':i<listed.size:=by omega
   rw [Array.getD_eq_getD_getElem?,Array.getElem?_eq_getElem hsz'] at V⊢
   simpa using V
  have hsplit: ∀ (al':List NewBox),(al'.map (·.idx)).Nodup→na∈al'→(∀ a∈al',a∈al)→
   (box b na.cells na.ty::(al'.filter fun a=>listed.getD a.idx false).map fun a=>box (zep (l ((uu gs a.idx).getD 0))) a.cells a.ty).Perm
    ((al'.filter fun a=>(listed.setIfInBounds i true).getD a.idx false).map fun a=>box (zep (upd l d (.pointer (some ⟨b,0,none⟩)) ((uu gs a.idx).getD 0))) a.cells a.ty):=by
   intro al'
   induction al' with
   |nil=>intro _ h;cases h
   |cons x al' ih=>
    intro ai hm hsub
    obtain⟨hx,hnd'⟩:=List.nodup_cons.1 ai
    have rest: ∀ y∈al',y.idx≠i→box (zep (l ((uu gs y.idx).getD 0))) y.cells y.ty=box (zep (upd l d (.pointer (some ⟨b,0,none⟩)) ((uu gs y.idx).getD 0))) y.cells y.ty:=fun y r z=>by
     have C:=s5 y (hsub y (List.mem_cons_of_mem _ r))
     obtain⟨K,B,_⟩:=W y.idx _ (List.getElem?_eq_getElem C)
     have m:uu gs y.idx=some K:=by simp [uu,List.getElem?_eq_getElem C,B]
     rw [m,Option.getD_some,hother _ y.idx K z m]
    by_cases hxi:x.idx=i
    ·have hxna:x=na:=by
      rcases List.mem_cons.1 hm with h|h
      ·exact h.symm
      ·exact absurd (show x.idx∈al'.map (·.idx) by rw [hxi,←hidx];exact List.mem_map_of_mem h) hx
     subst hxna
     have hrest: ∀ y∈al',y.idx≠i:=fun y r e=>hx (show x.idx∈al'.map (·.idx) by rw [hxi,←e];exact List.mem_map_of_mem r)
     rw [List.filter_cons,if_neg (by rw [hxi,ah];simp),List.filter_cons,if_pos (by rw [hxi];exact z1u (by omega) false),List.map_cons]
     rw [hxi,H,Option.getD_some,hself]
     refine List.Perm.cons _ ?_
     rw [List.filter_congr (q:=fun a=>listed.getD a.idx false) (fun y r=>hlist y.idx (hrest y r))]
     rw [List.map_congr_left (fun y r=>rest y (List.mem_filter.1 r).1 (hrest y (List.mem_filter.1 r).1))]
    ·have hm':na∈al':=by
      rcases List.mem_cons.1 hm with h|h
      ·exact absurd (by rw [←h,hidx]) hxi
      ·exact h
     have ih':=ih hnd' hm' (fun a T=>hsub a (List.mem_cons_of_mem _ T))
     have C:=s5 x (hsub x (List.mem_cons_self ..))
     obtain⟨K,B,_⟩:=W x.idx _ (List.getElem?_eq_getElem C)
     have m:uu gs x.idx=some K:=by simp [uu,List.getElem?_eq_getElem C,B]
     rw [List.filter_cons,List.filter_cons,hlist x.idx hxi]
     split
     ·rw [List.map_cons,List.map_cons,m,Option.getD_some,hother _ x.idx K hxi m]
      exact(List.Perm.swap _ _ _).trans (ih'.cons _)
     ·exact ih'
  have:=hsplit al s6 hmem (fun _ h=>h)
  exact((this.append_right O).append_right _)
 unfold wpOpIn
 rw [ag]
 simp only
 unfold GStep at p
 cases G:o.guard with
 |none=>
  rw [G] at p
  rw [wanted_none G,if_pos rfl]
  cases hnew:z9q al i with
  |none=>exact plain hnew p
  |some na=>exact fresh na hnew p
 |some jw=>
  obtain⟨j,want⟩:=jw
  rw [G] at p
  obtain⟨hnone,s,c,hcase⟩:=p
  have hs':guardSlot (gs++ts).toArray j=some s:=by
   unfold uu at c
   unfold guardSlot
   cases hgj:gs[j]? with
   |none=>rw [hgj] at c;cases c
   |some oj=>
    have aj:j<gs.length:=(List.getElem?_eq_some_iff.1 hgj).1
    rw [hgj] at c
    simp [List.getElem?_append_left aj,hgj]
    simpa using c
  have ak:s<n:=by
   unfold uu at c
   cases hgj:gs[j]? with
   |none=>rw [hgj] at c;cases c
   |some oj=>
    obtain⟨d3,am,an⟩:=W j oj hgj
    rw [hgj] at c
    have e3:d3=s:=by simpa [am] using c
    rw [←e3];exact an
  have skip:phi φs i undef R→(∀ f,o.about P w a.eval=some f→(wide ρ).fn f)∧J gs al φs l0 R0 O n D (listed.setIfInBounds i true) (a.put o.dst undef) w:=fun E=>by
   refine⟨fun _ _=>trivial,close undef R _ w (RH.le.refl _) E (by have:=M.put (d:=o.dst) (fun t L=>by rw [N] at L;cases L;exact S) undef;rw [N] at this⊢;exact this) ?_⟩
   rw [hboxes undef hnone]
   exact hh
  rcases hcase with⟨b,ao,hyes,E⟩|⟨ap,E⟩
  case inr=>
   have r:yielded (gs++ts).toArray a.tmps j=none:=by
    unfold yielded
    unfold guardSlot at hs'
    rw [hs']
    have G:=M.get s
    rw [ap,Array.getD_eq_getD_getElem?] at G
    simp only [Option.bind_some]
    cases h:a.tmps[s]? with
    |none=>rfl
    |some u=>rw [h] at G;simp at G;rw [G];rfl
   have hw:Region.wanted o (yielded (gs++ts).toArray a.tmps)=false:=by
    simp only [Region.wanted,G,r];rfl
   rw [hw,if_neg (by simp)]
   exact skip E
  have r:=z6g M hs' ak ao
  have hw:Region.wanted o (yielded (gs++ts).toArray a.tmps)=(b==want):=by
   simp only [Region.wanted,G,r]
   cases b<;>cases want<;>rfl
  rw [hw]
  by_cases F:b=want
  ·rw [if_pos (by simp [F])]
   exact plain hnone (hyes F)
  ·rw [if_neg (by simpa using F)]
   exact skip (E F)
inductive Ph (P:Program) (ρ:Option Nat) (n:Nat) (Q:Po) (D:List Nat) (gs ts:List Oper) (al:List NewBox) (φs:List (Value→RH→Prop)) (l0:Nat→Value) (R0:RH) (O:List Frag) (listed:Array Bool) (a:Act) (w:World):Prop where
 |first (hj:J gs al φs l0 R0 O n D listed a w) (hn: ∀ k,gs.length≤k→listed.getD k false=false) (hcl:z6r (gs++ts) listed)
 |last (p:Nat) (hp:p≤ts.length) (hall: ∀ k,k<gs.length+p→listed.getD k false=true) (hn: ∀ k,gs.length+p≤k→listed.getD k false=false)
  (h:wlo (wide ρ) 0 P (gs++ts).toArray (lift n Q) (ts.drop p) a w)
theorem zjl(b:z7q gs al n ts=true)(hend: ∀ R,RH.le R0 R→zik φs R (fun acc=>wo P ρ n (gs++ts).toArray Q ts (z0z l0 acc) D R (z8j gs al (z0z l0 acc)++O)) 0 gs){listed:Array Bool}{a:Act}{w:World}
 (p:J gs al φs l0 R0 O n D listed a w) (v: ∀ k,gs.length≤k→listed.getD k false=false) (hall: ∀ k,k<gs.length→listed.getD k false=true):wlo (wide ρ) 0 P (gs++ts).toArray (lift n Q) ts a w:=by
 obtain⟨q,x,y,z,r,A⟩:=z4z b
 obtain⟨l,R,s,h,c,e,hφ⟩:=p.ex
 have j: ∀ o∈gs,o.dst.isSome=true:=fun o t=>by
  obtain⟨i,hi⟩:=List.getElem?_of_mem t
  obtain⟨d,f,_⟩:=q i o hi
  simp [f]
 have m:=zg9 (φs:=φs) (R:=R) (l:=l) gs 0 _ (hend R c) (fun i o d hi f=>by
  rw [Nat.zero_add]
  exact hφ i d (hall i (List.getElem?_eq_some_iff.1 hi).1) (by simp [uu,hi,f])) j
 rw [←zi8 e j] at m
 have g:z1q gs al listed l=z8j gs al l:=by
  unfold z1q z8j
  rw [List.filter_eq_self.2 (fun a u=>hall a.idx (r a u))]
 rw [g] at h
 exact m a w s h
theorem zl2(s:z7q gs al n ts=true)(hmono:zak φs)(hobl:zj4 P ρ gs al φs l0 R0 O 0 gs)
 (hend: ∀ R,RH.le R0 R→zik φs R (fun acc=>wo P ρ n (gs++ts).toArray Q ts (z0z l0 acc) D R (z8j gs al (z0z l0 acc)++O)) 0 gs):
 ∀ (fuel:Nat) (listed:Array Bool) (a:Act) (w:World),listed.size=gs.length+ts.length→((List.range (gs.length+ts.length)).filter fun i=> !listed.getD i true).length≤fuel→
  Ph P ρ n Q D gs ts al φs l0 R0 O listed a w→wpAnyIn (wide ρ) 0 P .any (gs++ts).toArray (lift n Q) fuel listed a w:=by
 obtain⟨M,N,G,H,S,T⟩:=z4z s
 have hready: ∀ (listed:Array Bool),listed.size=gs.length+ts.length→Region.ready .any (gs++ts).toArray listed=[]→ ∀ k,k<gs.length+ts.length→listed.getD k false=true:=by
  intro listed b t k
  induction k using Nat.strongRecOn with
  |_ k ih=>
   intro c
   have hk':k<(gs++ts).length:=by simpa using c
   have r:(gs++ts).toArray[k]? =some ((gs++ts)[k]'hk'):=by simp [c]
   cases u:listed.getD k false with
   |true=>rfl
   |false=>
    have:k∈Region.ready .any (gs++ts).toArray listed:=mem_ready.2 ⟨by
     rw [Array.getD_eq_getD_getElem?,Array.getElem?_eq_getElem (by omega)] at u⊢
     exact u,_,r,fun e v hbind=>by
      have l:=G k _ (by simp [c]) e v hbind
      exact ih e.on l (by omega)⟩
    rw [t] at this
    cases this
 have hdone: ∀ (listed:Array Bool) (a:Act) (w:World),listed.size=gs.length+ts.length→Ph P ρ n Q D gs ts al φs l0 R0 O listed a w→Region.ready .any (gs++ts).toArray listed=[]→lift n Q .normal a w:=by
  intro listed a w b g t
  have hall:=hready listed b t
  have key: ∀ p,p≤ts.length→(∀ k,gs.length+p≤k→listed.getD k false=false)→wlo (wide ρ) 0 P (gs++ts).toArray (lift n Q) (ts.drop p) a w→lift n Q .normal a w:=fun p g d h=>by
   have:p=ts.length:=by
    rcases Nat.lt_or_ge p ts.length with l|y
    ·have I:=hall (gs.length+p) (by omega)
     rw [d _ (Nat.le_refl _)] at I;cases I
    ·omega
   subst this
   rw [List.drop_length] at h
   exact h
  cases g with
  |first B d m=>
   exact key 0 (Nat.zero_le _) (by simpa using d) (zjl s hend B d (fun k c=>hall k (by omega)))
  |last p g U d h=>exact key p g d h
 have hstep: ∀ (listed:Array Bool) (a:Act) (w:World) (i:Nat),listed.size=gs.length+ts.length→Ph P ρ n Q D gs ts al φs l0 R0 O listed a w→i∈Region.ready .any (gs++ts).toArray listed→
  wpOpIn (wide ρ) 0 P (gs++ts).toArray (lift n Q) i (Ph P ρ n Q D gs ts al φs l0 R0 O (listed.setIfInBounds i true)) a w:=by
  intro listed a w i b g hi
  obtain⟨f,o,r,hdep⟩:=mem_ready.1 hi
  have z:i<gs.length+ts.length:=by have:=(Array.getElem?_eq_some_iff.1 r).1;simpa using this
  have hun':listed.getD i false=false:=by
   rw [Array.getD_eq_getD_getElem?,Array.getElem?_eq_getElem (by omega)] at f⊢
   simpa using f
  have hlist: ∀ k,k≠i→(listed.setIfInBounds i true).getD k false=listed.getD k false:=fun k c=>getD_set_ne false (Ne.symm c)
  have laststep: ∀ p,p≤ts.length→z6r (gs++ts) listed→(∀ k,k<gs.length+p→listed.getD k false=true)→(∀ k,gs.length+p≤k→listed.getD k false=false)→wlo (wide ρ) 0 P (gs++ts).toArray (lift n Q) (ts.drop p) a w→
   wpOpIn (wide ρ) 0 P (gs++ts).toArray (lift n Q) i (Ph P ρ n Q D gs ts al φs l0 R0 O (listed.setIfInBounds i true)) a w:=by
   intro p g m hall d h
   have y:gs.length+p≤i:=by
    rcases Nat.lt_or_ge i (gs.length+p) with h'|h'
    ·rw [hall i h'] at hun';cases hun'
    ·exact h'
   have q:ts[i-gs.length]? =some o:=by
    have:(gs++ts)[i]? =some o:=by simpa using r
    rwa [List.getElem?_append_right (by omega)] at this
   obtain⟨_,hedges⟩:=H (i-gs.length) o q
   have C:i=gs.length+p:=by
    rcases Nat.lt_or_ge (gs.length+p) i with h'|h'
    ·have:=z0j m hdep _ (hedges (gs.length+p) (by omega))
     rw [d _ (Nat.le_refl _)] at this;cases this
    ·omega
   subst C
   rw [Nat.add_sub_cancel_left] at q
   have l:p<ts.length:=(List.getElem?_eq_some_iff.1 q).1
   have hdrop:ts.drop p=o::ts.drop (p+1):=by
    rw [List.drop_eq_getElem_cons l]
    congr 1
    exact(List.getElem?_eq_some_iff.1 q).2
   rw [hdrop] at h
   simp only [wlo] at h
   unfold wpOpIn
   rw [r]
   have hnext: ∀ a' w',wlo (wide ρ) 0 P (gs++ts).toArray (lift n Q) (ts.drop (p+1)) a' w'→Ph P ρ n Q D gs ts al φs l0 R0 O (listed.setIfInBounds (gs.length+p) true) a' w':=fun a' w' h'=>by
    refine .last (p+1) (by omega) (fun k c=>?_) (fun k c=>?_) h'
    ·by_cases e:k=gs.length+p
     ·subst e;exact z1u (by omega) false
     ·rw [hlist k e];exact hall k (by omega)
    ·rw [hlist k (by omega)];exact d k (by omega)
   dsimp only
   by_cases hw:Region.wanted o (yielded (gs++ts).toArray a.tmps)=true
   ·rw [if_pos hw] at h⊢;exact Oper.wpIn_mono hnext h
   ·rw [if_neg hw] at h⊢;exact⟨h.1,hnext _ _ h.2⟩
  cases g with
  |last p g hall d h=>
   refine laststep p g (fun k o' ho' c e v u=>?_) hall d h
   have E:k<gs.length+p:=by
    rcases Nat.lt_or_ge k (gs.length+p) with h'|h'
    ·exact h'
    ·rw [d k h'] at c;cases c
   exact hall e.on (Nat.lt_trans (G k o' ho' e v u) E)
  |first B d m=>
   rcases Nat.lt_or_ge i gs.length with l|y
   ·have F:gs[i]? =some o:=by
     have:(gs++ts)[i]? =some o:=by simpa using r
     rwa [List.getElem?_append_left l] at this
    refine wpOpIn_mono (fun a' w' h'=> .first h' (fun k c=>by rw [hlist k (by omega)];exact d k c) (fun k o' ho' c e v u=>?_)) (zkg s hmono hobl b F B f hdep)
    have A: ∀ j,listed.getD j false=true→(listed.setIfInBounds i true).getD j false=true:=fun j hj'=>by
     by_cases e':j=i
     ·subst e';rw [hj'] at hun';cases hun'
     ·rw [hlist j e'];exact hj'
    by_cases ek:k=i
    ·subst ek
     have:o'=o:=by
      have J:(gs++ts)[k]? =some o:=by simpa using r
      rw [J] at ho';exact(Option.some.inj ho').symm
     subst this
     exact A _ (hdep e v u)
    ·rw [hlist k ek] at c
     exact A _ (m k o' ho' c e v u)
   ·have q:ts[i-gs.length]? =some o:=by
     have:(gs++ts)[i]? =some o:=by simpa using r
     rwa [List.getElem?_append_right (by omega)] at this
    obtain⟨_,hedges⟩:=H (i-gs.length) o q
    have hall: ∀ k,k<gs.length→listed.getD k false=true:=fun k c=>z0j m hdep _ (hedges k (by omega))
    exact laststep 0 (Nat.zero_le _) m (by simpa using hall) (by simpa using d) (zjl s hend B d hall)
 intro fuel
 induction fuel with
 |zero=>
  intro listed a w b K g
  have t:Region.ready .any (gs++ts).toArray listed=[]:=by
   cases t:Region.ready .any (gs++ts).toArray listed with
   |nil=>rfl
   |cons x xs=>
    have L:x∈Region.ready .any (gs++ts).toArray listed:=by rw [t];exact List.mem_cons_self ..
    obtain⟨f,o,r,_⟩:=mem_ready.1 L
    have:x∈((List.range (gs.length+ts.length)).filter fun i=> !listed.getD i true):=by
     rw [List.mem_filter,List.mem_range]
     exact⟨by have:=(Array.getElem?_eq_some_iff.1 r).1;simpa using this,by rw [f];rfl⟩
    have:=List.length_pos_of_mem this
    omega
  exact⟨t,hdone listed a w b g t⟩
 |succ fuel ih=>
  intro listed a w b K g
  refine⟨hdone listed a w b g,fun i hi=>?_⟩
  refine wpOpIn_mono (fun a' w' h'=>ih _ a' w' (by simpa using b) ?_ h') (hstep listed a w i b g hi)
  obtain⟨f,o,r,_⟩:=mem_ready.1 hi
  have z:i<gs.length+ts.length:=by have:=(Array.getElem?_eq_some_iff.1 r).1;simpa using this
  have hsub:((List.range (gs.length+ts.length)).filter fun k=> !(listed.setIfInBounds i true).getD k true)=(((List.range (gs.length+ts.length)).filter fun k=> !listed.getD k true).filter fun k=>k !=i):=by
   rw [List.filter_filter]
   refine List.filter_congr fun k _=>?_
   by_cases e:k=i
   ·subst e;rw [z1u (by omega)];simp
   ·rw [getD_set_ne true (Ne.symm e)];simp [e]
  rw [hsub]
  have hmem:i∈((List.range (gs.length+ts.length)).filter fun k=> !listed.getD k true):=by
   rw [List.mem_filter,List.mem_range]
   exact⟨z,by rw [f];rfl⟩
  have:(((List.range (gs.length+ts.length)).filter fun k=> !listed.getD k true).filter fun k=>k !=i).length<((List.range (gs.length+ts.length)).filter fun k=> !listed.getD k true).length:=List.length_filter_lt_length_iff_exists.2 ⟨i,hmem,show¬((i !=i)=true) by simp⟩
  omega
theorem zop{id:Nat}(f:P.follows .mixedOrders=true)(c:z7q gs al n ts=true)(hmono:zak φs)(hobl:zj4 P ρ gs al φs l0 R0 O 0 gs)
 (hend: ∀ R,RH.le R0 R→zik φs R (fun acc=>wo P ρ n (gs++ts).toArray Q ts (z0z l0 acc) D R (z8j gs al (z0z l0 acc)++O)) 0 gs):wg P ρ n (.region id (gs++ts).toArray true) Q l0 D R0 O:=by
 intro a w g h
 refine wpIn_region_any f ?_
 have b: ∀ (k:Nat),(Array.replicate (gs++ts).toArray.size false).getD k false=false:=fun k=>by
  rw [Array.getD_eq_getD_getElem?,Array.getElem?_replicate];split<;>rfl
 refine zl2 c hmono hobl hend _ _ a _ (by simp) (by
  refine Nat.le_trans (List.length_filter_le _ _) ?_
  simp) (.first ⟨l0,R0,g,?_,RH.le.refl _,fun _ _=>rfl,fun i d hi=>by rw [b] at hi;cases hi⟩ (fun k _=>b k) (fun k o' _ e=>by rw [b] at e;cases e))
 have:z1q gs al (Array.replicate (gs++ts).toArray.size false) l0=[]:=by
  unfold z1q
  rw [List.filter_eq_nil_iff.2 (fun a _=>by rw [b];simp)]
  rfl
 rw [this,List.nil_append]
 exact z6n h
theorem zen{os:List Oper}(m:Nat):os.take m++os.drop m=os:=List.take_append_drop m os
theorem z0f{id:Nat}{os:List Oper}(m:Nat)(al:List NewBox)(φs:List (Value→RH→Prop))(b:P.follows .mixedOrders=true)(a:z7q (os.take m) al n (os.drop m)=true)(hmono:zak φs)
 (hobl:zj4 P ρ (os.take m) al φs l0 R0 O 0 (os.take m))
 (hend: ∀ R,RH.le R0 R→zik φs R (fun acc=>wo P ρ n os.toArray Q (os.drop m) (z0z l0 acc) D R (z8j (os.take m) al (z0z l0 acc)++O)) 0 (os.take m)):wg P ρ n (.region id os.toArray true) Q l0 D R0 O:=by
 have:=zop (P:=P) (ρ:=ρ) (n:=n) (Q:=Q) (D:=D) (gs:=os.take m) (ts:=os.drop m) (al:=al) (φs:=φs) (l0:=l0) (R0:=R0) (O:=O) (id:=id) b a hmono hobl (by rw [zen];exact hend)
 rwa [zen] at this
/-! ### What is said of an operation's value-/
def phX(a:Value):Value→RH→Prop:=fun v _=>v=a
def phR{α:Type}(T:Ty α)(x:α):Value→RH→Prop:=fun v R=>VRep T R v x
def phP{α:Type}(T:Ty α)(x:α):Value→RH→Prop:=fun v R=>PRep T R v x
def phB:Value→RH→Prop:=fun v _=> ∃ b,v= .pointer (some ⟨b,0,none⟩)
def phG(G:Bool)(φ:Value→RH→Prop):Value→RH→Prop:=fun v R=>(G=true→φ v R)∧(G=false→v=undef)
def zgl(φ:Value→RH→Prop):Prop:= ∀ v R R',RH.le R R'→φ v R→φ v R'
theorem zm{v:Value}:zgl (phX v):=fun _ _ _ _ h=>h
theorem z4d{α:Type}{T:Ty α}{x:α}:zgl (phR T x):=fun _ _ _ a h=>VRep.mono h a
theorem z05{α:Type}{T:Ty α}{x:α}:zgl (phP T x):=fun _ _ _ a h=>PRep.mono h a
theorem zmc:zgl phB:=fun _ _ _ _ h=>h
theorem kw{G:Bool}{φ:Value→RH→Prop}(h:zgl φ):zgl (phG G φ):=fun v R R' a k=>⟨fun e=>h v R R' a (k.1 e),k.2⟩
def zqb:List (Value→RH→Prop)→Prop
 | []=>True
 |φ::r=>zgl φ∧zqb r
theorem rq: ∀ {φs:List (Value→RH→Prop)},zqb φs→zak φs
 | [],_=>fun k v R R' _ _=>by simp [phi]
 |φ::r,h=>fun k v R R' a b=>by
  cases k with
  |zero=>exact h.1 v R R' a b
  |succ k=>exact rq (φs:=r) h.2 k v R R' a b
theorem qc{gs:List Oper}{al:List NewBox}{φs:List (Value→RH→Prop)}{k j s:Nat}{o:Oper}{l:Nat→Value}{R:RH}{Gj Bj want:Bool}{φ:Value→RH→Prop}(c:o.guard=some (j,want))(hnew:z9q al k=none)(d:uu gs j=some s)
 (b:phG Gj (phX (.bool Bj)) (l s) R) (hphi:phi φs k=phG (Gj&&(Bj==want)) φ) (hyes:Gj=true→Bj=want→Eff P ρ o l R O fun v R' O'=>O'=O∧φ v R'):GStep P ρ gs al φs O k o l R:=by
 unfold GStep
 rw [c]
 refine⟨hnew,s,d,?_⟩
 cases Gj with
 |false=>exact .inr ⟨b.2 rfl,by rw [hphi];exact⟨fun h=>by(cases h),fun _=>rfl⟩⟩
 |true=>
  refine .inl ⟨Bj,b.1 rfl,fun a=>?_,fun a=>?_⟩
  ·simp only [Stp,hnew]
   refine(hyes rfl a).mono fun v R' O' _ h=>⟨h.1,?_⟩
   rw [hphi,a]
   exact⟨fun _=>h.2,fun h=>by simp at h⟩
  ·rw [hphi]
   have:(Bj==want)=false:=by simpa using a
   rw [this]
   exact⟨fun h=>by simp at h,fun _=>rfl⟩
theorem xz{Bj:Bool}{v:Value}{R:RH}(h:v= .bool Bj):phG true (phX (.bool Bj)) v R:=⟨fun _=>h,fun h=>by(cases h)⟩
theorem zh{gs:List Oper}{al:List NewBox}{φs:List (Value→RH→Prop)}{k:Nat}{o:Oper}{l:Nat→Value}{R:RH}{φ:Value→RH→Prop}(a:o.guard=none)(hnew:z9q al k=none)(hphi:phi φs k=φ)
 (h:Eff P ρ o l R O fun v R' O'=>O'=O∧φ v R'):GStep P ρ gs al φs O k o l R:=by
 unfold GStep
 rw [a]
 simp only [Stp,hnew]
 rw [hphi]
 exact h
theorem zei{gs:List Oper}{al:List NewBox}{φs:List (Value→RH→Prop)}{k:Nat}{o:Oper}{l:Nat→Value}{R:RH}{na:NewBox}(c:o.guard=none)(hnew:z9q al k=some na)(a:o.op= .alloc na.ty)(hphi:phi φs k=phB)
 (d: ∀ w,∃ z,(zeroValue na.ty).run P w= .ok z w∧z.cells=na.cells.toArray):GStep P ρ gs al φs O k o l R:=by
 unfold GStep
 rw [c]
 simp only [Stp,hnew]
 rw [hphi]
 exact⟨a,d,fun b R=>⟨b,rfl⟩⟩
end main
end GV
end Go.Proofs.YtkkcidhcfkmbjaaGreatDoor

namespace Go.Proofs.YtkkcidhcfkmbjaaGreatDoor
namespace GV
def CallV(P:Program)(fv:Value)(args:Array Value)(R:RH)(O:List Frag)(post:Value→RH→List Frag→Prop):Prop:=
 ∀ A w,Holds R (O++A) w→Out P (fun v w'=> ∃ R' O',R.le R'∧Holds R' (O'++A) w'∧post v R' O') ((do let d←Deferred.ofValue fv args;invoke d.target d.args:Sem Next).run P w)
theorem z5t{P:Program}{K K':Value→World→Prop}{r:Result Next}(h:Out P K r)(c: ∀ v w,K v w→K' v w):Out P K' r:=by
 cases r with
 |halt x y=>exact h
 |ok nx i=>
  cases nx with
  |value v=>exact c _ _ h
  |skip=>exact c _ _ h
  |enter f args=>exact Calls.mono h fun e w' ⟨v,d,a⟩=>⟨v,d,c _ _ a⟩
  |round l f tmps g b=>exact RoundIn.mono h fun e w' ⟨v,d,a⟩=>⟨v,d,c _ _ a⟩
  |_=>exact h
theorem CallV.mono{P:Program}{fv:Value}{args:Array Value}{R:RH}{O:List Frag}{post post':Value→RH→List Frag→Prop}(h:CallV P fv args R O post)
 (d: ∀ v R' O',RH.le R R'→post v R' O'→post' v R' O'):CallV P fv args R O post':=
 fun A w e=>z5t (h A w e) fun v w' ⟨R',O',a,b,c⟩=>⟨R',O',a,b,d _ _ _ a c⟩
section iter
variable {P : Program} {ρ : Option Nat} {n : Nat} {Q : Po} {l : Nat → Value} {D : List Nat} {R : RH} {O : List Frag} {dst : Option Tmp} {ty : TypeId} {pos : String} {after : Array Edge} {g : Option (Nat × Bool)}
theorem zlp{c:Operand}{args:Array Operand}{at':Array TypeId}{fv:Value}{vs:Array Value}{Oc Or:List Frag}{post:Value→RH→List Frag→Prop}(f:ev l c=fv)(i:args.map (ev l)=vs)(j:O.Perm (Oc++Or))
 (h:CallV P fv vs R Oc post):Eff P ρ ⟨dst,.call ⟨.value c,args,at'⟩,ty,pos,after,g⟩ l R O (fun v R' O'=> ∃ Oc',O'=Oc'++Or∧post v R' Oc'):=by
 intro A w k;rw [qi (by intro c h;cases h)]
 have hh':Holds R (Oc++(Or++A)) w:=u6 k (by rw [←List.append_assoc];exact j.append_right A)
 have e:execOp (ev l) (⟨dst,.call ⟨.value c,args,at'⟩,ty,pos,after,g⟩:Oper)=(do let d←Deferred.ofValue fv vs;invoke d.target d.args:Sem Next):=by
  simp only [execOp,resolve,f,i]
 rw [e]
 exact z5t (h _ w hh') fun v w' ⟨R',O',a,b,c⟩=>⟨R',O'++Or,a,by rw [List.append_assoc];exact b,O',rfl,c⟩
theorem z9e{f:FuncId}{fs cs vs g:Array Value}{post:Value→RH→List Frag→Prop}(i:Enters P f)(j:fs++vs++cs=g)(h:CallG P f g R O post):CallV P (.func (.func f) fs cs) vs R O post:=by
 intro A w k
 subst j
 have e:(do let d←Deferred.ofValue (.func (.func f) fs cs) vs;invoke d.target d.args:Sem Next).run P w= .ok (.enter f (fs++vs++cs)) w:=by
  simp only [Deferred.ofValue,Sem.run_bind,Sem.run_pure,Result.andThen_ok,invoke,i (fs++vs++cs) w]
 rw [e]
 exact Calls.mono (h A w k) fun e w' ⟨v,i,R',O',a,b,c⟩=>⟨v,i,R',O',a,b,c⟩
def z7s(lb:Nat)(L:Loop):Frag:=single lb (.loop L)
def FrT(n:Nat)(l:Nat→Value)(t:Array Value):Prop:=t.size=n∧ ∀ i,t.getD i undef=l i
def zbr:List (Nat×Value)→(Nat→Value)→Nat→Value
 | [],l=>l
 |(p,v)::r,l=>zbr r (upd l p v)
theorem zpt{t:Array Value}{p:Nat}(h:FrT n l t)(a:p<n)(v:Value):FrT n (upd l p v) (t.setIfInBounds p v):=by
 have b:Fr n l [] {tmps:=t,defers:=[]}:=⟨h.1,h.2,.nil⟩
 have:=b.put (d:=some p) (fun t c=>by cases c;exact a) v
 exact⟨this.size,this.get⟩
theorem zhx: ∀ (ps:List (Nat×Value)) (l:Nat→Value) (t:Array Value),FrT n l t→(∀ p∈ps,p.1<n)→FrT n (zbr ps l) (ps.foldl (fun(t:Array Value) (x:Nat×Value)=>t.setIfInBounds x.1 x.2) t)
 | [],l,t,h,_=>h
 |(p,v)::ps,l,t,h,a=>zhx ps _ _ (zpt h (a (p,v) (List.mem_cons_self ..)) v) (fun q b=>a q (List.mem_cons_of_mem _ b))
def znc(R0:RH)(X:List Frag)(RP:Option Code→RH→List Frag→Prop):Po
 | .normal,_,D,R,O=>D=[]∧RH.le R0 R∧ ∃ O',O.Perm (O'++X)∧RP none R O'
 | .ret,_,D,R,O=>D=[]∧RH.le R0 R∧ ∃ O',O.Perm (O'++X)∧RP (some .ret) R O'
 | .exit id,_,D,R,O=>D=[]∧RH.le R0 R∧ ∃ O',O.Perm (O'++X)∧RP (some (.exit id)) R O'
 |_,_,_,_,_=>False
theorem z6l{w:World}{r k:Nat}{o:Obj}(h:k≠r):(w.putObj r o).heap[k]? =w.heap[k]? :=World.putObj_heap_other h
theorem zh9{lb:Nat}{L:Loop}{ps:List Nat}{vs:List Value}{RP:Option Code→RH→List Frag→Prop}(M:L.state= .ready)(m:L.params=ps.toArray)(hlen:ps.length=vs.length)(y: ∀ p∈ps,p<n)(z:FrT n l L.tmps)
 (h: ∀ X,wg P (some lb) n L.assign (fun e G H u O1=>e= .normal∧H=[]∧RH.le R u∧ ∃ Oa,O1.Perm (Oa++X)∧ ∀ X',wg P (some lb) n L.body (znc R X' RP) G [] u (Oa++X')) (zbr (ps.zip vs) l) [] R (O++X)):
 CallV P (.func (.yield lb) #[] #[]) vs.toArray R (z7s lb L::O) (fun v R' O'=> ∃ pend O'',v= .bool pend.isNone∧O'=z7s lb {L with state:=if pend.isNone then .ready else .done,pending:=pend}::O''∧RP pend R' O''):=by
 intro A w I
 have hblk:w.heap[lb]? =some (.loop L):=(I.own _ (List.mem_cons_self ..) lb _ (single_same _ _)).1
 have e:(do let d←Deferred.ofValue (.func (.yield lb) #[] #[]) vs.toArray;invoke d.target d.args:Sem Next).run P w=
  .ok (.round lb L.fn ((ps.zip vs).foldl (fun(t:Array Value) (x:Nat×Value)=>t.setIfInBounds x.1 x.2) L.tmps) L.assign L.body) w:=by
  simp only [Deferred.ofValue,Sem.run_bind,Sem.run_pure,Result.andThen_ok,invoke]
  have:(#[]++vs.toArray:Array Value)=vs.toArray:=by simp
  rw [this,run_yield hblk (by rw [m];simp [hlen])]
  congr 2
  rw [m]
  simp [List.zip_toArray]
 rw [e]
 have hfr':=zhx (n:=n) (ps.zip vs) l L.tmps z (fun p g=>y p.1 (List.of_mem_zip g).1)
 refine roundIn_of_wpIn (F:=Fence.wide) trivial ?_
 have hperm: ∀ (X:Frag) (Y:List Frag),((X::Y)++A).Perm ((Y++(X::A))++([]:List Nat).map z1n):=fun X Y=>by
  simp only [List.map_nil,List.append_nil,List.cons_append]
  exact List.perm_middle.symm
 refine wpIn_mono (h (z7s lb L::A) _ w ⟨hfr'.1,hfr'.2,.nil⟩ (u6 I (hperm _ _))) ?_
 rintro T N J ⟨G,H,u,O1,B,o,rfl,rfl,K,Oa,C,hbody⟩
 simp only [List.map_nil,List.append_nil] at o
 have hh1':Holds u (single lb (.loop L)::(Oa++A)) J:=u6 o (C.trans List.perm_middle)
 have q:J.heap[lb]? =some (.loop L):=(hh1'.own _ (List.mem_cons_self ..) lb _ (single_same _ _)).1
 refine⟨_,run_beginRound q M,?_⟩
 have D:=z2w hh1' (putObj_heap_same (o':= .loop {L with state:= .busy}) q) (fun k E=>z6l E) rfl rfl
 refine wpIn_mono (hbody (z7s lb {L with state:= .busy}::A) N _ B (u6 D (hperm _ _))) ?_
 have fin: ∀ (pend:Option Code) (a2:Act) (i:World) (f:RH) (O2:List Frag) (O':List Frag),Holds f (O2++([]:List Nat).map z1n) i→RH.le R f→O2.Perm (O'++(z7s lb {L with state:= .busy}::A))→RP pend f O'→
  ∃ v w',(Instr.endRound lb pend).run P i= .ok v w'∧ ∃ v',Ending.returned v= .returned v'∧ ∃ R' O'',RH.le R R'∧Holds R' (O''++A) w'∧
   ∃ pend O''',v'= .bool pend.isNone∧O''=z7s lb {L with state:=if pend.isNone then .ready else .done,pending:=pend}::O'''∧RP pend R' O''':=by
  intro pend a2 i f O2 O' c a g b
  simp only [List.map_nil,List.append_nil] at c
  have r:Holds f (single lb (.loop {L with state:= .busy})::(O'++A)) i:=u6 c (g.trans List.perm_middle)
  have s:i.heap[lb]? =some (.loop {L with state:= .busy}):=(r.own _ (List.mem_cons_self ..) lb _ (single_same _ _)).1
  refine⟨_,_,run_endRound pend s,_,rfl,f,_,a,?_,pend,O',rfl,rfl,b⟩
  exact z2w r (putObj_heap_same s) (fun k E=>z6l E) rfl rfl
 rintro Q a2 i ⟨U,V,f,O2,S,c,j⟩
 cases Q with
 |normal=>obtain⟨rfl,a,O',g,b⟩:=j;exact fin none a2 i f O2 O' c a g b
 |ret=>obtain⟨rfl,a,O',g,b⟩:=j;exact fin _ a2 i f O2 O' c a g b
 |exit id=>obtain⟨rfl,a,O',g,b⟩:=j;exact fin _ a2 i f O2 O' c a g b
 |goto _=>exact j.elim
 |panic _=>exact j.elim
 |outgrown=>exact j.elim
theorem zg1{gv:Operand}{ps:Array Nat}{assign body:Code}{f:FuncId}{fs cs:Array Value}{Oc Or:List Frag}(r:ev l gv= .func (.func f) fs cs)(s:Enters P f)(x:O.Perm (Oc++Or))
 (h: ∀ (lb dd:Nat) (fn:FuncId) (t:Array Value),FrT n l t→CallG P f (fs++ #[.func (.yield lb) #[] #[]]++cs) R (z7s lb {state:= .ready,pending:=none,fn,tmps:=t,params:=ps,assign,body,defers:=dd}::Oc)
  (fun v R' O'=> ∃ L' Oc',O'=z7s lb L'::Oc'∧L'.state≠ .busy∧(match L'.pending with|none=>Q .normal l (dd::D) R' (Oc'++Or)|some c=>wg P none n c Q l (dd::D) R' (Oc'++Or)))):
 wg P none n (.rangeFunc gv ps assign body) Q l D R O:=by
 intro a w b y
 refine wpIn_rangeFunc (F:=wide none) fun fn _=>?_
 have hres:(resolve a.eval (rangeCall gv (w.heap.size+1)) 0).run P ((w.alloc (.deferred (some []))).alloc (.loop {state:= .ready,pending:=none,fn,tmps:=a.tmps,params:=ps,assign,body,defers:=w.heap.size}))=
  .ok {target:= .fn (.func f) cs,args:=fs++ #[.func (.yield (w.heap.size+1)) #[] #[]]} ((w.alloc (.deferred (some []))).alloc (.loop {state:= .ready,pending:=none,fn,tmps:=a.tmps,params:=ps,assign,body,defers:=w.heap.size})):=by
  rw [b.eval]
  have z:(#[Operand.const (Value.func (Fn.yield (w.heap.size+1)) #[] #[])]:Array Operand).map (ev l)= #[.func (.yield (w.heap.size+1)) #[] #[]]:=by simp [ev]
  simp only [resolve,r,Deferred.ofValue,z,Sem.run_pure]
 have hinv: ∀ (u:World),(invoke ({target:= .fn (.func f) cs,args:=fs++ #[.func (.yield (w.heap.size+1)) #[] #[]]}:Deferred).target ({target:= .fn (.func f) cs,args:=fs++ #[.func (.yield (w.heap.size+1)) #[] #[]]}:Deferred).args).run P u=
  .ok (.enter f (fs++ #[.func (.yield (w.heap.size+1)) #[] #[]]++cs)) u:=fun u=>by
  simp only [invoke];exact s _ _
 refine⟨_,_,_,_,_,f,fs++ #[.func (.yield (w.heap.size+1)) #[] #[]]++cs,_,run_enterLoop_outer _ _ _ _ _,hres,fun _ _=>trivial,hinv _,fun h=>(by cases h),?_⟩
 ·refine Calls.callsIn none ?_
  have A:=holds_alloc y (.deferred (some []))
  have o:=holds_alloc A (.loop {state:= .ready,pending:=none,fn,tmps:=a.tmps,params:=ps,assign,body,defers:=w.heap.size})
  rw [World.size_alloc] at o
  have hperm:(single (w.heap.size+1) (.loop {state:= .ready,pending:=none,fn,tmps:=a.tmps,params:=ps,assign,body,defers:=w.heap.size})::single w.heap.size (.deferred (some []))::(O++D.map z1n)).Perm
   ((z7s (w.heap.size+1) {state:= .ready,pending:=none,fn,tmps:=a.tmps,params:=ps,assign,body,defers:=w.heap.size}::Oc)++(Or++(w.heap.size::D).map z1n)):=by
   rw [List.cons_append]
   refine List.Perm.cons _ ?_
   rw [List.map_cons,←List.append_assoc]
   refine List.Perm.trans ?_ List.perm_middle.symm
   exact List.Perm.cons _ (x.append_right _)
  refine Calls.mono (h (w.heap.size+1) w.heap.size fn a.tmps ⟨b.size,b.get⟩ _ _ (u6 o hperm)) ?_
  rintro e p ⟨v,rfl,R',O',B,d,L',Oc',rfl,j,q⟩
  have g:p.heap[w.heap.size+1]? =some (.loop L'):=(d.own _ (List.mem_cons_self ..) _ _ (single_same _ _)).1
  refine⟨_,_,run_endLoop g j,?_⟩
  have m:=z2w d (putObj_heap_same (o':= .loop {L' with state:= .exhausted}) g) (fun k C=>z6l C) rfl rfl
  have i:Holds R' ((Oc'++Or)++(w.heap.size::D).map z1n) (p.putObj (w.heap.size+1) (.loop {L' with state:= .exhausted})):=by
   have:=holds_drop m
   rw [List.append_assoc];exact this
  have hf':Fr n l (w.heap.size::D) {a with defers:=[{target:= .collected w.heap.size,args:= #[]}]++a.defers}:=⟨b.size,b.get,.mark _ b.defers⟩
  obtain⟨st,pend,lfn,lt,lps,las,lbd,ldf⟩:=L'
  cases pend with
  |none=>exact⟨l,_,R',_,hf',i,q⟩
  |some c=>exact q _ _ hf' i
end iter
end GV
end Go.Proofs.YtkkcidhcfkmbjaaGreatDoor

namespace Go.Proofs.YtkkcidhcfkmbjaaGreatDoor
namespace GV
open Go.IntWalk
section wo
variable {P : Program} {ρ : Option Nat} {n : Nat} {Q : Po} {l : Nat → Value} {D : List Nat} {R : RH} {O : List Frag} {ops : Array Oper} {rest : List Oper} {ty : TypeId} {pos : String} {after : Array Edge} {d : Nat}
theorem z0n{op:Op}{φ:Value→RH→List Frag→Prop}(a:Nat.blt d n=true)(h:Eff P ρ ⟨some d,op,ty,pos,after,none⟩ l R O φ)
 (b: ∀ v R' O',RH.le R R'→φ v R' O'→wo P ρ n ops Q rest (upd l d v) D R' O'):wo P ρ n ops Q (⟨some d,op,ty,pos,after,none⟩::rest) l D R O:=
 zfr rfl (fun t c=>by cases c;simpa using a) h b
theorem zbq{op:Op}{φ:Value→RH→List Frag→Prop}(h:Eff P ρ ⟨none,op,ty,pos,after,none⟩ l R O φ)
 (a: ∀ v R' O',RH.le R R'→φ v R' O'→wo P ρ n ops Q rest l D R' O'):wo P ρ n ops Q (⟨none,op,ty,pos,after,none⟩::rest) l D R O:=
 zfr rfl (fun t b=>by cases b) h a
theorem ji{op:Op}{v:Value}(a:Nat.blt d n=true)(h:Val P ρ ⟨some d,op,ty,pos,after,none⟩ l R O v)(b:wo P ρ n ops Q rest (upd l d v) D R O):wo P ρ n ops Q (⟨some d,op,ty,pos,after,none⟩::rest) l D R O:=
 zqy rfl rfl a h b
theorem qw{α:Type}{T:Ty α}{t:TypeId}{x:Operand}{v:Value}{y:α}(a:Nat.blt d n=true)(b:TyOk P t T)(c:ev l x=v)(e:PRep T R v y)(f: ∀ u,VRep T R u y→wo P ρ n ops Q rest (upd l d u) D R O):
 wo P ρ n ops Q (⟨some d,.load t x,ty,pos,after,none⟩::rest) l D R O:=
 let⟨u,g,h⟩:=z8e (ρ:=ρ) (O:=O) b c e
 ji a (h _ _ _ _ _) (f u g)
theorem ky{α β:Type}{A:Ty α}{B:Ty β}{s:TypeId}{x:Operand}{f o:Nat}{v:Value}{y:α}{pr:α→β}(a:Nat.blt d n=true)(b:FieldOk P s f o)(hpart:Part A o B pr)(c:ev l x=v)(e:PRep A R v y)
 (g: ∀ u,PRep B R u (pr y)→wo P ρ n ops Q rest (upd l d u) D R O):wo P ρ n ops Q (⟨some d,.fieldAddr s x f,ty,pos,after,none⟩::rest) l D R O:=
 let⟨u,h,i⟩:=z9f (ρ:=ρ) (O:=O) b hpart c e
 ji a (i _ _ _ _ _) (g u h)
theorem getD_some{α:Type}[Inhabited α]{X:List α}{i:Nat}(h:i<X.length):X[i]? =some (X.getD i default):=by
 rw [List.getD_eq_getElem?_getD,List.getElem?_eq_getElem h];rfl
theorem wu{α:Type}[Inhabited α]{T:Ty α}{t e:TypeId}{x ix:Operand}{v:Value}{X:List α}{k:IntKind}{i:Nat}(a:Nat.blt d n=true)(b:SlOk P t e T)(c:ev l x=v)(f:VRep (yo T) R v X)
 (hi:ev l ix= .int k i) (g:i<X.length) (h: ∀ u,PRep T R u (X.getD i default)→wo P ρ n ops Q rest (upd l d u) D R O):wo P ρ n ops Q (⟨some d,.indexAddr t x ix,ty,pos,after,none⟩::rest) l D R O:=
 let⟨u,j,m⟩:=z97 (ρ:=ρ) (O:=O) b c f hi (getD_some g)
 ji a (m _ _ _ _ _) (h u j)
def z2l{α:Type}(T:Ty α)(v:Value)(X:List α)(u:Value)(i:Nat):Prop:= ∃ b off,v= .slice (some ⟨b,off,none⟩) X.length (capOf v)∧u= .pointer (some ⟨b,off+i*T.size,none⟩)
theorem l9{α:Type}{T:Ty α}{t e:TypeId}{x ix:Operand}{v:Value}{X:List α}{k:IntKind}{i:Nat}{f:Frag}(a:Nat.blt d n=true)(c:SlOk P t e T)(g:ev l x=v)(h:ORep T R f v X)
 (hi:ev l ix= .int k i) (j:i<X.length) (m: ∀ u,z2l T v X u i→wo P ρ n ops Q rest (upd l d u) D R O):wo P ρ n ops Q (⟨some d,.indexAddr t x ix,ty,pos,after,none⟩::rest) l D R O:=
 let⟨b,off,o,p⟩:=z9h (ρ:=ρ) (O:=O) c g h hi j
 ji a (p _ _ _ _ _) (m _ ⟨b,off,o,rfl⟩)
theorem z5n{α:Type}[Inhabited α]{T:Ty α}{t:TypeId}{x:Operand}{f:Frag}{v u:Value}{X:List α}{i j:Nat}(a:Nat.blt d n=true)(c:TyOk P t T)(e:ORep T R f v X)(g:O[j]? =some f)(h:ev l x=u)(k:z2l T v X u i)(m:i<X.length)
 (o: ∀ y,VRep T R y (X.getD i default)→wo P ρ n ops Q rest (upd l d y) D R O):wo P ρ n ops Q (⟨some d,.load t x,ty,pos,after,none⟩::rest) l D R O:=by
 obtain⟨b,off,p,rfl⟩:=k
 obtain⟨y,hy',q⟩:=zaz (ρ:=ρ) (P:=P) c e p g h (getD_some m)
 exact ji a (q _ _ _ _ _) (o y hy')
theorem z3y{α:Type}{T:Ty α}{t:TypeId}{x y:Operand}{f:Frag}{v u w:Value}{X:List α}{i j:Nat}{z:α}(a:TyOk P t T)(c:ORep T R f v X)(d:O[j]? =some f)(e:ev l x=u)(g:z2l T v X u i)(hi:i<X.length)
 (k:ev l y=w) (m:VRep T R w z) (o: ∀ f',ORep T R f' v (X.set i z)→wo P ρ n ops Q rest l D R (O.set j f')):wo P ρ n ops Q (⟨none,.store t x y,ty,pos,after,none⟩::rest) l D R O:=by
 obtain⟨b,off,p,rfl⟩:=g
 refine zbq (zcs a c p d e hi k m) ?_
 rintro v' R' O' _ ⟨_,rfl,f',rfl,h⟩
 exact o f' h
theorem x9{e:TypeId}{zs:List Value}(a:Nat.blt d n=true)(c: ∀ w,∃ z,(zeroValue e).run P w= .ok z w∧z.cells=zs.toArray)(f: ∀ b,wo P ρ n ops Q rest (upd l d (.pointer (some ⟨b,0,none⟩))) D R (box b zs e::O)):
 wo P ρ n ops Q (⟨some d,.alloc e,ty,pos,after,none⟩::rest) l D R O:=
 z0n a (ze5 c) fun v R' O' _ ⟨g,b,h,i⟩=>by subst g;subst h;subst i;exact f b
theorem zmo{e:TypeId}{x:Operand}{v:Value}{cs:List Value}(c:Nat.blt d n=true)(f:ev l x=v)(a:v.cells=cs.toArray)(g: ∀ b,wo P ρ n ops Q rest (upd l d (.pointer (some ⟨b,0,none⟩))) D R (box b cs e::O)):
 wo P ρ n ops Q (⟨some d,.box e x,ty,pos,after,none⟩::rest) l D R O:=
 z0n c (zpw f a) fun v R' O' _ ⟨h,b,a,i⟩=>by subst h;subst a;subst i;exact g b
theorem z8f{α:Type}{T:Ty α}{e:TypeId}{x:Operand}{v:Value}{y:α}(b:Nat.blt d n=true)(c:ev l x=v)(f:VRep T R v y)(g: ∀ u R',RH.le R R'→PRep T R' u y→wo P ρ n ops Q rest (upd l d u) D R' O):
 wo P ρ n ops Q (⟨some d,.box e x,ty,pos,after,none⟩::rest) l D R O:=
 z0n b (zmj c f) fun u R' O' a ⟨h,i⟩=>by subst h;exact g u R' a i
theorem jb{t:TypeId}{x y:Operand}{b off i k:Nat}{cs vs:List Value}{bt:TypeId}{v:Value}(c: ∀ w,(sizeOf t).run P w= .ok k w)(d:ev l x= .pointer (some ⟨b,off,none⟩))(e:ev l y=v)
 (f:v.cells=vs.toArray) (g:vs.length=k) (a:O[i]? =some (box b cs bt)) (h:Nat.ble (off+vs.length) cs.length=true) (j: ∀ v∈vs,v.oneCell'=true) (m:wo P ρ n ops Q rest l D R (O.set i (box b (over cs off vs) bt))):
 wo P ρ n ops Q (⟨none,.store t x y,ty,pos,after,none⟩::rest) l D R O:=
 zbq (z2r c d e f g a (by simpa using h) j) fun v R' O' _ ⟨_,o,a⟩=>by subst o;subst a;exact m
theorem z9u{α:Type}{T:Ty α}{z:α}{t e:TypeId}{bytes:Nat}{x y:Operand}{m c:Nat}{k k':IntKind}(b:Nat.blt d n=true)(g:P.underlying t=some (.slice e))(i:ZeroOk P e T z bytes)(j:ev l x= .int k m)(o:ev l y= .int k' c)
 (a:m≤c) (p:bytes*c≤281474976710656) (q:c≤9223372036854775807) (r: ∀ v f,capOf v=c→ORep T R f v (List.replicate m z)→wo P ρ n ops Q rest (upd l d v) D R (f::O)):
 wo P ρ n ops Q (⟨some d,.makeSlice t x y,ty,pos,after,none⟩::rest) l D R O:=
 z0n b (zgm g i j o a p q) fun v R' O' _ ⟨s,hcap,f,u,h⟩=>by subst s;subst u;exact r v f hcap h
theorem cz{α:Type}{T:Ty α}{t e:TypeId}{z:α}{bytes m:Nat}{parts:List (Nat×Operand)}{ps:List (Nat×Value)}{css:List (List Value)}{X:List α}(b:Nat.blt d n=true)(g:P.underlying t=some (.slice e))(j:ZeroOk P e T z bytes)
 (k:(parts.map fun x=>(x.1,ev l x.2))=ps) (a:ps.map (fun p=>(p.1,p.2.cells))=css.zipIdx.map (fun x=>(x.2,x.1.toArray))) (o: ∀ (i:Nat) (c:List Value) (x:α),css[i]? =some c→X[i]? =some x→T.rep R c x)
 (q:css.length=X.length) (r:X.length=m) (hbig:m*T.size≤16777216) (s: ∀ v f,capOf v=X.length→ORep T R f v X→wo P ρ n ops Q rest (upd l d v) D R (f::O)):
 wo P ρ n ops Q (⟨some d,.buildSlice t m parts.toArray,ty,pos,after,none⟩::rest) l D R O:=
 z0n b (z8a g j (by rw [List.map_toArray];exact congrArg List.toArray k) a o q r hbig) fun v R' O' _ ⟨u,hcap,f,w,h⟩=>by subst u;subst w;exact s v f hcap h
theorem ll{α:Type}{T:Ty α}{z:α}{bytes:Nat}{t e:TypeId}{x y:Operand}{v u:Value}{X Y:List α}{i:Nat}{f:Frag}(a:Nat.blt d n=true)
 (b:P.underlying t=some (.slice e)) (c:ZeroOk P e T z bytes) (g:ev l x=v) (j:ev l y=u) (k:O[i]? =some f) (m:ORep T R f v X) (hu':VRep (yo T) R u Y)
 (o:(X.length+Y.length)*bytes≤140737488355328) (p:X.length+Y.length≤9223372036854775807) (q: ∀ v' f',ORep T R f' v' (X++Y)→wo P ρ n ops Q rest (upd l d v') D R (O.set i f')):
 wo P ρ n ops Q (⟨some d,.call ⟨.builtin .append,#[x,y],#[t,t]⟩,ty,pos,after,none⟩::rest) l D R O:=
 z0n a (zjg b c g j k m hu' o p) fun v' R' O' _ ⟨r,f',hO',h⟩=>by subst r;subst hO';exact q v' f' h
theorem z3l{args:List Operand}{vs:List Value}(a:args.map (ev l)=vs):args.toArray.map (ev l)=vs.toArray:=by rw [List.map_toArray,a]
theorem qm{f:FuncId}{args:List Operand}{at':Array TypeId}{vs:List Value}{post:Value→RH→Prop}(b:Nat.blt d n=true)(c:Enters P f)(e:args.map (ev l)=vs)(h:CallP P f vs.toArray R post)
 (g: ∀ v R',RH.le R R'→post v R'→wo P ρ n ops Q rest (upd l d v) D R' O):wo P ρ n ops Q (⟨some d,.call ⟨.value (.func f),args.toArray,at'⟩,ty,pos,after,none⟩::rest) l D R O:=
 z0n b (zet c rfl (z3l e) (by simp) h) fun v R' O' a ⟨i,j⟩=>by subst i;exact g v R' a j
theorem zhu{f:FuncId}{args:List Operand}{at':Array TypeId}{vs:List Value}{Oc Or:List Frag}{post:Value→RH→List Frag→Prop}(c:Nat.blt d n=true)(e:Enters P f)(g:args.map (ev l)=vs)(i:O.Perm (Oc++Or))(h:CallG P f vs.toArray R Oc post)
 (j: ∀ v R' Oc',RH.le R R'→post v R' Oc'→wo P ρ n ops Q rest (upd l d v) D R' (Oc'++Or)):wo P ρ n ops Q (⟨some d,.call ⟨.value (.func f),args.toArray,at'⟩,ty,pos,after,none⟩::rest) l D R O:=
 z0n c (zel e rfl (z3l g) (by simp) i h) fun v R' O' a ⟨Oc',k,b⟩=>by subst k;exact j v R' Oc' a b
theorem z9z{c:Operand}{args:List Operand}{at':Array TypeId}{fv:Value}{vs:List Value}{Oc Or:List Frag}{post:Value→RH→List Frag→Prop}(e:Nat.blt d n=true)(f:ev l c=fv)(g:args.map (ev l)=vs)(i:O.Perm (Oc++Or))(h:CallV P fv vs.toArray R Oc post)
 (j: ∀ v R' Oc',RH.le R R'→post v R' Oc'→wo P ρ n ops Q rest (upd l d v) D R' (Oc'++Or)):wo P ρ n ops Q (⟨some d,.call ⟨.value c,args.toArray,at'⟩,ty,pos,after,none⟩::rest) l D R O:=
 z0n e (zlp f (z3l g) i h) fun v R' O' a ⟨Oc',k,b⟩=>by subst k;exact j v R' Oc' a b
theorem zes{α:Type}{T:Ty α}{t e:TypeId}{lo hi mx:Nat}{x:Operand}{xlo xhi xmx:Option Operand}{v:Value}{X:List α}(g:Nat.blt d n=true)(h:SlOk P t e T)(i:ev l x=v)(j:VRep (yo T) R v X)
 (a:xlo.map (ev l)=none∧lo=0∨ ∃ k,xlo.map (ev l)=some (.int k lo)) (b:xhi.map (ev l)=none∧hi=X.length∧xmx=none∨ ∃ k,xhi.map (ev l)=some (.int k hi))
 (c:xmx.map (ev l)=none∧mx=capOf v∨ ∃ k,xmx.map (ev l)=some (.int k mx)) (m:lo≤hi) (o:hi≤X.length) (p:hi≤mx) (q:mx≤capOf v)
 {X':List α} (r:(X.drop lo).take (hi-lo)=X') (s: ∀ u,VRep (yo T) R u X'→capOf u=mx-lo→wo P ρ n ops Q rest (upd l d u) D R O):wo P ρ n ops Q (⟨some d,.slice t x xlo xhi xmx,ty,pos,after,none⟩::rest) l D R O:=by
 obtain⟨u,f,w,y⟩:=zck (P:=P) (ρ:=ρ) (O:=O) h i j a b c m o p q
 rw [r] at f
 exact ji g (y _ _ _ _ _) (s u f w)
theorem zpm{α:Type}{T:Ty α}{v:Value}{X:List α}(h:VRep (yo T) R v X):X.length≤capOf v:=by
 obtain⟨p,n,rfl,a,_⟩:=xh.1 h
 exact a
theorem ma{ρ:Option Nat}{dst:Option Tmp}{g:Option (Nat×Bool)}{t:TypeId}{parts:List (Nat×Operand)}{ps:List (Nat×Value)}{v:Value}(a:(parts.map fun x=>(x.1,ev l x.2))=ps)(h: ∀ w,(Instr.build t ps.toArray).run P w= .ok v w):
 Val P ρ ⟨dst,.build t parts.toArray,ty,pos,after,g⟩ l R O v:=zkr (by rw [List.map_toArray];exact congrArg List.toArray a) h
theorem bg{ρ:Option Nat}{dst:Option Tmp}{g:Option (Nat×Bool)}{fn:Fn}{first captured:List Operand}{fs cs:List Value}(a:first.map (ev l)=fs)(b:captured.map (ev l)=cs):
 Val P ρ ⟨dst,.makeFunc fn first.toArray captured.toArray,ty,pos,after,g⟩ l R O (.func fn fs.toArray cs.toArray):=zf3 (z3l a) (z3l b)
def zke{α:Type}(T:Ty α)(R:RH):List (List Value)→List α→Prop
 | [],[]=>True
 |c::cs,x::xs=>T.rep R c x∧zke T R cs xs
 |_,_=>False
theorem ul{α:Type}{T:Ty α}: ∀ {css:List (List Value)} {X:List α},zke T R css X→ ∀ (i:Nat) (c:List Value) (x:α),css[i]? =some c→X[i]? =some x→T.rep R c x
 | [],[],_,i,c,x,h,_=>by simp at h
 |c::cs,y::ys,h,i,c',x,a,b=>by
  cases i with
  |zero=>simp at a b;subst a;subst b;exact h.1
  |succ i=>exact ul h.2 i c' x (by simpa using a) (by simpa using b)
theorem j5{t k:Nat}(h:(P.info? t).map (·.size)=some k): ∃ i,P.info? t=some i∧i.size=k:=by
 cases e:P.info? t with
 |none=>rw [e] at h;cases h
 |some i=>rw [e] at h;exact⟨i,rfl,by simpa using h⟩
theorem z11{e k b:Nat}{zv:Value}(h:(P.info? e).map (fun i=>(i.zero,i.size,i.bytes))=some (some zv,k,b)): ∃ i u,P.info? e=some i∧i.zero=some u∧i.size=k∧i.bytes=b∧u=zv:=by
 cases h':P.info? e with
 |none=>rw [h'] at h;cases h
 |some i=>rw [h'] at h;simp at h;exact⟨i,zv,rfl,h.1,h.2.1,h.2.2,rfl⟩
theorem z18{w:World}{i b off:Nat}{cs:List Value}{bt t:TypeId}{v:Value}(a:Holds R O w)(c:O[i]? =some (box b cs bt))(d:cs[off]? =some v)(e: ∀ w,(isAgg t).run P w= .ok false w):(loadVar t ⟨b,off,none⟩).run P w= .ok v w:=by
 have hblk:w.heap[b]? =some (.cells cs.toArray bt (0,0)):=oq a c (single_same _ _)
 simp [loadVar,e,cell_of_block hblk,d]
theorem z0h{w:World}{i b off k:Nat}{cs vs:List Value}{bt t:TypeId}(c:Holds R O w)(d:O[i]? =some (box b cs bt))(e:(cs.drop off).take k=vs)(f: ∀ w,(isAgg t).run P w= .ok true w)(g: ∀ w,(sizeOf t).run P w= .ok k w)(j:vs.length=k)(h:Nat.ble (off+k) cs.length=true):
 (loadVar t ⟨b,off,none⟩).run P w= .ok (.agg vs.toArray) w:=by
 have hblk:w.heap[b]? =some (.cells cs.toArray bt (0,0)):=oq c d (single_same _ _)
 have a:off+k≤cs.toArray.size:=by simpa using h
 simp [loadVar,f,g,run_loadCells hblk a,cellsAt,e]
end wo
/-! ### Loops-/
def mask(W:List Nat)(j l:Nat→Value):Nat→Value:=fun i=>bif W.elem i then j i else l i
def Off(W:List Nat)(l l0:Nat→Value):Prop:= ∀ i,W.elem i=false→l i=l0 i
theorem zgo{W:List Nat}{j l:Nat→Value}:Off W (mask W j l) l:=fun i h=>by unfold mask;rw [h];rfl
theorem zju{W:List Nat}{l l0:Nat→Value}{d:Nat}{v:Value}(b:W.elem d=true)(h:Off W l l0):Off W (upd l d v) l0:=fun i hi=>by
 have a:Nat.beq i d=false:=by
  cases e:Nat.beq i d
  ·rfl
  ·rw [Nat.eq_of_beq_eq_true e,b] at hi;cases hi
 simp only [upd,a,cond_false]
 exact h i hi
theorem zc3{W:List Nat}{l l0:Nat→Value}: ∀ {L:List (Nat×Value)},(L.all fun p=>W.elem p.1)=true→Off W l l0→Off W (z0z l L) l0
 | [],_,h=>h
 |(d,v)::r,a,h=>by
  simp only [List.all_cons,Bool.and_eq_true] at a
  exact zju a.1 (zc3 a.2 h)
theorem zgn{W:List Nat}{l:Nat→Value}:Off W l l:=fun _ _=>rfl
theorem zf0{W:List Nat}{l l' l0:Nat→Value}(h:Off W l l')(k:Off W l' l0):Off W l l0:=fun i hi=>(h i hi).trans (k i hi)
theorem zos{W W':List Nat}{l l0:Nat→Value}(a:(W'.all fun x=>W.elem x)=true)(h:Off W' l l0):Off W l l0:=fun i hi=>h i (by
 cases e:W'.elem i
 ·rfl
 ·have:=List.all_eq_true.1 a i (List.elem_iff.1 e)
  rw [hi] at this;cases this)
theorem zhq{W:List Nat}{l l0:Nat→Value}(h:Off W l l0):l=mask W l l0:=by
 funext i
 unfold mask
 cases e:W.elem i
 ·exact h i e
 ·rfl
def zh7(l:Nat→Value):List (Nat×Value)→Prop
 | []=>True
 |(d,v)::r=>l d=v∧zh7 l r
theorem zg4{l:Nat→Value}: ∀ {L:List (Nat×Value)},zh7 l L→ ∀ p∈L,l p.1=p.2
 | [],_,p,a=>by cases a
 |(d,v)::r,h,p,a=>by
  rcases List.mem_cons.1 a with rfl|a
  ·exact h.1
  ·exact zg4 h.2 p a
theorem mg{P:Program}{ρ:Option Nat}{l:Nat→Value}{R:RH}{O:List Frag}{dst:Option Tmp}{ty:TypeId}{pos:String}{after:Array Edge}{g:Option (Nat×Bool)}{c x y:Operand}{b b':Bool}(a:ev l c= .bool b)(d:ev l x= .bool true)(e:b=false→ev l y= .bool b'):
 Val P ρ ⟨dst,.pick c x y,ty,pos,after,g⟩ l R O (.bool (b||b')):=by
 cases b
 ·exact z9p a (by rw [e rfl];rfl)
 ·exact z9p a (by rw [d];rfl)
theorem z09{P:Program}{ρ:Option Nat}{l:Nat→Value}{R:RH}{O:List Frag}{dst:Option Tmp}{ty:TypeId}{pos:String}{after:Array Edge}{g:Option (Nat×Bool)}{c x y:Operand}{b b':Bool}(a:ev l c= .bool b)(d:b=true→ev l x= .bool b')(e:ev l y= .bool false):
 Val P ρ ⟨dst,.pick c x y,ty,pos,after,g⟩ l R O (.bool (b&&b')):=by
 cases b
 ·exact z9p a (by rw [e];rfl)
 ·exact z9p a (by rw [d rfl];rfl)
theorem zf7{W W':List Nat}{j l l0:Nat→Value}(a:(W'.all fun x=>W.elem x)=true)(h:Off W l l0):Off W (mask W' j l) l0:=zf0 (zos a zgo) h
theorem zx{l:Nat→Value}{x:Operand}{k:IntKind}{t:Int}(h:ev l x= .int k t)(a:0≤t):ev l x= .int k (t.toNat:Int):=by rw [h,Int.toNat_of_nonneg a]
theorem zc6{P:Program}{ρ:Option Nat}{n:Nat}{Q:Po}{l:Nat→Value}{D:List Nat}{R:RH}{O:List Frag}{ops:Array Oper}{os:List Oper}(k:wo P ρ n ops Q os l D R (emp::O)):wo P ρ n ops Q os l D R O:=
 zpn (fun A w h=>⟨h.ro,fun f a i o b=>by
  rcases List.mem_cons.1 a with rfl|a
  ·cases b
  ·exact h.own f a i o b,List.pairwise_cons.2 ⟨fun f _ i=> .inl rfl,h.sep⟩,h.os,h.out⟩) k
theorem zat{P:Program}{ρ:Option Nat}{n:Nat}{Q:Po}{l:Nat→Value}{D:List Nat}{R:RH}{O:List Frag}{c:Code}(k:wg P ρ n c Q l D R (emp::O)):wg P ρ n c Q l D R O:=
 zpj (fun A w h=>⟨h.ro,fun f a i o b=>by
  rcases List.mem_cons.1 a with rfl|a
  ·cases b
  ·exact h.own f a i o b,List.pairwise_cons.2 ⟨fun f _ i=> .inl rfl,h.sep⟩,h.os,h.out⟩) k
theorem z1h{α:Type}{T:Ty α}{R:RH}:ORep T R emp (.slice none 0 0) []:= .inl ⟨rfl,rfl,rfl⟩
section phis
variable {P : Program} {ρ : Option Nat} {l : Nat → Value} {R : RH} {O : List Frag} {dst : Option Tmp} {ty : TypeId} {pos : String} {after : Array Edge} {g : Option (Nat × Bool)}
theorem zk{o:Oper}{v:Value}(h:Val P ρ o l R O v):Eff P ρ o l R O (fun v' R' O'=>O'=O∧phX v v' R'):=h.eff.mono fun v' R' O' _ ⟨a,_,c⟩=>⟨c,a⟩
theorem p8{α:Type}{T:Ty α}{t:TypeId}{x:Operand}{v:Value}{y:α}(d:TyOk P t T)(e:ev l x=v)(f:PRep T R v y):Eff P ρ ⟨dst,.load t x,ty,pos,after,g⟩ l R O (fun v' R' O'=>O'=O∧phR T y v' R'):=
 let⟨u,h,i⟩:=z8e (ρ:=ρ) (O:=O) d e f
 (i dst ty pos after g).eff.mono fun v' R' O' _ ⟨a,b,c⟩=>by subst a;subst b;exact⟨c,h⟩
theorem r9{α β:Type}{A:Ty α}{B:Ty β}{s:TypeId}{x:Operand}{f o:Nat}{v:Value}{y:α}{pr:α→β}(d:FieldOk P s f o)(hpart:Part A o B pr)(e:ev l x=v)(h:PRep A R v y):
 Eff P ρ ⟨dst,.fieldAddr s x f,ty,pos,after,g⟩ l R O (fun v' R' O'=>O'=O∧phP B (pr y) v' R'):=
 let⟨u,i,j⟩:=z9f (ρ:=ρ) (O:=O) d hpart e h
 (j dst ty pos after g).eff.mono fun v' R' O' _ ⟨a,b,c⟩=>by subst a;subst b;exact⟨c,i⟩
theorem z2q{α:Type}[Inhabited α]{T:Ty α}{t e:TypeId}{x ix:Operand}{v:Value}{X:List α}{k:IntKind}{i:Nat}(d:SlOk P t e T)(f:ev l x=v)(h:VRep (yo T) R v X)(hi:ev l ix= .int k i)(j:i<X.length):
 Eff P ρ ⟨dst,.indexAddr t x ix,ty,pos,after,g⟩ l R O (fun v' R' O'=>O'=O∧phP T (X.getD i default) v' R'):=
 let⟨u,m,n⟩:=z97 (ρ:=ρ) (O:=O) d f h hi (getD_some j)
 (n dst ty pos after g).eff.mono fun v' R' O' _ ⟨a,b,c⟩=>by subst a;subst b;exact⟨c,m⟩
theorem p9{f:FuncId}{args:List Operand}{at':Array TypeId}{vs:List Value}{post φ:Value→RH→Prop}(c:Enters P f)(d:args.map (ev l)=vs)(h:CallP P f vs.toArray R post)(e: ∀ v R',post v R'→φ v R'):
 Eff P ρ ⟨dst,.call ⟨.value (.func f),args.toArray,at'⟩,ty,pos,after,g⟩ l R O (fun v' R' O'=>O'=O∧φ v' R'):=
 (zet c rfl (z3l d) (by simp) h).mono fun v R' O' _ ⟨a,b⟩=>⟨a,e _ _ b⟩
theorem bf{o:Oper}{α:Type}{T:Ty α}{x:α}{c:Value}(h:Eff P ρ o l R O (fun v' R' O'=>O'=O∧phR T x v' R'))(d: ∀ R v,VRep T R v x→v=c):Eff P ρ o l R O (fun v' R' O'=>O'=O∧phX c v' R'):=
 h.mono fun v R' O' _ ⟨a,b⟩=>⟨a,d _ _ b⟩
theorem z14{α:Type}{T:Ty α}{t e:TypeId}{x ix:Operand}{v:Value}{X:List α}{k:IntKind}{i:Nat}{f:Frag}(d:SlOk P t e T)(h:ev l x=v)(j:ORep T R f v X)(hi:ev l ix= .int k i)(m:i<X.length):
 Eff P ρ ⟨dst,.indexAddr t x ix,ty,pos,after,g⟩ l R O (fun v' R' O'=>O'=O∧(fun u _=>z2l T v X u i) v' R'):=
 let⟨b,off,n,o⟩:=z9h (ρ:=ρ) (O:=O) d h j hi m
 (o dst ty pos after g).eff.mono fun v' R' O' _ ⟨a,_,c⟩=>by subst a;exact⟨c,b,off,n,rfl⟩
theorem z5v{α:Type}[Inhabited α]{T:Ty α}{t:TypeId}{x:Operand}{f:Frag}{v u:Value}{X:List α}{i j:Nat}(d:TyOk P t T)(e:ORep T R f v X)(h:O[j]? =some f)(k:ev l x=u)(m:z2l T v X u i)(n:i<X.length):
 Eff P ρ ⟨dst,.load t x,ty,pos,after,g⟩ l R O (fun v' R' O'=>O'=O∧phR T (X.getD i default) v' R'):=by
 obtain⟨b,off,o,rfl⟩:=m
 obtain⟨y,hy',p⟩:=zaz (ρ:=ρ) (P:=P) d e o h k (getD_some n)
 exact(p dst ty pos after g).eff.mono fun v' R' O' _ ⟨a,b,c⟩=>by subst a;subst b;exact⟨c,hy'⟩
end phis
theorem zll{P:Program}{ρ:Option Nat}{l:Nat→Value}{R:RH}{O:List Frag}{dst:Option Tmp}{ty:TypeId}{pos:String}{after:Array Edge}{g:Option (Nat×Bool)}{t:TypeId}{x:Operand}{f:Nat}{v u:Value}(a:ev l x=v)(h: ∀ w,(Instr.field t v f).run P w= .ok u w):
 Val P ρ ⟨dst,.field t x f,ty,pos,after,g⟩ l R O u:=by
 intro A w _;rw [qi (by intro c h;cases h)]
 simp only [execOp,a,Sem.run_bind,h,Result.andThen_ok];rfl
theorem Val.phi{P:Program}{ρ:Option Nat}{o:Oper}{l:Nat→Value}{R:RH}{O:List Frag}{v:Value}{φ:Value→RH→Prop}(h:Val P ρ o l R O v)(d:φ v R):Eff P ρ o l R O (fun v' R' O'=>O'=O∧φ v' R'):=
 h.eff.mono fun v' R' O' _ ⟨a,b,c⟩=>by subst a;subst b;exact⟨c,d⟩
end GV
end Go.Proofs.YtkkcidhcfkmbjaaGreatDoor

namespace Go.Proofs.YtkkcidhcfkmbjaaGreatDoor
namespace GV
structure Edge where
 to:Int
 out:Int
 deriving DecidableEq,Inhabited
structure Mach where
 inputs:Int
 outputs:Int
 rows:List (List Edge)
 deriving DecidableEq,Inhabited
def zpx{α:Type}(A:Ty α):Ty α where
 size:=A.size
 agg:=true
 rep:=A.rep
 len h:=A.len h
 mono hle h:=A.mono hle h
 one h:=by cases h
 cell h:=A.cell h
theorem zob{α:Type}{A:Ty α}:Part (zpx A) 0 A id:=
 ⟨by simp [zpx],fun R cs x h=>by rw [List.drop_zero,←A.len h,List.take_length];exact h⟩
end GV
end Go.Proofs.YtkkcidhcfkmbjaaGreatDoor

namespace Go.Proofs.YtkkcidhcfkmbjaaGreatDoor
namespace GV
section mid
variable {P : Program} {ρ : Option Nat} {n : Nat} {Q : Po} {D : List Nat} {gs : List Oper} {φs : List (Value → RH → Prop)} {l0 : Nat → Value} {R0 : RH} {O : List Frag} {ms : Nat} {Os : Bool → List Frag → Prop}
theorem zhm{l:Nat→Value}(h:Agree gs l0 l):l=z0z l0 (gs.filterMap fun o=>o.dst.map fun d=>(d,l d)):=by
 have key: ∀ (os:List Oper) s,z0z l0 (os.filterMap fun o=>o.dst.map fun d=>(d,l d)) s=if s∈os.filterMap (·.dst) then l s else l0 s:=by
  intro os
  induction os with
  |nil=>intro s;simp [z0z]
  |cons o os ih=>
   intro s
   cases hd:o.dst with
   |none=>simp only [List.filterMap_cons,hd,Option.map_none];exact ih s
   |some d=>
    simp only [List.filterMap_cons,hd,Option.map_some,z0z]
    unfold upd
    by_cases e:s=d
    ·subst e;simp
    ·have:Nat.beq s d=false:=by
      cases hb:Nat.beq s d
      ·rfl
      ·exact absurd (Nat.eq_of_beq_eq_true hb) e
     rw [this]
     simp only [cond_false,ih s,List.mem_cons,e,false_or]
 funext s
 rw [key gs s]
 split
 ·rfl
 ·rename_i hn
  exact h s (by simpa [z7d] using hn)
structure MJ (gs:List Oper) (φs:List (Value→RH→Prop)) (l0:Nat→Value) (R0:RH) (Os:Bool→List Frag→Prop) (ms n:Nat) (D:List Nat) (listed:Array Bool) (a:Act) (w:World):Prop where
 ex: ∃ l R O',Fr n l D a∧Holds R (O'++D.map z1n) w∧RH.le R0 R∧Os (listed.getD ms false) O'∧Agree gs l0 l∧(∀ i d,listed.getD i false=true→uu gs i=some d→phi φs i (l d) R)
end mid
def Pred1(P:Program)(R:RH)(fv:Value){α:Type}(val:α→Value)(p:α→Bool)(X:List α):Prop:=
 ∀ R',RH.le R R'→ ∀ x∈X,CallV P fv [val x].toArray R' [] (fun v _ O=>O=[]∧v= .bool (p x))
theorem Pred1.mono{P:Program}{R R':RH}{fv:Value}{α:Type}{val:α→Value}{p:α→Bool}{X:List α}(h:Pred1 P R fv val p X)(b:RH.le R R'):Pred1 P R' fv val p X:=fun c a=>h c (b.trans a)
def Pred2(P:Program)(R:RH)(fv:Value){α:Type}(T:Ty α)(p:α→α→Bool)(S:α→α→Prop):Prop:=
 ∀ R',RH.le R R'→ ∀ x y u v,S x y→VRep T R' u x→VRep T R' v y→CallV P fv [u,v].toArray R' [] (fun v _ O=>O=[]∧v= .bool (p x y))
theorem Pred2.mono{P:Program}{R R':RH}{fv:Value}{α:Type}{T:Ty α}{p:α→α→Bool}{S:α→α→Prop}(h:Pred2 P R fv T p S)(b:RH.le R R'):Pred2 P R' fv T p S:=fun c a=>h c (b.trans a)
theorem za9{α:Type}[Inhabited α]{X:List α}{i:Nat}(h:i<X.length):X.getD i default∈X:=List.mem_of_getElem? (getD_some h)
section eq2
variable {P : Program}
theorem zac{t:TypeId}{k:IntKind}(a:P.underlying t=some (.int k)){cs:Array Value}{off:Nat}{v:Value}(h:cs[off]? =some v)(w:World):(part t cs off).run P w= .ok v w:=by
 have:(isAgg t).run P w= .ok false w:=by simp [isAgg,underlying,a]
 simp [part,this,h]
theorem zfp{t:TypeId}(h:P.eqGuardType P.depth t=false)(i:P.underlying t=some (.struct (P.fieldsOf t)))(j:P.stoodInHeld t=false){f0 f1:Field}(e:(P.fieldsOf t).toList=[f0,f1])
 (k : (f0.name == "_") = false) (l : (f1.name == "_") = false) (f : P.underlying f0.type = some (.int .i64)) (g : P.underlying f1.type = some (.int .i64)) (m : f0.offset = 0) (n : f1.offset = 1) : zni P t := by
 intro a b c d x y w
 have n0' : f0.name ≠ "_" := by simpa using k
 have n1' : f1.name ≠ "_" := by simpa using l
 rw [Sem.run_bind,run_eqGuard_agg w .eql t x y _ _ h,Result.andThen_ok,run_eql_struct,run_equalIn_agg w 9999 t _ _ i j,e]
 simp only [Op.eqFields,n0',n1',ne_eq,not_false_eq_true,if_true,Sem.run_bind,m,n]
 rw [zac f (v:= .int .i64 a) rfl,Result.andThen_ok,zac f (v:= .int .i64 c) rfl,Result.andThen_ok,run_equalIn_int w 9998 _ _ _ _ _ f,Result.andThen_ok]
 cases hac:(a==c)
 ·simp
 ·rw [if_neg (by decide: ¬(!true)=true)]
  simp only [Sem.run_bind]
  rw [zac g (v:= .int .i64 b) rfl,Result.andThen_ok,zac g (v:= .int .i64 d) rfl,Result.andThen_ok,run_equalIn_int w 9998 _ _ _ _ _ g,Result.andThen_ok]
  cases hbd:(b==d)<;>simp
end eq2
theorem q8{a b w:Bool}(h:a=true)(c:b=w):(a&&(b==w))=true:=by simp [h,c]
end GV
end Go.Proofs.YtkkcidhcfkmbjaaGreatDoor

namespace Go.Proofs.YtkkcidhcfkmbjaaGreatDoor
namespace GV
theorem z0a{α:Type}{T:Ty α}{R:RH}{f:Frag}{v:Value}{X:List α}(h:ORep T R f v X):v.oneCell'=true:=by
 rcases h with⟨rfl,_,_⟩|⟨b,pre,cs,cap,ty,rfl,_⟩<;>rfl
theorem z2s{α:Type}{T:Ty α}{R:RH}{f:Frag}{v:Value}{X:List α}(h:ORep T R f v X):v.cells=([v]:List Value).toArray:=by
 rcases h with⟨rfl,_,_⟩|⟨b,pre,cs,cap,ty,rfl,_⟩<;>rfl
theorem zm6{α:Type}{T:Ty α}{R:RH}{v:Value}{X:List α}(h:VRep (yo T) R v X):v.oneCell'=true:=by
 obtain⟨p,n,rfl,_⟩:=xh.1 h;rfl
theorem ziv{α:Type}{T:Ty α}{R:RH}{v:Value}{X:List α}(h:VRep (yo T) R v X):v.cells=([v]:List Value).toArray:=by
 obtain⟨p,n,rfl,_⟩:=xh.1 h;rfl
theorem jl: ∀ v∈([]:List Value),v.oneCell'=true:=fun _ h=>by cases h
theorem zt{v:Value}{vs:List Value}(h:v.oneCell'=true)(k: ∀ u∈vs,u.oneCell'=true): ∀ u∈v::vs,u.oneCell'=true:=fun u a=>by
 rcases List.mem_cons.1 a with rfl|a
 ·exact h
 ·exact k u a
section eqb
variable {P : Program} {ρ : Option Nat} {l : Nat → Value} {R : RH} {O : List Frag} {dst : Option Tmp} {ty : TypeId} {pos : String} {after : Array Go.Edge} {g : Option (Nat × Bool)}
end eqb
theorem Eff.frz{P:Program}{ρ:Option Nat}{o:Oper}{l:Nat→Value}{R:RH}{O:List Frag}{α:Type}{T:Ty α}{X:List α}(h:Eff P ρ o l R O fun v R' O'=> ∃ f,O'=f::O∧ORep T R' f v X):Eff P ρ o l R O fun v R' O'=>O'=O∧phR (yo T) X v R':=by
 intro A w b
 refine z5t (h A w b) ?_
 rintro v w' ⟨R',O',a,hh',f,rfl,c⟩
 exact⟨R'.add f,O,a.trans (RH.le_add _ _),z3w hh',rfl,z4t c hh'⟩
def zrb(L:Loop)(n:Nat)(l:Nat→Value)(ps:List Nat)(assign body:Code):Prop:=FrT n l L.tmps∧L.params=ps.toArray∧L.assign=assign∧L.body=body
theorem zdx{J Oc A:List Frag}:(J++(Oc++A)).Perm (Oc++(J++A)):=by
 rw [←List.append_assoc,←List.append_assoc];exact List.perm_append_comm.append_right A
theorem zpp{P:Program}{ρ:Option Nat}{n:Nat}{Q:Po}{l:Nat→Value}{D:List Nat}{R:RH}{O O':List Frag}{ops:Array Oper}{rest:List Oper}(b:O'.Perm O)(h:wo P ρ n ops Q rest l D R O'):wo P ρ n ops Q rest l D R O:=
 fun a w c d=>h a w c (u6 d (b.symm.append_right _))
end GV
end Go.Proofs.YtkkcidhcfkmbjaaGreatDoor

namespace Go.Proofs.YtkkcidhcfkmbjaaGreatDoor
namespace GV
def Has(F f:Frag):Prop:= ∀ k o,f k=some o→F k=some o
def Apart(f g:Frag):Prop:= ∀ k,f k=none∨g k=none
def minus(F f:Frag):Frag:=fun k=>match f k with|some _=>none|none=>F k
def lu(f g:Frag):Frag:=fun k=>match f k with|some o=>some o|none=>g k
theorem Apart.symm{f g:Frag}(h:Apart f g):Apart g f:=fun k=>(h k).symm
theorem apart_emp{f:Frag}:Apart emp f:=fun k=> .inl rfl
theorem zoq{F:Frag}:Has F emp:=fun k o h=>by cases h
theorem zgy{F:Frag}:Has F F:=fun _ _ h=>h
theorem zav{F f g:Frag}(h:Has F g)(c:Apart f g):Has (minus F f) g:=fun k o b=>by
 unfold minus
 cases e:f k with
 |none=>exact h k o b
 |some o'=>
  rcases c k with a|a
  ·rw [e] at a;cases a
  ·rw [a] at b;cases b
theorem zh4{F f:Frag}:Apart f (minus F f):=fun k=>by
 unfold minus
 cases e:f k with
 |none=>exact .inl rfl
 |some o=>exact .inr rfl
theorem zcf{F f:Frag}{k:Nat}{o:Obj}(h:minus F f k=some o):F k=some o:=by
 unfold minus at h
 cases e:f k with
 |none=>rw [e] at h;exact h
 |some o'=>rw [e] at h;cases h
theorem z7j{R:RH}{F f:Frag}{O:List Frag}{w:World}(h:Holds R (F::O) w)(d:Has F f):Holds R (f::minus F f::O) w:=by
 obtain⟨i,j⟩:=List.pairwise_cons.1 h.sep
 refine⟨h.ro,fun g a k o c=>?_,List.pairwise_cons.2 ⟨fun g a k=>?_,List.pairwise_cons.2 ⟨fun g a k=>?_,j⟩⟩,h.os,h.out⟩
 ·rcases List.mem_cons.1 a with rfl|a
  ·exact h.own F (List.mem_cons_self ..) k o (d k o c)
  rcases List.mem_cons.1 a with rfl|a
  ·exact h.own F (List.mem_cons_self ..) k o (zcf c)
  ·exact h.own g (List.mem_cons_of_mem _ a) k o c
 ·rcases List.mem_cons.1 a with rfl|a
  ·exact zh4 k
  ·cases e:f k with
   |none=>exact .inl rfl
   |some o=>
    rcases i g a k with b|b
    ·rw [d k o e] at b;cases b
    ·exact .inr b
 ·cases e:minus F f k with
  |none=>exact .inl rfl
  |some o=>
   rcases i g a k with b|b
   ·rw [zcf e] at b;cases b
   ·exact .inr b
theorem z6t{R:RH}{f g:Frag}{O:List Frag}{w:World}(h:Holds R (f::g::O) w):Holds R (lu f g::O) w:=by
 obtain⟨j,l⟩:=List.pairwise_cons.1 h.sep
 obtain⟨m,n⟩:=List.pairwise_cons.1 l
 have i: ∀ k o,lu f g k=some o→f k=some o∨g k=some o:=fun k o b=>by
  unfold lu at b
  cases e:f k with
  |none=>rw [e] at b;exact .inr b
  |some o'=>rw [e] at b;exact .inl b
 refine⟨h.ro,fun x d k o b=>?_,List.pairwise_cons.2 ⟨fun x d k=>?_,n⟩,h.os,h.out⟩
 ·rcases List.mem_cons.1 d with rfl|d
  ·rcases i k o b with c|c
   ·exact h.own f (List.mem_cons_self ..) k o c
   ·exact h.own g (List.mem_cons_of_mem _ (List.mem_cons_self ..)) k o c
  ·exact h.own x (List.mem_cons_of_mem _ (List.mem_cons_of_mem _ d)) k o b
 ·cases e:lu f g k with
  |none=>exact .inl rfl
  |some o=>
   rcases i k o e with c|c
   ·rcases j x (List.mem_cons_of_mem _ d) k with a|a
    ·rw [c] at a;cases a
    ·exact .inr a
   ·rcases m x d k with a|a
    ·rw [c] at a;cases a
    ·exact .inr a
theorem z8i{f g:Frag}:Has (lu f g) f:=fun k o h=>by unfold lu;rw [h]
theorem z5o{f g:Frag}(h:Apart f g):Has (lu f g) g:=fun k o a=>by
 unfold lu
 rcases h k with b|b
 ·rw [b];exact a
 ·rw [b] at a;cases a
theorem Has.trans{a b c:Frag}(h:Has a b)(k:Has b c):Has a c:=fun i o hi=>h i o (k i o hi)
theorem Has.apart{f g g':Frag}(h:Has g g')(b:Apart f g):Apart f g':=fun k=>by
 cases e:g' k with
 |none=>exact .inr rfl
 |some o=>
  rcases b k with a|a
  ·exact .inl a
  ·rw [h k o e] at a;cases a
def tHdr:Ty Value where
 size:=1
 agg:=false
 rep R cs v:=cs=[v]∧v.oneCell'=true
 len:=by rintro R cs x ⟨rfl,_⟩;rfl
 mono:=by rintro R R' cs x _ h;exact h
 one _:=rfl
 cell:=by
  rintro R cs x ⟨rfl,h⟩ v hv
  rw [List.mem_singleton.1 hv];exact h
def Rows{α:Type}(T:Ty α)(R:RH)(G:Frag)(Vs:List Value)(X:List (List α))(Fs:List Frag)(no:Nat→Prop):Prop:=
 Fs.length=X.length∧(∀ j,j<X.length→ ¬no j→ORep T R (Fs.getD j emp) (Vs.getD j default) (X.getD j default)∧Has G (Fs.getD j emp))∧
  ∀ i j,i<X.length→j<X.length→ ¬no i→ ¬no j→i≠j→Apart (Fs.getD i emp) (Fs.getD j emp)
def O2{α:Type}(T:Ty α)(R:RH)(F:Frag)(v:Value)(X:List (List α)):Prop:=
 ∃ Vs f0 Fs,Vs.length=X.length∧ORep tHdr R f0 v Vs∧Has F f0∧Rows T R F Vs X Fs (fun _=>False)∧ ∀ j,j<X.length→Apart f0 (Fs.getD j emp)
theorem Rows.mono{α:Type}{T:Ty α}{R R':RH}{G:Frag}{Vs:List Value}{X:List (List α)}{Fs:List Frag}{no:Nat→Prop}(h:Rows T R G Vs X Fs no)(a:RH.le R R'):Rows T R' G Vs X Fs no:=
 ⟨h.1,fun j b c=>⟨(h.2.1 j b c).1.mono a,(h.2.1 j b c).2⟩,h.2.2⟩
theorem O2.mono{α:Type}{T:Ty α}{R R':RH}{F:Frag}{v:Value}{X:List (List α)}(h:O2 T R F v X)(f:RH.le R R'):O2 T R' F v X:=
 let⟨Vs,f0,Fs,a,b,c,d,e⟩:=h;⟨Vs,f0,Fs,a,b.mono f,c,d.mono f,e⟩
theorem z2h{β:Type}{X:List β}{k j:Nat}{y d:β}(a:k<X.length):(X.set k y).getD j d=if j=k then y else X.getD j d:=by
 simp only [List.getD_eq_getElem?_getD,List.getElem?_set]
 by_cases h:k=j
 ·subst h;simp [a]
 ·rw [if_neg h,if_neg (fun e=>h e.symm)]
section laws
variable {P : Program} {ρ : Option Nat} {n : Nat} {Q : Po} {l : Nat → Value} {D : List Nat} {R : RH} {O : List Frag} {ops : Array Oper} {os : List Oper} {c : Code}
end laws
section eqnil
variable {P : Program} {ρ : Option Nat} {l : Nat → Value} {R : RH} {O : List Frag} {dst : Option Tmp} {ty : TypeId} {pos : String} {after : Array Go.Edge} {g : Option (Nat × Bool)}
end eqnil
end GV
end Go.Proofs.YtkkcidhcfkmbjaaGreatDoor
