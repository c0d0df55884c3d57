import Derived.Test.YtnnobdkjgafdmaaPro15
set_option linter.unusedVariables false
set_option linter.unusedSimpArgs false
set_option linter.unusedSectionVars false
namespace Go.Proofs.Ytnnobdkjgafdmaa
namespace GV
set_option maxRecDepth 100000
def nk(k:Int):Bool:=decide (k≠(-1))
def z2m(m:Mach)(n:Sa):Bool:=
 bif decide ((n.fC.length:Int)≠m.outputs) then false else bif decide (n.fB=(-1)) then((!(n.fC.any nk))&&decide (0≤n.fD))&&decide (n.fD<(m.rows.length:Int))
 else(decide (0≤n.fB)&&decide (n.fB<m.inputs))&&decide (n.fD=(-1))
def kids(n:Sa):List Int:=n.fC.filter nk
def stk(m:Mach):List Sa→Nat→List Int→Bool
 | [],_,w=>w.isEmpty
 |_::_,_,[]=>false
 |n::l,at_,t::w=>(decide (t=(at_:Int))&&z2m m n)&&stk m l (at_+1) (kids n++w)
theorem zjh{m:Mach}{l:List Sa}{k:Nat}(a:k<l.length){t:Int}{w:List Int}:stk m (l.drop k) k (t::w)=((decide (t=(k:Int))&&z2m m (l.getD k default))&&stk m (l.drop (k+1)) (k+1) (kids (l.getD k default)++w)):=by
 rw [z6n _ _ a];rfl
theorem ze0{m:Mach}{n:Sa}(h:z2m m n=true):(n.fC.length:Int)=m.outputs:=by
 unfold z2m at h
 by_cases e:(n.fC.length:Int)=m.outputs
 ·exact e
 ·rw [pq e] at h;cases h
theorem zm3{m:Mach}{n:Sa}(h:z2m m n=true)(hi:n.fB≠ -1):0≤n.fB∧n.fB<m.inputs∧n.fD= -1:=by
 unfold z2m at h
 rw [bn (fun e=>e (ze0 (by unfold z2m;exact h))),bn hi] at h
 rw [Bool.and_eq_true,Bool.and_eq_true,decide_eq_true_iff,decide_eq_true_iff,decide_eq_true_iff] at h
 exact⟨h.1.1,h.1.2,h.2⟩
theorem zxs{X:List Int}(g:X.length≤100){s:List Int}(d:s.length≤100000):
 rz 5000 X (List Int) (fun a b=>
 bif decide (a.2≠(-1)) then(
 gd (fits 8 b ([a.2]:List Int))<|
 some (true,(b++([a.2]:List Int)))) else(
 some (true,b))) s=some (s++(X.filter nk).reverse):=by
 have key: ∀ F j s,j≤X.length→j<F→s.length+j≤100100→bq 5000 (List Int) (fun a b=>
  bif decide (a.2≠(-1)) then(
  gd (fits 8 b ([a.2]:List Int))<|
  some (true,(b++([a.2]:List Int)))) else(
  some (true,b))) X F s ((j:Int)-1)=some (s++((X.take j).filter nk).reverse):=by
  intro F
  induction F with
  |zero=>intro j s _ h _;omega
  |succ F ih=>
   intro j s i k d
   unfold bq
   cases j with
   |zero=>rw [bn (by omega)];simp
   |succ j=>
    rw [show ((j+1:Nat):Int)-1=(j:Int) by omega,pq (by omega),zy (jk (by omega)),af]
    have f:(X.take (j+1)).filter nk=(X.take j).filter nk++if nk (X.getD j default)=true then [X.getD j default] else []:=by
     rw [zcv _ _ (by omega),List.filter_append,List.filter_cons];rfl
    rw [f]
    by_cases e:X.getD j default= -1
    ·have c:nk (X.getD j default)=false:=by unfold nk;exact decide_eq_false (fun h=>h e)
     rw [bn (fun h=>h e),zki,if_neg (by rw [c];decide),List.append_nil]
     refine(cf rfl).trans ?_
     rw [zy (jl (by omega))]
     exact ih j s (by omega) (by omega) (by omega)
    ·have c:nk (X.getD j default)=true:=by unfold nk;exact decide_eq_true e
     rw [pq e,zy (by constructor<;>simp<;>omega),zki,if_pos c]
     refine(cf rfl).trans ?_
     rw [zy (jl (by omega))]
     refine(ih j _ (by omega) (by omega) (by simp;omega)).trans ?_
     rw [List.reverse_append]
     simp
 unfold rz
 rw [zy (jl (by omega)),key 5000 X.length s (Nat.le_refl _) (by omega) (by omega),List.take_length]
theorem right_eq{m:Mach}{n:Sa}(a:m.outputs≤16):z3v 5000 m n=some (z2m m n):=by
 unfold z3v z2m
 by_cases h:(n.fC.length:Int)≠m.outputs
 ·rw [pq h,pq h]
 ·have h':(n.fC.length:Int)=m.outputs:=by omega
  rw [bn h,bn h]
  by_cases hi:n.fB= -1
  ·rw [pq hi,pq hi,qz (ztw (p:=nk) (fun k b=>rfl) (by omega) (by omega))]
  ·rw [bn hi,bn hi]
theorem zhr{m:Mach}{l:List Sa}(g:l.length≤1024)(f:m.outputs≤16): ∀ F k w,k≤l.length→l.length-k<F→w.length≤16*k+1→
 ∃ r,lu 5000 m l F (k:Int) w.reverse=some r∧Ex.on r (fun b=>some (decide ((↑b.length:Int)=0))) some=some (stk m (l.drop k) k w)
 |0,k,w,_,h,_=>by omega
 |F+1,k,w,v,x,i=>by
  unfold lu
  by_cases e:k=l.length
  ·subst e
   rw [bn (by omega)]
   refine⟨_,rfl,?_⟩
   rw [List.drop_length]
   show some (decide ((w.reverse.length:Int)=0))=some w.isEmpty
   cases w with
   |nil=>rfl
   |cons t w=>rw [decide_eq_false (by simp;omega)];rfl
  ·have hk':k<l.length:=by omega
   rw [pq (by omega),zy (jk hk'),af]
   cases w with
   |nil=>
    refine⟨Ex.rt false,?_,?_⟩
    ·rw [zy (fun _=>jl (by simp))]
     refine(zy (fun h=>?_)).trans ?_
     ·simp at h
     ·have j:decide (((([]:List Int).reverse.length:Nat):Int)=0)=true:=rfl
      rw [j]
      refine(qz (zl1 rfl)).trans ?_
      exact ct rfl
    ·rw [z6n _ _ hk'];rfl
   |cons t w=>
    have a:((t::w).reverse.length:Int)=(w.length:Int)+1:=by simp
    have c:ix (t::w).reverse (((t::w).reverse.length:Int)-1)=t:=by
     rw [a,show (w.length:Int)+1-1=(w.length:Int) by omega,af,List.reverse_cons,List.getD_eq_getElem?_getD]
     simp
    have hcut:cut (t::w).reverse 0 (((t::w).reverse.length:Int)-1)=w.reverse:=by
     rw [a,show (w.length:Int)+1-1=(w.length:Int) by omega,List.reverse_cons]
     unfold cut
     simp
    have hw':w.length≤16*k:=by simp at i;omega
    have n:w.length<(t::w).reverse.length:=by simp
    rw [c,hcut,zjh hk']
    have d:decide (((t::w).reverse.length:Int)=0)=false:=decide_eq_false (by omega)
    rw [d]
    by_cases et:t=(k:Int)
    ·rw [decide_eq_false (fun h=>h et),decide_eq_true et]
     rw [zy (fun _=>jl (by omega)),zy (fun _=>⟨by omega,by omega⟩),qz (show gop (true&&((false||false)==false)) (z3v 5000 m (⟨(l.getD k default).fB,(l.getD k default).fD,(l.getD k default).fC⟩:Sa))=some (some (z2m m (l.getD k default))) from zk4 rfl (right_eq f))]
     cases hok:z2m m (l.getD k default) with
     |false=>exact⟨Ex.rt false,ct rfl,rfl⟩
     |true=>
      rw [show (((false||false)|| !((some true:Option Bool).getD default)):Bool)=false from rfl]
      have o:=ze0 hok
      have hout:(l.getD k default).fC.length≤16:=by omega
      have y:=List.length_filter_le nk (l.getD k default).fC
      have p:=zxs (X:=(l.getD k default).fC) (s:=w.reverse) (by omega) (by simp;omega)
      obtain⟨r,q,u⟩:=zhr g f F (k+1) (kids (l.getD k default)++w) (by omega) (by omega) (by rw [List.length_append];unfold kids;omega)
      refine⟨r,?_,?_⟩
      ·refine(cf rfl).trans ?_
       rw [zy (jl (by omega)),zy ⟨by omega,by omega,by omega⟩,qz (show z1r 5000 _=some _ from rfl),qz p,zy (jl (by omega)),zbu]
       rw [show w.reverse++((l.getD k default).fC.filter nk).reverse=(kids (l.getD k default)++w).reverse by rw [List.reverse_append];rfl]
       exact q
      ·rw [u];rfl
    ·rw [decide_eq_true et,decide_eq_false et]
     refine⟨Ex.rt false,?_,rfl⟩
     rw [zy (fun _=>jl (by omega)),zy (fun _=>⟨by omega,by omega⟩)]
     refine(qz (zl1 rfl)).trans ?_
     exact ct rfl
theorem zkm{m:Mach}{l:List Sa}(a:l.length≤1024)(b:m.outputs≤16):z7f 5000 m l=some (stk m l 0 [0]):=by
 obtain⟨r,c,d⟩:=zhr (m:=m) a b 5000 0 [0] (Nat.zero_le _) (by omega) (by simp)
 unfold z7f
 rw [qz (show lu 5000 m l 5000 0 [0]=some r from c),d];rfl
/-! ### by recursion-/
theorem zit{m:Mach}{l:List Sa}{i:Nat}{self:Mach→List Sa→Int→Option Int}(b:(l.getD i default).fB= -1)(f:((l.getD i default).fC.length:Int)=m.outputs)(c:m.outputs≤16)(a:Int):
 ∀ F o,o≤(l.getD i default).fC.length→(l.getD i default).fC.length-o<F→yo 5000 self m l (i:Int) F a (o:Int)=some (bif ((l.getD i default).fC.drop o).any nk then Ex.rt (-1) else Ex.go a)
 |0,o,_,h=>by omega
 |F+1,o,h,g=>by
  unfold yo
  by_cases e:o=(l.getD i default).fC.length
  ·subst e
   rw [bn (by omega),List.drop_length];rfl
  ·have ho':o<(l.getD i default).fC.length:=by omega
   rw [pq (by omega),af,zy (jk ho'),af,z6n _ _ ho',List.any_cons]
   by_cases en:(l.getD i default).fC.getD o default= -1
   ·have d:nk ((l.getD i default).fC.getD o default)=false:=decide_eq_false (fun h=>h en)
    rw [pq en,zki,zuq,zy (jl (by omega)),d,Bool.false_or,zbu]
    exact zit b f c a F (o+1) (by omega) (by omega)
   ·have d:nk ((l.getD i default).fC.getD o default)=true:=decide_eq_true en
    rw [bn en,zy (fun _=>jk ho'),decide_eq_true b,d]
    rfl
def q1c(m:Mach)(l:List Sa)(i:Nat)(X:List Int)(e:Int):Prop:=
 (e= -1∧ ∀ w,stk m (l.drop i) i (X++w)=false)∨ ∃ q:Nat,e=(q:Int)∧i≤q∧q≤l.length∧ ∀ w,stk m (l.drop i) i (X++w)=stk m (l.drop q) q w
theorem zjl{m:Mach}{l:List Sa}{i:Nat}{self:Mach→List Sa→Int→Option Int}(c:(l.getD i default).fB≠ -1)(k:((l.getD i default).fC.length:Int)=m.outputs)(f:m.outputs≤16)
 (hself: ∀ q,i<q→q≤l.length→ ∃ e,self m l (q:Int)=some e∧q1c m l q [(q:Int)] e):
 ∀ F o (a:Nat),i<a→a≤l.length→o≤(l.getD i default).fC.length→(l.getD i default).fC.length-o<F→
  ∃ r e,yo 5000 self m l (i:Int) F (a:Int) (o:Int)=some r∧(r=Ex.go e∧e≠ -1∨r=Ex.rt e∧e= -1)∧q1c m l a (((l.getD i default).fC.drop o).filter nk) e
 |0,o,a,_,_,_,h=>by omega
 |F+1,o,a,n,d,h,E=>by
  unfold yo
  by_cases e:o=(l.getD i default).fC.length
  ·subst e
   rw [bn (by omega),List.drop_length]
   exact⟨_,_,rfl,.inl ⟨rfl,by omega⟩,.inr ⟨a,rfl,Nat.le_refl _,d,fun w=>rfl⟩⟩
  ·have ho':o<(l.getD i default).fC.length:=by omega
   rw [pq (by omega),af,zy (jk ho'),af,z6n _ _ ho',List.filter_cons]
   by_cases en:(l.getD i default).fC.getD o default= -1
   ·have g:nk ((l.getD i default).fC.getD o default)=false:=decide_eq_false (fun h=>h en)
    rw [pq en,zki,zuq,zy (jl (by omega)),if_neg (by rw [g];decide),zbu]
    exact zjl c k f hself F (o+1) a n d (by omega) (by omega)
   ·have g:nk ((l.getD i default).fC.getD o default)=true:=decide_eq_true en
    rw [bn en,zy (fun _=>jk ho'),decide_eq_false c,if_pos g]
    by_cases ek:(l.getD i default).fC.getD o default=(a:Int)
    ·rw [decide_eq_false (fun h=>h ek)]
     obtain⟨G,p,v⟩:=hself a n d
     rw [show ((false||false):Bool)=false from rfl]
     rcases v with⟨rfl,s⟩|⟨q,rfl,s,x,t⟩
     ·refine⟨Ex.rt (-1),-1,?_,.inr ⟨rfl,rfl⟩,.inl ⟨rfl,fun w=>?_⟩⟩
      ·rw [show (bif false then(some (Ex.rt (Ex.rt (-1))):Option (Ex Int (Ex Int Int))) else(bd (self m l (a:Int)) fun b=>bif decide (b<0) then some (Ex.rt (Ex.rt (-1))) else some (Ex.go b)))=some (Ex.rt (Ex.rt (-1))) from by rw [qz p];rfl]
       rfl
      ·rw [ek,List.cons_append];exact s _
     ·obtain⟨r,e,y,z,A⟩:=zjl c k f hself F (o+1) q (by omega) x (by omega) (by omega)
      refine⟨r,e,?_,z,?_⟩
      ·rw [show (bif false then(some (Ex.rt (Ex.rt (-1))):Option (Ex Int (Ex Int Int))) else(bd (self m l (a:Int)) fun b=>bif decide (b<0) then some (Ex.rt (Ex.rt (-1))) else some (Ex.go b)))=some (Ex.go (q:Int)) from by
        rw [qz p,bn (by omega)];rfl]
       rw [zki,zuq,zy (jl (by omega)),zbu]
       exact y
      ·rcases A with⟨j,u⟩|⟨B,j,u,C,D⟩
       ·exact .inl ⟨j,fun w=>by rw [ek,List.cons_append];exact(t _).trans (u w)⟩
       ·exact .inr ⟨B,j,by omega,C,fun w=>by rw [ek,List.cons_append];exact(t _).trans (D w)⟩
    ·rw [decide_eq_true ek]
     refine⟨Ex.rt (-1),-1,rfl,.inr ⟨rfl,rfl⟩,.inl ⟨rfl,fun w=>?_⟩⟩
     rw [List.cons_append]
     by_cases hlen:a<l.length
     ·rw [zjh hlen,decide_eq_false ek];rfl
     ·rw [List.drop_eq_nil_of_le (by omega)];rfl
theorem znz{m:Mach}{l:List Sa}(t:l.length≤1024)(f:m.outputs≤16):
 ∀ G i,i≤l.length→l.length-i<G→ ∃ e,wy 5000 G m l (i:Int)=some e∧q1c m l i [(i:Int)] e
 |0,i,_,h=>by omega
 |G+1,i,h,D=>by
  unfold wy
  by_cases e:i=l.length
  ·subst e
   refine⟨-1,?_,.inl ⟨rfl,fun w=>by rw [List.drop_length];rfl⟩⟩
   rw [decide_eq_true (show (l.length:Int)≤(l.length:Int) from Int.le_refl _)]
   exact(zy (fun h=>nomatch h)).trans (ct rfl)
  ·have hi:i<l.length:=by omega
   rw [decide_eq_false (show¬(l.length:Int)≤(i:Int) by omega),zy (fun _=>jk hi),af,Bool.false_or]
   have d: ∀ w,z2m m (l.getD i default)=false→stk m (l.drop i) i ([(i:Int)]++w)=false:=fun w c=>by
    rw [List.singleton_append,zjh hi,c,Bool.and_false,Bool.false_and]
   by_cases j:((l.getD i default).fC.length:Int)≠m.outputs
   ·rw [pq j]
    exact⟨-1,rfl,.inl ⟨rfl,fun w=>d w (by unfold z2m;rw [pq j])⟩⟩
   ·have ho':((l.getD i default).fC.length:Int)=m.outputs:=by omega
    rw [bn j,zy (jk hi)]
    have c:z2m m (l.getD i default)=bif decide ((l.getD i default).fB=(-1)) then((!((l.getD i default).fC.any nk))&&decide (0≤(l.getD i default).fD))&&decide ((l.getD i default).fD<(m.rows.length:Int))
     else(decide (0≤(l.getD i default).fB)&&decide ((l.getD i default).fB<m.inputs))&&decide ((l.getD i default).fD=(-1)):=by unfold z2m;rw [bn j]
    by_cases hlf:(l.getD i default).fB= -1
    ·rw [decide_eq_true hlf] at c⊢
     rw [show ∀ a b:Bool,((true&&a)||(!true&&b))=a from fun a b=>by cases a<;>rfl]
     replace c:z2m m (l.getD i default)=(((!((l.getD i default).fC.any nk))&&decide (0≤(l.getD i default).fD))&&decide ((l.getD i default).fD<(m.rows.length:Int))):=c
     by_cases hs:0≤(l.getD i default).fD∧(l.getD i default).fD<(m.rows.length:Int)
     ·rw [decide_eq_false (show¬(l.getD i default).fD<0 by omega),decide_eq_false (show¬(m.rows.length:Int)≤(l.getD i default).fD by omega)]
      have g:=zit (self:=wy 5000 G) hlf ho' f ((i:Int)+1) 5000 0 (Nat.zero_le _) (by omega)
      rw [List.drop_zero] at g
      rw [decide_eq_true hs.1,decide_eq_true hs.2,Bool.and_true,Bool.and_true] at c
      refine Exists.imp (fun e=>And.imp_left fun h=>(cf rfl).trans ((zy (jl (by omega))).trans ((qz g).trans h))) ?_
      cases ha:(l.getD i default).fC.any nk with
      |true=>exact⟨-1,rfl,.inl ⟨rfl,fun w=>d w (by rw [c,ha];rfl)⟩⟩
      |false=>
       refine⟨(i:Int)+1,rfl,.inr ⟨i+1,rfl,by omega,by omega,fun w=>?_⟩⟩
       rw [List.singleton_append,zjh hi,c,ha,decide_eq_true rfl]
       have:kids (l.getD i default)=[]:=by
        unfold kids
        rw [List.filter_eq_nil_iff]
        intro k u v
        have:=List.any_eq_false.1 ha k u
        exact this v
       rw [this];rfl
     ·have n:(decide ((l.getD i default).fD<0)||decide ((m.rows.length:Int)≤(l.getD i default).fD))=true:=by
       rw [Bool.or_eq_true,decide_eq_true_iff,decide_eq_true_iff];omega
      rw [n]
      refine⟨-1,ct rfl,.inl ⟨rfl,fun w=>d w ?_⟩⟩
      rw [c]
      by_cases h0:0≤(l.getD i default).fD
      ·rw [decide_eq_false (show¬(l.getD i default).fD<(m.rows.length:Int) by omega),Bool.and_false]
      ·rw [decide_eq_false h0,Bool.and_false,Bool.false_and]
    ·rw [decide_eq_false hlf] at c⊢
     rw [show ∀ a b:Bool,((false&&a)||(!false&&b))=b from fun a b=>by cases b<;>rfl]
     replace c:z2m m (l.getD i default)=((decide (0≤(l.getD i default).fB)&&decide ((l.getD i default).fB<m.inputs))&&decide ((l.getD i default).fD=(-1))):=c
     by_cases hs:(0≤(l.getD i default).fB∧(l.getD i default).fB<m.inputs)∧(l.getD i default).fD= -1
     ·rw [decide_eq_false (show¬(l.getD i default).fB<0 by omega),decide_eq_false (show¬m.inputs≤(l.getD i default).fB by omega),decide_eq_false (show¬(l.getD i default).fD≠ -1 by omega)]
      rw [decide_eq_true hs.1.1,decide_eq_true hs.1.2,decide_eq_true hs.2] at c
      obtain⟨r,e,x,y,p⟩:=zjl (self:=wy 5000 G) hlf ho' f (fun q E z=>znz t f G q z (by omega)) 5000 0 (i+1) (by omega) (by omega) (Nat.zero_le _) (by omega)
      rw [List.drop_zero] at p
      refine⟨e,?_,?_⟩
      ·refine(cf rfl).trans ((zy (jl (by omega))).trans ((qz (show yo 5000 (wy 5000 G) m l (i:Int) 5000 ((i:Int)+1) 0=some r from x)).trans ?_))
       rcases y with⟨rfl,_⟩|⟨rfl,_⟩<;>rfl
      ·have hstep: ∀ w,stk m (l.drop i) i ([(i:Int)]++w)=stk m (l.drop (i+1)) (i+1) ((l.getD i default).fC.filter nk++w):=fun w=>by
        rw [List.singleton_append,zjh hi,c,decide_eq_true rfl];rfl
       rcases p with⟨o,s⟩|⟨A,o,s,B,C⟩
       ·exact .inl ⟨o,fun w=>(hstep w).trans (s w)⟩
       ·exact .inr ⟨A,o,by omega,B,fun w=>(hstep w).trans (C w)⟩
     ·have n:((decide ((l.getD i default).fB<0)||decide (m.inputs≤(l.getD i default).fB))||decide ((l.getD i default).fD≠(-1)))=true:=by
       rw [Bool.or_eq_true,Bool.or_eq_true,decide_eq_true_iff,decide_eq_true_iff,decide_eq_true_iff];omega
      rw [n]
      refine⟨-1,ct rfl,.inl ⟨rfl,fun w=>d w ?_⟩⟩
      rw [c]
      cases hq:((decide (0≤(l.getD i default).fB)&&decide ((l.getD i default).fB<m.inputs))&&decide ((l.getD i default).fD=(-1))) with
      |false=>rfl
      |true=>
       rw [Bool.and_eq_true,Bool.and_eq_true,decide_eq_true_iff,decide_eq_true_iff,decide_eq_true_iff] at hq
       exact absurd hq hs
theorem ztq{m:Mach}{l:List Sa}(c:l.length≤1024)(a:m.outputs≤16): ∃ e,wy 5000 5000 m l 0=some e∧decide (e≠(l.length:Int))= !(stk m l 0 [0]):=by
 obtain⟨e,d,f⟩:=znz (m:=m) c a 5000 0 (Nat.zero_le _) (by omega)
 refine⟨e,d,?_⟩
 rcases f with⟨rfl,b⟩|⟨q,rfl,b,i,g⟩
 ·have:=b []
  rw [List.drop_zero] at this
  rw [show stk m l 0 [0]=false from this,decide_eq_true (by omega)];rfl
 ·have:=g []
  rw [List.drop_zero] at this
  rw [show stk m l 0 [0]=_ from this]
  by_cases e:q=l.length
  ·subst e
   rw [List.drop_length,decide_eq_false (fun h=>h rfl)];rfl
  ·rw [z6n _ _ (by omega),decide_eq_true (by omega)];rfl
/-! ### what a tree of that form is like-/
theorem zlj{m:Mach}: ∀ {l:List Sa} {k:Nat} {w:List Int},stk m l k w=true→(∀ t∈w,(k:Int)≤t∧t<(k+l.length:Nat))∧ ∀ j,j<l.length→z2m m (l.getD j default)=true∧ ∀ t∈kids (l.getD j default),((k+j:Nat):Int)<t∧t<(k+l.length:Nat)
 | [],k,w,h=>by
  cases w with
  |nil=>exact⟨fun t a=>absurd a List.not_mem_nil,fun j c=>absurd c (Nat.not_lt_zero _)⟩
  |cons t w=>cases h
 |n::l,k,[],h=>by cases h
 |n::l,k,t::w,h=>by
  unfold stk at h
  rw [Bool.and_eq_true,Bool.and_eq_true,decide_eq_true_iff] at h
  obtain⟨⟨rfl,b⟩,e⟩:=h
  obtain⟨d,f⟩:=zlj e
  have hlen:(n::l).length=l.length+1:=rfl
  refine⟨fun t a=>?_,fun j c=>?_⟩
  ·rcases List.mem_cons.1 a with rfl|a
   ·omega
   ·have:=d t (List.mem_append.2 (.inr a));omega
  ·cases j with
   |zero=>exact⟨b,fun t a=>by have:=d t (List.mem_append.2 (.inl a));omega⟩
   |succ j=>
    have:=f j (by omega)
    exact⟨this.1,fun t a=>by have:=this.2 t a;omega⟩
end GV
end Go.Proofs.Ytnnobdkjgafdmaa
