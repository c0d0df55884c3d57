import Derived.Test.YtnnobdkjgafdmaaPro15
set_option linter.unusedVariables false
set_option linter.unusedSimpArgs false
set_option linter.unusedSectionVars false
namespace Go.Proofs.Ytnnobdkjgafdmaa
namespace GV
set_option maxRecDepth 100000
def nk(k:Int):Bool:=decide (k≠(-1))
def z6t(m:Mach)(n:Sa):Bool:=
 bif decide ((n.fC.length:Int)≠m.outputs) then false else bif decide (n.fB=(-1)) then((!(n.fC.any nk))&&decide (0≤n.fE))&&decide (n.fE<(m.rows.length:Int))
 else(decide (0≤n.fB)&&decide (n.fB<m.inputs))&&decide (n.fE=(-1))
def kids(n:Sa):List Int:=n.fC.filter nk
def stk(m:Mach):List Sa→Nat→List Int→Bool
 | [],_,w=>w.isEmpty
 |_::_,_,[]=>false
 |n::l,at_,t::w=>(decide (t=(at_:Int))&&z6t m n)&&stk m l (at_+1) (kids n++w)
theorem q85{m:Mach}{l:List Sa}{k:Nat}(a:k<l.length){t:Int}{w:List Int}:stk m (l.drop k) k (t::w)=((decide (t=(k:Int))&&z6t m (l.getD k default))&&stk m (l.drop (k+1)) (k+1) (kids (l.getD k default)++w)):=by
 rw [z6e _ _ a];rfl
theorem zdf{m:Mach}{n:Sa}(h:z6t m n=true):(n.fC.length:Int)=m.outputs:=by
 unfold z6t at h
 by_cases e:(n.fC.length:Int)=m.outputs
 ·exact e
 ·rw [wu e] at h;cases h
theorem q71{X:List Int}(g:X.length≤100){s:List Int}(d:s.length≤100000):
 z1b 5000 X (List Int) (fun a b=>
 bif decide (a.2≠(-1)) then(
 gd (fits 8 b ([a.2]:List Int))<|
 some (true,(b++([a.2]:List Int)))) else(
 some (true,b))) s=some (s++(X.filter nk).reverse):=by
 have key: ∀ F j s,j≤X.length→j<F→s.length+j≤100100→og 5000 (List Int) (fun a b=>
  bif decide (a.2≠(-1)) then(
  gd (fits 8 b ([a.2]:List Int))<|
  some (true,(b++([a.2]:List Int)))) else(
  some (true,b))) X F s ((j:Int)-1)=some (s++((X.take j).filter nk).reverse):=by
  intro F
  induction F with
  |zero=>intro j s _ h _;omega
  |succ F ih=>
   intro j s i hF d
   unfold og
   cases j with
   |zero=>rw [um (by omega)];simp
   |succ j=>
    rw [show ((j+1:Nat):Int)-1=(j:Int) by omega,wu (by omega),ze (qy (by omega)),yn]
    have f:(X.take (j+1)).filter nk=(X.take j).filter nk++if nk (X.getD j default)=true then [X.getD j default] else []:=by
     rw [zfo _ _ (by omega),List.filter_append,List.filter_cons];rfl
    rw [f]
    by_cases e:X.getD j default= -1
    ·have c:nk (X.getD j default)=false:=by unfold nk;exact decide_eq_false (fun h=>h e)
     rw [um (fun h=>h e),zg4,if_neg (by rw [c];decide),List.append_nil]
     refine(cf rfl).trans ?_
     rw [ze (qm (by omega))]
     exact ih j s (by omega) (by omega) (by omega)
    ·have c:nk (X.getD j default)=true:=by unfold nk;exact decide_eq_true e
     rw [wu e,ze (by constructor<;>simp<;>omega),zg4,if_pos c]
     refine(cf rfl).trans ?_
     rw [ze (qm (by omega))]
     refine(ih j _ (by omega) (by omega) (by simp;omega)).trans ?_
     rw [List.reverse_append]
     simp
 unfold z1b
 rw [ze (qm (by omega)),key 5000 X.length s (Nat.le_refl _) (by omega) (by omega),List.take_length]
theorem right_eq{m:Mach}{n:Sa}(a:m.outputs≤16):z6n 5000 m n=some (z6t m n):=by
 unfold z6n z6t
 by_cases h:(n.fC.length:Int)≠m.outputs
 ·rw [wu h,wu h]
 ·have h':(n.fC.length:Int)=m.outputs:=by omega
  rw [um h,um h]
  by_cases hi:n.fB= -1
  ·rw [wu hi,wu hi,qc (q18 (p:=nk) (fun k b=>rfl) (by omega) (by omega))]
  ·rw [um hi,um hi]
theorem zme{m:Mach}{l:List Sa}(g:l.length≤1024)(f:m.outputs≤16): ∀ F k w,k≤l.length→l.length-k<F→w.length≤16*k+1→
 ∃ r,z1w 5000 m l F (k:Int) w.reverse=some r∧Ex.on r (fun b=>some (decide ((↑b.length:Int)=0))) some=some (stk m (l.drop k) k w)
 |0,k,w,_,h,_=>by omega
 |F+1,k,w,v,hF,i=>by
  unfold z1w
  by_cases e:k=l.length
  ·subst e
   rw [um (by omega)]
   refine⟨_,rfl,?_⟩
   rw [List.drop_length]
   show some (decide ((w.reverse.length:Int)=0))=some w.isEmpty
   cases w with
   |nil=>rfl
   |cons t w=>rw [decide_eq_false (by simp;omega)];rfl
  ·have hk':k<l.length:=by omega
   rw [wu (by omega),ze (qy hk'),yn]
   cases w with
   |nil=>
    refine⟨Ex.rt false,?_,?_⟩
    ·rw [ze (fun _=>qm (by simp))]
     refine(ze (fun h=>?_)).trans ?_
     ·simp at h
     ·have j:decide (((([]:List Int).reverse.length:Nat):Int)=0)=true:=rfl
      rw [j]
      refine(qc (zta rfl)).trans ?_
      exact ct rfl
    ·rw [z6e _ _ hk'];rfl
   |cons t w=>
    have a:((t::w).reverse.length:Int)=(w.length:Int)+1:=by simp
    have c:ix (t::w).reverse (((t::w).reverse.length:Int)-1)=t:=by
     rw [a,show (w.length:Int)+1-1=(w.length:Int) by omega,yn,List.reverse_cons,List.getD_eq_getElem?_getD]
     simp
    have hcut:cut (t::w).reverse 0 (((t::w).reverse.length:Int)-1)=w.reverse:=by
     rw [a,show (w.length:Int)+1-1=(w.length:Int) by omega,List.reverse_cons]
     unfold cut
     simp
    have hw':w.length≤16*k:=by simp at i;omega
    have n:w.length<(t::w).reverse.length:=by simp
    rw [c,hcut,q85 hk']
    have d:decide (((t::w).reverse.length:Int)=0)=false:=decide_eq_false (by omega)
    rw [d]
    by_cases et:t=(k:Int)
    ·rw [decide_eq_false (fun h=>h et),decide_eq_true et]
     rw [ze (fun _=>qm (by omega)),ze (fun _=>⟨by omega,by omega⟩),qc (show gop (true&&((false||false)==false)) (z6n 5000 m (⟨(l.getD k default).fB,(l.getD k default).fE,(l.getD k default).fC⟩:Sa))=some (some (z6t m (l.getD k default))) from zjx rfl (right_eq f))]
     cases hok:z6t m (l.getD k default) with
     |false=>exact⟨Ex.rt false,ct rfl,rfl⟩
     |true=>
      rw [show (((false||false)|| !((some true:Option Bool).getD default)):Bool)=false from rfl]
      have o:=zdf hok
      have hout:(l.getD k default).fC.length≤16:=by omega
      have x:=List.length_filter_le nk (l.getD k default).fC
      have p:=q71 (X:=(l.getD k default).fC) (s:=w.reverse) (by omega) (by simp;omega)
      obtain⟨r,q,u⟩:=zme g f F (k+1) (kids (l.getD k default)++w) (by omega) (by omega) (by rw [List.length_append];unfold kids;omega)
      refine⟨r,?_,?_⟩
      ·refine(cf rfl).trans ?_
       rw [ze (qm (by omega)),ze ⟨by omega,by omega,by omega⟩,qc (show z4p 5000 _=some _ from rfl),qc p,ze (qm (by omega)),kz]
       rw [show w.reverse++((l.getD k default).fC.filter nk).reverse=(kids (l.getD k default)++w).reverse by rw [List.reverse_append];rfl]
       exact q
      ·rw [u];rfl
    ·rw [decide_eq_true et,decide_eq_false et]
     refine⟨Ex.rt false,?_,rfl⟩
     rw [ze (fun _=>qm (by omega)),ze (fun _=>⟨by omega,by omega⟩)]
     refine(qc (zta rfl)).trans ?_
     exact ct rfl
theorem zzu{m:Mach}{l:List Sa}(a:l.length≤1024)(b:m.outputs≤16):z9j 5000 m l=some (stk m l 0 [0]):=by
 obtain⟨r,c,d⟩:=zme (m:=m) a b 5000 0 [0] (Nat.zero_le _) (by omega) (by simp)
 unfold z9j
 rw [qc (show z1w 5000 m l 5000 0 [0]=some r from c),d];rfl
/-! ### by recursion-/
/-! ### what a tree of that form is like-/
theorem zp3{m:Mach}: ∀ {l:List Sa} {k:Nat} {w:List Int},stk m l k w=true→(∀ t∈w,(k:Int)≤t∧t<(k+l.length:Nat))∧ ∀ j,j<l.length→z6t m (l.getD j default)=true∧ ∀ t∈kids (l.getD j default),((k+j:Nat):Int)<t∧t<(k+l.length:Nat)
 | [],k,w,h=>by
  cases w with
  |nil=>exact⟨fun t a=>absurd a List.not_mem_nil,fun j c=>absurd c (Nat.not_lt_zero _)⟩
  |cons t w=>cases h
 |n::l,k,[],h=>by cases h
 |n::l,k,t::w,h=>by
  unfold stk at h
  rw [Bool.and_eq_true,Bool.and_eq_true,decide_eq_true_iff] at h
  obtain⟨⟨rfl,b⟩,e⟩:=h
  obtain⟨d,f⟩:=zp3 e
  have hlen:(n::l).length=l.length+1:=rfl
  refine⟨fun t a=>?_,fun j c=>?_⟩
  ·rcases List.mem_cons.1 a with rfl|a
   ·omega
   ·have:=d t (List.mem_append.2 (.inr a));omega
  ·cases j with
   |zero=>exact⟨b,fun t a=>by have:=d t (List.mem_append.2 (.inl a));omega⟩
   |succ j=>
    have:=f j (by omega)
    exact⟨this.1,fun t a=>by have:=this.2 t a;omega⟩
end GV
end Go.Proofs.Ytnnobdkjgafdmaa
