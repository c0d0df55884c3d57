import Derived.Test.YtnnobdkjgafdmaaPro15
set_option linter.unusedVariables false
set_option linter.unusedSimpArgs false
set_option linter.unusedSectionVars false
namespace Go.Proofs.Ytnnobdkjgafdmaa
namespace GV
set_option maxRecDepth 100000
def nk(k:Int):Bool:=decide (k≠(-1))
def z9l(m:Mach)(n:Sa):Bool:=
 bif decide ((n.fC.length:Int)≠m.outputs) then false else bif decide (n.fB=(-1)) then((!(n.fC.any nk))&&decide (0≤n.fD))&&decide (n.fD<(m.rows.length:Int))
 else(decide (0≤n.fB)&&decide (n.fB<m.inputs))&&decide (n.fD=(-1))
def kids(n:Sa):List Int:=n.fC.filter nk
def stk(m:Mach):List Sa→Nat→List Int→Bool
 | [],_,w=>w.isEmpty
 |_::_,_,[]=>false
 |n::l,at_,t::w=>(decide (t=(at_:Int))&&z9l m n)&&stk m l (at_+1) (kids n++w)
theorem q0s{m:Mach}{l:List Sa}{k:Nat}(a:k<l.length){t:Int}{w:List Int}:stk m (l.drop k) k (t::w)=((decide (t=(k:Int))&&z9l m (l.getD k default))&&stk m (l.drop (k+1)) (k+1) (kids (l.getD k default)++w)):=by
 rw [z5a _ _ a];rfl
theorem zgm{m:Mach}{n:Sa}(h:z9l m n=true):(n.fC.length:Int)=m.outputs:=by
 unfold z9l at h
 by_cases e:(n.fC.length:Int)=m.outputs
 ·exact e
 ·rw [xu e] at h;cases h
theorem zyc{X:List Int}(g:X.length≤100){s:List Int}(d:s.length≤100000):
 fe 5000 X (List Int) (fun a b=>
 bif decide (a.2≠(-1)) then(
 gd (fits 8 b ([a.2]:List Int))<|
 some (true,(b++([a.2]:List Int)))) else(
 some (true,b))) s=some (s++(X.filter nk).reverse):=by
 have key: ∀ F j s,j≤X.length→j<F→s.length+j≤100100→gy 5000 (List Int) (fun a b=>
  bif decide (a.2≠(-1)) then(
  gd (fits 8 b ([a.2]:List Int))<|
  some (true,(b++([a.2]:List Int)))) else(
  some (true,b))) X F s ((j:Int)-1)=some (s++((X.take j).filter nk).reverse):=by
  intro F
  induction F with
  |zero=>intro j s _ h _;omega
  |succ F ih=>
   intro j s i k d
   unfold gy
   cases j with
   |zero=>rw [yo (by omega)];simp
   |succ j=>
    rw [show ((j+1:Nat):Int)-1=(j:Int) by omega,xu (by omega),zl (jk (by omega)),z0g]
    have f:(X.take (j+1)).filter nk=(X.take j).filter nk++if nk (X.getD j default)=true then [X.getD j default] else []:=by
     rw [zf8 _ _ (by omega),List.filter_append,List.filter_cons];rfl
    rw [f]
    by_cases e:X.getD j default= -1
    ·have c:nk (X.getD j default)=false:=by unfold nk;exact decide_eq_false (fun h=>h e)
     rw [yo (fun h=>h e),zcb,if_neg (by rw [c];decide),List.append_nil]
     refine(cf rfl).trans ?_
     rw [zl (jb (by omega))]
     exact ih j s (by omega) (by omega) (by omega)
    ·have c:nk (X.getD j default)=true:=by unfold nk;exact decide_eq_true e
     rw [xu e,zl (by constructor<;>simp<;>omega),zcb,if_pos c]
     refine(cf rfl).trans ?_
     rw [zl (jb (by omega))]
     refine(ih j _ (by omega) (by omega) (by simp;omega)).trans ?_
     rw [List.reverse_append]
     simp
 unfold fe
 rw [zl (jb (by omega)),key 5000 X.length s (Nat.le_refl _) (by omega) (by omega),List.take_length]
theorem right_eq{m:Mach}{n:Sa}(a:m.outputs≤16):z3e 5000 m n=some (z9l m n):=by
 unfold z3e z9l
 by_cases h:(n.fC.length:Int)≠m.outputs
 ·rw [xu h,xu h]
 ·have h':(n.fC.length:Int)=m.outputs:=by omega
  rw [yo h,yo h]
  by_cases hi:n.fB= -1
  ·rw [xu hi,xu hi,qc (zrw (p:=nk) (fun k b=>rfl) (by omega) (by omega))]
  ·rw [yo hi,yo hi]
theorem zic{m:Mach}{l:List Sa}(g:l.length≤1024)(f:m.outputs≤16): ∀ F k w,k≤l.length→l.length-k<F→w.length≤16*k+1→
 ∃ r,l8 5000 m l F (k:Int) w.reverse=some r∧Ex.on r (fun b=>some (decide ((↑b.length:Int)=0))) some=some (stk m (l.drop k) k w)
 |0,k,w,_,h,_=>by omega
 |F+1,k,w,v,x,i=>by
  unfold l8
  by_cases e:k=l.length
  ·subst e
   rw [yo (by omega)]
   refine⟨_,rfl,?_⟩
   rw [List.drop_length]
   show some (decide ((w.reverse.length:Int)=0))=some w.isEmpty
   cases w with
   |nil=>rfl
   |cons t w=>rw [decide_eq_false (by simp;omega)];rfl
  ·have hk':k<l.length:=by omega
   rw [xu (by omega),zl (jk hk'),z0g]
   cases w with
   |nil=>
    refine⟨Ex.rt false,?_,?_⟩
    ·rw [zl (fun _=>jb (by simp))]
     refine(zl (fun h=>?_)).trans ?_
     ·simp at h
     ·have j:decide (((([]:List Int).reverse.length:Nat):Int)=0)=true:=rfl
      rw [j]
      refine(qc (zjs rfl)).trans ?_
      exact ct rfl
    ·rw [z5a _ _ hk'];rfl
   |cons t w=>
    have a:((t::w).reverse.length:Int)=(w.length:Int)+1:=by simp
    have c:ix (t::w).reverse (((t::w).reverse.length:Int)-1)=t:=by
     rw [a,show (w.length:Int)+1-1=(w.length:Int) by omega,z0g,List.reverse_cons,List.getD_eq_getElem?_getD]
     simp
    have hcut:cut (t::w).reverse 0 (((t::w).reverse.length:Int)-1)=w.reverse:=by
     rw [a,show (w.length:Int)+1-1=(w.length:Int) by omega,List.reverse_cons]
     unfold cut
     simp
    have hw':w.length≤16*k:=by simp at i;omega
    have n:w.length<(t::w).reverse.length:=by simp
    rw [c,hcut,q0s hk']
    have d:decide (((t::w).reverse.length:Int)=0)=false:=decide_eq_false (by omega)
    rw [d]
    by_cases et:t=(k:Int)
    ·rw [decide_eq_false (fun h=>h et),decide_eq_true et]
     rw [zl (fun _=>jb (by omega)),zl (fun _=>⟨by omega,by omega⟩),qc (show gop (true&&((false||false)==false)) (z3e 5000 m (⟨(l.getD k default).fB,(l.getD k default).fD,(l.getD k default).fC⟩:Sa))=some (some (z9l m (l.getD k default))) from zd9 rfl (right_eq f))]
     cases hok:z9l m (l.getD k default) with
     |false=>exact⟨Ex.rt false,ct rfl,rfl⟩
     |true=>
      rw [show (((false||false)|| !((some true:Option Bool).getD default)):Bool)=false from rfl]
      have o:=zgm hok
      have hout:(l.getD k default).fC.length≤16:=by omega
      have y:=List.length_filter_le nk (l.getD k default).fC
      have p:=zyc (X:=(l.getD k default).fC) (s:=w.reverse) (by omega) (by simp;omega)
      obtain⟨r,q,u⟩:=zic g f F (k+1) (kids (l.getD k default)++w) (by omega) (by omega) (by rw [List.length_append];unfold kids;omega)
      refine⟨r,?_,?_⟩
      ·refine(cf rfl).trans ?_
       rw [zl (jb (by omega)),zl ⟨by omega,by omega,by omega⟩,qc (show z1j 5000 _=some _ from rfl),qc p,zl (jb (by omega)),yt]
       rw [show w.reverse++((l.getD k default).fC.filter nk).reverse=(kids (l.getD k default)++w).reverse by rw [List.reverse_append];rfl]
       exact q
      ·rw [u];rfl
    ·rw [decide_eq_true et,decide_eq_false et]
     refine⟨Ex.rt false,?_,rfl⟩
     rw [zl (fun _=>jb (by omega)),zl (fun _=>⟨by omega,by omega⟩)]
     refine(qc (zjs rfl)).trans ?_
     exact ct rfl
theorem zs7{m:Mach}{l:List Sa}(a:l.length≤1024)(b:m.outputs≤16):z6c 5000 m l=some (stk m l 0 [0]):=by
 obtain⟨r,c,d⟩:=zic (m:=m) a b 5000 0 [0] (Nat.zero_le _) (by omega) (by simp)
 unfold z6c
 rw [qc (show l8 5000 m l 5000 0 [0]=some r from c),d];rfl
/-! ### by recursion-/
/-! ### what a tree of that form is like-/
end GV
end Go.Proofs.Ytnnobdkjgafdmaa
