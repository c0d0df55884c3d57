import Derived.Test.YtkcccdcloealfaaGreatSpec04b
set_option linter.unusedVariables false
set_option linter.unusedSimpArgs false
namespace Go.Proofs.YtkcccdcloealfaaGreat
namespace GV
set_option maxRecDepth 100000
theorem zwz{α:Type}{X Y:List α}{k:Nat}{d:α}(h:X.length≤k):(X++Y).getD k d=Y.getD (k-X.length) d:=by
 simp only [List.getD_eq_getElem?_getD];rw [List.getElem?_append_right h]
theorem zaw{n:Int}{u v:List Int}(a:WOk n u)(b:WOk n v):WOk n (u++v):=fun k c=>by
 rw [List.length_append] at c
 by_cases h:k<u.length
 ·rw [z4y h];exact a k h
 ·rw [zwz (by omega)];exact b _ (by omega)
/-! ### The shape of a machine-/
theorem zzz{m:Mach}(a:MOk m){k i:Nat}(b:k<m.rows.length)(hi:i<m.inputs.toNat):(z9y m (k*m.inputs.toNat+i)).to= -1∧(z9y m (k*m.inputs.toNat+i)).out= -1∧ ¬0≤((m.rows.getD k default).getD i default).to∨
 ¬((z9y m (k*m.inputs.toNat+i)).to= -1∧(z9y m (k*m.inputs.toNat+i)).out= -1)∧0≤((m.rows.getD k default).getD i default).to:=by
 rw [zhj hi]
 have hrow:=a.row k b
 rcases a.edge k i b (by omega) with h|h
 ·left;omega
 ·right;omega
theorem znk{m:Mach}(a:MOk m): ∀ k,k≤m.rows.length→zcq m k+(z90 m (k*m.inputs.toNat)).length=k*m.inputs.toNat
 |0,_=>by simp [zcq,z90]
 |k+1,f=>by
  have ih:=znk a k (by omega)
  have hrow:=a.row k (by omega)
  have inner: ∀ i,i≤m.inputs.toNat→zhi (m.rows.getD k default) i+(z90 m (k*m.inputs.toNat+i)).length=(z90 m (k*m.inputs.toNat)).length+i:=by
   intro i
   induction i with
   |zero=>intro _;simp [zib]
   |succ i ih'=>
    intro hi
    have g:=ih' (by omega)
    have b:i<(m.rows.getD k default).length:=by omega
    rw [zi3 _ _ b,←Nat.add_assoc,zj6,List.length_append]
    rcases zzz a (by omega:k<m.rows.length) (by omega:i<m.inputs.toNat) with⟨c,d,e⟩|⟨c,d⟩
    ·rw [if_neg e,if_pos ⟨c,d⟩,List.length_singleton];omega
    ·rw [if_pos d,if_neg c,List.length_nil];omega
  have:=inner m.inputs.toNat (Nat.le_refl _)
  rw [zcs m k (by omega),Nat.succ_mul,show (m.rows.getD k default).length=m.inputs.toNat by omega]
  omega
end GV
end Go.Proofs.YtkcccdcloealfaaGreat
