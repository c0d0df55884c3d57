import Derived.Test.YtplgbkaollfmkaaSpec04b
set_option linter.unusedVariables false
set_option linter.unusedSimpArgs false
namespace Go.Proofs.Ytplgbkaollfmkaa
namespace GV
set_option maxRecDepth 100000
/-! ### The shape of a machine-/
theorem zx9{m:Mach}(a:MOk m){k i:Nat}(b:k<m.rows.length)(hi:i<m.inputs.toNat):(z8t m (k*m.inputs.toNat+i)).to= -1∧(z8t m (k*m.inputs.toNat+i)).out= -1∧ ¬0≤((m.rows.getD k default).getD i default).to∨
 ¬((z8t m (k*m.inputs.toNat+i)).to= -1∧(z8t m (k*m.inputs.toNat+i)).out= -1)∧0≤((m.rows.getD k default).getD i default).to:=by
 rw [zgl hi]
 have hrow:=a.row k b
 rcases a.edge k i b (by omega) with h|h
 ·left;omega
 ·right;omega
theorem zm3{m:Mach}(a:MOk m): ∀ k,k≤m.rows.length→zas m k+(z7q m (k*m.inputs.toNat)).length=k*m.inputs.toNat
 |0,_=>by simp [zas,z7q]
 |k+1,f=>by
  have ih:=zm3 a k (by omega)
  have hrow:=a.row k (by omega)
  have inner: ∀ i,i≤m.inputs.toNat→zfi (m.rows.getD k default) i+(z7q m (k*m.inputs.toNat+i)).length=(z7q m (k*m.inputs.toNat)).length+i:=by
   intro i
   induction i with
   |zero=>intro _;simp [zmo]
   |succ i ih'=>
    intro hi
    have g:=ih' (by omega)
    have b:i<(m.rows.getD k default).length:=by omega
    rw [zmh _ _ b,←Nat.add_assoc,zi7,List.length_append]
    rcases zx9 a (by omega:k<m.rows.length) (by omega:i<m.inputs.toNat) with⟨c,d,e⟩|⟨c,d⟩
    ·rw [if_neg e,if_pos ⟨c,d⟩,List.length_singleton];omega
    ·rw [if_pos d,if_neg c,List.length_nil];omega
  have:=inner m.inputs.toNat (Nat.le_refl _)
  rw [zb2 m k (by omega),Nat.succ_mul,show (m.rows.getD k default).length=m.inputs.toNat by omega]
  omega
end GV
end Go.Proofs.Ytplgbkaollfmkaa
