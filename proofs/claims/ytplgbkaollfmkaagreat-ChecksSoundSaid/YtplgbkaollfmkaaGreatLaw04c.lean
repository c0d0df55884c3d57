import Derived.Test.YtplgbkaollfmkaaGreatSpec04b
set_option linter.unusedVariables false
set_option linter.unusedSimpArgs false
namespace Go.Proofs.YtplgbkaollfmkaaGreat
namespace GV
set_option maxRecDepth 100000
/-! ### The shape of a machine-/
theorem q0q{m:Mach}(a:MOk m){k i:Nat}(b:k<m.rows.length)(hi:i<m.inputs.toNat):(zal m (k*m.inputs.toNat+i)).to= -1∧(zal m (k*m.inputs.toNat+i)).out= -1∧ ¬0≤((m.rows.getD k default).getD i default).to∨
 ¬((zal m (k*m.inputs.toNat+i)).to= -1∧(zal m (k*m.inputs.toNat+i)).out= -1)∧0≤((m.rows.getD k default).getD i default).to:=by
 rw [zhh hi]
 have hrow:=a.row k b
 rcases a.edge k i b (by omega) with h|h
 ·left;omega
 ·right;omega
theorem zoq{m:Mach}(a:MOk m): ∀ k,k≤m.rows.length→zav m k+(z9h m (k*m.inputs.toNat)).length=k*m.inputs.toNat
 |0,_=>by simp [zav,z9h]
 |k+1,f=>by
  have ih:=zoq a k (by omega)
  have hrow:=a.row k (by omega)
  have inner: ∀ i,i≤m.inputs.toNat→zg0 (m.rows.getD k default) i+(z9h m (k*m.inputs.toNat+i)).length=(z9h m (k*m.inputs.toNat)).length+i:=by
   intro i
   induction i with
   |zero=>intro _;simp [zk4]
   |succ i ih'=>
    intro hi
    have g:=ih' (by omega)
    have b:i<(m.rows.getD k default).length:=by omega
    rw [zja _ _ b,←Nat.add_assoc,zkf,List.length_append]
    rcases q0q a (by omega:k<m.rows.length) (by omega:i<m.inputs.toNat) with⟨c,d,e⟩|⟨c,d⟩
    ·rw [if_neg e,if_pos ⟨c,d⟩,List.length_singleton];omega
    ·rw [if_pos d,if_neg c,List.length_nil];omega
  have:=inner m.inputs.toNat (Nat.le_refl _)
  rw [z9p m k (by omega),Nat.succ_mul,show (m.rows.getD k default).length=m.inputs.toNat by omega]
  omega
end GV
end Go.Proofs.YtplgbkaollfmkaaGreat
