import Derived.Test.YtkkcidhcfkmbjaaGreatDoorPkt
set_option linter.unusedVariables false
set_option linter.unusedSimpArgs false
set_option linter.unusedSectionVars false
namespace Go.Proofs.YtkkcidhcfkmbjaaGreatDoor
namespace GV
set_option maxRecDepth 100000
theorem zlb{N:Nat}{m:Mach}(b:Small m)(d:200≤N):bu N m=some m:=by
 have e:=b.r
 unfold bu
 refine Eq.trans (zu (x:=m.rows) ?_) rfl
 refine mq (fun F k acc=>vg N m F (k:Int) acc) m.rows.length (fun k acc=>acc=m.rows.take k) _ (fun F k acc a hacc=> .inr ?_) (fun F acc hacc=>?_) N 0 [] (Nat.zero_le _) (by omega) (by simp)
 ·subst hacc
  refine⟨_,rfl,?_⟩
  have f:(ix m.rows (k:Int)).length≤100:=b.c k a
  simp only [vg]
  rw [bq (by omega),zi (j3 a),zi ⟨by simp;omega,by simp;omega⟩,zi ⟨by simp;omega,by simp;omega⟩,zi (ja (by omega)),List.nil_append,pg,List.take_succ_eq_append_getElem a]
  simp [List.getD_eq_getElem?_getD,a]
 ·subst hacc
  simp only [vg]
  rw [yz (by omega),List.take_length]
end GV
end Go.Proofs.YtkkcidhcfkmbjaaGreatDoor
