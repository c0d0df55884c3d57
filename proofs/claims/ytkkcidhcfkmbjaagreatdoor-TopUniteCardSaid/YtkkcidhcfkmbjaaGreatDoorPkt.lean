import Derived.Test.YtkkcidhcfkmbjaaGreatDoorEqv09
set_option linter.unusedVariables false
set_option linter.unusedSimpArgs false
set_option linter.unusedSectionVars false
namespace Go.Proofs.YtkkcidhcfkmbjaaGreatDoor
namespace GV
set_option maxRecDepth 100000
theorem zk7{α:Type}[Inhabited α](P:List α)(k:Nat)(h:k<P.length):P.take (k+1)=P.take k++[P.getD k default]:=by
 rw [List.take_add_one];simp [List.getD_eq_getElem?_getD,h]
theorem zpy{α:Type}{X:List α}{n k:Nat}{z y:α}(a:X.length=k)(b:k<n):(X++List.replicate (n-k) z).set k y=(X++[y])++List.replicate (n-(k+1)) z:=by
 rw [show n-k=(n-(k+1))+1 by omega,List.replicate_succ,List.set_append_right _ _ (by omega),a,Nat.sub_self]
 simp
theorem zax{N:Nat}{m:Mach}(a:MOk m)(b:200≤N):yz N m=some 0:=by rw [zo8 a.small b,(zd0 m).2 a]
theorem zhs{N:Nat}{m:Mach}(b:Small m)(d:200≤N):xh N m=some m:=by
 have e:=b.r
 unfold xh
 refine Eq.trans (q8 (x:=m.rows) ?_) rfl
 refine z0w (fun F k acc=>uo N m F (k:Int) acc) m.rows.length (fun k acc=>acc=m.rows.take k) _ (fun F k acc a hacc=> .inr ?_) (fun F acc hacc=>?_) N 0 [] (Nat.zero_le _) (by omega) (by simp)
 ·subst hacc
  refine⟨_,rfl,?_⟩
  have f:(ix m.rows (k:Int)).length≤100:=b.c k a
  simp only [uo]
  rw [bq (by omega),zg (j3 a),zg ⟨by simp;omega,by simp;omega⟩,zg ⟨by simp;omega,by simp;omega⟩,zg (qj (by omega)),List.nil_append,mf,List.take_succ_eq_append_getElem a]
  simp [List.getD_eq_getElem?_getD,a]
 ·subst hacc
  simp only [uo]
  rw [yt (by omega),List.take_length]
end GV
end Go.Proofs.YtkkcidhcfkmbjaaGreatDoor
