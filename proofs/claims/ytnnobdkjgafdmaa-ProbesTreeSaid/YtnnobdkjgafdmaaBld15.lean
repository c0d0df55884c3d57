import Derived.Test.YtnnobdkjgafdmaaGrw15a
set_option linter.unusedVariables false
set_option linter.unusedSimpArgs false
set_option linter.unusedSectionVars false
namespace Go.Proofs.Ytnnobdkjgafdmaa
namespace GV
set_option maxRecDepth 100000
section
variable {m : Mach} (hm : PM m)
include hm
def z1t(m:Mach):List Nat:=List.range m.rows.length
theorem zx1:Blk m.rows.length (z1t m):=⟨fun s a=>List.mem_range.1 a,List.nodup_range⟩
theorem q6s:(num m.rows.length (z1t m):Int)=IntKind.u16.wrap ((lh .u16 (1:Int) (m.rows.length:Int))-1):=by
 have b:=hm.r6
 rw [zwo _ (by omega),z96]
 exact zcd fun s a=>decide_eq_true (List.mem_range.2 a)
theorem zh9(h:0≤FT m (num m.rows.length (z1t m))):Gro m (z1t m) (z1t m):=⟨zx1 hm,by
 have:=hm.pos
 unfold z1t
 intro e
 have:=congrArg List.length e
 rw [List.length_range,List.length_nil] at this
 omega,rfl,h⟩
theorem zw2:ah 5000 m 5000 [] 0=some (cI (z1t m)):=by
 have a:=hm.r6
 have:=z2k (fun F k z=>ah 5000 m F z (k:Int)) m.rows.length (fun k=>(List.range k).map fun(s:Nat)=>(s:Int)) (cI (z1t m)) (fun F k b=>?_) (fun F=>?_) (F:=5000) (by omega)
 ·exact this
 ·show ah 5000 m (F+1) _ (k:Int)=ah 5000 m F _ ((k+1:Nat):Int)
  rw [ah,wu (by omega),ze ⟨by rw [List.length_map,List.length_range,List.length_singleton];omega,by rw [List.length_map,List.length_range,List.length_singleton];omega⟩,ze (qm (by omega)),kz]
  congr 1
  rw [List.range_succ,List.map_append];rfl
 ·show ah 5000 m (F+1) _ (m.rows.length:Int)=_
  rw [ah,um (by omega)];rfl
def z4o(m:Mach):List Sa:=gT m 5000 (z1t m) (z1t m) 0
theorem zuv:z5c 5000 m=some (if 0≤FT m (num m.rows.length (z1t m)) then((⟨z4o m⟩:Sb),0) else((⟨[]⟩:Sb),7)):=by
 have f:=hm.r6
 have b:=z4z hm
 have a:=z2w (n:=m.rows.length) (L:=z1t m)
 have c:=zej hm a
 unfold z5c
 rw [qc hm.ready_eq,um (fun h=>h rfl),qc (zvb hm),ze ⟨by omega,by show (m.rows.length:Int)≤16;omega⟩,←q6s hm,qc (has_eq (by omega)),q2s hm a (by omega),decide_eq_true (show FT m (num m.rows.length (z1t m))<64 by omega),Bool.and_true]
 by_cases h:0≤FT m (num m.rows.length (z1t m))
 ·rw [decide_eq_true h,if_pos h]
  refine(cf rfl).trans ?_
  have d:=qa1 hm 5000 (z1t m) (z1t m) [] (zh9 hm h) (by omega) (by simp;omega)
  rw [qc (zw2 hm),qc d]
  have e:z0m 5000 ([]++gT m 5000 (z1t m) (z1t m) 0)=some (z4o m):=by
   unfold z0m
   rw [List.nil_append,ze (zqm _),zrd];rfl
  exact qc e
 ·rw [decide_eq_false h,if_neg h];rfl
end
end GV
end Go.Proofs.Ytnnobdkjgafdmaa
