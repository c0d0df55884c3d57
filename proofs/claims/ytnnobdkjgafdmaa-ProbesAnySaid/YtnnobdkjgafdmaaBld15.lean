import Derived.Test.YtnnobdkjgafdmaaGrw15a
set_option linter.unusedVariables false
set_option linter.unusedSimpArgs false
set_option linter.unusedSectionVars false
namespace Go.Proofs.Ytnnobdkjgafdmaa
namespace GV
set_option maxRecDepth 100000
section
variable {m : Mach} (hm : PM m)
include hm
def z92(m:Mach):List Nat:=List.range m.rows.length
theorem zxv:Blk m.rows.length (z92 m):=⟨fun s a=>List.mem_range.1 a,List.nodup_range⟩
theorem zxk:(num m.rows.length (z92 m):Int)=IntKind.u16.wrap ((su .u16 (1:Int) (m.rows.length:Int))-1):=by
 have b:=hm.r6
 rw [zpc _ (by omega),z9u]
 exact z94 fun s a=>decide_eq_true (List.mem_range.2 a)
theorem zy0(h:0≤FT m (num m.rows.length (z92 m))):Gro m (z92 m) (z92 m):=⟨zxv hm,by
 have:=hm.pos
 unfold z92
 intro e
 have:=congrArg List.length e
 rw [List.length_range,List.length_nil] at this
 omega,rfl,h⟩
theorem zo9:bq 5000 m 5000 [] 0=some (cI (z92 m)):=by
 have a:=hm.r6
 have:=z6s (fun F k z=>bq 5000 m F z (k:Int)) m.rows.length (fun k=>(List.range k).map fun(s:Nat)=>(s:Int)) (cI (z92 m)) (fun F k b=>?_) (fun F=>?_) (F:=5000) (by omega)
 ·exact this
 ·show bq 5000 m (F+1) _ (k:Int)=bq 5000 m F _ ((k+1:Nat):Int)
  rw [bq,xu (by omega),zl ⟨by rw [List.length_map,List.length_range,List.length_singleton];omega,by rw [List.length_map,List.length_range,List.length_singleton];omega⟩,zl (jb (by omega)),yt]
  congr 1
  rw [List.range_succ,List.map_append];rfl
 ·show bq 5000 m (F+1) _ (m.rows.length:Int)=_
  rw [bq,yo (by omega)];rfl
def zq6(m:Mach):List Sa:=gT m 5000 (z92 m) (z92 m) 0
theorem zp0:z1d 5000 m=some (if 0≤FT m (num m.rows.length (z92 m)) then((⟨zq6 m⟩:Sc),0) else((⟨[]⟩:Sc),7)):=by
 have f:=hm.r6
 have b:=z8j hm
 have a:=zaq (n:=m.rows.length) (L:=z92 m)
 have c:=zu7 hm a
 unfold z1d
 rw [qc hm.ready_eq,yo (fun h=>h rfl),qc (zoo hm),zl ⟨by omega,by show (m.rows.length:Int)≤16;omega⟩,←zxk hm,qc (has_eq (by omega)),zup hm a (by omega),decide_eq_true (show FT m (num m.rows.length (z92 m))<64 by omega),Bool.and_true]
 by_cases h:0≤FT m (num m.rows.length (z92 m))
 ·rw [decide_eq_true h,if_pos h]
  refine(cf rfl).trans ?_
  have d:=q09 hm 5000 (z92 m) (z92 m) [] (zy0 hm h) (by omega) (by simp;omega)
  rw [qc (zo9 hm),qc d]
  have e:il 5000 ([]++gT m 5000 (z92 m) (z92 m) 0)=some (zq6 m):=by
   unfold il
   rw [List.nil_append,zl (zl1 _),zku];rfl
  exact qc e
 ·rw [decide_eq_false h,if_neg h];rfl
end
end GV
end Go.Proofs.Ytnnobdkjgafdmaa
