import Derived.Test.YtkkcidhcfkmbjaaGreatDoorDsep
set_option linter.unusedVariables false
set_option linter.unusedSimpArgs false
set_option linter.unusedSectionVars false
namespace Go.Proofs.YtkkcidhcfkmbjaaGreatDoor
namespace GV
set_option maxRecDepth 100000
/-! ### Tables that are filled place by place-/
def z4h(n I k:Nat):List (List Edge):=(List.range n).map fun s=>if s<k then List.replicate I ⟨0,0⟩ else []
theorem z4a{n I k:Nat}:(z4h n I k).length=n:=by simp [z4h]
theorem zin{n I:Nat}:z4h n I 0=List.replicate n []:=by
 unfold z4h
 rw [←List.length_range (n:=n),←List.map_const']
 simp
theorem zkx{n I k:Nat}(a:k<n):(z4h n I k).set k (List.replicate I ⟨0,0⟩)=z4h n I (k+1):=by
 refine z0r (by rw [List.length_set,z4a,z4a]) fun s b=>?_
 rw [List.length_set,z4a] at b
 rw [List.getD_eq_getElem?_getD,List.getElem?_set]
 by_cases e:k=s
 ·subst e
  rw [if_pos rfl,if_pos (by rw [z4a];exact a)]
  simp [z4h,List.getD_eq_getElem?_getD,a]
 ·rw [if_neg e,←List.getD_eq_getElem?_getD]
  simp only [z4h,List.getD_eq_getElem?_getD,List.getElem?_map,List.getElem?_range b,Option.map_some,Option.getD_some]
  by_cases h:s<k
  ·rw [if_pos h,if_pos (by omega)]
  ·rw [if_neg h,if_neg (by omega)]
def tab(n I:Nat)(G:Nat→Nat→Edge)(p:Nat):List (List Edge):=(List.range n).map fun s=>(List.range I).map fun i=>if s*I+i<p then G s i else⟨0,0⟩
section
variable {n I p s i : Nat} {G : Nat → Nat → Edge}
theorem z8t:(tab n I G p).length=n:=by simp [tab]
theorem z95(a:s<n):(tab n I G p).getD s default=(List.range I).map fun i=>if s*I+i<p then G s i else⟨0,0⟩:=by simp [tab,List.getD_eq_getElem?_getD,a]
theorem zmi:tab n I G 0=z4h n I n:=by
 unfold tab z4h
 refine List.map_congr_left fun s a=>?_
 rw [if_pos (List.mem_range.1 a)]
 apply List.ext_getElem
 ·simp
 ·intro j b c;simp
theorem zp5(b:s<n)(hi:i<I):(tab n I G (s*I+i)).set s (((tab n I G (s*I+i)).getD s default).set i (G s i))=tab n I G (s*I+(i+1)):=by
 refine z0r (by rw [List.length_set,z8t,z8t]) fun r c=>?_
 rw [List.length_set,z8t] at c
 rw [List.getD_eq_getElem?_getD,List.getElem?_set]
 by_cases e:s=r
 ·subst e
  rw [if_pos rfl,if_pos (by rw [z8t];exact b),Option.getD_some,z95 b,z95 b]
  refine z0r (by simp) fun j a=>?_
  rw [List.length_set,List.length_map,List.length_range] at a
  rw [List.getD_eq_getElem?_getD,List.getElem?_set]
  by_cases e2:i=j
  ·subst e2
   rw [if_pos rfl,if_pos (by simpa using hi)]
   simp [List.getD_eq_getElem?_getD,hi]
  ·rw [if_neg e2]
   simp only [List.getElem?_map,List.getElem?_range a,Option.map_some,Option.getD_some,List.getD_eq_getElem?_getD]
   by_cases h:j<i
   ·rw [if_pos (by omega),if_pos (by omega)]
   ·rw [if_neg (by omega),if_neg (by omega)]
 ·rw [if_neg e,←List.getD_eq_getElem?_getD,z95 c,z95 c]
  refine List.map_congr_left fun j a=>?_
  have a:=List.mem_range.1 a
  have key:r*I+j≠s*I+i:=fun h=>by
   rcases Nat.lt_or_gt_of_ne e with d|d
   ·have:=Nat.mul_le_mul_right I (show s+1≤r from d)
    rw [Nat.add_mul,Nat.one_mul] at this;omega
   ·have:=Nat.mul_le_mul_right I (show r+1≤s from d)
    rw [Nat.add_mul,Nat.one_mul] at this;omega
  by_cases h:r*I+j<s*I+i
  ·rw [if_pos h,if_pos (by omega)]
  ·rw [if_neg h,if_neg (by omega)]
end
end GV
end Go.Proofs.YtkkcidhcfkmbjaaGreatDoor
