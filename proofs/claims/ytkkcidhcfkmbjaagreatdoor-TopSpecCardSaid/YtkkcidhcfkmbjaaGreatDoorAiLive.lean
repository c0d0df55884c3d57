
import Derived.Test.YtkkcidhcfkmbjaaGreatDoorAiZc
import Derived.Test.YtkkcidhcfkmbjaaGreatDoorAiZd
import Derived.Test.YtkkcidhcfkmbjaaGreatDoorAiLay
set_option linter.unusedVariables false
set_option linter.unusedSimpArgs false
set_option linter.unusedSectionVars false
namespace Go.Proofs.YtkkcidhcfkmbjaaGreatDoor
namespace GV
namespace AI
noncomputable def Cc:Cf:= {P:=Tryz.prog,gl:=[(1,[.s [45,62],.s [60,61],.s [62,61],.s [33,61],.s [58,61]])],ext:=[(243,0),(178,1),(80,2)],quiet:=[83]}
theorem nog_all : Tryz.prog.funcs.toList.all (fun fn => !(fn.name == "runtime.NumGoroutine")) = true := by kernel_rfl
theorem cc_ok:Cc.Ok:=by
 refine⟨by kernel_rfl,fun f fn hf hn=>?_,fun f w hm β al S nx K r hk=>?_,fun f hf=>?_⟩
 ·have hm:fn∈Tryz.prog.funcs.toList:=Array.mem_toList_iff.2 (Array.mem_of_getElem? hf)
  have:=List.all_eq_true.1 nog_all fn hm
  rw [hn] at this
  revert this;decide
 ·simp only [Cc,List.mem_cons,Prod.mk.injEq,List.mem_nil_iff,or_false] at hm
  rcases hm with⟨rfl,rfl⟩|⟨rfl,rfl⟩|⟨rfl,rfl⟩
  ·exact ext0 (C:=Cc) Tryz.func243 (by kernel_rfl) (by kernel_rfl) (by kernel_rfl) (by kernel_rfl) (nx:=nx) hk
  ·exact ext1 (C:=Cc) Tryz.func178 (by kernel_rfl) (by kernel_rfl) (by kernel_rfl) (by kernel_rfl) (nx:=nx) hk
  ·exact ext2 (C:=Cc) (ρ:=Tryz.lays156_ren) Tryz.lays156 Tryz.extra156 (fun vs w=>Tryz.call80 vs w) (nx:=nx) hk
 ·simp only [Cc,List.mem_cons,List.mem_nil_iff,or_false] at hf
  subst hf
  exact⟨⟨_,Tryz.func83,rfl⟩,quiet83⟩
end AI
end GV
end Go.Proofs.YtkkcidhcfkmbjaaGreatDoor

namespace Go.Proofs.YtkkcidhcfkmbjaaGreatDoor
namespace GV
namespace AI
theorem run_live11:callB Cc (execK Cc 3000) 14 [] .e 0 (fun v _ _=>some v)=some (.b true):=by kernel_rfl
theorem c_live11{R:RH}(hG:GR Cc R):CallP Tryz.prog 14 #[] R fun v _=>v= .bool true:=
 CallP.mono (call_ok cc_ok run_live11 hG (vs:=[]) (VRs_nil.2 rfl)) fun v _ _ ⟨ι,h⟩=>by rw [VR] at h;exact h
end AI
end GV
end Go.Proofs.YtkkcidhcfkmbjaaGreatDoor
