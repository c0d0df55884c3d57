import Derived.Test.YtkcccdcloealfaaGreatSpec06k
import Derived.Test.YtkcccdcloealfaaGreatSpec06l
set_option linter.unusedVariables false
set_option linter.unusedSimpArgs false
namespace Go.Proofs.YtkcccdcloealfaaGreat
namespace GV
set_option maxRecDepth 1000000
theorem z9i(n:Int):0≤IntKind.u8.wrap n∧IntKind.u8.wrap n≤255:=by
 have h:IntKind.u8.wrap n=n%256:=by simp [IntKind.wrap,IntKind.signed,IntKind.bits]
 rw [h];omega
theorem zwi(n:Int):0≤IntKind.u16.wrap n∧IntKind.u16.wrap n≤65535:=by
 have h:IntKind.u16.wrap n=n%65536:=by simp [IntKind.wrap,IntKind.signed,IntKind.bits]
 rw [h];omega
def RngL(b:Int)(l:List Int):Prop:= ∀ z∈l,0≤z∧z≤b
theorem RngL.get{b:Int}{l:List Int}(h:RngL b l)(k:Nat)(a:k<l.length):0≤l.getD k default∧l.getD k default≤b:=h _ (z1t a)
theorem RngL.snoc{b z:Int}{l:List Int}(h:RngL b l)(c:0≤z∧z≤b):RngL b (l++[z]):=fun y a=>by
 rcases List.mem_append.1 a with a|a
 ·exact h y a
 ·rw [List.mem_singleton] at a;subst a;exact c
theorem zpk{a b c:Int}:WDOk ⟨[IntKind.u8.wrap a,IntKind.u8.wrap b,1,2,IntKind.u8.wrap c]⟩:=by
 have h:RngL 255 [IntKind.u8.wrap a,IntKind.u8.wrap b,1,2,IntKind.u8.wrap c]:=by
  intro z d
  simp only [List.mem_cons,List.not_mem_nil,or_false] at d
  rcases d with rfl|rfl|rfl|rfl|rfl
  ·exact z9i _
  ·exact z9i _
  ·decide
  ·decide
  ·exact z9i _
 exact⟨h.get⟩
end GV
end Go.Proofs.YtkcccdcloealfaaGreat
