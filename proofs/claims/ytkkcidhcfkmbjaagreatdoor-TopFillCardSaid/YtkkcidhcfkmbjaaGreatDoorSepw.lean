import Derived.Test.YtkkcidhcfkmbjaaGreatDoorJoint
set_option linter.unusedVariables false
set_option linter.unusedSimpArgs false
set_option linter.unusedSectionVars false
namespace Go.Proofs.YtkkcidhcfkmbjaaGreatDoor
namespace GV
theorem zml{a b:List Int}(h:a.length<b.length):lle a b:= .inr (.inl h)
def Sep(m:Mach)(s t:Nat)(w:List Int):Prop:=WOk m.inputs w∧bq m (s:Int) w≠bq m (t:Int) w
def LSep(m:Mach)(s t:Nat)(w:List Int):Prop:=Sep m s t w∧ ∀ v,Sep m s t v→lle w v
section
variable {m : Mach} {s t : Nat} {w v : List Int}
theorem Sep.symm(h:Sep m s t w):Sep m t s w:=⟨h.1,h.2.symm⟩
theorem LSep.symm(h:LSep m s t w):LSep m t s w:=⟨h.1.symm,fun v a=>h.2 v a.symm⟩
theorem zke{n:Int}{i:Nat}(hi:i<n.toNat)(h:WOk n w):WOk n ((i:Int)::w):=fun j a=>by
 cases j with
 |zero=>exact⟨by show 0≤(i:Int);omega,by show (i:Int)<n;omega⟩
 |succ j=>exact h j (by simpa using a)
theorem z6s{n c:Int}(h:WOk n (c::w)): ∃ i:Nat,c=(i:Int)∧i<n.toNat∧WOk n w:=by
 have a:0≤c∧c<n:=h 0 (by simp)
 obtain⟨i,rfl⟩:=Int.eq_ofNat_of_zero_le a.1
 exact⟨i,rfl,by omega,fun j b=>h (j+1) (by simpa using b)⟩
structure SwOk (m:Mach) (k:Nat) (s t:Nat) (w:List Int):Prop where
 some:w≠[]→LSep m s t w∧w.length≤k
 none:w=[]→ ∀ v,Sep m s t v→k<v.length
theorem SwOk.symm{k:Nat}(h:SwOk m k s t w):SwOk m k t s w:=
 ⟨fun e=>⟨(h.some e).1.symm,(h.some e).2⟩,fun e v a=>h.none e v a.symm⟩
end
end GV
end Go.Proofs.YtkkcidhcfkmbjaaGreatDoor
