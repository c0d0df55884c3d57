import Derived.Test.YtkkcidhcfkmbjaaGreatDoorPkt
set_option linter.unusedVariables false
set_option linter.unusedSimpArgs false
set_option linter.unusedSectionVars false
namespace Go.Proofs.YtkkcidhcfkmbjaaGreatDoor
namespace GV
theorem zrt{a b:List Int}(h:a.length<b.length):lle a b:= .inr (.inl h)
def Sep(m:Mach)(s t:Nat)(w:List Int):Prop:=WOk m.inputs w∧z0f m (s:Int) w≠z0f m (t:Int) w
def LSep(m:Mach)(s t:Nat)(w:List Int):Prop:=Sep m s t w∧ ∀ v,Sep m s t v→lle w v
section
variable {m : Mach} {s t : Nat} {w v : List Int}
theorem Sep.symm(h:Sep m s t w):Sep m t s w:=⟨h.1,h.2.symm⟩
theorem LSep.symm(h:LSep m s t w):LSep m t s w:=⟨h.1.symm,fun v a=>h.2 v a.symm⟩
theorem zpu{n:Int}{i:Nat}(hi:i<n.toNat)(h:WOk n w):WOk n ((i:Int)::w):=fun j a=>by
 cases j with
 |zero=>exact⟨by show 0≤(i:Int);omega,by show (i:Int)<n;omega⟩
 |succ j=>exact h j (by simpa using a)
theorem zka{n c:Int}(h:WOk n (c::w)): ∃ i:Nat,c=(i:Int)∧i<n.toNat∧WOk n w:=by
 have a:0≤c∧c<n:=h 0 (by simp)
 obtain⟨i,rfl⟩:=Int.eq_ofNat_of_zero_le a.1
 exact⟨i,rfl,by omega,fun j b=>h (j+1) (by simpa using b)⟩
def q0c(m:Mach)(g:Nat→Nat→List Int)(n s t i:Nat):Bool:=(decide (1<n)&&decide (ed m s i≠ -1))&&decide ((g (ed m s i).toNat (ed m t i).toNat).length+1=n)
def zxj(m:Mach)(g:Nat→Nat→List Int)(n s t:Nat):Nat→Nat→List Int
 |0,_=>[]
 |k+1,i=>if ou m s i≠ou m t i then [(i:Int)] else if q0c m g n s t i=true then(i:Int)::g (ed m s i).toNat (ed m t i).toNat else zxj m g n s t k (i+1)
def q1a(m:Mach)(g:Nat→Nat→List Int)(n s t:Nat):List Int:=
 if(zxj m g n s t m.inputs.toNat 0).length=n then zxj m g n s t m.inputs.toNat 0 else []
def sw(m:Mach):Nat→Nat→Nat→List Int
 |0,_,_=>[]
 |k+1,s,t=>if sw m k s t=[] then q1a m (sw m k) (k+1) s t else sw m k s t
structure SwOk (m:Mach) (k:Nat) (s t:Nat) (w:List Int):Prop where
 some:w≠[]→LSep m s t w∧w.length≤k
 none:w=[]→ ∀ v,Sep m s t v→k<v.length
theorem SwOk.symm{k:Nat}(h:SwOk m k s t w):SwOk m k t s w:=
 ⟨fun e=>⟨(h.some e).1.symm,(h.some e).2⟩,fun e v a=>h.none e v a.symm⟩
end
end GV
end Go.Proofs.YtkkcidhcfkmbjaaGreatDoor
