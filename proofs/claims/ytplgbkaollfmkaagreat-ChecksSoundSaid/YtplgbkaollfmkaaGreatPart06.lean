import Derived.Test.YtplgbkaollfmkaaGreatLaw06a
set_option linter.unusedVariables false
set_option linter.unusedSimpArgs false
namespace Go.Proofs.YtplgbkaollfmkaaGreat
namespace GV
set_option maxRecDepth 100000
def pos(L:List Nat)(t:Int):Int:=if t= -1 then-1 else(L.idxOf t.toNat:Int)
def rowP(m:Mach)(L:List Nat)(s:Nat):List Edge:=(m.rows.getD s default).map fun e=>⟨pos L e.to,e.out⟩
def zkd(m:Mach)(L:List Nat):Mach:=⟨m.inputs,m.outputs,L.map (rowP m L)⟩
structure ClosedP (m:Mach) (L:List Nat):Prop where
 rng: ∀ s∈L,s<m.rows.length
 nd:L.Nodup
 cl: ∀ s∈L,∀ i,i<m.inputs.toNat→ed m s i≠ -1→(ed m s i).toNat∈L
 ne:L≠[]
theorem zzt{L:List Nat}{k:Nat}(a:L.Nodup)(b:k<L.length):L.idxOf (L.getD k 0)=k:=by
 have:L.getD k 0=L[k]:=by simp [List.getD_eq_getElem?_getD,b]
 rw [this]
 exact a.idxOf_getElem k b
theorem q3h{L:List Nat}{t:Nat}(h:t∈L):L.idxOf t<L.length∧L.getD (L.idxOf t) 0=t:=by
 have a:=List.idxOf_lt_length_iff.2 h
 refine⟨a,?_⟩
 simp [List.getD_eq_getElem?_getD,a]
section
variable {m : Mach} {L : List Nat}
theorem ClosedP.len(a:ClosedP m L):L.length≤m.rows.length:=by
 have:=List.Nodup.length_le_of_subset a.nd (l₂:=List.range m.rows.length) (fun x b=>List.mem_range.2 (a.rng x b))
 simpa using this
theorem zoi{k:Nat}(a:k<L.length):(zkd m L).rows.getD k default=rowP m L (L.getD k 0):=by
 unfold zkd
 simp [List.getD_eq_getElem?_getD,a]
theorem zlk(a:MOk m){s:Nat}(b:s<m.rows.length):(rowP m L s).length=m.inputs.toNat:=by
 unfold rowP
 have:=a.row s b
 rw [List.length_map];omega
theorem zsp(a:MOk m){s i:Nat}(b:s<m.rows.length)(hi:i<m.inputs.toNat):(rowP m L s).getD i default=⟨pos L (ed m s i),((m.rows.getD s default).getD i default).out⟩:=by
 have:=a.row s b
 unfold rowP ed
 simp only [List.getD_eq_getElem?_getD,List.getElem?_map]
 rw [←List.getD_eq_getElem?_getD,List.getElem?_eq_getElem (show i<(m.rows.getD s default).length by omega)]
 rfl
theorem q6q(d:MOk m)(b:ClosedP m L){s i:Nat}(c:s∈L)(hi:i<m.inputs.toNat):pos L (ed m s i)= -1∧ed m s i= -1∨(0≤pos L (ed m s i)∧pos L (ed m s i)<L.length∧0≤ed m s i∧L.getD (pos L (ed m s i)).toNat 0=(ed m s i).toNat):=by
 unfold pos
 rcases z94 d (b.rng s c) hi with h|⟨e,g⟩
 ·left;rw [if_pos h];exact⟨rfl,h⟩
 ·right
  have a:ed m s i≠ -1:=by omega
  obtain⟨j,f⟩:=q3h (b.cl s c i hi a)
  rw [if_neg a]
  exact⟨by omega,by omega,e,by rw [Int.toNat_natCast];exact f⟩
theorem q2b(a:MOk m)(c:ClosedP m L):MOk (zkd m L):=by
 have hlen:=c.len
 have l:=a.r2
 have e:(zkd m L).rows.length=L.length:=by simp [zkd]
 have hpos:0<L.length:=List.length_pos_iff.2 c.ne
 have hmem: ∀ k,k<L.length→L.getD k 0∈L:=fun k n=>by simp [List.getD_eq_getElem?_getD,n]
 refine⟨a.i1,a.i2,a.o1,a.o2,by omega,by omega,fun s b=>?_,fun s i b hi=>?_⟩
 ·rw [e] at b
  rw [zoi b,zlk a (c.rng _ (hmem s b))]
  have:=a.i1
  show _=m.inputs
  omega
 ·rw [e] at b
  rw [zoi b] at hi⊢
  have d:=c.rng _ (hmem s b)
  rw [zlk a d] at hi
  rw [zsp a d hi]
  have h:=a.edge _ i d (by have:=a.row _ d;omega)
  rcases q6q a c (hmem s b) hi with⟨f,j⟩|⟨f,j,q,_⟩
  ·rcases h with⟨_,g⟩|⟨o,_⟩
   ·left;exact⟨f,g⟩
   ·exfalso
    have:ed m (L.getD s 0) i=((m.rows.getD (L.getD s 0) default).getD i default).to:=rfl
    omega
  ·rcases h with⟨o,_⟩|⟨_,_,g,p⟩
   ·exfalso
    have:ed m (L.getD s 0) i=((m.rows.getD (L.getD s 0) default).getD i default).to:=rfl
    omega
   ·right
    exact⟨f,by rw [e];exact j,g,p⟩
end
/-! ### The program's part-/
def z7e(L:List Nat):List Int:=L.map fun s=>((s:Nat):Int)
theorem zjn(L:List Nat):(z7e L).length=L.length:=by simp [z7e]
theorem zol{L:List Nat}{k:Nat}(a:k<L.length):ix (z7e L) (k:Int)=((L.getD k 0:Nat):Int):=by
 rw [ak]
 simp [z7e,List.getD_eq_getElem?_getD,a]
theorem z7x{α:Type}[Inhabited α](P:List α)(k:Nat)(h:k<P.length):P.take (k+1)=P.take k++[P.getD k default]:=by
 rw [List.take_add_one];simp [List.getD_eq_getElem?_getD,h]
theorem q4n{α:Type}{X:List α}{n k:Nat}{z y:α}(a:X.length=k)(b:k<n):(X++List.replicate (n-k) z).set k y=(X++[y])++List.replicate (n-(k+1)) z:=by
 rw [show n-k=(n-(k+1))+1 by omega,List.replicate_succ,List.set_append_right _ _ (by omega),a,Nat.sub_self]
 simp
end GV
end Go.Proofs.YtplgbkaollfmkaaGreat
