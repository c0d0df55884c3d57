
import Derived.Test.YtplgbkaollfmkaaGreatLaw39g
import Derived.Test.YtplgbkaollfmkaaGreatSpec09e
import Derived.Test.YtplgbkaollfmkaaGreatSpec06m
set_option linter.unusedVariables false
set_option linter.unusedSimpArgs false
namespace Go.Proofs.YtplgbkaollfmkaaGreat
namespace GV
set_option maxRecDepth 100000
theorem ztw{N:Nat}{m:Mach}{w:List Int}(c:MOk m)(d:oo m=true)(e:WOk m.inputs w)(o:w.length≤1024)(p:1100≤N):z0o N m w=some (atL m w):=by
 unfold z0o
 refine(qc (x:=atL m w) ?_).trans rfl
 refine uk (σ:=List Int) (fun F k X=>tu N m w F (k:Int) X) w.length (fun k X=>X=(List.range (k+1)).map fun j=>w9 m 0 (w.take j)) _ (fun F k X b hi=> .inr ?_) (fun F X hi=>?_) N 0 _ (Nat.zero_le _) (by omega) rfl
 ·subst hi
  refine⟨_,rfl,?_⟩
  obtain⟨f,g,h⟩:=zrk c d e b
  simp only [tu]
  have i:ix ((List.range (k+1)).map fun j=>w9 m 0 (w.take j)) (k:Int)=w9 m 0 (w.take k):=z0i _ (by omega)
  have a:((List.range (k+1)).map fun j=>w9 m 0 (w.take j)).length=k+1:=by simp
  have l:fits 8 ((List.range (k+1)).map fun j=>w9 m 0 (w.take j)) ([w9 m 0 (w.take (k+1))]:List Int):=⟨by rw [a,List.length_singleton];omega,by rw [a,List.length_singleton];omega⟩
  rw [uy (by omega),zk (qo (by omega)),i,zk f,zk (qo b),zk g,h,zk l,zk (qm (by omega)),List.range_succ (n:=k+1),List.map_append];rfl
 ·subst hi
  simp only [tu]
  rw [uo (by omega)];rfl
end GV
end Go.Proofs.YtplgbkaollfmkaaGreat

namespace Go.Proofs.YtplgbkaollfmkaaGreat
namespace GV
set_option maxRecDepth 100000
end GV
end Go.Proofs.YtplgbkaollfmkaaGreat

namespace Go.Proofs.YtplgbkaollfmkaaGreat
namespace GV
set_option maxRecDepth 100000
end GV
end Go.Proofs.YtplgbkaollfmkaaGreat

namespace Go.Proofs.YtplgbkaollfmkaaGreat
namespace GV
set_option maxRecDepth 100000
end GV
end Go.Proofs.YtplgbkaollfmkaaGreat

namespace Go.Proofs.YtplgbkaollfmkaaGreat
namespace GV
set_option maxRecDepth 100000
end GV
end Go.Proofs.YtplgbkaollfmkaaGreat

namespace Go.Proofs.YtplgbkaollfmkaaGreat
namespace GV
set_option maxRecDepth 100000
def wdL(w:List Int)(n:Int):List Int:=w.map fun x=>x%n
theorem zvt{N:Nat}{w:List Int}{n:Int}{most:Nat}(b: ∀ k,k<w.length→0≤w.getD k default∧w.getD k default≤255)(f:1≤n)(g:n≤16)(i:most≤1000)(j:1100≤N):z0n N w n (most:Int)=some (wdL (w.take most) n):=by
 unfold z0n
 refine(qc (x:=wdL (w.take most) n) ?_).trans rfl
 refine uk (σ:=List Int) (fun F k X=>ic N w n (most:Int) F X (k:Int)) (min w.length most) (fun k X=>X=wdL (w.take k) n) _ (fun F k X l hi=> .inr ?_) (fun F X hi=>?_) N 0 _ (Nat.zero_le _) (by omega) (by simp [wdL])
 ·subst hi
  refine⟨_,rfl,?_⟩
  have a:k<w.length:=by omega
  have m:=b k a
  have hlen:(wdL (w.take k) n).length=k:=by unfold wdL;rw [List.length_map,List.length_take];omega
  have c:fits 8 (wdL (w.take k) n) ([(ix w (k:Int))%n]:List Int):=⟨by rw [hlen,List.length_singleton];omega,by rw [hlen,List.length_singleton];omega⟩
  have d:okR (ix w (k:Int)) n:=by
   rw [ak]
   exact⟨by omega,by omega⟩
  simp only [ic]
  refine(ct (by rw [Bool.and_eq_true,decide_eq_true_iff,decide_eq_true_iff];omega)).trans ?_
  rw [zk (qo a),zk (qm (by rw [ak];omega)),zk d,zk c,zk (qm (by omega))]
  have e:w.take (k+1)=w.take k++[w.getD k default]:=by
   rw [List.take_add_one,List.getElem?_eq_getElem a,List.getD_eq_getElem?_getD,List.getElem?_eq_getElem a];rfl
  rw [e]
  unfold wdL
  rw [List.map_append];rfl
 ·subst hi
  simp only [ic]
  refine(cf (by rw [←Bool.not_eq_true,Bool.and_eq_true,decide_eq_true_iff,decide_eq_true_iff];omega)).trans ?_
  congr 2
  by_cases h:w.length≤most
  ·rw [Nat.min_eq_left h,List.take_length,List.take_of_length_le h]
  ·rw [Nat.min_eq_right (by omega)]
theorem zzw{w:List Int}{n:Int}(b:1≤n):WOk n (wdL w n):=fun k a=>by
 obtain⟨x,_,e⟩:=List.mem_map.1 (lq a)
 unfold wdL
 rw [←e]
 exact⟨Int.emod_nonneg _ (by omega),Int.emod_lt_of_pos _ (by omega)⟩
end GV
end Go.Proofs.YtplgbkaollfmkaaGreat
