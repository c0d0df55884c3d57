import Derived.Test.YtplgbkaollfmkaaSpec06m
import Derived.Test.YtplgbkaollfmkaaLives39
set_option linter.unusedVariables false
set_option linter.unusedSimpArgs false
namespace Go.Proofs.Ytplgbkaollfmkaa
namespace GV
set_option maxRecDepth 100000
/-! ### Long words-/
def zcm(m:Mach)(i:Int):Bool:=decide (i<0)||decide (m.inputs≤i)
def zfm(m:Mach)(w:List Int):Int:=if 1024<w.length then 3 else if w.any (zcm m)=true then 1 else 0
theorem zts{m:Mach}{w:List Int}(h:w.any (zcm m)=false):WOk m.inputs w:=fun k a=>by
 have:=List.any_eq_false.1 h _ (ay a)
 unfold zcm at this
 simp only [Bool.or_eq_true,decide_eq_true_eq,not_or] at this
 omega
theorem q0p{m:Mach}{w:List Int}(h:WOk m.inputs w):w.any (zcm m)=false:=by
 refine List.any_eq_false.2 fun x b=>?_
 obtain⟨k,a,rfl⟩:=List.mem_iff_getElem.1 b
 have:=h k a
 rw [List.getD_eq_getElem?_getD,List.getElem?_eq_getElem a] at this
 simp only [Option.getD_some] at this
 unfold zcm
 simp only [Bool.or_eq_true,decide_eq_true_eq,not_or]
 omega
theorem znj{m:Mach}{w:List Int}(h:zfm m w=0):w.length≤1024∧WOk m.inputs w:=by
 unfold zfm at h
 split at h
 ·exact absurd h (by decide)
 ·split at h
  ·exact absurd h (by decide)
  ·rename_i h1 h2
   exact⟨by omega,zts (by simpa using h2)⟩
theorem q17{N:Nat}{m:Mach}{w:List Int}(a:1100≤N):z6j N m w=some (zfm m w):=by
 unfold z6j zfm
 by_cases h:1024<w.length
 ·rw [uy (by omega),if_pos h]
 ·rw [ul (by omega),if_neg h,qc (zlq (p:=zcm m) (fun k b=>rfl) (by omega) (by omega))]
  cases hb:w.any (zcm m)
  ·rfl
  ·rfl
theorem zvz{N:Nat}{m:Mach}{w:List Int}(c:w.length<N)(d:w.length≤4611686018427387904):z16 N m w=some (!w.any (zcm m)):=by
 have b:xq N m w N 0=some (if w.any (zcm m)=true then Ex.rt false else Ex.go ()):=by
  refine ug (σ:=Unit) (fun F k _=>xq N m w F (k:Int)) w.length (fun k _=>(w.take k).any (zcm m)=false) _ (fun F k _ a hi=>?_) (fun F _ hi=>?_) N 0 () (Nat.zero_le _) (by omega) (by simp)
  ·simp only [xq]
   rw [uy (by omega),zm (qx a),zm (fun _=>qx a),om]
   cases hp:zcm m (w.getD k default)
   ·right
    refine⟨(),by rw [z7b (zcm m) w k a,hi,hp];rfl,?_⟩
    rw [cf (by exact hp),zm (qo (by omega))];rfl
   ·left
    rw [ct (by exact hp),if_pos (List.any_eq_true.2 ⟨_,ay a,hp⟩)]
  ·simp only [xq]
   rw [ul (by omega),if_neg (by rw [List.take_length] at hi;rw [hi];decide)]
 unfold z16
 rw [qc b]
 cases h:w.any (zcm m)<;>rfl
/-! ### Responses-/
end GV
end Go.Proofs.Ytplgbkaollfmkaa
