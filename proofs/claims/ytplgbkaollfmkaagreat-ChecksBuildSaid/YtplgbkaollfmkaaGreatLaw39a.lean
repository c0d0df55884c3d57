import Derived.Test.YtplgbkaollfmkaaGreatSpec06m
import Derived.Test.YtplgbkaollfmkaaGreatLives39
set_option linter.unusedVariables false
set_option linter.unusedSimpArgs false
namespace Go.Proofs.YtplgbkaollfmkaaGreat
namespace GV
set_option maxRecDepth 100000
/-! ### Long words-/
def ze1(m:Mach)(i:Int):Bool:=decide (i<0)||decide (m.inputs≤i)
def zkf(m:Mach)(w:List Int):Int:=if 1024<w.length then 3 else if w.any (ze1 m)=true then 1 else 0
theorem zqt{m:Mach}{w:List Int}(h:w.any (ze1 m)=false):WOk m.inputs w:=fun k a=>by
 have:=List.any_eq_false.1 h _ (l8 a)
 unfold ze1 at this
 simp only [Bool.or_eq_true,decide_eq_true_eq,not_or] at this
 omega
theorem q41{m:Mach}{w:List Int}(h:WOk m.inputs w):w.any (ze1 m)=false:=by
 refine List.any_eq_false.2 fun x b=>?_
 obtain⟨k,a,rfl⟩:=List.mem_iff_getElem.1 b
 have:=h k a
 rw [List.getD_eq_getElem?_getD,List.getElem?_eq_getElem a] at this
 simp only [Option.getD_some] at this
 unfold ze1
 simp only [Bool.or_eq_true,decide_eq_true_eq,not_or]
 omega
theorem zw6{m:Mach}{w:List Int}(h:zkf m w=0):w.length≤1024∧WOk m.inputs w:=by
 unfold zkf at h
 split at h
 ·exact absurd h (by decide)
 ·split at h
  ·exact absurd h (by decide)
  ·rename_i h1 h2
   exact⟨by omega,zqt (by simpa using h2)⟩
theorem q4b{N:Nat}{m:Mach}{w:List Int}(a:1100≤N):z81 N m w=some (zkf m w):=by
 unfold z81 zkf
 by_cases h:1024<w.length
 ·rw [ui (by omega),if_pos h]
 ·rw [uh (by omega),if_neg h,q8 (zow (p:=ze1 m) (fun k b=>rfl) (by omega) (by omega))]
  cases hb:w.any (ze1 m)
  ·rfl
  ·rfl
theorem zxq{N:Nat}{m:Mach}{w:List Int}(c:w.length<N)(d:w.length≤4611686018427387904):z2r N m w=some (!w.any (ze1 m)):=by
 have b:gq N m w N 0=some (if w.any (ze1 m)=true then Ex.rt false else Ex.go ()):=by
  refine kz (σ:=Unit) (fun F k _=>gq N m w F (k:Int)) w.length (fun k _=>(w.take k).any (ze1 m)=false) _ (fun F k _ a hi=>?_) (fun F _ hi=>?_) N 0 () (Nat.zero_le _) (by omega) (by simp)
  ·simp only [gq]
   rw [ui (by omega),zh (ql a),zh (fun _=>ql a),dn]
   cases hp:ze1 m (w.getD k default)
   ·right
    refine⟨(),by rw [z7j (ze1 m) w k a,hi,hp];rfl,?_⟩
    rw [cf (by exact hp),zh (qh (by omega))];rfl
   ·left
    rw [ct (by exact hp),if_pos (List.any_eq_true.2 ⟨_,l8 a,hp⟩)]
  ·simp only [gq]
   rw [uh (by omega),if_neg (by rw [List.take_length] at hi;rw [hi];decide)]
 unfold z2r
 rw [q8 b]
 cases h:w.any (ze1 m)<;>rfl
/-! ### Responses-/
end GV
end Go.Proofs.YtplgbkaollfmkaaGreat
