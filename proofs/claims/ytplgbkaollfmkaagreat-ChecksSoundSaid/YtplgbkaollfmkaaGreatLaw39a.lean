import Derived.Test.YtplgbkaollfmkaaGreatSpec06m
import Derived.Test.YtplgbkaollfmkaaGreatLives39
set_option linter.unusedVariables false
set_option linter.unusedSimpArgs false
namespace Go.Proofs.YtplgbkaollfmkaaGreat
namespace GV
set_option maxRecDepth 100000
/-! ### Long words-/
def zck(m:Mach)(i:Int):Bool:=decide (i<0)||decide (m.inputs≤i)
def zki(m:Mach)(w:List Int):Int:=if 1024<w.length then 3 else if w.any (zck m)=true then 1 else 0
theorem zqg{m:Mach}{w:List Int}(h:w.any (zck m)=false):WOk m.inputs w:=fun k a=>by
 have:=List.any_eq_false.1 h _ (lq a)
 unfold zck at this
 simp only [Bool.or_eq_true,decide_eq_true_eq,not_or] at this
 omega
theorem q4t{m:Mach}{w:List Int}(h:WOk m.inputs w):w.any (zck m)=false:=by
 refine List.any_eq_false.2 fun x b=>?_
 obtain⟨k,a,rfl⟩:=List.mem_iff_getElem.1 b
 have:=h k a
 rw [List.getD_eq_getElem?_getD,List.getElem?_eq_getElem a] at this
 simp only [Option.getD_some] at this
 unfold zck
 simp only [Bool.or_eq_true,decide_eq_true_eq,not_or]
 omega
theorem zwr{m:Mach}{w:List Int}(h:zki m w=0):w.length≤1024∧WOk m.inputs w:=by
 unfold zki at h
 split at h
 ·exact absurd h (by decide)
 ·split at h
  ·exact absurd h (by decide)
  ·rename_i h1 h2
   exact⟨by omega,zqg (by simpa using h2)⟩
theorem q4c{N:Nat}{m:Mach}{w:List Int}(a:1100≤N):z8e N m w=some (zki m w):=by
 unfold z8e zki
 by_cases h:1024<w.length
 ·rw [uy (by omega),if_pos h]
 ·rw [uo (by omega),if_neg h,qc (zoz (p:=zck m) (fun k b=>rfl) (by omega) (by omega))]
  cases hb:w.any (zck m)
  ·rfl
  ·rfl
theorem zxm{N:Nat}{m:Mach}{w:List Int}(c:w.length<N)(d:w.length≤4611686018427387904):z2g N m w=some (!w.any (zck m)):=by
 have b:bi N m w N 0=some (if w.any (zck m)=true then Ex.rt false else Ex.go ()):=by
  refine uk (σ:=Unit) (fun F k _=>bi N m w F (k:Int)) w.length (fun k _=>(w.take k).any (zck m)=false) _ (fun F k _ a hi=>?_) (fun F _ hi=>?_) N 0 () (Nat.zero_le _) (by omega) (by simp)
  ·simp only [bi]
   rw [uy (by omega),zk (qo a),zk (fun _=>qo a),ak]
   cases hp:zck m (w.getD k default)
   ·right
    refine⟨(),by rw [z7o (zck m) w k a,hi,hp];rfl,?_⟩
    rw [cf (by exact hp),zk (qm (by omega))];rfl
   ·left
    rw [ct (by exact hp),if_pos (List.any_eq_true.2 ⟨_,lq a,hp⟩)]
  ·simp only [bi]
   rw [uo (by omega),if_neg (by rw [List.take_length] at hi;rw [hi];decide)]
 unfold z2g
 rw [qc b]
 cases h:w.any (zck m)<;>rfl
/-! ### Responses-/
theorem zrf{N:Nat}{m:Mach}{w:List Int}(c:MOk m)(f:WOk m.inputs w)(i:w.length≤1024)(j:1100≤N):z04 N m w=some (vv m 0 w):=by
 unfold z04
 refine Eq.trans (qc (x:=vv m 0 w) ?_) rfl
 refine uk (σ:=Int×List Int) (fun F k x=>pz N m w F x.2 x.1 (k:Int)) w.length (fun k x=>x.1=w9 m 0 (w.take k)∧x.2=vv m 0 (w.take k)) _ (fun F k x b hi=> .inr ?_) (fun F x hi=>?_) N 0 (0,[]) (Nat.zero_le _) (by omega) (by simp [w9,vv])
 ·obtain⟨t,X⟩:=x
  obtain⟨rfl,rfl⟩:=hi
  have d:=zhg m c 0 (w.take k) (.inr ⟨by omega,by have:=c.r1;omega⟩) (zeg f k)
  have a:=f k b
  have e:=z2j m 0 (w.take k)
  rw [List.length_take] at e
  refine⟨(w9 m 0 (w.take (k+1)),vv m 0 (w.take (k+1))),⟨rfl,rfl⟩,?_⟩
  simp only [pz]
  rw [uy (by omega),zd0 m 0 w k b,zb6 m 0 w k b]
  have hfit: ∀ x:Int,fits 8 (vv m 0 (w.take k)) ([x]:List Int):=fun x=>⟨by rw [List.length_singleton];omega,by rw [List.length_singleton];omega⟩
  rcases d with h|h
  ·rw [h,uy rfl,zk (hfit _)]
   refine(qc rfl).trans ?_
   rw [zk (qm (by omega))]
   rfl
  ·have hrow:=c.row (w9 m 0 (w.take k)).toNat (by omega)
   rw [uo (by omega),zk h,zk (qo b),zk (show okI (ix m.rows (w9 m 0 (w.take k))) (ix w (k:Int)) from⟨a.1,by rw [zem m.rows,hrow];exact a.2⟩),zk (hfit _)]
   have g:ry m (w9 m 0 (w.take k)) (w.getD k default)=ix (ix m.rows (w9 m 0 (w.take k))) (ix w (k:Int)):=by unfold ry;rw [if_neg (by omega)];rfl
   rw [g]
   refine(qc rfl).trans ?_
   rw [zk (qm (by omega))]
   rfl
 ·obtain⟨t,X⟩:=x
  obtain⟨rfl,rfl⟩:=hi
  simp only [pz]
  rw [uo (by omega),List.take_length]
end GV
end Go.Proofs.YtplgbkaollfmkaaGreat
