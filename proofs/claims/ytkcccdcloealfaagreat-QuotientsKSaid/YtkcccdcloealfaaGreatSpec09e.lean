import Derived.Test.YtkcccdcloealfaaGreatSpec09d
set_option linter.unusedVariables false
set_option linter.unusedSimpArgs false
namespace Go.Proofs.YtkcccdcloealfaaGreat
namespace GV
set_option maxRecDepth 100000
section
variable {m : Mach}
theorem zq1 (hm : MOk m) (h : Red m) : zi6 m = true := decide_eq_true (ze5.2 fun u hu => av.2 fun t ht e => by
  have := h t u (by omega) hu ((zsw hm (by omega) hu).1 e)
  omega)
theorem zfr : (lv m).rows.length = (z08 m).length := zh5
theorem zdh (hm : MOk m) : ClosedP (z13 m) (z08 m) := z1p (zze hm)
theorem zl9 (hm : MOk m) : 0 ∈ z08 m ∧ (z08 m).idxOf 0 = 0 := zdp (zze hm)
theorem zgo {c : Nat} (hc : c < (z08 m).length) : (z08 m).getD c 0 ∈ z08 m := by simp [List.getD_eq_getElem?_getD, hc]
theorem zmi (hm : MOk m) {c : Nat} (hc : c ∈ z08 m) {w : List Int} (hw : WOk m.inputs w) : z2a (lv m) (((z08 m).idxOf c : Nat) : Int) w = z2a (z13 m) (c : Int) w := by
  have := (zgh (z7u hm) (zdh hm) w (s := (c : Int)) (.inr ⟨by omega, by rw [Int.toNat_natCast]; exact hc⟩) hw).1
  rw [z4v] at this
  exact this
theorem zsv (hm : MOk m) : Red (lv m) := by
  intro c d hc hd hw
  rw [zfr] at hc hd
  have hq := z7u hm
  have hcl := zdh hm
  have e1 := z4p (zgl hm) hc
  have e2 := z4p (zgl hm) hd
  have h := zmh hm _ _ (hcl.rng _ (zgo hc)) (hcl.rng _ (zgo hd)) (fun w hw' => by
    have h1 := hw w hw'
    have h2 := zmi hm (zgo hc) (w := w) hw'
    have h3 := zmi hm (zgo hd) (w := w) hw'
    rw [e1] at h2; rw [e2] at h3
    rw [← h2, ← h3]; exact h1)
  rw [h, e2] at e1
  exact e1.symm
theorem zzt (hm : MOk m) : rch (lv m) 0 = (rch (z13 m) 0).map (ren (z08 m)) := by
  obtain ⟨o1, o2⟩ := zl9 hm
  have hren := zmj (z7u hm) (zdh hm) o1
  rw [o2] at hren
  exact hren
theorem znw (h : ∀ t, t < m.rows.length → occ (rch m 0) t = true) (hm : MOk m) : connB m = true := zsu fun j hj => (z7s hj).2 ((zhg hm).2 (h j hj))
theorem zon (hm : MOk m) : connB (lv m) = true := by
  refine znw (fun c hc => ?_) (zay hm)
  rw [zfr] at hc
  rw [zzt hm]
  have hl : c < (rch (z13 m) 0).length := by rw [← z5k]; exact hc
  refine z15.2 ⟨c, by rw [List.length_map]; exact hl, ?_⟩
  rw [getD_map hl]
  show (z08 m).idxOf (((rch (z13 m) 0).getD c default).st) = c
  rw [← z8m _ hl]
  exact z4p (zgl hm) hc
theorem zws (hm : MOk m) {s i : Nat} (hs : s < m.rows.length) (ho : occ (rch m 0) s = true) (hi : i < m.inputs.toNat) : ed (lv m) ((z08 m).idxOf (cls m s)) i = pos (z08 m) (hI (cls m) (ed m s i)) ∧ ou (lv m) ((z08 m).idxOf (cls m s)) i = ou m s i := by
  have hq := z7u hm
  have hh := ze1 hm
  obtain ⟨h1, h2⟩ := z6p (zfi hm ho)
  have hr : (lv m).rows.getD ((z08 m).idxOf (cls m s)) default = rowP (z13 m) (z08 m) (cls m s) := by
    have : (lv m).rows.getD ((z08 m).idxOf (cls m s)) default = rowP (z13 m) (z08 m) ((z08 m).getD ((z08 m).idxOf (cls m s)) 0) := z99 h1
    rw [this, h2]
  have hg := z8r (L := z08 m) hq (hh.rng s hs) (show i < (z13 m).inputs.toNat from hi)
  have e1 : ((lv m).rows.getD ((z08 m).idxOf (cls m s)) default).getD i default = ⟨pos (z08 m) (ed (z13 m) (cls m s) i), ou (z13 m) (cls m s) i⟩ := by rw [hr]; exact hg
  constructor
  · show (((lv m).rows.getD ((z08 m).idxOf (cls m s)) default).getD i default).to = _
    rw [e1, hh.to s i hs hi]
  · show (((lv m).rows.getD ((z08 m).idxOf (cls m s)) default).getD i default).out = _
    rw [e1, hh.out s i hs hi]
theorem q1m (hm : MOk m) : (lv m).rows.length ≤ m.rows.length := by
  rw [zfr, za5 hm]; exact zr2 hm
theorem zv6 (hm : MOk m) (h : ∀ s i, s < m.rows.length → i < m.inputs.toNat → 0 ≤ ed m s i) : z7j (lv m) = true := by
  refine zrg (zay hm) fun c i hc hi => ?_
  rw [zfr] at hc
  have hi' : i < m.inputs.toNat := hi
  have hc' : c < (fsS m).length := by rw [← za5 hm]; exact hc
  obtain ⟨f1, f2⟩ := zif hm hc'
  have e := z4p (zgl hm) hc
  rw [zjr hm hc'] at e
  have h1 := (zws hm f1 f2 hi').1
  rw [e] at h1
  rw [h1]
  obtain ⟨t, ht⟩ := Int.eq_ofNat_of_zero_le (h _ i f1 hi')
  rw [ht, z9d, z4v]; omega
end
end GV
end Go.Proofs.YtkcccdcloealfaaGreat
