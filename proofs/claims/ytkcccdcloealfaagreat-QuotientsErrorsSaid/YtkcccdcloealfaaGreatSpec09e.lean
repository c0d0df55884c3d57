import Derived.Test.YtkcccdcloealfaaGreatSpec09d
set_option linter.unusedVariables false
set_option linter.unusedSimpArgs false
namespace Go.Proofs.YtkcccdcloealfaaGreat
namespace GV
set_option maxRecDepth 100000
section
variable {m : Mach}
theorem zq1 (hm : MOk m) (h : Red m) : zi6 m = true := decide_eq_true (ze5.2 fun u hu => av.2 fun t ht e => by
  have := h t u (by omega) hu ((zsw hm (by omega) hu).1 e)
  omega)
theorem zfr : (lv m).rows.length = (z08 m).length := zh5
theorem zdh (hm : MOk m) : ClosedP (z13 m) (z08 m) := z1p (zze hm)
theorem zl9 (hm : MOk m) : 0 ∈ z08 m ∧ (z08 m).idxOf 0 = 0 := zdp (zze hm)
theorem zgo {c : Nat} (hc : c < (z08 m).length) : (z08 m).getD c 0 ∈ z08 m := by simp [List.getD_eq_getElem?_getD, hc]
theorem zmi (hm : MOk m) {c : Nat} (hc : c ∈ z08 m) {w : List Int} (hw : WOk m.inputs w) : z2a (lv m) (((z08 m).idxOf c : Nat) : Int) w = z2a (z13 m) (c : Int) w := by
  have := (zgh (z7u hm) (zdh hm) w (s := (c : Int)) (.inr ⟨by omega, by rw [Int.toNat_natCast]; exact hc⟩) hw).1
  rw [z4v] at this
  exact this
theorem zsv (hm : MOk m) : Red (lv m) := by
  intro c d hc hd hw
  rw [zfr] at hc hd
  have hq := z7u hm
  have hcl := zdh hm
  have e1 := z4p (zgl hm) hc
  have e2 := z4p (zgl hm) hd
  have h := zmh hm _ _ (hcl.rng _ (zgo hc)) (hcl.rng _ (zgo hd)) (fun w hw' => by
    have h1 := hw w hw'
    have h2 := zmi hm (zgo hc) (w := w) hw'
    have h3 := zmi hm (zgo hd) (w := w) hw'
    rw [e1] at h2; rw [e2] at h3
    rw [← h2, ← h3]; exact h1)
  rw [h, e2] at e1
  exact e1.symm
theorem zzt (hm : MOk m) : rch (lv m) 0 = (rch (z13 m) 0).map (ren (z08 m)) := by
  obtain ⟨o1, o2⟩ := zl9 hm
  have hren := zmj (z7u hm) (zdh hm) o1
  rw [o2] at hren
  exact hren
theorem znw (h : ∀ t, t < m.rows.length → occ (rch m 0) t = true) (hm : MOk m) : connB m = true := zsu fun j hj => (z7s hj).2 ((zhg hm).2 (h j hj))
theorem zk2 (hm : MOk m) (h : connB m = true) {t : Nat} (ht : t < m.rows.length) : occ (rch m 0) t = true := by
  cases ho : occ (rch m 0) t
  · have : (reachL m 0).getD t default = false := by
      cases hr : (reachL m 0).getD t default
      · rfl
      · rw [(zhg hm).1 ((z7s ht).1 hr)] at ho; cases ho
    rw [zsy ht this] at h; cases h
  · rfl
theorem zxq (hm : MOk m) (h : connB m = false) : ∃ t, t < m.rows.length ∧ occ (rch m 0) t = false := by
  cases hk : (List.range m.rows.length).all (occ (rch m 0))
  · obtain ⟨t, ht, hf⟩ := List.all_eq_false.1 hk
    exact ⟨t, List.mem_range.1 ht, by simpa using hf⟩
  · rw [znw (fun t ht => List.all_eq_true.1 hk t (List.mem_range.2 ht)) hm] at h; cases h
theorem zon (hm : MOk m) : connB (lv m) = true := by
  refine znw (fun c hc => ?_) (zay hm)
  rw [zfr] at hc
  rw [zzt hm]
  have hl : c < (rch (z13 m) 0).length := by rw [← z5k]; exact hc
  refine z15.2 ⟨c, by rw [List.length_map]; exact hl, ?_⟩
  rw [getD_map hl]
  show (z08 m).idxOf (((rch (z13 m) 0).getD c default).st) = c
  rw [← z8m _ hl]
  exact z4p (zgl hm) hc
theorem zx5 (hm : MOk m) : minB (lv m) = true := by
  unfold minB; rw [zon hm, zq1 (zay hm) (zsv hm)]; rfl
theorem zws (hm : MOk m) {s i : Nat} (hs : s < m.rows.length) (ho : occ (rch m 0) s = true) (hi : i < m.inputs.toNat) : ed (lv m) ((z08 m).idxOf (cls m s)) i = pos (z08 m) (hI (cls m) (ed m s i)) ∧ ou (lv m) ((z08 m).idxOf (cls m s)) i = ou m s i := by
  have hq := z7u hm
  have hh := ze1 hm
  obtain ⟨h1, h2⟩ := z6p (zfi hm ho)
  have hr : (lv m).rows.getD ((z08 m).idxOf (cls m s)) default = rowP (z13 m) (z08 m) (cls m s) := by
    have : (lv m).rows.getD ((z08 m).idxOf (cls m s)) default = rowP (z13 m) (z08 m) ((z08 m).getD ((z08 m).idxOf (cls m s)) 0) := z99 h1
    rw [this, h2]
  have hg := z8r (L := z08 m) hq (hh.rng s hs) (show i < (z13 m).inputs.toNat from hi)
  have e1 : ((lv m).rows.getD ((z08 m).idxOf (cls m s)) default).getD i default = ⟨pos (z08 m) (ed (z13 m) (cls m s) i), ou (z13 m) (cls m s) i⟩ := by rw [hr]; exact hg
  constructor
  · show (((lv m).rows.getD ((z08 m).idxOf (cls m s)) default).getD i default).to = _
    rw [e1, hh.to s i hs hi]
  · show (((lv m).rows.getD ((z08 m).idxOf (cls m s)) default).getD i default).out = _
    rw [e1, hh.out s i hs hi]
theorem zdq {s : Nat} (ho : occ (rch m 0) s = true) : z95 m s = (((z08 m).idxOf (cls m s) : Nat) : Int) := if_pos ho
theorem zt0 {s : Nat} (ho : occ (rch m 0) s = false) : z95 m s = -1 := if_neg (by rw [ho]; decide)
theorem zwr (hm : MOk m) {s : Nat} (hs : s < m.rows.length) (ho : occ (rch m 0) s = true) {w : List Int} (hw : WOk m.inputs w) : z2a (lv m) (z95 m s) w = z2a m (s : Int) w := by
  rw [zdq ho, zmi hm (zfi hm ho) hw]
  exact ((ze1 hm).run w hs hw).1
theorem zsi (hm : MOk m) {s : Nat} (ho : occ (rch m 0) s = true) : 0 ≤ z95 m s ∧ z95 m s < (lv m).rows.length := by
  rw [zdq ho, zfr]
  have := (z6p (zfi hm ho)).1
  omega
theorem zxj (hm : MOk m) : occ (rch m 0) 0 = true := z15.2 ⟨0, (z6r hm).pos, by rw [(z6r hm).root]⟩
theorem zlg (hm : MOk m) : z95 m 0 = 0 := by
  rw [zdq (zxj hm), zcx, (zl9 hm).2]; rfl
theorem zt2 (hm : MOk m) (h : connB m = true) : HOk m (lv m) (za2 m) := ⟨hm, zay hm, rfl, zcy, fun k hk => by
  rw [zcy] at hk
  rw [z8i hk]
  exact zsi hm (zk2 hm h hk)⟩
theorem zz2 {a b : Mach} {f : List Int} (h : HOk a b f) (h0 : f.getD 0 default = 0) (hE : ∀ s i, s < a.rows.length → i < a.inputs.toNat → ou a s i = ou b (f.getD s default).toNat i ∧ (0 ≤ ed a s i → f.getD (ed a s i).toNat default = ed b (f.getD s default).toNat i)) : zw4 a b f = true := by
  unfold zw4 q00
  rw [decide_eq_true h0, Bool.true_and]
  exact List.all_eq_true.2 fun s hs => List.all_eq_true.2 fun i hi => (zye h (List.mem_range.1 hs) (List.mem_range.1 hi)).2 (hE s i (List.mem_range.1 hs) (List.mem_range.1 hi))
theorem zzz (hm : MOk m) (h : connB m = true) : zw4 m (lv m) (za2 m) = true := by
  have hr1 := hm.r1
  refine zz2 (zt2 hm h) (by rw [z8i (by omega)]; exact zlg hm) fun s i hs hi => ?_
  have ho := zk2 hm h hs
  obtain ⟨h1, h2⟩ := zws hm hs ho hi
  rw [z8i hs, zdq ho, Int.toNat_natCast, h1, h2]
  refine ⟨rfl, fun h0 => ?_⟩
  obtain ⟨t, ht⟩ := Int.eq_ofNat_of_zero_le h0
  rcases z4h hm hs hi with e | ⟨_, e⟩
  · omega
  rw [ht, Int.toNat_natCast, z8i (by omega), z9d, z4v, zdq (zk2 hm h (by omega))]
end
end GV
end Go.Proofs.YtkcccdcloealfaaGreat
