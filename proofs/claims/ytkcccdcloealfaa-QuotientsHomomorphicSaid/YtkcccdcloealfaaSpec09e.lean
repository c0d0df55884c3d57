import Derived.Test.YtkcccdcloealfaaSpec09d
set_option linter.unusedVariables false
set_option linter.unusedSimpArgs false
namespace Go.Proofs.Ytkcccdcloealfaa
namespace GV
set_option maxRecDepth 100000
section
variable {m : Mach}
theorem zqo (h : zqp m = true) {s t : Nat} (hs : s < m.rows.length) (ht : t < m.rows.length) (e : cls m s = cls m t) : s = t := by
  have hf := z8w.1 (of_decide_eq_true h)
  rcases Nat.lt_trichotomy s t with h1 | h1 | h1
  · exact absurd e (pu.1 (hf t ht) s h1)
  · exact h1
  · exact absurd e.symm (pu.1 (hf s hs) t h1)
theorem zmm : (z3z m).rows.length = (z4p m).length := zcl
theorem zru (h : ∀ t, t < m.rows.length → occ (rch m 0) t = true) (hm : MOk m) : connB m = true := zss fun j hj => (z7d hj).2 ((zgc hm).2 (h j hj))
theorem zpt (hm : MOk m) (h : connB m = true) {t : Nat} (ht : t < m.rows.length) : occ (rch m 0) t = true := by
  cases ho : occ (rch m 0) t
  · have : (reachL m 0).getD t default = false := by
      cases hr : (reachL m 0).getD t default
      · rfl
      · rw [(zgc hm).1 ((z7d ht).1 hr)] at ho; cases ho
    rw [zrw ht this] at h; cases h
  · rfl
theorem zsj {a b : Mach} {f : List Int} (h : HOk a b f) (h0 : f.getD 0 default = 0) (hE : ∀ s i, s < a.rows.length → i < a.inputs.toNat → ou a s i = ou b (f.getD s default).toNat i ∧ (0 ≤ ed a s i → f.getD (ed a s i).toNat default = ed b (f.getD s default).toNat i)) : zco a b f = true := by
  unfold zco zej
  rw [decide_eq_true h0, Bool.true_and]
  exact List.all_eq_true.2 fun s hs => List.all_eq_true.2 fun i hi => (zen h (List.mem_range.1 hs) (List.mem_range.1 hi)).2 (hE s i (List.mem_range.1 hs) (List.mem_range.1 hi))
theorem zoc {a b : Mach} {f : List Int} (h : HOk a b f) (hB : zco a b f = true) : f.getD 0 default = 0 ∧ ∀ s i, s < a.rows.length → i < a.inputs.toNat → ou a s i = ou b (f.getD s default).toNat i ∧ (0 ≤ ed a s i → f.getD (ed a s i).toNat default = ed b (f.getD s default).toNat i) := by
  unfold zco zej at hB
  rw [Bool.and_eq_true] at hB
  refine ⟨of_decide_eq_true hB.1, fun s i hs hi => ?_⟩
  exact (zen h hs hi).1 (List.all_eq_true.1 (List.all_eq_true.1 hB.2 s (List.mem_range.2 hs)) i (List.mem_range.2 hi))
theorem zt7 (hm : MOk m) (h : (fsS m).length = m.rows.length) : ∀ t, t < m.rows.length → t ∈ fsS m := by
  intro t ht
  have hnd : (fsS m).Nodup := by
    have := zh1 hm
    rw [zgr hm, List.nodup_iff_pairwise_ne, List.pairwise_map] at this
    rw [List.nodup_iff_pairwise_ne]
    exact this.imp fun h e => h (congrArg _ e)
  refine Decidable.byContradiction fun hno => ?_
  have h1 : (t :: fsS m).Nodup := List.nodup_cons.2 ⟨hno, hnd⟩
  have h2 : (t :: fsS m) ⊆ List.range m.rows.length := by
    intro x hx
    rcases List.mem_cons.1 hx with rfl | hx
    · exact List.mem_range.2 ht
    · obtain ⟨c, hc, rfl⟩ := List.mem_iff_getElem.1 hx
      have := (zmr hm hc).1
      rw [List.getD_eq_getElem?_getD, List.getElem?_eq_getElem hc] at this
      exact List.mem_range.2 this
  have := List.Nodup.length_le_of_subset h1 h2
  rw [List.length_range, List.length_cons] at this
  omega
theorem zhu (hm : MOk m) {t : Nat} (h : t ∈ fsS m) : ∃ c, c < (fsS m).length ∧ (fsS m).getD c 0 = t := by
  obtain ⟨c, hc, e⟩ := List.mem_iff_getElem.1 h
  exact ⟨c, hc, by rw [List.getD_eq_getElem?_getD, List.getElem?_eq_getElem hc]; exact e⟩
theorem zv0 (hm : MOk m) : (z3z m).rows.length ≤ m.rows.length := by
  rw [zmm, zbj hm]; exact zun hm
theorem zt1 (hm : MOk m) (h : connB m = true) : (rch m 0).length = m.rows.length := by
  have hP := z3u hm
  have h1 := hP.le
  have hsub : List.range m.rows.length ⊆ (rch m 0).map (·.st) := by
    intro t ht
    obtain ⟨j, hj, hst⟩ := z0i.1 (zpt hm h (List.mem_range.1 ht))
    exact List.mem_map.2 ⟨_, oh hj, hst⟩
  have := List.Nodup.length_le_of_subset List.nodup_range hsub
  rw [List.length_range, List.length_map] at this
  omega
theorem zjt (hm : MOk m) : (z3z m).rows.length = m.rows.length ↔ minB m = true := by
  rw [zmm, zbj hm]
  have hP := z3u hm
  constructor
  · intro h
    have hall := zt7 hm h
    have hc : connB m = true := zru (fun t ht => by
      obtain ⟨c, hc, rfl⟩ := zhu hm (hall t ht)
      exact (zmr hm hc).2) hm
    have hr : zqp m = true := decide_eq_true (z8w.2 fun u hu => pu.2 fun t ht e => by
      obtain ⟨c, hc, e1⟩ := zhu hm (hall t (by omega))
      obtain ⟨d, hd, e2⟩ := zhu hm (hall u hu)
      have h1 := zjc hm hc
      have h2 := zjc hm hd
      rw [e1] at h1; rw [e2] at h2
      have h3 := z3a (zh1 hm) (show c < (z4p m).length by rw [zbj hm]; exact hc)
      have h4 := z3a (zh1 hm) (show d < (z4p m).length by rw [zbj hm]; exact hd)
      rw [h1, e, ← h2, h4] at h3
      subst h3
      omega)
    unfold minB; rw [hc, hr]; rfl
  · intro h
    unfold minB at h
    rw [Bool.and_eq_true] at h
    rw [zhv]
    have e : cntF (z0s (cls m) (rch m 0)) (rch m 0).length = (rch m 0).length := z8w.2 fun u hu => pu.2 fun t ht e => by
      have := zqo h.2 (hP.rng t (by omega)) (hP.rng u hu) e
      have := hP.dis t u (by omega) hu this
      omega
    rw [e, zt1 hm h.1]
end
end GV
end Go.Proofs.Ytkcccdcloealfaa
