
import Derived.Test.YtplgbkaollfmkaaLaw39a
import Derived.Test.YtplgbkaollfmkaaSpec04b
set_option linter.unusedVariables false
set_option linter.unusedSimpArgs false
namespace Go.Proofs.Ytplgbkaollfmkaa
namespace GV
set_option maxRecDepth 100000
/-! ### The program's search -/
section r
variable {m : Mach} {s a : Nat} {Y : List Bool} {l : List Int} {N : Nat}
structure SInv (m : Mach) (s : Nat) (Y : List Bool) (l : List Int) : Prop where
  len : Y.length = m.rows.length
  sound : ∀ t, Y.getD t default = true → Reach m s t
  start : Y.getD s default = true
  stk : ∀ x ∈ l, 0 ≤ x ∧ x.toNat < m.rows.length ∧ Y.getD x.toNat default = true
  clo : ∀ t, t < m.rows.length → Y.getD t default = true → (t : Int) ∉ l → Closed m Y t
structure EInv (m : Mach) (s a i μ : Nat) (Y : List Bool) (l : List Int) : Prop where
  len : Y.length = m.rows.length
  sound : ∀ t, Y.getD t default = true → Reach m s t
  start : Y.getD s default = true
  ya : Y.getD a default = true
  stk : ∀ x ∈ l, 0 ≤ x ∧ x.toNat < m.rows.length ∧ Y.getD x.toNat default = true
  clo : ∀ t, t < m.rows.length → Y.getD t default = true → (t : Int) ∉ l → t ≠ a → Closed m Y t
  done : ∀ j, j < i → j < (m.rows.getD a default).length → 0 ≤ ((m.rows.getD a default).getD j default).to → Y.getD ((m.rows.getD a default).getD j default).to.toNat default = true
  mes : 2 * Y.count false + l.length ≤ μ
theorem zc5 : ∀ {X : List Bool} {s : Nat}, s < X.length → X.getD s default = false → (X.set s true).count false + 1 = X.count false
  | x :: X, 0, _, h => by
    have : x = false := by simpa using h
    subst this
    simp
  | x :: X, s + 1, hs, h => by
    have := zc5 (X := X) (s := s) (by simpa using hs) (by simpa using h)
    rw [List.set_cons_succ, List.count_cons, List.count_cons]; omega
theorem z6d {t u : Nat} (hu : u < Y.length) (h : Y.getD t default = true) : (Y.set u true).getD t default = true := by
  rw [z4q hu]; split; rfl; exact h
def zga (m : Mach) (a i : Nat) (x : List Bool × List Int) : List Bool × List Int :=
  if ((m.rows.getD a default).getD i default).to = -1 then x
  else if x.1.getD ((m.rows.getD a default).getD i default).to.toNat default = true then x
  else (x.1.set ((m.rows.getD a default).getD i default).to.toNat true, x.2 ++ [((m.rows.getD a default).getD i default).to])
theorem zky (hm : MOk m) {i μ : Nat} (ha : a < m.rows.length) (hi : i < (m.rows.getD a default).length) (h : EInv m s a i μ Y l) : EInv m s a (i + 1) μ (zga m a i (Y, l)).1 (zga m a i (Y, l)).2 := by
  unfold zga
  have hed := hm.edge a i ha hi
  split
  · rename_i h1
    refine ⟨h.len, h.sound, h.start, h.ya, h.stk, h.clo, fun j hj hjl h0 => ?_, h.mes⟩
    by_cases e : j = i
    · subst e; omega
    · exact h.done j (by omega) hjl h0
  · rename_i h1
    split
    · rename_i h2
      refine ⟨h.len, h.sound, h.start, h.ya, h.stk, h.clo, fun j hj hjl h0 => ?_, h.mes⟩
      by_cases e : j = i
      · subst e; exact h2
      · exact h.done j (by omega) hjl h0
    · rename_i h2
      dsimp only at h2 ⊢
      have h0 : 0 ≤ ((m.rows.getD a default).getD i default).to ∧ ((m.rows.getD a default).getD i default).to < m.rows.length := by rcases hed with h | h <;> omega
      have hlt : ((m.rows.getD a default).getD i default).to.toNat < Y.length := by rw [h.len]; omega
      have hv : Y.getD ((m.rows.getD a default).getD i default).to.toNat default = false := by simpa using h2
      have hg := fun t => z4q (t := t) hlt
      refine ⟨by simp [h.len], fun t ht => ?_, z6d hlt h.start, z6d hlt h.ya, fun x hx => ?_, fun t ht hy hn hne => ?_, fun j hj hjl hj0 => ?_, ?_⟩
      · rw [hg] at ht
        by_cases e : t = ((m.rows.getD a default).getD i default).to.toNat
        · subst e; exact .step (h.sound _ h.ya) ha hi h0.1
        · rw [if_neg e] at ht; exact h.sound t ht
      · rcases List.mem_append.1 hx with hx | hx
        · obtain ⟨q1, q2, q3⟩ := h.stk x hx
          exact ⟨q1, q2, z6d hlt q3⟩
        · rw [List.mem_singleton.1 hx]
          exact ⟨h0.1, by omega, by rw [hg, if_pos rfl]⟩
      · rw [hg] at hy
        by_cases e : t = ((m.rows.getD a default).getD i default).to.toNat
        · exact absurd (List.mem_append.2 (.inr (List.mem_singleton.2 (by omega)))) hn
        · rw [if_neg e] at hy
          intro j hj hj0
          exact z6d hlt (h.clo t ht hy (fun q => hn (List.mem_append.2 (.inl q))) hne j hj hj0)
      · by_cases e : j = i
        · subst e; rw [hg, if_pos rfl]
        · exact z6d hlt (h.done j (by omega) hjl hj0)
      · have := zc5 hlt hv
        have := h.mes
        rw [List.length_append, List.length_singleton]
        omega
theorem znr (hm : MOk m) (hN : 200 ≤ N) {μ : Nat} (ha : a < m.rows.length) (hμ : μ ≤ 1000) (h : EInv m s a 0 μ Y l) :
    ∃ x, z0s N m (a : Int) (List Bool × List Int) (fun y73 x74 =>
    gd (okI x74.1 y73.f_to) <|
    bif !(ix x74.1 y73.f_to) then (
    gd (okI x74.1 y73.f_to) <|
    gd (fits 8 x74.2 ([y73.f_to] : List Int)) <|
    some (true, ((up x74.1 y73.f_to true), (x74.2 ++ ([y73.f_to] : List Int))))) else (
    some (true, (x74.1, x74.2)))) (Y, l) = some x ∧ EInv m s a (m.rows.getD a default).length μ x.1 x.2 := by
  have hrow := hm.row a ha; have hi1 := hm.i1; have hi2 := hm.i2
  unfold z0s
  rw [zu (ji ha)]
  refine z0r (σ := List Bool × List Int) (fun F i x => pg N (List Bool × List Int) _ m (a : Int) F x (i : Int)) (m.rows.getD a default).length (fun i x => EInv m s a i μ x.1 x.2) (fun x => EInv m s a (m.rows.getD a default).length μ x.1 x.2) (fun F i x hi hx => .inr ?_) (fun F x hx => ?_) N 0 (Y, l) (Nat.zero_le _) (by omega) h
  · obtain ⟨Z, k⟩ := x
    refine ⟨zga m a i (Z, k), zky hm ha hi hx, ?_⟩
    simp only [pg]
    rw [mr (show (i : Int) < ((ix m.rows (a : Int)).length : Int) from Int.ofNat_lt.2 hi), zu (show okI (ix m.rows (a : Int)) (i : Int) from ji hi)]
    have e0 : (ix (ix m.rows (a : Int)) (i : Int)) = (m.rows.getD a default).getD i default := rfl
    rw [e0]
    have hed := hm.edge a i ha hi
    have hmes := hx.mes
    have hzl := hx.len
    unfold zga
    dsimp only at hmes hzl ⊢
    by_cases h1 : ((m.rows.getD a default).getD i default).to = -1
    · rw [p9 (by omega), if_pos h1]
      refine (qh rfl).trans ?_
      rw [zm5, zu (jb (by omega))]; rfl
    · have h0 : 0 ≤ ((m.rows.getD a default).getD i default).to ∧ ((m.rows.getD a default).getD i default).to < m.rows.length := by rcases hed with h | h <;> omega
      have hok : okI Z ((m.rows.getD a default).getD i default).to := ⟨h0.1, by omega⟩
      rw [mr h1, if_neg h1, zu hok, zd4]
      cases hv : Z.getD ((m.rows.getD a default).getD i default).to.toNat default
      · rw [if_neg (by decide)]
        simp only [Bool.not_false, cond_true]
        rw [zu hok, zu (show fits 8 k ([((m.rows.getD a default).getD i default).to] : List Int) from ⟨by rw [List.length_singleton]; omega, by rw [List.length_singleton]; omega⟩)]
        refine (qh rfl).trans ?_
        rw [zm5, zu (jb (by omega))]; rfl
      · rw [if_pos rfl]
        simp only [Bool.not_true, cond_false]
        refine (qh rfl).trans ?_
        rw [zm5, zu (jb (by omega))]; rfl
  · simp only [pg]
    refine ⟨x, p9 (show ¬ (((m.rows.getD a default).length : Nat) : Int) < ((ix m.rows (a : Int)).length : Int) from fun h => Int.lt_irrefl _ h), hx⟩
theorem zoa (hm : MOk m) (h : SInv m s Y []) : Y = reachL m s := by
  have key : ∀ t, Reach m s t → Y.getD t default = true := by
    intro t ht
    induction ht with
    | refl => exact h.start
    | step h1 h2 h3 h4 ih => exact h.clo _ h2 ih (by simp) _ h3 h4
  refine zgu (by rw [h.len, z4g]) fun k hk => ?_
  rw [Bool.eq_iff_iff, zca (by rw [← h.len]; exact hk)]
  exact ⟨h.sound k, key k⟩
theorem zeb (hm : MOk m) (hN : 200 ≤ N) : ∀ (F : Nat) (Y : List Bool) (l : List Int), 2 * Y.count false + l.length < F → 2 * Y.count false + l.length ≤ 1000 → SInv m s Y l → aj N m F Y l = some (reachL m s)
  | 0, _, _, h, _, _ => by omega
  | F + 1, Y, l, hF, hb, h => by
    simp only [aj]
    rcases List.eq_nil_or_concat l with rfl | ⟨k, x, rfl⟩
    · rw [p9 (by simp), zoa hm h]
    · rw [List.concat_eq_append] at h hF hb ⊢
      have hl : (k ++ [x]).length = k.length + 1 := by simp
      obtain ⟨x0, x1, x2⟩ := h.stk x (by simp)
      have hlast : ix (k ++ [x]) (((k ++ [x]).length : Int) - 1) = x := by
        rw [zd4, show (((k ++ [x]).length : Int) - 1).toNat = k.length by omega, List.getD_eq_getElem?_getD, List.getElem?_append_right (Nat.le_refl _), Nat.sub_self]; rfl
      have hcut : cut (k ++ [x]) 0 (((k ++ [x]).length : Int) - 1) = k := by
        unfold cut
        rw [show (((k ++ [x]).length : Int) - 1).toNat - (0 : Int).toNat = k.length by omega]
        simp
      rw [mr (by omega), zu (jb (by omega)), zu (show okI (k ++ [x]) (((k ++ [x]).length : Int) - 1) from ⟨by omega, by omega⟩), zu (jb (by omega)), zu ⟨by omega, by omega, by omega⟩, hlast, hcut]
      refine (qh (show z4e N m x = some (m, x) from rfl)).trans ?_
      have hx : ((x.toNat : Nat) : Int) = x := by omega
      have hE : EInv m s x.toNat 0 (2 * Y.count false + k.length) Y k := by
        refine ⟨h.len, h.sound, h.start, x2, fun y hy => h.stk y (List.mem_append.2 (.inl hy)), fun t ht hy hn hne => h.clo t ht hy fun q => ?_, fun j hj => by omega, Nat.le_refl _⟩
        rcases List.mem_append.1 q with q | q
        · exact hn q
        · have := List.mem_singleton.1 q; omega
      obtain ⟨r, hr, hi⟩ := znr (N := N) hm hN x1 (by omega) hE
      rw [hx] at hr
      refine (qh hr).trans ?_
      refine zeb hm hN F r.1 r.2 (by have := hi.mes; omega) (by have := hi.mes; omega) ⟨hi.len, hi.sound, hi.start, hi.stk, fun t ht hy hn => ?_⟩
      by_cases e : t = x.toNat
      · subst e
        intro j hj hj0
        exact hi.done j hj hj hj0
      · exact hi.clo t ht hy hn e
theorem zl8 (hm : MOk m) (hN : 200 ≤ N) (hs : s < m.rows.length) : z2d N m (s : Int) = some (reachL m s) := by
  have hr := hm.r2
  have hz := zk7 (m := m) hs
  unfold z2d
  rw [zu ⟨by omega, by omega, by omega⟩, z5b, zu (ji (by simpa using hs)), z1t]
  have hl : s < (List.replicate m.rows.length false).length := by simpa using hs
  have hx : ∀ t, (List.replicate m.rows.length false).getD t default = false := fun t => by
    simp only [List.getD_eq_getElem?_getD, List.getElem?_replicate]; split <;> rfl
  have hc : ((List.replicate m.rows.length false).set s true).count false ≤ m.rows.length := by
    refine Nat.le_trans List.count_le_length ?_; simp
  refine Eq.trans (qh (x := reachL m s) (zeb hm hN N _ _ (by rw [List.length_singleton]; omega) (by rw [List.length_singleton]; omega) ⟨hz.len, hz.sound, hz.start, fun x hx' => ?_, fun t ht hy hn => ?_⟩)) rfl
  · rw [List.mem_singleton.1 hx']
    exact ⟨by omega, by omega, hz.start⟩
  · rw [z4q hl, hx] at hy
    by_cases e : t = s
    · subst e; exact absurd (List.mem_singleton.2 rfl) hn
    · rw [if_neg e] at hy; cases hy
end r
end GV
end Go.Proofs.Ytplgbkaollfmkaa

namespace Go.Proofs.Ytplgbkaollfmkaa
namespace GV
set_option maxRecDepth 100000
section k
variable {m : Mach} {N : Nat}
noncomputable def rB (m : Mach) (s t : Nat) : Bool := (reachL m s).getD t default
theorem zn2 {s t : Nat} (ht : t < m.rows.length) : rB m s t = true ↔ Reach m s t := zca ht
/-! ### Knots -/
noncomputable def eqK (m : Mach) (s t : Nat) : Bool := rB m s t && rB m t s
theorem zbi {s t : Nat} (hs : s < m.rows.length) (ht : t < m.rows.length) : eqK m s t = true ↔ Reach m s t ∧ Reach m t s := by
  unfold eqK
  rw [Bool.and_eq_true, zn2 ht, zn2 hs]
theorem zm4 {s : Nat} (hs : s < m.rows.length) : eqK m s s = true := (zbi hs hs).2 ⟨.refl, .refl⟩
theorem zgq {s t : Nat} : eqK m s t = eqK m t s := by unfold eqK; exact Bool.and_comm _ _
theorem zal {s t u : Nat} (hs : s < m.rows.length) (ht : t < m.rows.length) (hu : u < m.rows.length) (h : eqK m s t = true) (k : eqK m t u = true) : eqK m s u = true := by
  rw [zbi hs ht] at h
  rw [zbi ht hu] at k
  exact (zbi hs hu).2 ⟨h.1.trans k.1, k.2.trans h.2⟩
noncomputable def kn1 (m : Mach) (s : Nat) : Nat := ((List.range s).find? fun f => eqK m s f).getD s
theorem z9g (m : Mach) {s : Nat} (hs : s < m.rows.length) : kn1 m s ≤ s ∧ eqK m s (kn1 m s) = true ∧ ∀ f, f < kn1 m s → eqK m s f = false := by
  unfold kn1
  cases h : (List.range s).find? fun f => eqK m s f with
  | none =>
    rw [List.find?_eq_none] at h
    exact ⟨Nat.le_refl _, zm4 hs, fun f hf => by simpa using h f (List.mem_range.2 hf)⟩
  | some f =>
    rw [List.find?_range_eq_some] at h
    obtain ⟨h1, h2, h3⟩ := h
    have := List.mem_range.1 h2
    exact ⟨Nat.le_of_lt this, h1, fun g hg => by simpa using h3 g hg⟩
theorem zqb {s t : Nat} (hs : s < m.rows.length) (ht : t < m.rows.length) : kn1 m s = kn1 m t ↔ eqK m s t = true := by
  obtain ⟨s1, s2, s3⟩ := z9g m hs
  obtain ⟨t1, t2, t3⟩ := z9g m ht
  constructor
  · intro e
    exact zal hs (t := kn1 m s) (by omega) ht s2 (by rw [e, zgq]; exact t2)
  · intro e
    rcases Nat.lt_trichotomy (kn1 m s) (kn1 m t) with h | h | h
    · have := t3 _ h
      rw [zal ht hs (by omega) (by rw [zgq]; exact e) s2] at this; cases this
    · exact h
    · have := s3 _ h
      rw [zal hs ht (by omega) e t2] at this; cases this
noncomputable def knotL (m : Mach) (s : Nat) : List Int := ((List.range m.rows.length).filter fun t => eqK m s t).map fun t : Nat => (t : Int)
noncomputable def knotsL (m : Mach) : List (List Int) := ((List.range m.rows.length).filter fun s => decide (kn1 m s = s)).map (knotL m)
theorem z3z (p : Nat → Bool) (n : Nat) : (List.range (n + 1)).filter p = (List.range n).filter p ++ if p n = true then [n] else [] := by
  rw [List.range_succ, List.filter_append]
  congr 1
  by_cases h : p n = true
  · rw [if_pos h, List.filter_cons_of_pos h]; rfl
  · rw [if_neg h, List.filter_cons_of_neg h]; rfl
theorem z6x (p : Nat → Bool) (n : Nat) : ((List.range n).filter p).length ≤ n := Nat.le_trans (List.length_filter_le _ _) (by simp)
end k
end GV
end Go.Proofs.Ytplgbkaollfmkaa

namespace Go.Proofs.Ytplgbkaollfmkaa
namespace GV
set_option maxRecDepth 100000
section k
variable {m : Mach} {N : Nat}
theorem z90 {α : Type} {X : List α} {n k : Nat} {z y : α} (hl : X.length = k) (hk : k < n) : (X ++ List.replicate (n - k) z).set k y = (X ++ [y]) ++ List.replicate (n - (k + 1)) z := by
  subst hl
  rw [List.set_append_right _ _ (Nat.le_refl _), Nat.sub_self, show n - X.length = (n - (X.length + 1)) + 1 by omega, List.replicate_succ, List.set_cons_zero, List.append_assoc]
  rfl
noncomputable def allR (m : Mach) : List (List Bool) := (List.range m.rows.length).map (reachL m)
theorem zg8 {s : Nat} (hs : s < m.rows.length) : (allR m).getD s default = reachL m s := by
  unfold allR; simp [List.getD_eq_getElem?_getD, hs]
theorem zg7 : (allR m).length = m.rows.length := by simp [allR]
noncomputable def knV (m : Mach) : List Int := (List.range m.rows.length).map fun s => (kn1 m s : Int)
theorem zjd {s : Nat} (hs : s < m.rows.length) : (knV m).getD s default = (kn1 m s : Int) := by
  unfold knV; simp [List.getD_eq_getElem?_getD, hs]
theorem z7d : (knV m).length = m.rows.length := by simp [knV]
theorem ztg (hm : MOk m) (hN : 200 ≤ N) : dw N m N 0 (mk (m.rows.length : Int) ([] : List Bool)) = some (allR m) := by
  have hr := hm.r2
  refine bq (fun F k X => dw N m F (k : Int) X) m.rows.length (fun k X => X = (List.range k).map (reachL m) ++ List.replicate (m.rows.length - k) []) _ (fun F k X hk hi => .inr ⟨_, rfl, ?_⟩) (fun F X hi => ?_) N 0 _ (Nat.zero_le _) (by omega) rfl
  · subst hi
    have hl : ((List.range k).map (reachL m)).length = k := by simp
    simp only [dw]
    rw [mr (by rw [z5b, List.length_replicate]; omega), qh (zl8 hm hN hk), zu (ji (by simp; omega)), zu (jb (by omega)), z1t, z90 hl hk, List.range_succ, List.map_append]
    rfl
  · subst hi
    simp only [dw]
    rw [p9 (by rw [z5b, List.length_replicate]; omega), Nat.sub_self]
    simp [allR]
theorem zqv (hm : MOk m) {s : Nat} (hs : s < m.rows.length) {X : List Int} (hX : X.length = m.rows.length) : ∀ (d F f : Nat), f + d = kn1 m s → d < F → ax N (allR m) (s : Int) F (X.set s (f : Int)) = some (X.set s (kn1 m s : Int))
  | d, 0, f, _, h => by omega
  | d, F + 1, f, hd, hF => by
    have hr := hm.r2
    obtain ⟨s1, s2, s3⟩ := z9g m hs
    have hl : (X.set s (f : Int)).length = m.rows.length := by simp [hX]
    have hx : (X.set s (f : Int)).getD s default = (f : Int) := by rw [List.getD_eq_getElem?_getD, List.getElem?_set_self (by omega)]; rfl
    have hfs : f < m.rows.length := by omega
    simp only [ax]
    rw [su (X.set s (f : Int)) s, hx, zu (ji (by rw [zg7]; exact hs)), zu (ji (by omega)), su (allR m) s, zg8 hs, zu (show okI (reachL m s) (f : Int) from ji (by rw [z4g]; exact hfs)), zu (fun _ => ji (by omega)), zu (fun _ => ji (by rw [zg7]; exact hfs)), su (allR m) f, zg8 hfs, zu (fun _ => ji (by rw [z4g]; exact hs)), su, su]
    have hc : ((!(reachL m s).getD f default) || (!(reachL m f).getD s default)) = !eqK m s f := by unfold eqK rB; rw [Bool.not_and]
    rw [hc]
    by_cases e : f = kn1 m s
    · rw [e, s2, Bool.not_true, cf rfl]
    · rw [s3 f (by omega), Bool.not_false, ct rfl, zu (ji (by omega)), zu (jb (by omega)), zu (ji (by omega)), z1t, List.set_set]
      exact zqv hm hs hX (d - 1) F (f + 1) (by omega) (by omega)
theorem zsx (hm : MOk m) (hN : 200 ≤ N) : di N m (allR m) N 0 (mk (m.rows.length : Int) (0 : Int)) = some (knV m) := by
  have hr := hm.r2
  refine bq (fun F k X => di N m (allR m) F (k : Int) X) m.rows.length (fun k X => X = ((List.range k).map fun s => (kn1 m s : Int)) ++ List.replicate (m.rows.length - k) 0) _ (fun F k X hk hi => .inr ⟨_, rfl, ?_⟩) (fun F X hi => ?_) N 0 _ (Nat.zero_le _) (by omega) rfl
  · subst hi
    have hl : ((List.range k).map fun s => (kn1 m s : Int)).length = k := by simp
    have hX : (((List.range k).map fun s => (kn1 m s : Int)) ++ List.replicate (m.rows.length - k) (0 : Int)).length = m.rows.length := by simp; omega
    have h0 : (((List.range k).map fun s => (kn1 m s : Int)) ++ List.replicate (m.rows.length - k) (0 : Int)).set k ((0 : Nat) : Int) = ((List.range k).map fun s => (kn1 m s : Int)) ++ List.replicate (m.rows.length - k) 0 := by
      rw [z90 hl hk, show m.rows.length - k = (m.rows.length - (k + 1)) + 1 by omega, List.replicate_succ, List.append_assoc]; rfl
    obtain ⟨s1, s2, s3⟩ := z9g m hk
    have h3 := zqv (N := N) hm hk hX (kn1 m k) N 0 (by omega) (by omega)
    rw [h0] at h3
    simp only [di]
    rw [mr (by rw [z5b, List.length_replicate]; omega), qh h3, zu (jb (by omega)), z90 hl hk, List.range_succ, List.map_append]
    rfl
  · subst hi
    simp only [di]
    rw [p9 (by rw [z5b, List.length_replicate]; omega), Nat.sub_self]
    simp [knV]
theorem zlo (hm : MOk m) (hN : 200 ≤ N) : z2n N m = some (knV m) := by
  have hr := hm.r2
  unfold z2n
  rw [zu ⟨by omega, by omega, by omega⟩, qh (ztg hm hN), zu ⟨by omega, by omega, by omega⟩, qh (zsx hm hN)]
theorem zsy (hm : MOk m) (hN : 200 ≤ N) {s : Nat} (hs : s < m.rows.length) (h : kn1 m s = s) : dn N (knV m) (s : Int) N [] 0 = some (knotL m s) := by
  have hr := hm.r2
  refine bq (fun F k X => dn N (knV m) (s : Int) F X (k : Int)) m.rows.length (fun k X => X = ((List.range k).filter fun t => eqK m s t).map fun t : Nat => (t : Int)) _ (fun F k X hk hi => .inr ⟨_, rfl, ?_⟩) (fun F X hi => ?_) N 0 [] (Nat.zero_le _) (by omega) rfl
  · subst hi
    have hl := z6x (fun t => eqK m s t) k
    simp only [dn]
    rw [mr (by rw [z7d]; omega), zu (ji (by rw [z7d]; exact hk)), su, zjd hk, z3z]
    have hiff : ((kn1 m k : Int) = (s : Int)) ↔ eqK m s k = true := by
      rw [← zqb hs hk, h]; omega
    by_cases e : eqK m s k = true
    · rw [mr (hiff.2 e), if_pos e, List.map_append, zu (show fits 8 _ ([(k : Int)] : List Int) from ⟨by rw [List.length_map, List.length_singleton]; omega, by rw [List.length_map, List.length_singleton]; omega⟩)]
      refine (qh rfl).trans ?_
      rw [zu (jb (by omega))]; rfl
    · rw [p9 (fun q => e (hiff.1 q)), if_neg e, List.append_nil]
      refine (qh rfl).trans ?_
      rw [zu (jb (by omega))]; rfl
  · subst hi
    simp only [dn]
    rw [p9 (by rw [z7d]; omega)]; rfl
theorem zt2 (hm : MOk m) (hN : 200 ≤ N) : dm N (knV m) N [] 0 = some (knotsL m) := by
  have hr := hm.r2
  refine bq (fun F k X => dm N (knV m) F X (k : Int)) m.rows.length (fun k X => X = ((List.range k).filter fun s => decide (kn1 m s = s)).map (knotL m)) _ (fun F k X hk hi => .inr ⟨_, rfl, ?_⟩) (fun F X hi => ?_) N 0 [] (Nat.zero_le _) (by omega) rfl
  · subst hi
    have hl := z6x (fun s => decide (kn1 m s = s)) k
    have hk2 : (knotL m k).length ≤ m.rows.length := by unfold knotL; rw [List.length_map]; exact z6x _ _
    simp only [dm]
    rw [mr (by rw [z7d]; omega), zu (ji (by rw [z7d]; exact hk)), su, zjd hk, z3z]
    by_cases h : kn1 m k = k
    · rw [p9 (by rw [h]; exact fun q => q rfl), decide_eq_true h, if_pos rfl, List.map_append, qh (zsy hm hN hk h)]
      have hclip : xy N (knotL m k) = some (knotL m k) := by
        unfold xy
        rw [zu ⟨by omega, by omega, by omega⟩, z7g]
      rw [qh hclip, zu (show fits 24 _ ([knotL m k] : List (List Int)) from ⟨by rw [List.length_map, List.length_singleton]; omega, by rw [List.length_map, List.length_singleton]; omega⟩)]
      refine (qh rfl).trans ?_
      rw [zu (jb (by omega))]; rfl
    · rw [mr (by omega), decide_eq_false h, if_neg (by decide), List.append_nil]
      refine (qh rfl).trans ?_
      rw [zu (jb (by omega))]; rfl
  · subst hi
    simp only [dm]
    rw [p9 (by rw [z7d]; omega)]; rfl
theorem zia : (knotsL m).length ≤ m.rows.length := by unfold knotsL; rw [List.length_map]; exact z6x _ _
theorem zkz (hm : MOk m) (hN : 200 ≤ N) (hc : z18 N m = some 0) : z2l N m = some (knotsL m, 0) := by
  have hr := hm.r2
  have hl := zia (m := m)
  have hclip : fo N (knotsL m) = some (knotsL m) := by
    unfold fo
    rw [zu ⟨by omega, by omega, by omega⟩, z7g]
  unfold z2l
  rw [qh hc, p9 (by decide), qh (zlo hm hN), qh (zt2 hm hN), qh hclip]
end k
end GV
end Go.Proofs.Ytplgbkaollfmkaa
