
import Derived.Test.YtplgbkaollfmkaaLaw39a
import Derived.Test.YtplgbkaollfmkaaSpec04b
set_option linter.unusedVariables false
set_option linter.unusedSimpArgs false
namespace Go.Proofs.Ytplgbkaollfmkaa
namespace GV
set_option maxRecDepth 100000
/-! ### The program's search -/
section r
variable {m : Mach} {s a : Nat} {Y : List Bool} {l : List Int} {N : Nat}
structure SInv (m : Mach) (s : Nat) (Y : List Bool) (l : List Int) : Prop where
  len : Y.length = m.rows.length
  sound : ∀ t, Y.getD t default = true → Reach m s t
  start : Y.getD s default = true
  stk : ∀ x ∈ l, 0 ≤ x ∧ x.toNat < m.rows.length ∧ Y.getD x.toNat default = true
  clo : ∀ t, t < m.rows.length → Y.getD t default = true → (t : Int) ∉ l → Closed m Y t
structure EInv (m : Mach) (s a i μ : Nat) (Y : List Bool) (l : List Int) : Prop where
  len : Y.length = m.rows.length
  sound : ∀ t, Y.getD t default = true → Reach m s t
  start : Y.getD s default = true
  ya : Y.getD a default = true
  stk : ∀ x ∈ l, 0 ≤ x ∧ x.toNat < m.rows.length ∧ Y.getD x.toNat default = true
  clo : ∀ t, t < m.rows.length → Y.getD t default = true → (t : Int) ∉ l → t ≠ a → Closed m Y t
  done : ∀ j, j < i → j < (m.rows.getD a default).length → 0 ≤ ((m.rows.getD a default).getD j default).to → Y.getD ((m.rows.getD a default).getD j default).to.toNat default = true
  mes : 2 * Y.count false + l.length ≤ μ
theorem zg4 : ∀ {X : List Bool} {s : Nat}, s < X.length → X.getD s default = false → (X.set s true).count false + 1 = X.count false
  | x :: X, 0, _, h => by
    have : x = false := by simpa using h
    subst this
    simp
  | x :: X, s + 1, hs, h => by
    have := zg4 (X := X) (s := s) (by simpa using hs) (by simpa using h)
    rw [List.set_cons_succ, List.count_cons, List.count_cons]; omega
theorem zah {t u : Nat} (hu : u < Y.length) (h : Y.getD t default = true) : (Y.set u true).getD t default = true := by
  rw [z4v hu]; split; rfl; exact h
def zkk (m : Mach) (a i : Nat) (x : List Bool × List Int) : List Bool × List Int :=
  if ((m.rows.getD a default).getD i default).to = -1 then x
  else if x.1.getD ((m.rows.getD a default).getD i default).to.toNat default = true then x
  else (x.1.set ((m.rows.getD a default).getD i default).to.toNat true, x.2 ++ [((m.rows.getD a default).getD i default).to])
theorem zpc (hm : MOk m) {i μ : Nat} (ha : a < m.rows.length) (hi : i < (m.rows.getD a default).length) (h : EInv m s a i μ Y l) : EInv m s a (i + 1) μ (zkk m a i (Y, l)).1 (zkk m a i (Y, l)).2 := by
  unfold zkk
  have hed := hm.edge a i ha hi
  split
  · rename_i h1
    refine ⟨h.len, h.sound, h.start, h.ya, h.stk, h.clo, fun j hj hjl h0 => ?_, h.mes⟩
    by_cases e : j = i
    · subst e; omega
    · exact h.done j (by omega) hjl h0
  · rename_i h1
    split
    · rename_i h2
      refine ⟨h.len, h.sound, h.start, h.ya, h.stk, h.clo, fun j hj hjl h0 => ?_, h.mes⟩
      by_cases e : j = i
      · subst e; exact h2
      · exact h.done j (by omega) hjl h0
    · rename_i h2
      dsimp only at h2 ⊢
      have h0 : 0 ≤ ((m.rows.getD a default).getD i default).to ∧ ((m.rows.getD a default).getD i default).to < m.rows.length := by rcases hed with h | h <;> omega
      have hlt : ((m.rows.getD a default).getD i default).to.toNat < Y.length := by rw [h.len]; omega
      have hv : Y.getD ((m.rows.getD a default).getD i default).to.toNat default = false := by simpa using h2
      have hg := fun t => z4v (t := t) hlt
      refine ⟨by simp [h.len], fun t ht => ?_, zah hlt h.start, zah hlt h.ya, fun x hx => ?_, fun t ht hy hn hne => ?_, fun j hj hjl hj0 => ?_, ?_⟩
      · rw [hg] at ht
        by_cases e : t = ((m.rows.getD a default).getD i default).to.toNat
        · subst e; exact .step (h.sound _ h.ya) ha hi h0.1
        · rw [if_neg e] at ht; exact h.sound t ht
      · rcases List.mem_append.1 hx with hx | hx
        · obtain ⟨q1, q2, q3⟩ := h.stk x hx
          exact ⟨q1, q2, zah hlt q3⟩
        · rw [List.mem_singleton.1 hx]
          exact ⟨h0.1, by omega, by rw [hg, if_pos rfl]⟩
      · rw [hg] at hy
        by_cases e : t = ((m.rows.getD a default).getD i default).to.toNat
        · exact absurd (List.mem_append.2 (.inr (List.mem_singleton.2 (by omega)))) hn
        · rw [if_neg e] at hy
          intro j hj hj0
          exact zah hlt (h.clo t ht hy (fun q => hn (List.mem_append.2 (.inl q))) hne j hj hj0)
      · by_cases e : j = i
        · subst e; rw [hg, if_pos rfl]
        · exact zah hlt (h.done j (by omega) hjl hj0)
      · have := zg4 hlt hv
        have := h.mes
        rw [List.length_append, List.length_singleton]
        omega
theorem zpo (hm : MOk m) (hN : 200 ≤ N) {μ : Nat} (ha : a < m.rows.length) (hμ : μ ≤ 1000) (h : EInv m s a 0 μ Y l) :
    ∃ x, z3i N m (a : Int) (List Bool × List Int) (fun y73 x74 =>
    gd (okI x74.1 y73.f_to) <|
    bif !(ix x74.1 y73.f_to) then (
    gd (okI x74.1 y73.f_to) <|
    gd (fits 8 x74.2 ([y73.f_to] : List Int)) <|
    some (true, ((up x74.1 y73.f_to true), (x74.2 ++ ([y73.f_to] : List Int))))) else (
    some (true, (x74.1, x74.2)))) (Y, l) = some x ∧ EInv m s a (m.rows.getD a default).length μ x.1 x.2 := by
  have hrow := hm.row a ha; have hi1 := hm.i1; have hi2 := hm.i2
  unfold z3i
  rw [zx (ji ha)]
  refine iy (σ := List Bool × List Int) (fun F i x => om N (List Bool × List Int) _ m (a : Int) F x (i : Int)) (m.rows.getD a default).length (fun i x => EInv m s a i μ x.1 x.2) (fun x => EInv m s a (m.rows.getD a default).length μ x.1 x.2) (fun F i x hi hx => .inr ?_) (fun F x hx => ?_) N 0 (Y, l) (Nat.zero_le _) (by omega) h
  · obtain ⟨Z, k⟩ := x
    refine ⟨zkk m a i (Z, k), zpc hm ha hi hx, ?_⟩
    simp only [om]
    rw [vz (show (i : Int) < ((ix m.rows (a : Int)).length : Int) from Int.ofNat_lt.2 hi), zx (show okI (ix m.rows (a : Int)) (i : Int) from ji hi)]
    have e0 : (ix (ix m.rows (a : Int)) (i : Int)) = (m.rows.getD a default).getD i default := rfl
    rw [e0]
    have hed := hm.edge a i ha hi
    have hmes := hx.mes
    have hzl := hx.len
    unfold zkk
    dsimp only at hmes hzl ⊢
    by_cases h1 : ((m.rows.getD a default).getD i default).to = -1
    · rw [vv (by omega), if_pos h1]
      refine (qf rfl).trans ?_
      rw [zh1, zx (jb (by omega))]; rfl
    · have h0 : 0 ≤ ((m.rows.getD a default).getD i default).to ∧ ((m.rows.getD a default).getD i default).to < m.rows.length := by rcases hed with h | h <;> omega
      have hok : okI Z ((m.rows.getD a default).getD i default).to := ⟨h0.1, by omega⟩
      rw [vz h1, if_neg h1, zx hok, zbk]
      cases hv : Z.getD ((m.rows.getD a default).getD i default).to.toNat default
      · rw [if_neg (by decide)]
        simp only [Bool.not_false, cond_true]
        rw [zx hok, zx (show fits 8 k ([((m.rows.getD a default).getD i default).to] : List Int) from ⟨by rw [List.length_singleton]; omega, by rw [List.length_singleton]; omega⟩)]
        refine (qf rfl).trans ?_
        rw [zh1, zx (jb (by omega))]; rfl
      · rw [if_pos rfl]
        simp only [Bool.not_true, cond_false]
        refine (qf rfl).trans ?_
        rw [zh1, zx (jb (by omega))]; rfl
  · simp only [om]
    refine ⟨x, vv (show ¬ (((m.rows.getD a default).length : Nat) : Int) < ((ix m.rows (a : Int)).length : Int) from fun h => Int.lt_irrefl _ h), hx⟩
theorem zri (hm : MOk m) (h : SInv m s Y []) : Y = reachL m s := by
  have key : ∀ t, Reach m s t → Y.getD t default = true := by
    intro t ht
    induction ht with
    | refl => exact h.start
    | step h1 h2 h3 h4 ih => exact h.clo _ h2 ih (by simp) _ h3 h4
  refine zdd (by rw [h.len, z2c]) fun k hk => ?_
  rw [Bool.eq_iff_iff, z6u (by rw [← h.len]; exact hk)]
  exact ⟨h.sound k, key k⟩
theorem zi6 (hm : MOk m) (hN : 200 ≤ N) : ∀ (F : Nat) (Y : List Bool) (l : List Int), 2 * Y.count false + l.length < F → 2 * Y.count false + l.length ≤ 1000 → SInv m s Y l → z0k N m F Y l = some (reachL m s)
  | 0, _, _, h, _, _ => by omega
  | F + 1, Y, l, hF, hb, h => by
    simp only [z0k]
    rcases List.eq_nil_or_concat l with rfl | ⟨k, x, rfl⟩
    · rw [vv (by simp), zri hm h]
    · rw [List.concat_eq_append] at h hF hb ⊢
      have hl : (k ++ [x]).length = k.length + 1 := by simp
      obtain ⟨x0, x1, x2⟩ := h.stk x (by simp)
      have hlast : ix (k ++ [x]) (((k ++ [x]).length : Int) - 1) = x := by
        rw [zbk, show (((k ++ [x]).length : Int) - 1).toNat = k.length by omega, List.getD_eq_getElem?_getD, List.getElem?_append_right (Nat.le_refl _), Nat.sub_self]; rfl
      have hcut : cut (k ++ [x]) 0 (((k ++ [x]).length : Int) - 1) = k := by
        unfold cut
        rw [show (((k ++ [x]).length : Int) - 1).toNat - (0 : Int).toNat = k.length by omega]
        simp
      rw [vz (by omega), zx (jb (by omega)), zx (show okI (k ++ [x]) (((k ++ [x]).length : Int) - 1) from ⟨by omega, by omega⟩), zx (jb (by omega)), zx ⟨by omega, by omega, by omega⟩, hlast, hcut]
      refine (qf (show z7m N m x = some (m, x) from rfl)).trans ?_
      have hx : ((x.toNat : Nat) : Int) = x := by omega
      have hE : EInv m s x.toNat 0 (2 * Y.count false + k.length) Y k := by
        refine ⟨h.len, h.sound, h.start, x2, fun y hy => h.stk y (List.mem_append.2 (.inl hy)), fun t ht hy hn hne => h.clo t ht hy fun q => ?_, fun j hj => by omega, Nat.le_refl _⟩
        rcases List.mem_append.1 q with q | q
        · exact hn q
        · have := List.mem_singleton.1 q; omega
      obtain ⟨r, hr, hi⟩ := zpo (N := N) hm hN x1 (by omega) hE
      rw [hx] at hr
      refine (qf hr).trans ?_
      refine zi6 hm hN F r.1 r.2 (by have := hi.mes; omega) (by have := hi.mes; omega) ⟨hi.len, hi.sound, hi.start, hi.stk, fun t ht hy hn => ?_⟩
      by_cases e : t = x.toNat
      · subst e
        intro j hj hj0
        exact hi.done j hj hj hj0
      · exact hi.clo t ht hy hn e
theorem zof (hm : MOk m) (hN : 200 ≤ N) (hs : s < m.rows.length) : z5o N m (s : Int) = some (reachL m s) := by
  have hr := hm.r2
  have hz := zdg (m := m) hs
  unfold z5o
  rw [zx ⟨by omega, by omega, by omega⟩, z5a, zx (ji (by simpa using hs)), z98]
  have hl : s < (List.replicate m.rows.length false).length := by simpa using hs
  have hx : ∀ t, (List.replicate m.rows.length false).getD t default = false := fun t => by
    simp only [List.getD_eq_getElem?_getD, List.getElem?_replicate]; split <;> rfl
  have hc : ((List.replicate m.rows.length false).set s true).count false ≤ m.rows.length := by
    refine Nat.le_trans List.count_le_length ?_; simp
  refine Eq.trans (qf (x := reachL m s) (zi6 hm hN N _ _ (by rw [List.length_singleton]; omega) (by rw [List.length_singleton]; omega) ⟨hz.len, hz.sound, hz.start, fun x hx' => ?_, fun t ht hy hn => ?_⟩)) rfl
  · rw [List.mem_singleton.1 hx']
    exact ⟨by omega, by omega, hz.start⟩
  · rw [z4v hl, hx] at hy
    by_cases e : t = s
    · subst e; exact absurd (List.mem_singleton.2 rfl) hn
    · rw [if_neg e] at hy; cases hy
end r
end GV
end Go.Proofs.Ytplgbkaollfmkaa

namespace Go.Proofs.Ytplgbkaollfmkaa
namespace GV
set_option maxRecDepth 100000
section k
variable {m : Mach} {N : Nat}
noncomputable def rB (m : Mach) (s t : Nat) : Bool := (reachL m s).getD t default
theorem zli {s t : Nat} (ht : t < m.rows.length) : rB m s t = true ↔ Reach m s t := z6u ht
theorem zsj {s : Nat} (hs : s < m.rows.length) : rB m s s = true := (zli hs).2 .refl
theorem zvb {a s i : Nat} {Y0 Y : List Bool} (h : RPass m a Y0 s i Y) (hv : Y.getD s default = false) : RPass m a Y0 (s + 1) 0 Y :=
  ⟨h.len, h.sound, h.start, h.fix, h.prog.imp id fun ⟨e, hp⟩ => ⟨e, fun t ht hy j hj hjl h0 => by
    by_cases q : t = s
    · subst q; rw [hv] at hy; cases hy
    · exact hp t ht hy j (by omega) hjl h0⟩⟩
theorem zl3 (hm : MOk m) (hN : 200 ≤ N) {s t : Nat} (hs : s < m.rows.length) (ht : t < m.rows.length) : cu N m (s : Int) (t : Int) (m.rows.length : Int) = some (rB m s t) := by
  have hr := hm.r2; have hi1 := hm.i1; have hi2 := hm.i2
  unfold cu
  by_cases e : s = t
  · subst e
    rw [vz rfl, zsj hs]
  rw [vv (by omega), zx ⟨by omega, by omega, by omega⟩, z5a, zx (ji (by simpa using hs)), z98]
  have hL : xk N m (m.rows.length : Int) N 0 ((List.replicate m.rows.length false).set s true) = some (reachL m s) := by
    refine xh (fun F r Y => xk N m (m.rows.length : Int) F (r : Int) Y) m.rows.length (fun r Y => RInv m s r Y) _ (fun F r Y hk hi => .inr ?_) (fun F Y hi => ?_) N 0 _ (Nat.zero_le _) (by omega) (zdg hs)
    · obtain ⟨Z, hZ, hz⟩ : ∃ Z, xg N m N 0 Y = some Z ∧ RInv m s (r + 1) Z := by
        refine iy (fun F a Z => xg N m F (a : Int) Z) m.rows.length (fun a Z => RPass m s Y a 0 Z) _ (fun F a Z ha hp => .inr ?_) (fun F Z hp => ?_) N 0 Y (Nat.zero_le _) (by omega) (znf hi)
        · have hlen : ((m.rows.getD a default).length : Int) = m.inputs := hm.row a ha
          obtain ⟨V, hV, hv⟩ : ∃ V, xe N m (a : Int) N 0 Z = some V ∧ RPass m s Y (a + 1) 0 V := by
            refine iy (fun F i V => xe N m (a : Int) F (i : Int) V) m.inputs.toNat (fun i V => RPass m s Y a i V) _ (fun F i V hi' hq => ?_) (fun F V hq => ?_) N 0 Z (Nat.zero_le _) (by omega) hp
            · have hil : i < (m.rows.getD a default).length := by omega
              have hsl : a < V.length := by rw [hq.len]; exact ha
              simp only [xe]
              rw [zx (fun _ => ji hsl), r9, decide_eq_true (show (i : Int) < m.inputs by omega), Bool.true_and]
              cases hy : V.getD a default
              · exact .inl ⟨V, cf rfl, zvb hq hy⟩
              · refine .inr ?_
                rw [ct rfl, zx (ji ha), zx (show okI (ix m.rows (a : Int)) (i : Int) from ji hil)]
                have e0 : (ix (ix m.rows (a : Int)) (i : Int)) = (m.rows.getD a default).getD i default := rfl
                rw [e0]
                by_cases hc : ((m.rows.getD a default).getD i default).to = -1
                · refine ⟨V, zmz hq (by omega), ?_⟩
                  rw [vv (by omega)]
                  refine (qf rfl).trans ?_
                  rw [zx (jb (by omega))]; rfl
                · have h0 : 0 ≤ ((m.rows.getD a default).getD i default).to ∧ ((m.rows.getD a default).getD i default).to < m.rows.length := by
                    rcases hm.edge a i ha hil with h | h <;> omega
                  refine ⟨_, zpm hm hq ha hil hy h0.1, ?_⟩
                  rw [vz hc, zx (show okI V ((m.rows.getD a default).getD i default).to from ⟨h0.1, by rw [hq.len]; omega⟩)]
                  refine (qf rfl).trans ?_
                  rw [zx (jb (by omega))]; rfl
            · simp only [xe]
              rw [zx (fun h => by simp at h; omega), decide_eq_false (show ¬ ((m.inputs.toNat : Nat) : Int) < m.inputs by omega)]
              exact ⟨V, rfl, zr0 hq (by omega)⟩
          refine ⟨V, hv, ?_⟩
          simp only [xg]
          rw [vz (by omega), qf hV, zx (jb (by omega))]; rfl
        · simp only [xg]
          rw [vv (by omega)]
          exact ⟨Z, rfl, zqp hp (Nat.le_refl _) hi⟩
      refine ⟨Z, hz, ?_⟩
      simp only [xk]
      rw [vz (by omega), qf hZ, zx (jb (by omega))]; rfl
    · simp only [xk]
      rw [vv (by omega), zji hm hs hi (Nat.le_refl _)]
  rw [qf hL, zx (ji (by rw [z2c]; exact ht))]
  rfl
/-! ### Knots -/
noncomputable def eqK (m : Mach) (s t : Nat) : Bool := rB m s t && rB m t s
theorem zes {s t : Nat} (hs : s < m.rows.length) (ht : t < m.rows.length) : eqK m s t = true ↔ Reach m s t ∧ Reach m t s := by
  unfold eqK
  rw [Bool.and_eq_true, zli ht, zli hs]
theorem zpw {s : Nat} (hs : s < m.rows.length) : eqK m s s = true := (zes hs hs).2 ⟨.refl, .refl⟩
theorem zjl {s t : Nat} : eqK m s t = eqK m t s := by unfold eqK; exact Bool.and_comm _ _
theorem ze4 {s t u : Nat} (hs : s < m.rows.length) (ht : t < m.rows.length) (hu : u < m.rows.length) (h : eqK m s t = true) (k : eqK m t u = true) : eqK m s u = true := by
  rw [zes hs ht] at h
  rw [zes ht hu] at k
  exact (zes hs hu).2 ⟨h.1.trans k.1, k.2.trans h.2⟩
noncomputable def kn1 (m : Mach) (s : Nat) : Nat := ((List.range s).find? fun f => eqK m s f).getD s
theorem z9y (m : Mach) {s : Nat} (hs : s < m.rows.length) : kn1 m s ≤ s ∧ eqK m s (kn1 m s) = true ∧ ∀ f, f < kn1 m s → eqK m s f = false := by
  unfold kn1
  cases h : (List.range s).find? fun f => eqK m s f with
  | none =>
    rw [List.find?_eq_none] at h
    exact ⟨Nat.le_refl _, zpw hs, fun f hf => by simpa using h f (List.mem_range.2 hf)⟩
  | some f =>
    rw [List.find?_range_eq_some] at h
    obtain ⟨h1, h2, h3⟩ := h
    have := List.mem_range.1 h2
    exact ⟨Nat.le_of_lt this, h1, fun g hg => by simpa using h3 g hg⟩
theorem zt2 {s t : Nat} (hs : s < m.rows.length) (ht : t < m.rows.length) : kn1 m s = kn1 m t ↔ eqK m s t = true := by
  obtain ⟨s1, s2, s3⟩ := z9y m hs
  obtain ⟨t1, t2, t3⟩ := z9y m ht
  constructor
  · intro e
    exact ze4 hs (t := kn1 m s) (by omega) ht s2 (by rw [e, zjl]; exact t2)
  · intro e
    rcases Nat.lt_trichotomy (kn1 m s) (kn1 m t) with h | h | h
    · have := t3 _ h
      rw [ze4 ht hs (by omega) (by rw [zjl]; exact e) s2] at this; cases this
    · exact h
    · have := s3 _ h
      rw [ze4 hs ht (by omega) e t2] at this; cases this
noncomputable def knotL (m : Mach) (s : Nat) : List Int := ((List.range m.rows.length).filter fun t => eqK m s t).map fun t : Nat => (t : Int)
noncomputable def knotsL (m : Mach) : List (List Int) := ((List.range m.rows.length).filter fun s => decide (kn1 m s = s)).map (knotL m)
theorem z2m (p : Nat → Bool) (n : Nat) : (List.range (n + 1)).filter p = (List.range n).filter p ++ if p n = true then [n] else [] := by
  rw [List.range_succ, List.filter_append]
  congr 1
  by_cases h : p n = true
  · rw [if_pos h, List.filter_cons_of_pos h]; rfl
  · rw [if_neg h, List.filter_cons_of_neg h]; rfl
theorem z6h (p : Nat → Bool) (n : Nat) : ((List.range n).filter p).length ≤ n := Nat.le_trans (List.length_filter_le _ _) (by simp)
theorem zox (hm : MOk m) (hN : 200 ≤ N) {s : Nat} (hs : s < m.rows.length) : xc N m (s : Int) N true [] 0 = some (decide (kn1 m s = s), knotL m s) := by
  have hr := hm.r2
  obtain ⟨s1, s2, s3⟩ := z9y m hs
  refine xh (σ := Bool × List Int) (fun F k x => xc N m (s : Int) F x.1 x.2 (k : Int)) m.rows.length (fun k x => x.1 = decide (∀ t, t < k → eqK m s t = true → s ≤ t) ∧ x.2 = ((List.range k).filter fun t => eqK m s t).map fun t : Nat => (t : Int)) _ (fun F k x hk hi => .inr ?_) (fun F x hi => ?_) N 0 (true, []) (Nat.zero_le _) (by omega) ⟨(decide_eq_true fun t ht => by omega).symm, rfl⟩
  · obtain ⟨b, X⟩ := x
    obtain ⟨hb, hX⟩ := hi
    dsimp only at hb hX
    subst hX
    have hl := z6h (fun t => eqK m s t) k
    simp only [xc]
    refine ⟨(decide (∀ t, t < k + 1 → eqK m s t = true → s ≤ t), ((List.range (k + 1)).filter fun t => eqK m s t).map fun t : Nat => (t : Int)), ⟨rfl, rfl⟩, ?_⟩
    rw [vz (by omega)]
    have hin : bd (cu N m (s : Int) (k : Int) (m.rows.length : Int)) (fun y59 => bd (gop (true && (y59 == true)) (cu N m (k : Int) (s : Int) (m.rows.length : Int))) fun y61 =>
        bif y59 && (y61.getD default) then (gd (fits 8 (((List.range k).filter fun t => eqK m s t).map fun t : Nat => (t : Int)) ([(k : Int)] : List Int)) <| some (b && (decide ((s : Int) ≤ (k : Int))), ((((List.range k).filter fun t => eqK m s t).map fun t : Nat => (t : Int)) ++ ([(k : Int)] : List Int)))) else (some (b, ((List.range k).filter fun t => eqK m s t).map fun t : Nat => (t : Int))))
        = some (decide (∀ t, t < k + 1 → eqK m s t = true → s ≤ t), ((List.range (k + 1)).filter fun t => eqK m s t).map fun t : Nat => (t : Int)) := by
      rw [qf (zl3 hm hN hs hk), z2m]
      have hstep : decide (∀ t, t < k + 1 → eqK m s t = true → s ≤ t) = (b && (!eqK m s k || decide (s ≤ k))) := by
        rw [hb, Bool.eq_iff_iff]
        simp only [decide_eq_true_eq, Bool.and_eq_true, Bool.or_eq_true, Bool.not_eq_true']
        constructor
        · intro h
          refine ⟨fun t ht e => h t (by omega) e, ?_⟩
          cases e : eqK m s k
          · exact .inl rfl
          · exact .inr (h k (by omega) e)
        · rintro ⟨h1, h2⟩ t ht e
          by_cases q : t = k
          · subst q
            rcases h2 with h2 | h2
            · rw [e] at h2; cases h2
            · exact h2
          · exact h1 t (by omega) e
      rw [hstep]
      cases h1 : rB m s k
      · refine (qf (zwn rfl)).trans ?_
        have : eqK m s k = false := by unfold eqK; rw [h1]; rfl
        rw [this]
        simp
      · refine (zku rfl (zl3 hm hN hk hs)).trans ?_
        have : eqK m s k = rB m k s := by unfold eqK; rw [h1]; rfl
        rw [this]
        cases h2 : rB m k s
        · simp
        · simp only [Option.getD_some, Bool.and_self, cond_true, if_true, Bool.not_true, Bool.false_or, List.map_append, List.map_cons, List.map_nil]
          rw [zx (show fits 8 _ ([(k : Int)] : List Int) from ⟨by rw [List.length_map, List.length_singleton]; omega, by rw [List.length_map, List.length_singleton]; omega⟩)]
          have : decide ((s : Int) ≤ (k : Int)) = decide (s ≤ k) := by rw [Bool.eq_iff_iff]; simp
          rw [this]
    rw [qf hin, zx (jb (by omega))]
    rfl
  · obtain ⟨b, X⟩ := x
    obtain ⟨hb, hX⟩ := hi
    dsimp only at hb hX
    simp only [xc]
    rw [vv (by omega), hX, hb]
    have : decide (∀ t, t < m.rows.length → eqK m s t = true → s ≤ t) = decide (kn1 m s = s) := by
      rw [Bool.eq_iff_iff, decide_eq_true_eq, decide_eq_true_eq]
      constructor
      · intro h
        have := h _ (by omega) s2
        omega
      · intro e t ht h
        rcases Nat.lt_or_ge t s with q | q
        · have := s3 t (by omega)
          rw [h] at this; cases this
        · exact q
    rw [this]; rfl
theorem zo6 (hm : MOk m) (hN : 200 ≤ N) : z00 N m = some (knotsL m) := by
  have hr := hm.r2
  unfold z00
  refine Eq.trans (qf (x := knotsL m) ?_) rfl
  refine xh (fun F k X => bv N m F X (k : Int)) m.rows.length (fun k X => X = ((List.range k).filter fun s => decide (kn1 m s = s)).map (knotL m)) _ (fun F k X hk hi => .inr ?_) (fun F X hi => ?_) N 0 [] (Nat.zero_le _) (by omega) rfl
  · subst hi
    have hl := z6h (fun s => decide (kn1 m s = s)) k
    refine ⟨_, rfl, ?_⟩
    simp only [bv]
    rw [vz (by omega), qf (zox hm hN hk), z2m]
    by_cases h : kn1 m k = k
    · rw [decide_eq_true h, if_pos rfl, List.map_append]
      simp only [cond_true, List.map_cons, List.map_nil]
      rw [zx (show fits 24 _ ([knotL m k] : List (List Int)) from ⟨by rw [List.length_map, List.length_singleton]; omega, by rw [List.length_map, List.length_singleton]; omega⟩)]
      refine (qf rfl).trans ?_
      rw [zx (jb (by omega))]; rfl
    · rw [decide_eq_false h, if_neg (by decide), List.append_nil]
      simp only [cond_false]
      refine (qf rfl).trans ?_
      rw [zx (jb (by omega))]; rfl
  · subst hi
    simp only [bv]
    rw [vv (by omega)]; rfl
end k
end GV
end Go.Proofs.Ytplgbkaollfmkaa

namespace Go.Proofs.Ytplgbkaollfmkaa
namespace GV
set_option maxRecDepth 100000
section k
variable {m : Mach} {N : Nat}
theorem zf3 {α : Type} {X : List α} {n k : Nat} {z y : α} (hl : X.length = k) (hk : k < n) : (X ++ List.replicate (n - k) z).set k y = (X ++ [y]) ++ List.replicate (n - (k + 1)) z := by
  subst hl
  rw [List.set_append_right _ _ (Nat.le_refl _), Nat.sub_self, show n - X.length = (n - (X.length + 1)) + 1 by omega, List.replicate_succ, List.set_cons_zero, List.append_assoc]
  rfl
noncomputable def allR (m : Mach) : List (List Bool) := (List.range m.rows.length).map (reachL m)
theorem zjk {s : Nat} (hs : s < m.rows.length) : (allR m).getD s default = reachL m s := by
  unfold allR; simp [List.getD_eq_getElem?_getD, hs]
theorem zkp : (allR m).length = m.rows.length := by simp [allR]
noncomputable def knV (m : Mach) : List Int := (List.range m.rows.length).map fun s => (kn1 m s : Int)
theorem znl {s : Nat} (hs : s < m.rows.length) : (knV m).getD s default = (kn1 m s : Int) := by
  unfold knV; simp [List.getD_eq_getElem?_getD, hs]
theorem zau : (knV m).length = m.rows.length := by simp [knV]
theorem zwy (hm : MOk m) (hN : 200 ≤ N) : af N m N 0 (mk (m.rows.length : Int) ([] : List Bool)) = some (allR m) := by
  have hr := hm.r2
  refine xh (fun F k X => af N m F (k : Int) X) m.rows.length (fun k X => X = (List.range k).map (reachL m) ++ List.replicate (m.rows.length - k) []) _ (fun F k X hk hi => .inr ⟨_, rfl, ?_⟩) (fun F X hi => ?_) N 0 _ (Nat.zero_le _) (by omega) rfl
  · subst hi
    have hl : ((List.range k).map (reachL m)).length = k := by simp
    simp only [af]
    rw [vz (by rw [z5a, List.length_replicate]; omega), qf (zof hm hN hk), zx (ji (by simp; omega)), zx (jb (by omega)), z98, zf3 hl hk, List.range_succ, List.map_append]
    rfl
  · subst hi
    simp only [af]
    rw [vv (by rw [z5a, List.length_replicate]; omega), Nat.sub_self]
    simp [allR]
theorem zty (hm : MOk m) {s : Nat} (hs : s < m.rows.length) {X : List Int} (hX : X.length = m.rows.length) : ∀ (d F f : Nat), f + d = kn1 m s → d < F → z0a N (allR m) (s : Int) F (X.set s (f : Int)) = some (X.set s (kn1 m s : Int))
  | d, 0, f, _, h => by omega
  | d, F + 1, f, hd, hF => by
    have hr := hm.r2
    obtain ⟨s1, s2, s3⟩ := z9y m hs
    have hl : (X.set s (f : Int)).length = m.rows.length := by simp [hX]
    have hx : (X.set s (f : Int)).getD s default = (f : Int) := by rw [List.getD_eq_getElem?_getD, List.getElem?_set_self (by omega)]; rfl
    have hfs : f < m.rows.length := by omega
    simp only [z0a]
    rw [r9 (X.set s (f : Int)) s, hx, zx (ji (by rw [zkp]; exact hs)), zx (ji (by omega)), r9 (allR m) s, zjk hs, zx (show okI (reachL m s) (f : Int) from ji (by rw [z2c]; exact hfs)), zx (fun _ => ji (by omega)), zx (fun _ => ji (by rw [zkp]; exact hfs)), r9 (allR m) f, zjk hfs, zx (fun _ => ji (by rw [z2c]; exact hs)), r9, r9]
    have hc : ((!(reachL m s).getD f default) || (!(reachL m f).getD s default)) = !eqK m s f := by unfold eqK rB; rw [Bool.not_and]
    rw [hc]
    by_cases e : f = kn1 m s
    · rw [e, s2, Bool.not_true, cf rfl]
    · rw [s3 f (by omega), Bool.not_false, ct rfl, zx (ji (by omega)), zx (jb (by omega)), zx (ji (by omega)), z98, List.set_set]
      exact zty hm hs hX (d - 1) F (f + 1) (by omega) (by omega)
theorem zw0 (hm : MOk m) (hN : 200 ≤ N) : ah N m (allR m) N 0 (mk (m.rows.length : Int) (0 : Int)) = some (knV m) := by
  have hr := hm.r2
  refine xh (fun F k X => ah N m (allR m) F (k : Int) X) m.rows.length (fun k X => X = ((List.range k).map fun s => (kn1 m s : Int)) ++ List.replicate (m.rows.length - k) 0) _ (fun F k X hk hi => .inr ⟨_, rfl, ?_⟩) (fun F X hi => ?_) N 0 _ (Nat.zero_le _) (by omega) rfl
  · subst hi
    have hl : ((List.range k).map fun s => (kn1 m s : Int)).length = k := by simp
    have hX : (((List.range k).map fun s => (kn1 m s : Int)) ++ List.replicate (m.rows.length - k) (0 : Int)).length = m.rows.length := by simp; omega
    have h0 : (((List.range k).map fun s => (kn1 m s : Int)) ++ List.replicate (m.rows.length - k) (0 : Int)).set k ((0 : Nat) : Int) = ((List.range k).map fun s => (kn1 m s : Int)) ++ List.replicate (m.rows.length - k) 0 := by
      rw [zf3 hl hk, show m.rows.length - k = (m.rows.length - (k + 1)) + 1 by omega, List.replicate_succ, List.append_assoc]; rfl
    obtain ⟨s1, s2, s3⟩ := z9y m hk
    have h3 := zty (N := N) hm hk hX (kn1 m k) N 0 (by omega) (by omega)
    rw [h0] at h3
    simp only [ah]
    rw [vz (by rw [z5a, List.length_replicate]; omega), qf h3, zx (jb (by omega)), zf3 hl hk, List.range_succ, List.map_append]
    rfl
  · subst hi
    simp only [ah]
    rw [vv (by rw [z5a, List.length_replicate]; omega), Nat.sub_self]
    simp [knV]
theorem zp4 (hm : MOk m) (hN : 200 ≤ N) : z5p N m = some (knV m) := by
  have hr := hm.r2
  unfold z5p
  rw [zx ⟨by omega, by omega, by omega⟩, qf (zwy hm hN), zx ⟨by omega, by omega, by omega⟩, qf (zw0 hm hN)]
theorem zx6 (hm : MOk m) (hN : 200 ≤ N) {s : Nat} (hs : s < m.rows.length) (h : kn1 m s = s) : ai N (knV m) (s : Int) N [] 0 = some (knotL m s) := by
  have hr := hm.r2
  refine xh (fun F k X => ai N (knV m) (s : Int) F X (k : Int)) m.rows.length (fun k X => X = ((List.range k).filter fun t => eqK m s t).map fun t : Nat => (t : Int)) _ (fun F k X hk hi => .inr ⟨_, rfl, ?_⟩) (fun F X hi => ?_) N 0 [] (Nat.zero_le _) (by omega) rfl
  · subst hi
    have hl := z6h (fun t => eqK m s t) k
    simp only [ai]
    rw [vz (by rw [zau]; omega), zx (ji (by rw [zau]; exact hk)), r9, znl hk, z2m]
    have hiff : ((kn1 m k : Int) = (s : Int)) ↔ eqK m s k = true := by
      rw [← zt2 hs hk, h]; omega
    by_cases e : eqK m s k = true
    · rw [vz (hiff.2 e), if_pos e, List.map_append, zx (show fits 8 _ ([(k : Int)] : List Int) from ⟨by rw [List.length_map, List.length_singleton]; omega, by rw [List.length_map, List.length_singleton]; omega⟩)]
      refine (qf rfl).trans ?_
      rw [zx (jb (by omega))]; rfl
    · rw [vv (fun q => e (hiff.1 q)), if_neg e, List.append_nil]
      refine (qf rfl).trans ?_
      rw [zx (jb (by omega))]; rfl
  · subst hi
    simp only [ai]
    rw [vv (by rw [zau]; omega)]; rfl
theorem zvy (hm : MOk m) (hN : 200 ≤ N) : aj N (knV m) N [] 0 = some (knotsL m) := by
  have hr := hm.r2
  refine xh (fun F k X => aj N (knV m) F X (k : Int)) m.rows.length (fun k X => X = ((List.range k).filter fun s => decide (kn1 m s = s)).map (knotL m)) _ (fun F k X hk hi => .inr ⟨_, rfl, ?_⟩) (fun F X hi => ?_) N 0 [] (Nat.zero_le _) (by omega) rfl
  · subst hi
    have hl := z6h (fun s => decide (kn1 m s = s)) k
    have hk2 : (knotL m k).length ≤ m.rows.length := by unfold knotL; rw [List.length_map]; exact z6h _ _
    simp only [aj]
    rw [vz (by rw [zau]; omega), zx (ji (by rw [zau]; exact hk)), r9, znl hk, z2m]
    by_cases h : kn1 m k = k
    · rw [vv (by rw [h]; exact fun q => q rfl), decide_eq_true h, if_pos rfl, List.map_append, qf (zx6 hm hN hk h)]
      have hclip : ig N (knotL m k) = some (knotL m k) := by
        unfold ig
        rw [zx ⟨by omega, by omega, by omega⟩, zir]
      rw [qf hclip, zx (show fits 24 _ ([knotL m k] : List (List Int)) from ⟨by rw [List.length_map, List.length_singleton]; omega, by rw [List.length_map, List.length_singleton]; omega⟩)]
      refine (qf rfl).trans ?_
      rw [zx (jb (by omega))]; rfl
    · rw [vz (by omega), decide_eq_false h, if_neg (by decide), List.append_nil]
      refine (qf rfl).trans ?_
      rw [zx (jb (by omega))]; rfl
  · subst hi
    simp only [aj]
    rw [vv (by rw [zau]; omega)]; rfl
theorem zml : (knotsL m).length ≤ m.rows.length := by unfold knotsL; rw [List.length_map]; exact z6h _ _
theorem zp3 (hm : MOk m) (hN : 200 ≤ N) (hc : z3u N m = some 0) : z5q N m = some (knotsL m, 0) := by
  have hr := hm.r2
  have hl := zml (m := m)
  have hclip : z1a N (knotsL m) = some (knotsL m) := by
    unfold z1a
    rw [zx ⟨by omega, by omega, by omega⟩, zir]
  unfold z5q
  rw [qf hc, vv (by decide), qf (zp4 hm hN), qf (zvy hm hN), qf hclip]
end k
end GV
end Go.Proofs.Ytplgbkaollfmkaa
