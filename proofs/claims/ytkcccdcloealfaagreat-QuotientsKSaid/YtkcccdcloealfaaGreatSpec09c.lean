import Derived.Test.YtkcccdcloealfaaGreatSpec09b
import Derived.Test.YtkcccdcloealfaaGreatSpec04b
set_option linter.unusedVariables false
set_option linter.unusedSimpArgs false
namespace Go.Proofs.YtkcccdcloealfaaGreat
namespace GV
set_option maxRecDepth 100000
theorem zhg {m : Mach} (hm : MOk m) {t : Nat} : Reach m 0 t ↔ occ (rch m 0) t = true := by
  have hP := z6r hm
  constructor
  · intro h
    induction h with
    | refl => exact z15.2 ⟨0, hP.pos, by rw [hP.root]⟩
    | step h1 h2 h3 h4 ih =>
      rename_i t i
      obtain ⟨q, hq, rfl⟩ := z15.1 ih
      have hr := hm.row _ h2
      have hne : ed m ((rch m 0).getD q default).st i ≠ -1 := by show ((m.rows.getD ((rch m 0).getD q default).st default).getD i default).to ≠ -1; omega
      obtain ⟨j, hj, hst, _⟩ := hP.cls q i hq (by omega) hne
      refine z15.2 ⟨j, hj, ?_⟩
      have : ed m ((rch m 0).getD q default).st i = ((m.rows.getD ((rch m 0).getD q default).st default).getD i default).to := rfl
      omega
  · intro h
    obtain ⟨j, hj, rfl⟩ := z15.1 h
    clear h
    have key : ∀ n j, j ≤ n → j < (rch m 0).length → Reach m 0 ((rch m 0).getD j default).st := by
      intro n
      induction n with
      | zero =>
        intro j hj hjl
        obtain rfl : j = 0 := by omega
        rw [hP.root]; exact .refl
      | succ n ih =>
        intro j hj hjl
        by_cases h0 : j = 0
        · exact ih j (by omega) hjl
        · obtain ⟨q, i, hq, hi, _, _, _, hed⟩ := hP.par j (by omega) hjl
          have hr := ih q (by omega) (by omega)
          have hrl := hm.row _ (hP.rng q (by omega))
          have he : ((m.rows.getD ((rch m 0).getD q default).st default).getD i default).to = (((rch m 0).getD j default).st : Int) := hed
          have := Reach.step (i := i) hr (hP.rng q (by omega)) (by omega) (by rw [he]; omega)
          rw [he, Int.toNat_natCast] at this
          exact this
    exact key j j (Nat.le_refl _) hj
theorem zqe {m : Mach} (hm : MOk m) : reachL m 0 = lq m.rows.length (rch m 0) := by
  refine l6 (by rw [z8a, z1n]) fun k hk => ?_
  rw [z8a] at hk
  rw [Bool.eq_iff_iff, z7s hk, z6d hk]
  exact zhg hm
/-! ### First ones -/
def fsS (m : Mach) : List Nat := (z1r (z2d (cls m) (rch m 0)) (rch m 0).length).map fun j => ((rch m 0).getD j default).st
section
variable {N : Nat} {m : Mach}
theorem zsk : (fsS m).length = cntF (z2d (cls m) (rch m 0)) (rch m 0).length := by unfold fsS; rw [List.length_map, z3a]
theorem zsl (hm : MOk m) : z08 m = (fsS m).map (cls m) := by
  unfold z08 fsS z2y
  rw [q3h hm, List.map_map]
  unfold zb3
  rw [List.map_map]
  rfl
theorem za5 (hm : MOk m) : (z08 m).length = (fsS m).length := by rw [zsl hm, List.length_map]
theorem zjr (hm : MOk m) {c : Nat} (hc : c < (fsS m).length) : (z08 m).getD c 0 = cls m ((fsS m).getD c 0) := by
  rw [zsl hm]
  simp [List.getD_eq_getElem?_getD, hc]
theorem zif (hm : MOk m) {c : Nat} (hc : c < (fsS m).length) : (fsS m).getD c 0 < m.rows.length ∧ occ (rch m 0) ((fsS m).getD c 0) = true := by
  have hP := z6r hm
  have hc' := hc
  rw [zsk] at hc'
  obtain ⟨h1, _, _⟩ := z4u hc'
  have hg : (fsS m).getD c 0 = ((rch m 0).getD ((z1r (z2d (cls m) (rch m 0)) (rch m 0).length).getD c 0) default).st := by
    unfold fsS
    have h3 : c < (z1r (z2d (cls m) (rch m 0)) (rch m 0).length).length := by rw [z3a]; exact hc'
    simp [List.getD_eq_getElem?_getD, h3]
  rw [hg]
  exact ⟨hP.rng _ h1, z15.2 ⟨_, h1, rfl⟩⟩
theorem zr2 (hm : MOk m) : (fsS m).length ≤ m.rows.length := by
  rw [zsk]; exact Nat.le_trans (z88 _ _) (z6r hm).le
theorem zgl (hm : MOk m) : (z08 m).Nodup := zmy (zze hm)
theorem zil (hm : MOk m) (hN : 400 ≤ N) (h6 : m.rows.length ≤ 6) (h3 : m.inputs ≤ 3) : z05 N m = some (ry (fsS m)) := by
  have hP := z6r hm
  have hr2 := hm.r2
  have hle := hP.le
  have hcl : (z0o m).length = m.rows.length := z5g
  have hst := zdj (rch m 0)
  have key : ∀ j, j < (rch m 0).length → ix (z0o m) (ix (lu (rch m 0)) (j : Int)) = (z2d (cls m) (rch m 0) j : Int) := fun j hj => by
    rw [zdr hj]; exact z5h (hP.rng j hj)
  have hok : ∀ j, j < (rch m 0).length → okI (z0o m) (ix (lu (rch m 0)) (j : Int)) := fun j hj => by
    rw [zdr hj]; exact qo (by rw [hcl]; exact hP.rng j hj)
  have hL2 : ∀ j, j < (rch m 0).length → gu N (z0o m) (lu (rch m 0)) (j : Int) N 0 0 = some (if z1a (z2d (cls m) (rch m 0)) j = true then 0 else 1) := fun j hj => by
    refine ui (σ := Int) (fun F k st => gu N (z0o m) (lu (rch m 0)) (j : Int) F st (k : Int)) j
      (fun k st => st = if ∀ t, t < k → z2d (cls m) (rch m 0) t ≠ z2d (cls m) (rch m 0) j then 0 else 1) _ (fun F k st hk hq => .inr ?_) (fun F st hq => ?_) N 0 0 (Nat.zero_le _) (by omega) ?_
    · subst hq
      refine ⟨_, rfl, ?_⟩
      simp only [gu]
      rw [wu (by omega)]
      refine (zy (x := if ∀ t, t < k + 1 → z2d (cls m) (rch m 0) t ≠ z2d (cls m) (rch m 0) j then (0 : Int) else 1) ?_).trans ?_
      · rw [zq (qo (by omega)), zq (hok k (by omega)), zq (qo (by omega)), zq (hok j hj), key k (by omega), key j hj]
        by_cases e : z2d (cls m) (rch m 0) k = z2d (cls m) (rch m 0) j
        · rw [wu (by omega), if_neg (fun h => h k (by omega) e)]
        · rw [uo (by omega)]
          by_cases h : ∀ t, t < k → z2d (cls m) (rch m 0) t ≠ z2d (cls m) (rch m 0) j
          · rw [if_pos h, if_pos]
            intro t ht
            by_cases ht' : t = k
            · subst ht'; exact e
            · exact h t (by omega)
          · rw [if_neg h, if_neg]
            exact fun h' => h fun t ht => h' t (by omega)
      · rw [zq (qy (by omega))]; rfl
    · subst hq
      simp only [gu]
      rw [uo (by omega)]
      by_cases h : z1a (z2d (cls m) (rch m 0)) j = true
      · rw [if_pos h, if_pos (av.1 h)]
      · rw [if_neg h, if_neg fun h' => h (av.2 h')]
    · rw [if_pos (fun t ht => by omega)]
  have hL1 : gz N (z0o m) (lu (rch m 0)) N [] 0 = some (ry (fsS m)) := by
    refine ui (σ := List Int) (fun F k st => gz N (z0o m) (lu (rch m 0)) F st (k : Int)) (rch m 0).length
      (fun k st => st = ry ((z1r (z2d (cls m) (rch m 0)) k).map fun j => ((rch m 0).getD j default).st)) _ (fun F k st hk hq => .inr ?_) (fun F st hq => ?_) N 0 [] (Nat.zero_le _) (by omega) rfl
    · subst hq
      refine ⟨_, rfl, ?_⟩
      simp only [gz]
      rw [wu (by omega)]
      have hcn := z88 (z2d (cls m) (rch m 0)) k
      refine (zy (x := ry ((z1r (z2d (cls m) (rch m 0)) (k + 1)).map fun j => ((rch m 0).getD j default).st)) ?_).trans ?_
      · rw [zy (hL2 k hk), zb8]
        by_cases h : z1a (z2d (cls m) (rch m 0)) k = true
        · have hfl : (ry ((z1r (z2d (cls m) (rch m 0)) k).map fun j => ((rch m 0).getD j default).st)).length ≤ k := by
            rw [z11, List.length_map, z3a]; exact hcn
          rw [if_pos h, if_pos h, wu rfl, zq (qo (by omega)), zq ⟨by simp only [List.length_singleton]; omega, by simp only [List.length_singleton]; omega⟩, zdr hk]
          unfold ry
          rw [List.map_append, List.map_append]; rfl
        · rw [if_neg h, if_neg h, uo (by decide), List.append_nil]
      · rw [zq (qy (by omega))]; rfl
    · subst hq
      simp only [gz]
      rw [uo (by omega)]; rfl
  unfold z05
  rw [zy (zal hm (by omega)), zy (ztj hm hN h6 h3), zy hL1]
theorem zsj (hm : MOk m) (hN : 400 ≤ N) (h6 : m.rows.length ≤ 6) (h3 : m.inputs ≤ 3) : z0k N m = some (za2 m) := by
  have hr1 := hm.r1
  have hle := zr2 hm
  have hcl : (z0o m).length = m.rows.length := z5g
  have hfl : (ry (fsS m)).length = (fsS m).length := z11 _
  have hL2 : ∀ s, s < m.rows.length → ma N (z0o m) (ry (fsS m)) (lq m.rows.length (rch m 0)) (s : Int) N (-1) 0 = some (z95 m s) := fun s hs => by
    refine ui (σ := Int) (fun F k st => ma N (z0o m) (ry (fsS m)) (lq m.rows.length (rch m 0)) (s : Int) F st (k : Int)) (fsS m).length
      (fun k st => st = if occ (rch m 0) s = true ∧ cls m s ∈ (z08 m).take k then (((z08 m).idxOf (cls m s) : Nat) : Int) else -1) _ (fun F k st hk hq => .inr ?_) (fun F st hq => ?_) N 0 (-1) (Nat.zero_le _) (by omega) ?_
    · subst hq
      obtain ⟨f1, f2⟩ := zif hm hk
      have hko : k < (z08 m).length := by rw [za5 hm]; exact hk
      have hget := zjr hm hk
      have hsn : ix (lq m.rows.length (rch m 0)) (s : Int) = occ (rch m 0) s := z6d hs
      have hp : ix (ry (fsS m)) (k : Int) = (((fsS m).getD k 0 : Nat) : Int) := z5z hk
      have hc1 : ix (z0o m) (((fsS m).getD k 0 : Nat) : Int) = ((cls m ((fsS m).getD k 0) : Nat) : Int) := z5h f1
      have hc2 : ix (z0o m) (s : Int) = ((cls m s : Nat) : Int) := z5h hs
      have ht : (z08 m).take (k + 1) = (z08 m).take k ++ [cls m ((fsS m).getD k 0)] := by rw [← hget]; exact z5t _ k hko
      refine ⟨_, rfl, ?_⟩
      simp only [ma]
      rw [wu (by omega)]
      refine (zy (x := if occ (rch m 0) s = true ∧ cls m s ∈ (z08 m).take (k + 1) then (((z08 m).idxOf (cls m s) : Nat) : Int) else -1) ?_).trans ?_
      · rw [zq (qo (by rw [z1n]; exact hs)), zq (fun _ => qo (by omega)), hp, zq (fun _ => qo (by rw [hcl]; exact f1)), zq (fun _ => qo (by rw [hcl]; exact hs)), hsn, hc1, hc2, ht]
        cases ho : occ (rch m 0) s
        · rw [cf (by rw [Bool.false_and]), if_neg (fun h => by cases h.1), if_neg (fun h => by cases h.1)]
        · by_cases e : cls m ((fsS m).getD k 0) = cls m s
          · have hi : (z08 m).idxOf (cls m s) = k := by rw [← e, ← hget]; exact z4p (zgl hm) hko
            rw [ct (by rw [e]; simp), if_pos ⟨rfl, List.mem_append.2 (.inr (by rw [e]; exact List.mem_singleton.2 rfl))⟩, hi]
          · rw [cf (by rw [Bool.true_and]; exact decide_eq_false (by omega))]
            by_cases h : cls m s ∈ (z08 m).take k
            · rw [if_pos ⟨rfl, h⟩, if_pos ⟨rfl, List.mem_append.2 (.inl h)⟩]
            · rw [if_neg (fun h' => h h'.2), if_neg (fun h' => by
                rcases List.mem_append.1 h'.2 with h1 | h1
                · exact h h1
                · exact e (List.mem_singleton.1 h1).symm)]
      · rw [zq (qy (by omega))]; rfl
    · subst hq
      simp only [ma]
      rw [uo (by omega), ← za5 hm, List.take_length]
      unfold z95
      by_cases h : occ (rch m 0) s = true
      · rw [if_pos h, if_pos ⟨h, zfi hm h⟩]
      · rw [if_neg h, if_neg (fun h' => h h'.1)]
    · rw [if_neg (fun h => by simp at h)]
  have hL1 : ny N (z0o m) (ry (fsS m)) (lq m.rows.length (rch m 0)) N [] 0 = some (za2 m) := by
    refine ui (σ := List Int) (fun F k st => ny N (z0o m) (ry (fsS m)) (lq m.rows.length (rch m 0)) F st (k : Int)) m.rows.length
      (fun k st => st = (List.range k).map (z95 m)) _ (fun F k st hk hq => .inr ?_) (fun F st hq => ?_) N 0 [] (Nat.zero_le _) (by omega) rfl
    · subst hq
      refine ⟨_, rfl, ?_⟩
      simp only [ny]
      have hl : ((List.range k).map (z95 m)).length = k := by simp
      rw [wu (by rw [hcl]; omega), zy (hL2 k hk), zq ⟨by rw [hl]; simp only [List.length_singleton]; omega, by rw [hl]; simp only [List.length_singleton]; omega⟩, zq (qy (by omega)), z3y]
      rfl
    · subst hq
      simp only [ny]
      rw [uo (by rw [hcl]; omega)]; rfl
  unfold z0k
  rw [zy (zal hm (by omega)), zy (zil hm hN h6 h3)]
  refine (zy (show mq N m 0 = some (reachL m 0) from ziq hm (by omega) (a := 0) (by omega))).trans ?_
  rw [zqe hm, zy hL1]
theorem q2x (hm : MOk m) {s i : Nat} (h : occ (rch m 0) s = true) (hi : i < m.inputs.toNat) (hne : ed m s i ≠ -1) : occ (rch m 0) (ed m s i).toNat = true := by
  have hP := z6r hm
  obtain ⟨q, hq, rfl⟩ := z15.1 h
  obtain ⟨j, hj, hst, _⟩ := hP.cls q i hq hi hne
  exact z15.2 ⟨j, hj, by omega⟩
theorem zur (hm : MOk m) : (lv m).rows = (List.range (fsS m).length).map fun c => (List.range m.inputs.toNat).map fun i => (⟨if 0 ≤ ed m ((fsS m).getD c 0) i then z95 m (ed m ((fsS m).getD c 0) i).toNat else ed m ((fsS m).getD c 0) i, ou m ((fsS m).getD c 0) i⟩ : Edge) := by
  have hq := z7u hm
  show (z08 m).map (rowP (z13 m) (z08 m)) = _
  refine l6 (by simp [za5 hm]) fun c hc => ?_
  rw [List.length_map, za5 hm] at hc
  obtain ⟨f1, f2⟩ := zif hm hc
  have hcq := zjr hm hc
  have hlt := zci (m := m) f1
  obtain ⟨g1, g2⟩ := zn4 hm f1
  have hrl : (rowP (z13 m) (z08 m) (cls m ((fsS m).getD c 0))).length = m.inputs.toNat := z9p hq (by rw [zc5]; exact hlt)
  have e1 : ((z08 m).map (rowP (z13 m) (z08 m))).getD c default = rowP (z13 m) (z08 m) (cls m ((fsS m).getD c 0)) := by
    rw [← hcq]
    have : c < (z08 m).length := by rw [za5 hm]; exact hc
    simp [List.getD_eq_getElem?_getD, this]
  rw [e1, fe _ hc]
  refine l6 (by rw [hrl]; simp) fun i hi => ?_
  rw [hrl] at hi
  rw [fe _ hi, z8r hq (by rw [zc5]; exact hlt) hi]
  obtain ⟨q1, q2⟩ := zmn hm hlt hi
  obtain ⟨k1, k2, k3⟩ := zix hm g1 f1 g2 hi
  have q2' : (((z13 m).rows.getD (cls m ((fsS m).getD c 0)) default).getD i default).out = ou m ((fsS m).getD c 0) i := q2.trans k1
  rw [q2', q1]
  congr 1
  rcases z4h hm f1 hi with h | ⟨h1, h2⟩
  · rw [k2.2 h, zjw, h, if_neg (by decide)]; rfl
  · have hne : ed m ((fsS m).getD c 0) i ≠ -1 := by omega
    have ho := q2x hm f2 hi hne
    rw [if_pos h1]
    unfold z95
    rw [if_pos ho]
    unfold hI
    rw [if_neg (fun h => hne (k2.1 h)), k3 (fun h => hne (k2.1 h)), z4v]
theorem znf (hm : MOk m) (hN : 400 ≤ N) (h6 : m.rows.length ≤ 6) (h3 : m.inputs ≤ 3) : dn N m = some (lv m) := by
  have hr1 := hm.r1; have hi1 := hm.i1
  have hle := zr2 hm
  have hfl : (ry (fsS m)).length = (fsS m).length := z11 _
  have hml := zcy (m := m)
  have hL2 : ∀ c, c < (fsS m).length → xn N m (ry (fsS m)) (za2 m) (c : Int) N [] 0 = some ((List.range m.inputs.toNat).map fun i => (⟨if 0 ≤ ed m ((fsS m).getD c 0) i then z95 m (ed m ((fsS m).getD c 0) i).toNat else ed m ((fsS m).getD c 0) i, ou m ((fsS m).getD c 0) i⟩ : Edge)) := fun c hc => by
    obtain ⟨f1, f2⟩ := zif hm hc
    have hrow := hm.row _ f1
    have hp : ix (ry (fsS m)) (c : Int) = (((fsS m).getD c 0 : Nat) : Int) := z5z hc
    refine ui (σ := List Edge) (fun F k st => xn N m (ry (fsS m)) (za2 m) (c : Int) F st (k : Int)) m.inputs.toNat
      (fun k st => st = (List.range k).map fun i => (⟨if 0 ≤ ed m ((fsS m).getD c 0) i then z95 m (ed m ((fsS m).getD c 0) i).toNat else ed m ((fsS m).getD c 0) i, ou m ((fsS m).getD c 0) i⟩ : Edge)) _ (fun F k st hk hq => .inr ?_) (fun F st hq => ?_) N 0 [] (Nat.zero_le _) (by omega) rfl
    · subst hq
      refine ⟨_, rfl, ?_⟩
      simp only [xn]
      have hrx : ix m.rows (((fsS m).getD c 0 : Nat) : Int) = m.rows.getD ((fsS m).getD c 0) default := rfl
      have hex : ix (m.rows.getD ((fsS m).getD c 0) default) (k : Int) = ⟨ed m ((fsS m).getD c 0) k, ou m ((fsS m).getD c 0) k⟩ := rfl
      rw [wu (by omega), zq (qo (by omega)), hp, zq (qo f1), hrx, zq (qo (by omega)), hex]
      refine (zy (x := if 0 ≤ ed m ((fsS m).getD c 0) k then z95 m (ed m ((fsS m).getD c 0) k).toNat else ed m ((fsS m).getD c 0) k) ?_).trans ?_
      · rcases z4h hm f1 hk with h | ⟨h1, h2⟩
        · rw [uo (by dsimp only; omega), if_neg (by omega)]
        · rw [wu h1, zq ⟨h1, by dsimp only; rw [hml]; exact h2⟩, if_pos h1]
          exact congrArg some (z8i (show (ed m ((fsS m).getD c 0) k).toNat < m.rows.length by omega))
      · rw [zq ⟨by simp; omega, by simp; omega⟩, zq (qy (by omega)), z3y]; rfl
    · subst hq
      simp only [xn]
      rw [uo (by omega)]
  have hL1 : xh N m (ry (fsS m)) (za2 m) N 0 [] = some (lv m).rows := by
    rw [zur hm]
    refine ui (σ := List (List Edge)) (fun F k st => xh N m (ry (fsS m)) (za2 m) F (k : Int) st) (fsS m).length
      (fun k st => st = (List.range k).map fun c => (List.range m.inputs.toNat).map fun i => (⟨if 0 ≤ ed m ((fsS m).getD c 0) i then z95 m (ed m ((fsS m).getD c 0) i).toNat else ed m ((fsS m).getD c 0) i, ou m ((fsS m).getD c 0) i⟩ : Edge)) _ (fun F k st hk hq => .inr ?_) (fun F st hq => ?_) N 0 [] (Nat.zero_le _) (by omega) rfl
    · subst hq
      refine ⟨_, rfl, ?_⟩
      simp only [xh]
      rw [wu (by omega), zy (hL2 k hk), zq ⟨by simp; omega, by simp; omega⟩, zq (qy (by omega)), z3y]; rfl
    · subst hq
      simp only [xh]
      rw [uo (by omega)]
  unfold dn
  rw [zy (zil hm hN h6 h3), zy (zsj hm hN h6 h3), zy hL1]
  rfl
end
end GV
end Go.Proofs.YtkcccdcloealfaaGreat
