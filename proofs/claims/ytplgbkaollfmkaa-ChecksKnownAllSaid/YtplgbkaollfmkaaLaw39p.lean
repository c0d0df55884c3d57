import Derived.Test.YtplgbkaollfmkaaLaw39g
set_option linter.unusedVariables false
set_option linter.unusedSimpArgs false
namespace Go.Proofs.Ytplgbkaollfmkaa
namespace GV
set_option maxRecDepth 100000
theorem znv {κ β : Type} [DecidableEq κ] (z : β) (M : List (κ × β)) (k : κ) (v : β) (j : κ) : z0w z (z2u M k v) j = if j = k then v else z0w z M j := by
  induction M with
  | nil => simp only [z2u, z0w]
  | cons p l ih =>
    by_cases h : k = p.1
    · have e0 : z2u (p :: l) k v = (k, v) :: l := by rw [z2u, if_pos h]
      rw [e0]
      simp only [z0w]
      by_cases e : j = k
      · rw [if_pos e, if_pos e]
      · rw [if_neg e, if_neg e, if_neg (fun q => e (q.trans h.symm))]
    · have e0 : z2u (p :: l) k v = p :: z2u l k v := by rw [z2u, if_neg h]
      rw [e0]
      simp only [z0w, ih]
      by_cases e : j = p.1
      · rw [if_pos e, if_pos e, if_neg (fun h2 => h (h2.symm.trans e))]
      · rw [if_neg e, if_neg e]
def z9m (m : Mach) (d w : List Int) (s : Int) : Prop := ∃ k, k < w.length + 1 ∧ xe m 0 (w.take k) = s ∧ idB d w k = true
def z5x (m : Mach) (d w : List Int) (s i : Int) : Prop := ∃ k, k < w.length ∧ xe m 0 (w.take k) = s ∧ w.getD k default = i ∧ z8p m d w k ∧ z8p m d w (k + 1)
open Classical in
noncomputable def missS (m : Mach) (d w : List Int) (k : Nat) : List Int := ((List.range k).filter fun s : Nat => decide (¬ z9m m d w (s : Int))).map fun s : Nat => (s : Int)
open Classical in
noncomputable def missR (m : Mach) (d w : List Int) (s k : Nat) : List (Int × Int) := ((List.range k).filter fun i : Nat => decide (¬ z5x m d w (s : Int) (i : Int))).map fun i : Nat => ((s : Int), (i : Int))
noncomputable def missE (m : Mach) (d w : List Int) (k : Nat) : List (Int × Int) := (List.range k).flatMap fun s => missR m d w s m.inputs.toNat
open Classical in
noncomputable def verR (m : Mach) (d w : List Int) : Schecks_Report := ⟨decide (z8p m d w 0), missS m d w m.rows.length, missE m d w m.rows.length⟩
open Classical in
theorem zbz {m : Mach} {d w : List Int} {k : Nat} : missS m d w (k + 1) = missS m d w k ++ (if z9m m d w (k : Int) then [] else [(k : Int)]) := by
  unfold missS
  rw [List.range_succ, List.filter_append, List.map_append]
  by_cases h : z9m m d w (k : Int)
  · rw [if_pos h, List.filter_cons_of_neg (by rw [decide_eq_true_iff]; exact fun e => e h)]; rfl
  · rw [if_neg h, List.filter_cons_of_pos (p := fun s : Nat => decide (¬ z9m m d w (s : Int))) (a := k) (decide_eq_true h)]; rfl
open Classical in
theorem zc8 {m : Mach} {d w : List Int} {s k : Nat} : missR m d w s (k + 1) = missR m d w s k ++ (if z5x m d w (s : Int) (k : Int) then [] else [((s : Int), (k : Int))]) := by
  unfold missR
  rw [List.range_succ, List.filter_append, List.map_append]
  by_cases h : z5x m d w (s : Int) (k : Int)
  · rw [if_pos h, List.filter_cons_of_neg (by rw [decide_eq_true_iff]; exact fun e => e h)]; rfl
  · rw [if_neg h, List.filter_cons_of_pos (p := fun i : Nat => decide (¬ z5x m d w (s : Int) (i : Int))) (a := k) (decide_eq_true h)]; rfl
theorem z8s {m : Mach} {d w : List Int} {k : Nat} : missE m d w (k + 1) = missE m d w k ++ missR m d w k m.inputs.toNat := by
  unfold missE
  rw [List.range_succ, List.flatMap_append]; simp
theorem zkm {m : Mach} {d w : List Int} {k : Nat} : (missS m d w k).length ≤ k := by
  unfold missS
  rw [List.length_map]
  exact Nat.le_trans (List.length_filter_le _ _) (Nat.le_of_eq List.length_range)
theorem zec {m : Mach} {d w : List Int} {s k : Nat} : (missR m d w s k).length ≤ k := by
  unfold missR
  rw [List.length_map]
  exact Nat.le_trans (List.length_filter_le _ _) (Nat.le_of_eq List.length_range)
theorem zeo {m : Mach} {d w : List Int} : ∀ k, (missE m d w k).length ≤ k * m.inputs.toNat
  | 0 => by simp [missE]
  | k + 1 => by
    have h1 := zeo (m := m) (d := d) (w := w) k
    have h2 := zec (m := m) (d := d) (w := w) (s := k) (k := m.inputs.toNat)
    rw [z8s, List.length_append, Nat.succ_mul]; omega
theorem z8n {P : Nat → Prop} {k : Nat} : (∃ j, j < k + 1 ∧ P j) ↔ (∃ j, j < k ∧ P j) ∨ P k := by
  constructor
  · rintro ⟨j, h, p⟩
    by_cases e : j = k
    · subst e; exact .inr p
    · exact .inl ⟨j, by omega, p⟩
  · rintro (⟨j, h, p⟩ | p)
    · exact ⟨j, by omega, p⟩
    · exact ⟨k, by omega, p⟩
theorem zkc {X : List Bool} {s k : Nat} {b : Bool} (hk : k < X.length) : (X.set s b).getD k default = if s = k then b else X.getD k default := by
  rw [List.getD_eq_getElem?_getD, List.getD_eq_getElem?_getD]
  by_cases h : s = k
  · subst h
    rw [List.getElem?_set_self hk, if_pos rfl]; rfl
  · rw [List.getElem?_set_ne h, if_neg h]
theorem zl6 {N : Nat} {m : Mach} {d w : List Int} (hm : MOk m) (hc : ig m = true) (hok : WOk m.inputs w) (hl : w.length ≤ 1024) (hN : 1100 ≤ N) :
    ∃ r, yz N w (some ⟨m, w, atL m w, idL d w, knL m d w⟩, 0) N 0 (mk (m.rows.length : Int) false) [] = some r ∧ r.1 = ⟨m, w, atL m w, idL d w, knL m d w⟩ ∧ r.2.1.length = m.rows.length ∧ (∀ s, s < m.rows.length → (r.2.1.getD s default = true ↔ z9m m d w (s : Int))) ∧ ∀ s i : Int, z0w false r.2.2 (s, i) = true ↔ z5x m d w s i := by
  have hid : (idL d w).length = w.length + 1 := zbk
  have hat : (atL m w).length = w.length + 1 := zbm
  have hkn : (knL m d w).length = w.length + 1 := zf5
  refine z0r (σ := List Bool × List ((Int × Int) × Bool)) (fun F k x => yz N w (some ⟨m, w, atL m w, idL d w, knL m d w⟩, 0) F (k : Int) x.1 x.2) (w.length + 1)
    (fun k x => x.1.length = m.rows.length ∧ (∀ s, s < m.rows.length → (x.1.getD s default = true ↔ ∃ j, j < k ∧ xe m 0 (w.take j) = (s : Int) ∧ idB d w j = true)) ∧
      ∀ s i : Int, z0w false x.2 (s, i) = true ↔ ∃ j, j < k ∧ j < w.length ∧ xe m 0 (w.take j) = s ∧ w.getD j default = i ∧ z8p m d w j ∧ z8p m d w (j + 1))
    _ (fun F k x hk hi => .inr ?_) (fun F x hi => ?_) N 0 (_, _) (Nat.zero_le _) (by omega) ⟨by simp [mk], fun s hs => ?_, fun s i => ?_⟩
  · obtain ⟨X, V⟩ := x
    obtain ⟨h1, h2, h3⟩ := hi
    dsimp only at h1 h2 h3
    obtain ⟨a1, a2⟩ := zne hm hc hok k
    have hx1 : ix (atL m w) (k : Int) = xe m 0 (w.take k) := zfb hk
    have hx2 : ix (idL d w) (k : Int) = idB d w k := za0 hk
    obtain ⟨s, hs⟩ : ∃ s : Nat, xe m 0 (w.take k) = (s : Int) := ⟨(xe m 0 (w.take k)).toNat, by omega⟩
    rw [hs] at hx1 a1 a2
    have o1 : okI (atL m w) (k : Int) := ji (by omega)
    have o2 : okI X (s : Int) := ji (by omega)
    have o3 : okI (idL d w) (k : Int) := ji (by omega)
    have o4 : okI (knL m d w) (k : Int) := ji (by omega)
    have hb : (((decide ((k : Int) < (w.length : Int))) && (ix (knL m d w) (k : Int))) && (ix (knL m d w) ((k : Int) + 1))) = true ↔ (k < w.length ∧ z8p m d w k ∧ z8p m d w (k + 1)) := by
      rw [Bool.and_eq_true, Bool.and_eq_true, decide_eq_true_iff]
      constructor
      · rintro ⟨⟨q1, q2⟩, q3⟩
        exact ⟨by omega, (z7e (by omega)).1 q2, (z7e (by omega)).1 q3⟩
      · rintro ⟨q1, q2, q3⟩
        exact ⟨⟨by omega, (z7e (by omega)).2 q2⟩, (z7e (by omega)).2 q3⟩
    have o2' : okI X (ix (atL m w) (k : Int)) := by rw [hx1]; exact o2
    have hX' : ∀ t, t < m.rows.length → ((up X (ix (atL m w) (k : Int)) ((ix X (ix (atL m w) (k : Int))) || (ix (idL d w) (k : Int)))).getD t default = true ↔ ∃ j, j < k + 1 ∧ xe m 0 (w.take j) = (t : Int) ∧ idB d w j = true) := fun t ht => by
      rw [hx1, hx2, z1t, zkc (show t < X.length by omega), z8n, su]
      by_cases e : s = t
      · subst e
        rw [if_pos rfl, Bool.or_eq_true]
        exact or_congr (h2 s ht) ⟨fun q => ⟨hs, q⟩, fun q => q.2⟩
      · rw [if_neg e]
        refine (h2 t ht).trans ⟨.inl, fun q => q.elim id fun q => absurd (hs.symm.trans q.1) (by omega)⟩
    have hXl : (up X (ix (atL m w) (k : Int)) ((ix X (ix (atL m w) (k : Int))) || (ix (idL d w) (k : Int)))).length = m.rows.length := by rw [hx1, z1t, List.length_set]; exact h1
    have hlt : ∀ b : Bool, ((true && (((decide ((k : Int) < (w.length : Int))) && b) == true)) = true → k < w.length) := fun b e => by
      by_cases q : (k : Int) < (w.length : Int)
      · omega
      · rw [decide_eq_false q] at e; exact absurd e (by cases b <;> decide)
    by_cases hv : k < w.length ∧ z8p m d w k ∧ z8p m d w (k + 1)
    · refine ⟨(up X (ix (atL m w) (k : Int)) ((ix X (ix (atL m w) (k : Int))) || (ix (idL d w) (k : Int))), z2u V (((ix (atL m w) (k : Int)), (ix w (k : Int))) : (Int × Int)) true), ⟨hXl, hX', fun t i => ?_⟩, ?_⟩
      · rw [znv, z8n]
        by_cases e : ((t, i) : Int × Int) = (ix (atL m w) (k : Int), ix w (k : Int))
        · rw [if_pos e]
          obtain ⟨rfl, rfl⟩ := Prod.mk.inj e
          exact ⟨fun _ => .inr ⟨hv.1, hs.trans hx1.symm, rfl, hv.2⟩, fun _ => rfl⟩
        · rw [if_neg e]
          refine (h3 t i).trans ⟨.inl, fun q => q.elim id fun q => absurd ?_ e⟩
          rw [← q.2.1, ← q.2.2.1, hs, hx1]; rfl
      · simp only [yz]
        refine (mr (show (k : Int) < ((atL m w).length : Int) by omega)).trans ?_
        refine (qh (x := (up X (ix (atL m w) (k : Int)) ((ix X (ix (atL m w) (k : Int))) || (ix (idL d w) (k : Int))), z2u V (((ix (atL m w) (k : Int)), (ix w (k : Int))) : (Int × Int)) true)) ?_).trans (zu (jb (by omega)))
        refine (zu o1).trans ((zu o2').trans ((zu (fun _ => o3)).trans ((zu o2').trans ((zu (fun _ => o4)).trans ((zu (fun _ => jb (by omega))).trans ((zu (fun e => (show okI (knL m d w) ((k : Int) + 1) from ⟨by omega, by have := hlt _ e; omega⟩))).trans ?_))))))
        refine (ct (hb.2 hv)).trans ?_
        exact zu (ji hv.1)
    · refine ⟨(up X (ix (atL m w) (k : Int)) ((ix X (ix (atL m w) (k : Int))) || (ix (idL d w) (k : Int))), V), ⟨hXl, hX', fun t i => ?_⟩, ?_⟩
      · rw [z8n]
        exact (h3 t i).trans ⟨.inl, fun q => q.elim id fun q => absurd ⟨q.1, q.2.2.2⟩ hv⟩
      · simp only [yz]
        refine (mr (show (k : Int) < ((atL m w).length : Int) by omega)).trans ?_
        refine (qh (x := (up X (ix (atL m w) (k : Int)) ((ix X (ix (atL m w) (k : Int))) || (ix (idL d w) (k : Int))), V)) ?_).trans (zu (jb (by omega)))
        refine (zu o1).trans ((zu o2').trans ((zu (fun _ => o3)).trans ((zu o2').trans ((zu (fun _ => o4)).trans ((zu (fun _ => jb (by omega))).trans ((zu (fun e => (show okI (knL m d w) ((k : Int) + 1) from ⟨by omega, by have := hlt _ e; omega⟩))).trans ?_))))))
        exact cf (Bool.eq_false_iff.2 fun e => hv (hb.1 e))
  · obtain ⟨X, V⟩ := x
    obtain ⟨h1, h2, h3⟩ := hi
    simp only [yz]
    refine ⟨_, (p9 (show ¬ ((w.length + 1 : Nat) : Int) < ((atL m w).length : Int) by omega)).trans rfl, rfl, h1, h2, fun s i => (h3 s i).trans ⟨fun ⟨j, _, q⟩ => ⟨j, q⟩, fun ⟨j, q⟩ => ⟨j, by omega, q⟩⟩⟩
  · constructor
    · intro e
      replace e : (List.replicate m.rows.length false).getD s default = true := e
      rw [List.getD_eq_getElem?_getD, List.getElem?_replicate, if_pos hs] at e
      exact absurd e (by decide)
    · rintro ⟨j, hj, _⟩; omega
  · constructor
    · intro e; exact absurd e (by simp [z0w])
    · rintro ⟨j, hj, _⟩; omega
theorem zkw {N : Nat} {m : Mach} {d w : List Int} {o : Schecks_track × List Bool × List ((Int × Int) × Bool)} {Y : List Int} {E : List (Int × Int)} {s : Nat} (hm : MOk m) (hV : ∀ s i : Int, z0w false o.2.2 (s, i) = true ↔ z5x m d w s i) (hE : E.length ≤ 100000) (hN : 1100 ≤ N) :
    xz N m o (s : Int) Y N 0 E = some (Y, E ++ missR m d w s m.inputs.toNat) := by
  have hi1 := hm.i1; have hi2 := hm.i2
  refine bq (σ := List (Int × Int)) (fun F i X => xz N m o (s : Int) Y F (i : Int) X) m.inputs.toNat (fun i X => X = E ++ missR m d w s i) _ (fun F i X hi hx => .inr ?_) (fun F X hx => ?_) N 0 E (Nat.zero_le _) (by omega) (by simp [missR])
  · subst hx
    refine ⟨_, rfl, ?_⟩
    have hln := zec (m := m) (d := d) (w := w) (s := s) (k := i)
    have hf : fits 16 (E ++ missR m d w s i) ([((s : Int), (i : Int))] : List (Int × Int)) := ⟨by rw [List.length_append, List.length_singleton]; omega, by rw [List.length_append, List.length_singleton]; omega⟩
    simp only [xz]
    rw [mr (by omega)]
    refine (qh (x := E ++ missR m d w s (i + 1)) ?_).trans (zu (jb (by omega)))
    rw [zc8, ← List.append_assoc]
    by_cases h : z5x m d w (s : Int) (i : Int)
    · rw [if_pos h, (hV _ _).2 h, List.append_nil]; exact cf rfl
    · rw [if_neg h, Bool.eq_false_iff.2 (fun e => h ((hV _ _).1 e))]
      exact (ct rfl).trans (zu hf)
  · subst hx
    simp only [xz]
    rw [p9 (by omega)]
theorem zlk {N : Nat} {m : Mach} {d w : List Int} {o : Schecks_track × List Bool × List ((Int × Int) × Bool)} (hm : MOk m) (hl : o.2.1.length = m.rows.length) (hS : ∀ s, s < m.rows.length → (o.2.1.getD s default = true ↔ z9m m d w (s : Int))) (hV : ∀ s i : Int, z0w false o.2.2 (s, i) = true ↔ z5x m d w s i) (hN : 1100 ≤ N) :
    gp N m o N 0 [] [] = some (missS m d w m.rows.length, missE m d w m.rows.length) := by
  have hi1 := hm.i1; have hi2 := hm.i2; have hr := hm.r2
  refine bq (σ := List Int × List (Int × Int)) (fun F s x => gp N m o F (s : Int) x.1 x.2) m.rows.length (fun s x => x = (missS m d w s, missE m d w s)) _ (fun F s x hs hx => .inr ?_) (fun F x hx => ?_) N 0 ([], []) (Nat.zero_le _) (by omega) rfl
  · subst hx
    refine ⟨_, rfl, ?_⟩
    have hln := zkm (m := m) (d := d) (w := w) (k := s)
    have hle := zeo (m := m) (d := d) (w := w) s
    have hle2 : s * m.inputs.toNat ≤ 64 * 16 := Nat.mul_le_mul (by omega) (by omega)
    have hf : fits 8 (missS m d w s) ([(s : Int)] : List Int) := ⟨by rw [List.length_singleton]; omega, by rw [List.length_singleton]; omega⟩
    simp only [gp]
    rw [mr (by omega)]
    refine (qh (x := (missS m d w (s + 1), missE m d w (s + 1))) ?_).trans (zu (jb (by omega)))
    refine (qh (x := missS m d w (s + 1)) ?_).trans ?_
    · rw [zu (ji (by omega)), su, zbz]
      by_cases h : z9m m d w (s : Int)
      · rw [if_pos h, (hS s hs).2 h, List.append_nil]; exact cf rfl
      · rw [if_neg h, Bool.eq_false_iff.2 (fun e => h ((hS s hs).1 e))]
        exact (ct rfl).trans (zu hf)
    · rw [z8s]
      exact zkw hm hV (by omega) hN
  · subst hx
    simp only [gp]
    rw [p9 (by omega)]
open Classical in
theorem zgz {N : Nat} {m : Mach} {d w : List Int} (hm : MOk m) (hc : ig m = true) (h0 : canI m d = 0) (hd : d.length ≤ 256) (hw : z4w m w = 0) (hN : 1100 ≤ N) :
    xx N m d w = some (verR m d w, 0) := by
  obtain ⟨hl, hok⟩ := zjx hw
  have hr := hm.r2
  unfold xx
  refine (qh (follow_eq hm hc h0 hd hw hN)).trans ?_
  refine (p9 (fun h => h rfl)).trans ?_
  refine (zu ⟨by omega, by omega, by omega⟩).trans ?_
  obtain ⟨⟨t, X, V⟩, e, e1, e2, e3, e4⟩ := zl6 (N := N) (d := d) hm hc hok hl hN
  dsimp only at e1 e2 e3 e4
  subst e1
  refine (qh ((zu rfl).trans e)).trans ?_
  have hkn : (knL m d w).length = w.length + 1 := zf5
  refine (zu (show okI (knL m d w) 0 from ⟨by omega, by omega⟩)).trans ?_
  refine (qh (zlk (d := d) (w := w) hm e2 e3 e4 hN)).trans ?_
  have c1 : ∀ X : List Int, xy N X = some X := fun X => by
    unfold xy
    rw [zu (zbs _), z7g]
  have c2 : ∀ X : List (Int × Int), p8 N X = some X := fun X => by
    unfold p8
    rw [zu (zbs _), z7g]
  refine (qh (c1 _)).trans ?_
  refine (qh (c2 _)).trans ?_
  have hk0 : ix (knL m d w) 0 = decide (z8p m d w 0) := Bool.eq_iff_iff.2 ((z7e (by omega)).trans decide_eq_true_iff.symm)
  unfold verR
  dsimp only
  rw [hk0]
end GV
end Go.Proofs.Ytplgbkaollfmkaa
