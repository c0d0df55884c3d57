import Derived.Test.YtplgbkaollfmkaaSpec06a
set_option linter.unusedVariables false
set_option linter.unusedSimpArgs false
namespace Go.Proofs.Ytplgbkaollfmkaa
namespace GV
set_option maxRecDepth 100000
theorem z9y {m : Mach} {k i : Nat} (hi : i < m.inputs.toNat) : z2y m (k * m.inputs.toNat + i) = (m.rows.getD k default).getD i default := by
  unfold z2y; rw [zet hi, ze2 hi]
theorem zir {N : Nat} {m : Mach} (hm : MOk m) (hN : 200 ≤ N) {σ : Type} (B : ((Int × Int) × Edge) → σ → Option (Bool × σ)) (f : Nat → σ)
    (hB : ∀ k i, k < m.rows.length → i < m.inputs.toNat → B (((k : Int), (i : Int)), (m.rows.getD k default).getD i default) (f (k * m.inputs.toNat + i)) = some (true, f (k * m.inputs.toNat + i + 1))) :
    ru N m σ B (f 0) = some (f (m.rows.length * m.inputs.toNat)) := by
  have hr := hm.r2; have hi1 := hm.i1; have hi2 := hm.i2
  unfold ru
  refine bq (fun F k s => xc N σ B m F s (k : Int)) m.rows.length (fun k s => s = f (k * m.inputs.toNat)) _ (fun F k s hk hi => .inr ?_) (fun F s hi => ?_) N 0 (f 0) (Nat.zero_le _) (by omega) (by simp)
  · subst hi
    refine ⟨f ((k + 1) * m.inputs.toNat), rfl, ?_⟩
    have hlen : ((ix m.rows (k : Int)).length : Int) = m.inputs := hm.row k hk
    have hL : yg N σ B m (k : Int) N (f (k * m.inputs.toNat)) 0 = some (Ex.go (f ((k + 1) * m.inputs.toNat))) := by
      refine bq (fun F i s => yg N σ B m (k : Int) F s (i : Int)) m.inputs.toNat (fun i s => s = f (k * m.inputs.toNat + i)) _ (fun F i s hi hs => .inr ?_) (fun F s hs => ?_) N 0 _ (Nat.zero_le _) (by omega) (by simp)
      · subst hs
        refine ⟨_, rfl, ?_⟩
        simp only [yg]
        rw [mr (by omega), zu (ji (by omega))]
        refine Eq.trans (qh (hB k i hk hi)) ?_
        refine Eq.trans (cf rfl) ?_
        rw [zu (jb (by omega))]; rfl
      · subst hs
        simp only [yg]
        rw [p9 (by omega), Nat.succ_mul]
    simp only [xc]
    rw [mr (by omega), zu (ji hk), qh hL, zm5, zu (jb (by omega))]; rfl
  · subst hi
    simp only [xc]
    rw [p9 (by omega)]
theorem zom {N : Nat} {m : Mach} (hm : MOk m) (hN : 200 ≤ N) : av N m = some (zfo m) := by
  unfold av
  rw [show z1l N m = some m from rfl, zlw]
  have hmul := hm.mul.1
  have h := zir hm hN (fun (y20 : (Int × Int) × Edge) (x21 : List (Int × Int)) =>
    bd (eu N) fun y44 =>
    bif decide (y20.2.to = y44.to ∧ y20.2.out = y44.out) then (
    gd (fits 16 x21 ([((y20.1.1, y20.1.2) : (Int × Int))] : List (Int × Int))) <|
    some (true, (x21 ++ ([((y20.1.1, y20.1.2) : (Int × Int))] : List (Int × Int))))) else (
    some (true, x21))) (z1u m) (fun k i hk hi => by
      have hlt := zoe hk hi
      have hle := zk4 m (k * m.inputs.toNat + i)
      rw [show eu N = some ⟨-1, -1⟩ from rfl, zlw, zaz, z9y hi, zet hi, ze2 hi]
      by_cases he : ((m.rows.getD k default).getD i default).to = -1 ∧ ((m.rows.getD k default).getD i default).out = -1
      · rw [mr he, if_pos he, zu ⟨by simp; omega, by simp; omega⟩]
      · rw [p9 he, if_neg he, List.append_nil])
  rw [zh2] at h
  rw [qh h]
  unfold p8
  rw [zu (zbs _), zlw, z7g]; rfl
theorem zhb {N : Nat} {m : Mach} (hs : Small m) (hN : 200 ≤ N) : si N m = some (zfj m, ni m) := by
  unfold si zfj
  rw [qh (z9t hs hN)]
  by_cases h : ni m ≠ 0
  · rw [mr h, if_pos h]
  · rw [p9 h, if_neg h]
    have hm : MOk m := (o8 m).1 (by simpa using h)
    rw [qh (zom hm hN), show ni m = 0 by simpa using h]
theorem indexB {N : Nat} {s : List Bool} (hN : s.length < N) (hl : s.length ≤ 4611686018427387904) : ik N s false = some (zb4 (fun x => decide (false = x)) s) := by
  have h : vw N s false N 0 = some (if (s.any fun x => decide (false = x)) = true then Ex.rt (zb4 (fun x => decide (false = x)) s) else Ex.go ()) := by
    refine bq (σ := Unit) (fun F k _ => vw N s false F (k : Int)) s.length (fun k _ => ((s.take k).any fun x => decide (false = x)) = false) _ (fun F k _ hk hi => ?_) (fun F _ hi => ?_) N 0 () (Nat.zero_le _) (by omega) (by simp)
    · simp only [vw]
      rw [mr (by omega), zu (ji hk), su]
      cases hp : decide (false = s.getD k default)
      · right
        refine ⟨(), by rw [z6g (fun x => decide (false = x)) s k hk, hi, hp]; rfl, ?_⟩
        rw [cf rfl, zu (jb (by omega))]; rfl
      · left
        rw [ct rfl, if_pos (List.any_eq_true.2 ⟨_, l5 hk, hp⟩), z8i (fun x => decide (false = x)) s k hk hi hp]
    · simp only [vw]
      rw [p9 (by omega), if_neg (by rw [List.take_length] at hi; rw [hi]; decide)]
  unfold ik
  rw [qh h]
  by_cases ha : (s.any fun x => decide (false = x)) = true
  · rw [if_pos ha]; rfl
  · rw [if_neg ha, zaa (fun x => decide (false = x)) s (by simpa using ha)]; rfl
theorem zka {N : Nat} {s : List Bool} (hN : s.length < N) (hl : s.length ≤ 4611686018427387904) : mh N s false = some (s.contains false) := by
  unfold mh
  rw [qh (indexB hN hl), zfc, zfp]
theorem zh6 {N : Nat} {m : Mach} (hm : MOk m) (hN : 200 ≤ N) : ∀ (F : Nat) (X : List Bool) (s : Int), X.length = m.rows.length → SOk m s → X.count false < F → ∃ Y, uz N F s X m = some Y ∧ Vis m X s Y
  | 0, X, s, _, _, h => by omega
  | F + 1, X, s, hl, hs, hF => by
    simp only [uz]
    by_cases hd : s = -1 ∨ X.getD s.toNat default = true
    · refine ⟨X, ?_, znt hd (by rcases hs with h | h; exact .inl h; exact .inr h.1)⟩
      rcases hs with h | h
      · rw [zu (by rw [decide_eq_true h]; intro e; cases e), ct (by rw [decide_eq_true h]; rfl)]
      · have hne : ¬ s = -1 := by omega
        have hx : X.getD s.toNat default = true := hd.resolve_left hne
        rw [zu (fun _ => ⟨h.1, by omega⟩), ct (by rw [zd4, hx]; simp)]
    · have hne : ¬ s = -1 := fun e => hd (.inl e)
      have h0 : 0 ≤ s ∧ s < m.rows.length := hs.resolve_left hne
      have hx : X.getD s.toNat default = false := by
        cases e : X.getD s.toNat default
        · rfl
        · exact absurd (.inr e) hd
      have hlt : s.toNat < X.length := by omega
      have hr := hm.r2; have hi2 := hm.i2
      have hrow := hm.row s.toNat (by omega)
      have hcnt := z8l hlt hx
      rw [zu (fun _ => ⟨h0.1, by omega⟩), cf (by rw [zd4, hx, decide_eq_false hne]; rfl), zu ⟨h0.1, by omega⟩, zu h0]
      refine z0r (fun G k Y => vg N (uz N F) s m G (k : Int) Y) (m.rows.getD s.toNat default).length (fun k Y => VisK m X s.toNat k Y ∧ Y.length = m.rows.length) (fun Y => Vis m X s Y)
        (fun G k Y hk hi => .inr ?_) (fun G Y hi => ?_) N 0 (up X s true) (Nat.zero_le _) (by omega) ⟨zko hlt hx, by simp [up, hl]⟩
      · simp only [vg]
        have hk2 : k < (ix m.rows s).length := hk
        rw [mr (by omega), zu (ji hk2)]
        obtain ⟨Z, hZ, hvz⟩ := zh6 hm hN F Y ((m.rows.getD s.toNat default).getD k default).to hi.2 (zsf hm s k (by omega) hk) (by
          have := hi.1.cnt
          omega)
        refine ⟨Z, ⟨zkl hi.1 (by omega) hk hvz, by rw [hvz.len]; exact hi.2⟩, Eq.trans (qh hZ) ?_⟩
        rw [zu (jb (by omega))]; rfl
      · simp only [vg]
        have e : (ix m.rows s).length = (m.rows.getD s.toNat default).length := rfl
        rw [p9 (by omega)]
        exact ⟨Y, rfl, zmz h0.1 hi.1 (Nat.lt_irrefl _)⟩
theorem z8x {N : Nat} {m : Mach} (hs : Small m) (hN : 200 ≤ N) : ng N m = some ((if ni m ≠ 0 then false else connB m), ni m) := by
  unfold ng
  rw [qh (z9t hs hN)]
  by_cases h : ni m ≠ 0
  · rw [mr h, if_pos h]
  · rw [p9 h, if_neg h]
    have hm : MOk m := (o8 m).1 (by simpa using h)
    have hr := hm.r2; have hr1 := hm.r1
    obtain ⟨Y, hY, hv⟩ := zh6 hm hN N (List.replicate m.rows.length false) 0 (by simp) (.inr ⟨by omega, by omega⟩) (by simp; omega)
    have hly : Y.length = m.rows.length := by rw [hv.len]; simp
    rw [zu ⟨by omega, by omega, by omega⟩, z5b, qh hY, qh (zka (by omega) (by omega)), ← zmy hm rfl hv, show ni m = 0 by simpa using h]
end GV
end Go.Proofs.Ytplgbkaollfmkaa
