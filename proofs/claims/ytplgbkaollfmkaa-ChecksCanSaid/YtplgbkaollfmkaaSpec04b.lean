import Derived.Test.YtplgbkaollfmkaaSpec06a
set_option linter.unusedVariables false
set_option linter.unusedSimpArgs false
namespace Go.Proofs.Ytplgbkaollfmkaa
namespace GV
set_option maxRecDepth 100000
theorem zcw {m : Mach} {k i : Nat} (hi : i < m.inputs.toNat) : z6a m (k * m.inputs.toNat + i) = (m.rows.getD k default).getD i default := by
  unfold z6a; rw [zhu hi, zhx hi]
theorem zmk {N : Nat} {m : Mach} (hm : MOk m) (hN : 200 ≤ N) {σ : Type} (B : ((Int × Int) × Edge) → σ → Option (Bool × σ)) (f : Nat → σ)
    (hB : ∀ k i, k < m.rows.length → i < m.inputs.toNat → B (((k : Int), (i : Int)), (m.rows.getD k default).getD i default) (f (k * m.inputs.toNat + i)) = some (true, f (k * m.inputs.toNat + i + 1))) :
    z1h N m σ B (f 0) = some (f (m.rows.length * m.inputs.toNat)) := by
  have hr := hm.r2; have hi1 := hm.i1; have hi2 := hm.i2
  unfold z1h
  refine xh (fun F k s => cz N σ B m F s (k : Int)) m.rows.length (fun k s => s = f (k * m.inputs.toNat)) _ (fun F k s hk hi => .inr ?_) (fun F s hi => ?_) N 0 (f 0) (Nat.zero_le _) (by omega) (by simp)
  · subst hi
    refine ⟨f ((k + 1) * m.inputs.toNat), rfl, ?_⟩
    have hlen : ((ix m.rows (k : Int)).length : Int) = m.inputs := hm.row k hk
    have hL : pq N σ B m (k : Int) N (f (k * m.inputs.toNat)) 0 = some (Ex.go (f ((k + 1) * m.inputs.toNat))) := by
      refine xh (fun F i s => pq N σ B m (k : Int) F s (i : Int)) m.inputs.toNat (fun i s => s = f (k * m.inputs.toNat + i)) _ (fun F i s hi hs => .inr ?_) (fun F s hs => ?_) N 0 _ (Nat.zero_le _) (by omega) (by simp)
      · subst hs
        refine ⟨_, rfl, ?_⟩
        simp only [pq]
        rw [vz (by omega), zx (ji (by omega))]
        refine Eq.trans (qf (hB k i hk hi)) ?_
        refine Eq.trans (cf rfl) ?_
        rw [zx (jb (by omega))]; rfl
      · subst hs
        simp only [pq]
        rw [vv (by omega), Nat.succ_mul]
    simp only [cz]
    rw [vz (by omega), zx (ji hk), qf hL, zh1, zx (jb (by omega))]; rfl
  · subst hi
    simp only [cz]
    rw [vv (by omega)]
theorem zrb {N : Nat} {m : Mach} (hm : MOk m) (hN : 200 ≤ N) : z0d N m = some (zio m) := by
  unfold z0d
  rw [show z4d N m = some m from rfl, ziy]
  have hmul := hm.mul.1
  have h := zmk hm hN (fun (y20 : (Int × Int) × Edge) (x21 : List (Int × Int)) =>
    bd (z06 N) fun y44 =>
    bif decide (y20.2.to = y44.to ∧ y20.2.out = y44.out) then (
    gd (fits 16 x21 ([((y20.1.1, y20.1.2) : (Int × Int))] : List (Int × Int))) <|
    some (true, (x21 ++ ([((y20.1.1, y20.1.2) : (Int × Int))] : List (Int × Int))))) else (
    some (true, x21))) (z4x m) (fun k i hk hi => by
      have hlt := zqn hk hi
      have hle := zoj m (k * m.inputs.toNat + i)
      rw [show z06 N = some ⟨-1, -1⟩ from rfl, ziy, zed, zcw hi, zhu hi, zhx hi]
      by_cases he : ((m.rows.getD k default).getD i default).to = -1 ∧ ((m.rows.getD k default).getD i default).out = -1
      · rw [vz he, if_pos he, zx ⟨by simp; omega, by simp; omega⟩]
      · rw [vv he, if_neg he, List.append_nil])
  rw [zjm] at h
  rw [qf h]
  unfold z0n
  rw [zx (zt4 _), ziy, zir]; rfl
theorem zl2 {N : Nat} {m : Mach} (hs : Small m) (hN : 200 ≤ N) : z0r N m = some (zik m, l9 m) := by
  unfold z0r zik
  rw [qf (zcp hs hN)]
  by_cases h : l9 m ≠ 0
  · rw [vz h, if_pos h]
  · rw [vv h, if_neg h]
    have hm : MOk m := (z1o m).1 (by simpa using h)
    rw [qf (zrb hm hN), show l9 m = 0 by simpa using h]
theorem indexB {N : Nat} {s : List Bool} (hN : s.length < N) (hl : s.length ≤ 4611686018427387904) : z0q N s false = some (zem (fun x => decide (false = x)) s) := by
  have h : bi N s false N 0 = some (if (s.any fun x => decide (false = x)) = true then Ex.rt (zem (fun x => decide (false = x)) s) else Ex.go ()) := by
    refine xh (σ := Unit) (fun F k _ => bi N s false F (k : Int)) s.length (fun k _ => ((s.take k).any fun x => decide (false = x)) = false) _ (fun F k _ hk hi => ?_) (fun F _ hi => ?_) N 0 () (Nat.zero_le _) (by omega) (by simp)
    · simp only [bi]
      rw [vz (by omega), zx (ji hk), r9]
      cases hp : decide (false = s.getD k default)
      · right
        refine ⟨(), by rw [z4o (fun x => decide (false = x)) s k hk, hi, hp]; rfl, ?_⟩
        rw [cf rfl, zx (jb (by omega))]; rfl
      · left
        rw [ct rfl, if_pos (List.any_eq_true.2 ⟨_, sj hk, hp⟩), zbi (fun x => decide (false = x)) s k hk hi hp]
    · simp only [bi]
      rw [vv (by omega), if_neg (by rw [List.take_length] at hi; rw [hi]; decide)]
  unfold z0q
  rw [qf h]
  by_cases ha : (s.any fun x => decide (false = x)) = true
  · rw [if_pos ha]; rfl
  · rw [if_neg ha, zdv (fun x => decide (false = x)) s (by simpa using ha)]; rfl
theorem zoq {N : Nat} {s : List Bool} (hN : s.length < N) (hl : s.length ≤ 4611686018427387904) : fw N s false = some (s.contains false) := by
  unfold fw
  rw [qf (indexB hN hl), zj6, zj9]
theorem zl7 {N : Nat} {m : Mach} (hm : MOk m) (hN : 200 ≤ N) : ∀ (F : Nat) (X : List Bool) (s : Int), X.length = m.rows.length → SOk m s → X.count false < F → ∃ Y, xu N F s X m = some Y ∧ Vis m X s Y
  | 0, X, s, _, _, h => by omega
  | F + 1, X, s, hl, hs, hF => by
    simp only [xu]
    by_cases hd : s = -1 ∨ X.getD s.toNat default = true
    · refine ⟨X, ?_, zqf hd (by rcases hs with h | h; exact .inl h; exact .inr h.1)⟩
      rcases hs with h | h
      · rw [zx (by rw [decide_eq_true h]; intro e; cases e), ct (by rw [decide_eq_true h]; rfl)]
      · have hne : ¬ s = -1 := by omega
        have hx : X.getD s.toNat default = true := hd.resolve_left hne
        rw [zx (fun _ => ⟨h.1, by omega⟩), ct (by rw [zbk, hx]; simp)]
    · have hne : ¬ s = -1 := fun e => hd (.inl e)
      have h0 : 0 ≤ s ∧ s < m.rows.length := hs.resolve_left hne
      have hx : X.getD s.toNat default = false := by
        cases e : X.getD s.toNat default
        · rfl
        · exact absurd (.inr e) hd
      have hlt : s.toNat < X.length := by omega
      have hr := hm.r2; have hi2 := hm.i2
      have hrow := hm.row s.toNat (by omega)
      have hcnt := zbz hlt hx
      rw [zx (fun _ => ⟨h0.1, by omega⟩), cf (by rw [zbk, hx, decide_eq_false hne]; rfl), zx ⟨h0.1, by omega⟩, zx h0]
      refine iy (fun G k Y => gy N (xu N F) s m G (k : Int) Y) (m.rows.getD s.toNat default).length (fun k Y => VisK m X s.toNat k Y ∧ Y.length = m.rows.length) (fun Y => Vis m X s Y)
        (fun G k Y hk hi => .inr ?_) (fun G Y hi => ?_) N 0 (up X s true) (Nat.zero_le _) (by omega) ⟨zoz hlt hx, by simp [up, hl]⟩
      · simp only [gy]
        have hk2 : k < (ix m.rows s).length := hk
        rw [vz (by omega), zx (ji hk2)]
        obtain ⟨Z, hZ, hvz⟩ := zl7 hm hN F Y ((m.rows.getD s.toNat default).getD k default).to hi.2 (zvi hm s k (by omega) hk) (by
          have := hi.1.cnt
          omega)
        refine ⟨Z, ⟨zog hi.1 (by omega) hk hvz, by rw [hvz.len]; exact hi.2⟩, Eq.trans (qf hZ) ?_⟩
        rw [zx (jb (by omega))]; rfl
      · simp only [gy]
        have e : (ix m.rows s).length = (m.rows.getD s.toNat default).length := rfl
        rw [vv (by omega)]
        exact ⟨Y, rfl, zs2 h0.1 hi.1 (Nat.lt_irrefl _)⟩
theorem zcc {N : Nat} {m : Mach} (hs : Small m) (hN : 200 ≤ N) : rf N m = some ((if l9 m ≠ 0 then false else connB m), l9 m) := by
  unfold rf
  rw [qf (zcp hs hN)]
  by_cases h : l9 m ≠ 0
  · rw [vz h, if_pos h]
  · rw [vv h, if_neg h]
    have hm : MOk m := (z1o m).1 (by simpa using h)
    have hr := hm.r2; have hr1 := hm.r1
    obtain ⟨Y, hY, hv⟩ := zl7 hm hN N (List.replicate m.rows.length false) 0 (by simp) (.inr ⟨by omega, by omega⟩) (by simp; omega)
    have hly : Y.length = m.rows.length := by rw [hv.len]; simp
    rw [zx ⟨by omega, by omega, by omega⟩, z5a, qf hY, qf (zoq (by omega) (by omega)), ← zr9 hm rfl hv, show l9 m = 0 by simpa using h]
end GV
end Go.Proofs.Ytplgbkaollfmkaa
