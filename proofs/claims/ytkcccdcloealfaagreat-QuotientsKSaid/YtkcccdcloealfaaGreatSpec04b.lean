import Derived.Test.YtkcccdcloealfaaGreatSpec06a
set_option linter.unusedVariables false
set_option linter.unusedSimpArgs false
namespace Go.Proofs.YtkcccdcloealfaaGreat
namespace GV
set_option maxRecDepth 100000
theorem zfl {m : Mach} {k i : Nat} (hi : i < m.inputs.toNat) : z8v m (k * m.inputs.toNat + i) = (m.rows.getD k default).getD i default := by
  unfold z8v; rw [zm6 hi, zl8 hi]
theorem zqg {N : Nat} {m : Mach} (hm : MOk m) (hN : 200 ≤ N) {σ : Type} (B : ((Int × Int) × Edge) → σ → Option (Bool × σ)) (f : Nat → σ)
    (hB : ∀ k i, k < m.rows.length → i < m.inputs.toNat → B (((k : Int), (i : Int)), (m.rows.getD k default).getD i default) (f (k * m.inputs.toNat + i)) = some (true, f (k * m.inputs.toNat + i + 1))) :
    z3s N m σ B (f 0) = some (f (m.rows.length * m.inputs.toNat)) := by
  have hr := hm.r2; have hi1 := hm.i1; have hi2 := hm.i2
  unfold z3s
  refine ui (fun F k s => ib N σ B m F s (k : Int)) m.rows.length (fun k s => s = f (k * m.inputs.toNat)) _ (fun F k s hk hi => .inr ?_) (fun F s hi => ?_) N 0 (f 0) (Nat.zero_le _) (by omega) (by simp)
  · subst hi
    refine ⟨f ((k + 1) * m.inputs.toNat), rfl, ?_⟩
    have hlen : ((ix m.rows (k : Int)).length : Int) = m.inputs := hm.row k hk
    have hL : og N σ B m (k : Int) N (f (k * m.inputs.toNat)) 0 = some (Ex.go (f ((k + 1) * m.inputs.toNat))) := by
      refine ui (fun F i s => og N σ B m (k : Int) F s (i : Int)) m.inputs.toNat (fun i s => s = f (k * m.inputs.toNat + i)) _ (fun F i s hi hs => .inr ?_) (fun F s hs => ?_) N 0 _ (Nat.zero_le _) (by omega) (by simp)
      · subst hs
        refine ⟨_, rfl, ?_⟩
        simp only [og]
        rw [wu (by omega), zq (qo (by omega))]
        refine Eq.trans (zy (hB k i hk hi)) ?_
        refine Eq.trans (cf rfl) ?_
        rw [zq (qy (by omega))]; rfl
      · subst hs
        simp only [og]
        rw [uo (by omega), Nat.succ_mul]
    simp only [ib]
    rw [wu (by omega), zq (qo hk), zy hL, zkv, zq (qy (by omega))]; rfl
  · subst hi
    simp only [ib]
    rw [uo (by omega)]
theorem zxg {N : Nat} {m : Mach} (hm : MOk m) (hN : 200 ≤ N) : z2n N m = some (znn m) := by
  unfold z2n
  rw [show z6q N m = some m from rfl, zkn]
  have hmul := hm.mul.1
  have h := zqg hm hN (fun (y20 : (Int × Int) × Edge) (x21 : List (Int × Int)) =>
    bd (z4d N) fun y44 =>
    bif decide (y20.2.to = y44.to ∧ y20.2.out = y44.out) then (
    gd (fits 16 x21 ([((y20.1.1, y20.1.2) : (Int × Int))] : List (Int × Int))) <|
    some (true, (x21 ++ ([((y20.1.1, y20.1.2) : (Int × Int))] : List (Int × Int))))) else (
    some (true, x21))) (z7m m) (fun k i hk hi => by
      have hlt := zwe hk hi
      have hle := zvj m (k * m.inputs.toNat + i)
      rw [show z4d N = some ⟨-1, -1⟩ from rfl, zkn, zhr, zfl hi, zm6 hi, zl8 hi]
      by_cases he : ((m.rows.getD k default).getD i default).to = -1 ∧ ((m.rows.getD k default).getD i default).out = -1
      · rw [wu he, if_pos he, zq ⟨by simp; omega, by simp; omega⟩]
      · rw [uo he, if_neg he, List.append_nil])
  rw [zph] at h
  rw [zy h]
  unfold z3x
  rw [zq (zme _), zkn, zmw]; rfl
theorem zp3 {N : Nat} {m : Mach} (hs : Small m) (hN : 200 ≤ N) : z3f N m = some (zma m, ow m) := by
  unfold z3f zma
  rw [zy (z5m hs hN)]
  by_cases h : ow m ≠ 0
  · rw [wu h, if_pos h]
  · rw [uo h, if_neg h]
    have hm : MOk m := (z1q m).1 (by simpa using h)
    rw [zy (zxg hm hN), show ow m = 0 by simpa using h]
theorem indexB {N : Nat} {s : List Bool} (hN : s.length < N) (hl : s.length ≤ 4611686018427387904) : z2z N s false = some (zi2 (fun x => decide (false = x)) s) := by
  have h : mf N s false N 0 = some (if (s.any fun x => decide (false = x)) = true then Ex.rt (zi2 (fun x => decide (false = x)) s) else Ex.go ()) := by
    refine ui (σ := Unit) (fun F k _ => mf N s false F (k : Int)) s.length (fun k _ => ((s.take k).any fun x => decide (false = x)) = false) _ (fun F k _ hk hi => ?_) (fun F _ hi => ?_) N 0 () (Nat.zero_le _) (by omega) (by simp)
    · simp only [mf]
      rw [wu (by omega), zq (qo hk), r9]
      cases hp : decide (false = s.getD k default)
      · right
        refine ⟨(), by rw [za1 (fun x => decide (false = x)) s k hk, hi, hp]; rfl, ?_⟩
        rw [cf rfl, zq (qy (by omega))]; rfl
      · left
        rw [ct rfl, if_pos (List.any_eq_true.2 ⟨_, lg hk, hp⟩), zew (fun x => decide (false = x)) s k hk hi hp]
    · simp only [mf]
      rw [uo (by omega), if_neg (by rw [List.take_length] at hi; rw [hi]; decide)]
  unfold z2z
  rw [zy h]
  by_cases ha : (s.any fun x => decide (false = x)) = true
  · rw [if_pos ha]; rfl
  · rw [if_neg ha, zh9 (fun x => decide (false = x)) s (by simpa using ha)]; rfl
theorem zv9 {N : Nat} {s : List Bool} (hN : s.length < N) (hl : s.length ≤ 4611686018427387904) : z1d N s false = some (s.contains false) := by
  unfold z1d
  rw [zy (indexB hN hl), znc, zne]
theorem zp8 {N : Nat} {m : Mach} (hm : MOk m) (hN : 200 ≤ N) : ∀ (F : Nat) (X : List Bool) (s : Int), X.length = m.rows.length → SOk m s → X.count false < F → ∃ Y, pg N F s X m = some Y ∧ Vis m X s Y
  | 0, X, s, _, _, h => by omega
  | F + 1, X, s, hl, hs, hF => by
    simp only [pg]
    by_cases hd : s = -1 ∨ X.getD s.toNat default = true
    · refine ⟨X, ?_, zvr hd (by rcases hs with h | h; exact .inl h; exact .inr h.1)⟩
      rcases hs with h | h
      · rw [zq (by rw [decide_eq_true h]; intro e; cases e), ct (by rw [decide_eq_true h]; rfl)]
      · have hne : ¬ s = -1 := by omega
        have hx : X.getD s.toNat default = true := hd.resolve_left hne
        rw [zq (fun _ => ⟨h.1, by omega⟩), ct (by rw [zmd, hx]; simp)]
    · have hne : ¬ s = -1 := fun e => hd (.inl e)
      have h0 : 0 ≤ s ∧ s < m.rows.length := hs.resolve_left hne
      have hx : X.getD s.toNat default = false := by
        cases e : X.getD s.toNat default
        · rfl
        · exact absurd (.inr e) hd
      have hlt : s.toNat < X.length := by omega
      have hr := hm.r2; have hi2 := hm.i2
      have hrow := hm.row s.toNat (by omega)
      have hcnt := zfa hlt hx
      rw [zq (fun _ => ⟨h0.1, by omega⟩), cf (by rw [zmd, hx, decide_eq_false hne]; rfl), zq ⟨h0.1, by omega⟩, zq h0]
      refine z2o (fun G k Y => cz N (pg N F) s m G (k : Int) Y) (m.rows.getD s.toNat default).length (fun k Y => VisK m X s.toNat k Y ∧ Y.length = m.rows.length) (fun Y => Vis m X s Y)
        (fun G k Y hk hi => .inr ?_) (fun G Y hi => ?_) N 0 (up X s true) (Nat.zero_le _) (by omega) ⟨zva hlt hx, by simp [up, hl]⟩
      · simp only [cz]
        have hk2 : k < (ix m.rows s).length := hk
        rw [wu (by omega), zq (qo hk2)]
        obtain ⟨Z, hZ, hvz⟩ := zp8 hm hN F Y ((m.rows.getD s.toNat default).getD k default).to hi.2 (q33 hm s k (by omega) hk) (by
          have := hi.1.cnt
          omega)
        refine ⟨Z, ⟨zve hi.1 (by omega) hk hvz, by rw [hvz.len]; exact hi.2⟩, Eq.trans (zy hZ) ?_⟩
        rw [zq (qy (by omega))]; rfl
      · simp only [cz]
        have e : (ix m.rows s).length = (m.rows.getD s.toNat default).length := rfl
        rw [uo (by omega)]
        exact ⟨Y, rfl, zyj h0.1 hi.1 (Nat.lt_irrefl _)⟩
theorem zn3 {N : Nat} {m : Mach} (hs : Small m) (hN : 200 ≤ N) : z2q N m = some ((if ow m ≠ 0 then false else connB m), ow m) := by
  unfold z2q
  rw [zy (z5m hs hN)]
  by_cases h : ow m ≠ 0
  · rw [wu h, if_pos h]
  · rw [uo h, if_neg h]
    have hm : MOk m := (z1q m).1 (by simpa using h)
    have hr := hm.r2; have hr1 := hm.r1
    obtain ⟨Y, hY, hv⟩ := zp8 hm hN N (List.replicate m.rows.length false) 0 (by simp) (.inr ⟨by omega, by omega⟩) (by simp; omega)
    have hly : Y.length = m.rows.length := by rw [hv.len]; simp
    rw [zq ⟨by omega, by omega, by omega⟩, z7n, zy hY, zy (zv9 (by omega) (by omega)), ← zx6 hm rfl hv, show ow m = 0 by simpa using h]
end GV
end Go.Proofs.YtkcccdcloealfaaGreat
