import Derived.Test.YtkcccdcloealfaaSpec06a
set_option linter.unusedVariables false
set_option linter.unusedSimpArgs false
namespace Go.Proofs.Ytkcccdcloealfaa
namespace GV
set_option maxRecDepth 100000
theorem indexB {N : Nat} {s : List Bool} (hN : s.length < N) (hl : s.length ≤ 4611686018427387904) : fw N s false = some (zdd (fun x => decide (false = x)) s) := by
  have h : yx N s false N 0 = some (if (s.any fun x => decide (false = x)) = true then Ex.rt (zdd (fun x => decide (false = x)) s) else Ex.go ()) := by
    refine xc (σ := Unit) (fun F k _ => yx N s false F (k : Int)) s.length (fun k _ => ((s.take k).any fun x => decide (false = x)) = false) _ (fun F k _ hk hi => ?_) (fun F _ hi => ?_) N 0 () (Nat.zero_le _) (by omega) (by simp)
    · simp only [yx]
      rw [dn (by omega), zu (j5 hk), si]
      cases hp : decide (false = s.getD k default)
      · right
        refine ⟨(), by rw [z8s (fun x => decide (false = x)) s k hk, hi, hp]; rfl, ?_⟩
        rw [cf rfl, zu (jg (by omega))]; rfl
      · left
        rw [ct rfl, if_pos (List.any_eq_true.2 ⟨_, oh hk, hp⟩), zal (fun x => decide (false = x)) s k hk hi hp]
    · simp only [yx]
      rw [xw (by omega), if_neg (by rw [List.take_length] at hi; rw [hi]; decide)]
  unfold fw
  rw [qf h]
  by_cases ha : (s.any fun x => decide (false = x)) = true
  · rw [if_pos ha]; rfl
  · rw [if_neg ha, zc2 (fun x => decide (false = x)) s (by simpa using ha)]; rfl
theorem zop {N : Nat} {s : List Bool} (hN : s.length < N) (hl : s.length ≤ 4611686018427387904) : o8 N s false = some (s.contains false) := by
  unfold o8
  rw [qf (indexB hN hl), zh3, zhx]
theorem zjr {N : Nat} {m : Mach} (hm : MOk m) (hN : 200 ≤ N) : ∀ (F : Nat) (X : List Bool) (s : Int), X.length = m.rows.length → SOk m s → X.count false < F → ∃ Y, yc N F s X m = some Y ∧ Vis m X s Y
  | 0, X, s, _, _, h => by omega
  | F + 1, X, s, hl, hs, hF => by
    simp only [yc]
    by_cases hd : s = -1 ∨ X.getD s.toNat default = true
    · refine ⟨X, ?_, zos hd (by rcases hs with h | h; exact .inl h; exact .inr h.1)⟩
      rcases hs with h | h
      · rw [zu (by rw [decide_eq_true h]; intro e; cases e), ct (by rw [decide_eq_true h]; rfl)]
      · have hne : ¬ s = -1 := by omega
        have hx : X.getD s.toNat default = true := hd.resolve_left hne
        rw [zu (fun _ => ⟨h.1, by omega⟩), ct (by rw [zha, hx]; simp)]
    · have hne : ¬ s = -1 := fun e => hd (.inl e)
      have h0 : 0 ≤ s ∧ s < m.rows.length := hs.resolve_left hne
      have hx : X.getD s.toNat default = false := by
        cases e : X.getD s.toNat default
        · rfl
        · exact absurd (.inr e) hd
      have hlt : s.toNat < X.length := by omega
      have hr := hm.r2; have hi2 := hm.i2
      have hrow := hm.row s.toNat (by omega)
      have hcnt := z9x hlt hx
      rw [zu (fun _ => ⟨h0.1, by omega⟩), cf (by rw [zha, hx, decide_eq_false hne]; rfl), zu ⟨h0.1, by omega⟩, zu h0]
      refine z8c (fun G k Y => ym N (yc N F) s m G (k : Int) Y) (m.rows.getD s.toNat default).length (fun k Y => VisK m X s.toNat k Y ∧ Y.length = m.rows.length) (fun Y => Vis m X s Y)
        (fun G k Y hk hi => .inr ?_) (fun G Y hi => ?_) N 0 (up X s true) (Nat.zero_le _) (by omega) ⟨zoe hlt hx, by simp [up, hl]⟩
      · simp only [ym]
        have hk2 : k < (ix m.rows s).length := hk
        rw [dn (by omega), zu (j5 hk2)]
        obtain ⟨Z, hZ, hvz⟩ := zjr hm hN F Y ((m.rows.getD s.toNat default).getD k default).to hi.2 (zwa hm s k (by omega) hk) (by
          have := hi.1.cnt
          omega)
        refine ⟨Z, ⟨zoa hi.1 (by omega) hk hvz, by rw [hvz.len]; exact hi.2⟩, Eq.trans (qf hZ) ?_⟩
        rw [zu (jg (by omega))]; rfl
      · simp only [ym]
        have e : (ix m.rows s).length = (m.rows.getD s.toNat default).length := rfl
        rw [xw (by omega)]
        exact ⟨Y, rfl, zpa h0.1 hi.1 (Nat.lt_irrefl _)⟩
theorem zhf {N : Nat} {m : Mach} (hs : Small m) (hN : 200 ≤ N) : iq N m = some ((if z0f m ≠ 0 then false else connB m), z0f m) := by
  unfold iq
  rw [qf (zbc hs hN)]
  by_cases h : z0f m ≠ 0
  · rw [dn h, if_pos h]
  · rw [xw h, if_neg h]
    have hm : MOk m := (z7e m).1 (by simpa using h)
    have hr := hm.r2; have hr1 := hm.r1
    obtain ⟨Y, hY, hv⟩ := zjr hm hN N (List.replicate m.rows.length false) 0 (by simp) (.inr ⟨by omega, by omega⟩) (by simp; omega)
    have hly : Y.length = m.rows.length := by rw [hv.len]; simp
    rw [zu ⟨by omega, by omega, by omega⟩, z88, qf hY, qf (zop (by omega) (by omega)), ← zp6 hm rfl hv, show z0f m = 0 by simpa using h]
end GV
end Go.Proofs.Ytkcccdcloealfaa
