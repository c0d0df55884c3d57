import Derived.Test.YtplgbkaollfmkaaSpec06m
import Derived.Test.YtplgbkaollfmkaaLives39
set_option linter.unusedVariables false
set_option linter.unusedSimpArgs false
namespace Go.Proofs.Ytplgbkaollfmkaa
namespace GV
set_option maxRecDepth 100000
/-! ### Long words -/
def z8t (m : Mach) (i : Int) : Bool := decide (i < 0) || decide (m.inputs ≤ i)
def z8n (m : Mach) (w : List Int) : Int := if 1024 < w.length then 3 else if w.any (z8t m) = true then 1 else 0
theorem zmx {m : Mach} {w : List Int} (h : w.any (z8t m) = false) : WOk m.inputs w := fun k hk => by
  have := List.any_eq_false.1 h _ (sj hk)
  unfold z8t at this
  simp only [Bool.or_eq_true, decide_eq_true_eq, not_or] at this
  omega
theorem ztl {m : Mach} {w : List Int} (h : WOk m.inputs w) : w.any (z8t m) = false := by
  refine List.any_eq_false.2 fun x hx => ?_
  obtain ⟨k, hk, rfl⟩ := List.mem_iff_getElem.1 hx
  have := h k hk
  rw [List.getD_eq_getElem?_getD, List.getElem?_eq_getElem hk] at this
  simp only [Option.getD_some] at this
  unfold z8t
  simp only [Bool.or_eq_true, decide_eq_true_eq, not_or]
  omega
theorem zsl {m : Mach} {w : List Int} (h : z8n m w = 0) : w.length ≤ 1024 ∧ WOk m.inputs w := by
  unfold z8n at h
  split at h
  · exact absurd h (by decide)
  · split at h
    · exact absurd h (by decide)
    · rename_i h1 h2
      exact ⟨by omega, zmx (by simpa using h2)⟩
theorem zmv {N : Nat} {m : Mach} {w : List Int} (hN : 1100 ≤ N) : z3v N m w = some (z8n m w) := by
  unfold z3v z8n
  by_cases h : 1024 < w.length
  · rw [vz (by omega), if_pos h]
  · rw [vv (by omega), if_neg h, qf (zia (p := z8t m) (fun k hk => rfl) (by omega) (by omega))]
    cases hb : w.any (z8t m)
    · rfl
    · rfl
theorem zhr {N : Nat} {m : Mach} {w : List Int} (hN : w.length < N) (hl : w.length ≤ 4611686018427387904) : ow N m w = some (!w.any (z8t m)) := by
  have hL : yt N m w N 0 = some (if w.any (z8t m) = true then Ex.rt false else Ex.go ()) := by
    refine xh (σ := Unit) (fun F k _ => yt N m w F (k : Int)) w.length (fun k _ => (w.take k).any (z8t m) = false) _ (fun F k _ hk hi => ?_) (fun F _ hi => ?_) N 0 () (Nat.zero_le _) (by omega) (by simp)
    · simp only [yt]
      rw [vz (by omega), zx (ji hk), zx (fun _ => ji hk), r9]
      cases hp : z8t m (w.getD k default)
      · right
        refine ⟨(), by rw [z4o (z8t m) w k hk, hi, hp]; rfl, ?_⟩
        rw [cf (by exact hp), zx (jb (by omega))]; rfl
      · left
        rw [ct (by exact hp), if_pos (List.any_eq_true.2 ⟨_, sj hk, hp⟩)]
    · simp only [yt]
      rw [vv (by omega), if_neg (by rw [List.take_length] at hi; rw [hi]; decide)]
  unfold ow
  rw [qf hL]
  cases h : w.any (z8t m) <;> rfl
theorem zjh {N : Nat} {m : Mach} {w : List Int} (hN : 1100 ≤ N) : ol N m w = some (z8n m w) := by
  unfold ol z8n
  by_cases h : 1024 < w.length
  · rw [vz (by omega), if_pos h]
  · rw [vv (by omega), if_neg h, qf (zhr (by omega) (by omega))]
    cases hb : w.any (z8t m)
    · rfl
    · rfl
/-! ### Responses -/
theorem zpp {N : Nat} {m : Mach} {w : List Int} {e : Int} (h : df N m = some e) (he : e ≠ 0) : bf N m w = some ([], e) := by
  unfold bf
  rw [qf h, vz he]
theorem zoa {N : Nat} {m : Mach} {w : List Int} (hm : MOk m) (hN : 1100 ≤ N) (h : z8n m w ≠ 0) : bf N m w = some ([], z8n m w) := by
  unfold bf
  rw [qf (ziz hm (by omega)), vv (by decide), qf (zmv hN), vz h]
theorem zt3 {N : Nat} {m : Mach} {w : List Int} (hm : MOk m) (hw : WOk m.inputs w) (hl : w.length ≤ 1024) (hN : 1100 ≤ N) : p9 N m w N 0 0 [] = some (oh m 0 w) := by
  refine xh (σ := Int × List Int) (fun F k x => p9 N m w F x.1 (k : Int) x.2) w.length (fun k x => x.1 = lq m 0 (w.take k) ∧ x.2 = oh m 0 (w.take k)) _ (fun F k x hk hi => .inr ?_) (fun F x hi => ?_) N 0 (0, []) (Nat.zero_le _) (by omega) (by simp [lq, oh])
  · obtain ⟨t, X⟩ := x
    obtain ⟨rfl, rfl⟩ := hi
    have hst := zcr m hm 0 (w.take k) (.inr ⟨by omega, by have := hm.r1; omega⟩) (zc9 hw k)
    have hwk := hw k hk
    have hlr := l5 m 0 (w.take k)
    rw [List.length_take] at hlr
    refine ⟨(lq m 0 (w.take (k + 1)), oh m 0 (w.take (k + 1))), ⟨rfl, rfl⟩, ?_⟩
    simp only [p9]
    rw [vz (by omega), zx (ji hk), zat m 0 w k hk, zan m 0 w k hk]
    have hb : ∀ (s : Int), SOk m s → (bif decide (s ≠ -1) then gd (okI m.rows s) (gd (okI (ix m.rows s) (ix w (k : Int))) (some ((ix (ix m.rows s) (ix w (k : Int))).to, (ix (ix m.rows s) (ix w (k : Int))).out))) else some (-1, -1)) = some ((ll m s (w.getD k default)).to, (ll m s (w.getD k default)).out) := by
      intro s hs
      rcases hs with h | h
      · rw [h]; rfl
      · have hrow := hm.row s.toNat (by omega)
        rw [vz (by omega), zx h, zx (show okI (ix m.rows s) (ix w (k : Int)) from ⟨hwk.1, by rw [zbk m.rows s, hrow]; exact hwk.2⟩)]
        unfold ll
        rw [if_neg (by omega)]; rfl
    rw [qf (hb _ hst), zx (by simp only [List.length_singleton]; omega), zx (jb (by omega))]
    rfl
  · obtain ⟨t, X⟩ := x
    obtain ⟨rfl, rfl⟩ := hi
    simp only [p9]
    rw [vv (by omega), List.take_length]
theorem zto {N : Nat} {m : Mach} {w : List Int} (hm : MOk m) (hw : WOk m.inputs w) (hl : w.length ≤ 1024) (hN : 1100 ≤ N) : bf N m w = some (oh m 0 w, 0) := by
  have h0 : z8n m w = 0 := by unfold z8n; rw [if_neg (by omega), ztl hw]; rfl
  unfold bf
  rw [qf (ziz hm (by omega)), vv (by decide), qf (zmv hN), h0, vv (by decide), zx ⟨⟨by omega, by omega, by omega⟩, by omega, by omega⟩, qf (show p9 N m w N 0 0 (mk 0 (0 : Int)) = _ from zt3 hm hw hl hN), zx (by rw [l5]; omega)]
theorem zpu {N : Nat} {m : Mach} {w : List Int} (hm : MOk m) (hw : WOk m.inputs w) (hl : w.length ≤ 1024) (hN : 1100 ≤ N) : mh N m w = some (oh m 0 w) := by
  unfold mh
  refine Eq.trans (qf (x := oh m 0 w) ?_) rfl
  refine xh (σ := Int × List Int) (fun F k x => yx N m w F x.2 x.1 (k : Int)) w.length (fun k x => x.1 = lq m 0 (w.take k) ∧ x.2 = oh m 0 (w.take k)) _ (fun F k x hk hi => .inr ?_) (fun F x hi => ?_) N 0 (0, []) (Nat.zero_le _) (by omega) (by simp [lq, oh])
  · obtain ⟨t, X⟩ := x
    obtain ⟨rfl, rfl⟩ := hi
    have hst := zcr m hm 0 (w.take k) (.inr ⟨by omega, by have := hm.r1; omega⟩) (zc9 hw k)
    have hwk := hw k hk
    have hlr := l5 m 0 (w.take k)
    rw [List.length_take] at hlr
    refine ⟨(lq m 0 (w.take (k + 1)), oh m 0 (w.take (k + 1))), ⟨rfl, rfl⟩, ?_⟩
    simp only [yx]
    rw [vz (by omega), zat m 0 w k hk, zan m 0 w k hk]
    have hfit : ∀ x : Int, fits 8 (oh m 0 (w.take k)) ([x] : List Int) := fun x => ⟨by rw [List.length_singleton]; omega, by rw [List.length_singleton]; omega⟩
    rcases hst with h | h
    · rw [h, vz rfl, zx (hfit _)]
      refine (qf rfl).trans ?_
      rw [zx (jb (by omega))]
      rfl
    · have hrow := hm.row (lq m 0 (w.take k)).toNat (by omega)
      rw [vv (by omega), zx h, zx (ji hk), zx (show okI (ix m.rows (lq m 0 (w.take k))) (ix w (k : Int)) from ⟨hwk.1, by rw [zbk m.rows, hrow]; exact hwk.2⟩), zx (hfit _)]
      have hn : ll m (lq m 0 (w.take k)) (w.getD k default) = ix (ix m.rows (lq m 0 (w.take k))) (ix w (k : Int)) := by unfold ll; rw [if_neg (by omega)]; rfl
      rw [hn]
      refine (qf rfl).trans ?_
      rw [zx (jb (by omega))]
      rfl
  · obtain ⟨t, X⟩ := x
    obtain ⟨rfl, rfl⟩ := hi
    simp only [yx]
    rw [vv (by omega), List.take_length]
theorem zih {x : Sgauntletlaw06_C} {w : List Int} (hx : CDOk x) (hl : w.length ≤ maxLen) : dx 2000 x w = some true := by
  unfold dx
  by_cases h : (1100 : Int) < w.length
  · exact vz h
  obtain ⟨m, hc, hm⟩ := zuk (N := 2000) hx (by decide)
  refine (vv h).trans ?_
  refine (qf hc).trans ?_
  by_cases hlong : z8n m w = 0
  · obtain ⟨h1, h2⟩ := zsl hlong
    refine (qf (show bf 2000 m w = _ from zto hm.ok h2 h1 (by decide))).trans ?_
    refine (qf (show ol 2000 m w = _ from zjh (by decide))).trans ?_
    rw [hlong]
    refine (vv (by decide)).trans ?_
    refine (qf (zpp zn7.1 (by decide))).trans ?_
    refine (zku rfl (show mh 2000 m w = _ from zpu hm.ok h2 h1 (by decide))).trans ?_
    refine (zku rfl (show yw 2000 (oh m 0 w) (oh m 0 w) = _ from zjn (by rw [l5]; omega) (by rw [l5]; omega))).trans ?_
    have e1 : decide (oh m 0 w = oh m 0 w) = true := decide_eq_true rfl
    have e2 : decide (((oh m 0 w).length : Int) = ((oh m 0 w).length : Int)) = true := decide_eq_true rfl
    dsimp only [Option.getD_some]
    rw [e1, e2]
    refine (zku rfl zn7.2).trans ?_
    refine (zku rfl z8x).trans ?_
    rfl
  · refine (qf (show bf 2000 m w = _ from zoa hm.ok (by decide) hlong)).trans ?_
    refine (qf (show ol 2000 m w = _ from zjh (by decide))).trans ?_
    refine (vz hlong).trans ?_
    have e1 : decide (z8n m w = z8n m w) = true := decide_eq_true rfl
    dsimp only
    rw [e1]
    refine (zku rfl z8x).trans ?_
    rfl
end GV
end Go.Proofs.Ytplgbkaollfmkaa
