import Derived.Test.YtplgbkaollfmkaaKnots39c
import Derived.Test.YtplgbkaollfmkaaLaw39a
import Derived.Test.YtplgbkaollfmkaaSpec04b
import Derived.Test.YtplgbkaollfmkaaSpec09d
set_option linter.unusedVariables false
set_option linter.unusedSimpArgs false
namespace Go.Proofs.Ytplgbkaollfmkaa
namespace GV
set_option maxRecDepth 100000
/-! ### Words and runs, the program's -/
theorem zel {N : Nat} {w : List Int} {n : Int} (hN : w.length < N) (hl : w.length ≤ 4611686018427387904) : z14 N w n = some (z1w w n) := by
  unfold z14
  by_cases h : 16 < n ∨ 256 < w.length
  · rw [ct (by simp; omega), zg6 h]
  · rw [cf (by simp; omega)]
    rw [zi1 (fun _ => zev (p := z8o n) (fun j hj => rfl) hN hl)]
    by_cases h1 : n < 1 ∨ w.any (z8o n) = true
    · rw [zhf h h1]
      refine ct ?_
      by_cases h2 : n < 1
      · rw [decide_eq_true h2]; rfl
      · rw [decide_eq_false h2]; exact h1.resolve_left h2
    · rw [zh9 h h1]
      refine cf ?_
      rw [decide_eq_false (fun h2 => h1 (.inl h2))]
      exact Bool.eq_false_iff.2 fun h2 => h1 (.inr h2)
theorem zrb {N : Nat} {m : Mach} (hm : MOk m) {s : Int} {w : List Int} (hs : SOk m s) (hw : WOk m.inputs w) (hN : w.length < N) (hl : w.length ≤ 1000000) : z1r N m s w = some (z04 m s w, xe m s w) := by
  unfold z1r
  rw [zu ⟨by omega, by omega, by omega⟩, z5b]
  refine Eq.trans (qh (x := (xe m s w, z04 m s w)) ?_) rfl
  refine bq (σ := Int × List Int) (fun F k x => dx N m w F x.1 (k : Int) x.2) w.length (fun k x => x.1 = xe m s (w.take k) ∧ x.2 = z04 m s (w.take k) ++ List.replicate (w.length - k) (0 : Int)) _ (fun F k x hk hi => .inr ?_) (fun F x hi => ?_) N 0 (s, List.replicate w.length 0) (Nat.zero_le _) (by omega) (by simp [xe, z04])
  · obtain ⟨t, X⟩ := x
    obtain ⟨rfl, rfl⟩ := hi
    have hst := zj4 m hm s (w.take k) hs (zh5 hw k)
    have hwk := hw k hk
    refine ⟨(xe m s (w.take (k + 1)), z04 m s (w.take (k + 1)) ++ List.replicate (w.length - (k + 1)) (0 : Int)), ⟨rfl, rfl⟩, ?_⟩
    simp only [dx]
    rw [mr (by omega), zu (ji hk), show eu N = some ⟨-1, -1⟩ from rfl, zlw]
    have hn : (bif decide (xe m s (w.take k) ≠ -1) then gd (okI m.rows (xe m s (w.take k))) <| gd (okI (ix m.rows (xe m s (w.take k))) (ix w (k : Int))) <| some ((ix (ix m.rows (xe m s (w.take k))) (ix w (k : Int))).to, (ix (ix m.rows (xe m s (w.take k))) (ix w (k : Int))).out) else some ((-1 : Int), (-1 : Int))) =
        some ((aa m (xe m s (w.take k)) (w.getD k default)).to, (aa m (xe m s (w.take k)) (w.getD k default)).out) := by
      rcases hst with h | h
      · rw [h]; rfl
      · have hrow := hm.row (xe m s (w.take k)).toNat (by omega)
        rw [mr (by omega), zu h, zu (show okI (ix m.rows (xe m s (w.take k))) (ix w (k : Int)) from ⟨hwk.1, show w.getD k default < ((m.rows.getD (xe m s (w.take k)).toNat default).length : Int) from by rw [hrow]; exact hwk.2⟩)]
        unfold aa
        rw [if_neg (by omega)]; rfl
    refine Eq.trans (qh hn) ?_
    have hlr := z6c m s (w.take k)
    rw [List.length_take] at hlr
    rw [zu (ji (by rw [List.length_append, List.length_replicate, hlr]; omega)), zu (jb (by omega)), z1t, zni _ _ _ _ (by omega) hk, ← zdz m s w k hk, ← zk2 m s w k hk]; rfl
  · obtain ⟨t, X⟩ := x
    obtain ⟨rfl, rfl⟩ := hi
    simp only [dx]
    rw [p9 (by omega), List.take_length, Nat.sub_self, List.replicate_zero, List.append_nil]
theorem zp8 {N : Nat} {m : Mach} {d : List Int} (hm : MOk m) {s : Nat} (hs : s < m.rows.length) (hw : z1w d m.inputs = 0) (hN : 400 ≤ N) : z1o N m (s : Int) d = some (z04 m (s : Int) d, 0) := by
  have hw' := zgb hw
  have hst : z0e N m (s : Int) = some 0 := by
    unfold z0e
    rw [qh (znb hm (by omega)), p9 (by decide), cf (by rw [← Bool.not_eq_true, Bool.or_eq_true, decide_eq_true_iff, decide_eq_true_iff]; omega)]
  unfold z1o
  rw [qh hst, p9 (by decide), qh (zel (by omega) (by omega)), hw, p9 (by decide), qh (zrb hm (.inr ⟨by omega, by omega⟩) hw'.1 (by omega) (by omega))]
/-! ### Which of a list's words answers so -/
theorem zkh {N : Nat} {s : List (List Int)} {f : List Int → Option Bool} {p : List Int → Bool} (hf : ∀ k, k < s.length → f (s.getD k default) = some (p (s.getD k default))) (hN : s.length < N) (hl : s.length ≤ 4611686018427387904) :
    bn N s f = some (s.any p) := by
  obtain ⟨r, h, hr⟩ : ∃ r, uk N s f N 0 = some r ∧ ((s.any p = true ∧ ∃ k : Nat, r = Ex.rt (k : Int)) ∨ (s.any p = false ∧ r = Ex.go ())) := by
    refine z0r (σ := Unit) (fun F k _ => uk N s f F (k : Int)) s.length (fun k _ => (s.take k).any p = false) _ (fun F k _ hk hi => ?_) (fun F _ hi => ?_) N 0 () (Nat.zero_le _) (by omega) (by simp)
    · simp only [uk]
      rw [mr (by omega), zu (ji hk), su, qh (hf k hk)]
      cases hp : p (s.getD k default)
      · right
        refine ⟨(), by rw [z6g p s k hk, hi, hp]; rfl, ?_⟩
        rw [cf rfl, zu (jb (by omega))]; rfl
      · left
        rw [ct rfl]
        exact ⟨_, rfl, .inl ⟨List.any_eq_true.2 ⟨_, l5 hk, hp⟩, k, rfl⟩⟩
    · simp only [uk]
      rw [p9 (by omega)]
      rw [List.take_length] at hi
      exact ⟨_, rfl, .inr ⟨hi, rfl⟩⟩
  unfold bn ay
  rw [qh h]
  rcases hr with ⟨ha, k, rfl⟩ | ⟨ha, rfl⟩
  · rw [ha]
    refine (qh (x := (k : Int)) rfl).trans ?_
    rw [decide_eq_true (by omega)]
  · rw [ha]; rfl
/-! ### Can -/
def zos (m : Mach) (d : List Int) (k : Nat) : Bool := (List.range k).any fun j => decide (z04 m (j : Int) d = z04 m (k : Int) d)
def zoi (m : Mach) (d : List Int) : Bool := (List.range m.rows.length).any (zos m d)
noncomputable def canI (m : Mach) (d : List Int) : Int := if properM m ≠ 0 then properM m else if 256 < d.length then 3 else if d.any (zds m) = true then 1 else if 1 < (knotsL m).length then 7 else if zoi m d = true then 12 else 0
theorem zmf (p : Nat → Bool) (k : Nat) : (List.range (k + 1)).any p = ((List.range k).any p || p k) := by rw [List.range_succ, List.any_append]; simp
theorem zrk {p : Nat → Bool} {k n : Nat} (hk : k < n) (h : p k = true) : (List.range n).any p = true := List.any_eq_true.2 ⟨k, List.mem_range.2 hk, h⟩
theorem zmu {m : Mach} (h : properM m = 0) : MOk m ∧ ig m = true ∧ connB m = true ∧ zlc m = true := by
  unfold properM at h
  by_cases hc : ni m = 0
  · rw [if_neg (by omega)] at h
    refine ⟨(o8 m).1 hc, ?_⟩
    cases h1 : ig m
    · rw [h1, if_pos rfl] at h; omega
    cases h2 : connB m
    · rw [h1, h2, if_neg Bool.noConfusion, if_pos rfl] at h; omega
    cases h3 : zlc m
    · rw [h1, h2, h3, if_neg Bool.noConfusion, if_neg Bool.noConfusion, if_pos rfl] at h; omega
    exact ⟨rfl, rfl, rfl⟩
  · rw [if_pos hc] at h; exact absurd h hc
theorem zqi {N : Nat} {m : Mach} (hm : MOk m) (hc : connB m = true) (hN : 200 ≤ N) : z18 N m = some 0 := by
  have h0 := (o8 m).2 hm
  unfold z18
  rw [qh (z8x hm.small hN), h0, if_neg (by decide), hc]
  rfl
theorem zhe {m : Mach} {d : List Int} (hm : MOk m) : z1w d m.inputs = if 256 < d.length then 3 else if d.any (zds m) = true then 1 else 0 := by
  have h1 := hm.i1; have h2 := hm.i2
  by_cases h : 256 < d.length
  · rw [if_pos h, zg6 (.inr h)]
  · rw [if_neg h]
    by_cases hb : d.any (zds m) = true
    · rw [if_pos hb, zhf (by omega) (.inr hb)]
    · rw [if_neg hb]
      exact zh9 (by omega) (fun k => k.elim (fun k => by omega) hb)
theorem zr4 {N : Nat} {m : Mach} {d : List Int} (hm : MOk m) (hw : z1w d m.inputs = 0) (hN : 400 ≤ N) : mf N m d N [] 0 = some (if zoi m d = true then Ex.rt 12 else Ex.go ()) := by
  have hr := hm.r2
  have hw' := zgb hw
  refine bq (σ := List (List Int)) (fun F k X => mf N m d F X (k : Int)) m.rows.length (fun k X => X = (List.range k).map (fun j : Nat => z04 m (j : Int) d) ∧ (List.range k).any (zos m d) = false) _ (fun F k X hk hi => ?_) (fun F X hi => ?_) N 0 [] (Nat.zero_le _) (by omega) ⟨rfl, rfl⟩
  · obtain ⟨rfl, ha⟩ := hi
    have hlen : ((List.range k).map (fun j : Nat => z04 m (j : Int) d)).length = k := by simp
    have hany : ((List.range k).map (fun j : Nat => z04 m (j : Int) d)).any (fun z => decide (z = z04 m (k : Int) d)) = zos m d k := by unfold zos; rw [List.any_map]; rfl
    simp only [mf]
    rw [mr (by omega), qh (zp8 hm hk hw hN), qh (zkh (p := fun z => decide (z = z04 m (k : Int) d)) (fun j hj => by
      unfold z3d
      have hl2 : (((List.range k).map (fun j : Nat => z04 m (j : Int) d)).getD j default).length ≤ 256 := by
        obtain ⟨i, _, e⟩ := List.mem_map.1 (l5 hj)
        rw [← e, z6c]; exact hw'.2
      exact qh (za9 (by omega) (by omega))) (by omega) (by omega)), hany]
    cases hd : zos m d k
    · right
      refine ⟨(List.range k).map (fun j : Nat => z04 m (j : Int) d) ++ [z04 m (k : Int) d], ⟨by rw [List.range_succ, List.map_append]; rfl, by rw [zmf, ha, hd]; rfl⟩, ?_⟩
      have hfit : fits 24 ((List.range k).map (fun j : Nat => z04 m (j : Int) d)) ([z04 m (k : Int) d] : List (List Int)) := ⟨by rw [List.length_singleton]; omega, by rw [List.length_singleton]; omega⟩
      rw [cf rfl, zu hfit, zu (jb (by omega))]; rfl
    · left
      rw [ct rfl, if_pos (show zoi m d = true from zrk hk hd)]
  · obtain ⟨rfl, ha⟩ := hi
    simp only [mf]
    rw [p9 (by omega), if_neg (by unfold zoi; rw [ha]; decide)]
theorem znf {N : Nat} {m : Mach} {d : List Int} (hs : Small m) (hd : d.length ≤ 300) (hN : 400 ≤ N) : ww N m d = some (canI m d) := by
  unfold ww canI
  rw [qh (zk9 hs (by omega))]
  by_cases h : properM m = 0
  · obtain ⟨hm, hcm, hcn, hrd⟩ := zmu h
    rw [p9 (by omega), if_neg (by omega), qh (zel (by omega) (by omega)), zhe hm]
    by_cases h1 : 256 < d.length
    · rw [if_pos h1, if_pos h1, mr (by decide)]
    rw [if_neg h1, if_neg h1]
    by_cases h2 : d.any (zds m) = true
    · rw [if_pos h2, if_pos h2, mr (by decide)]
    have hw : z1w d m.inputs = 0 := by rw [zhe hm, if_neg h1, if_neg h2]
    rw [if_neg h2, if_neg h2, p9 (by decide), qh (zkz hm (by omega) (zqi hm hcn (by omega))), p9 (show ¬ ((knotsL m, (0 : Int)).2 ≠ 0) from fun h => h rfl)]
    by_cases h3 : 1 < (knotsL m).length
    · rw [if_pos h3, mr (show (1 : Int) < ((knotsL m).length : Int) by omega)]
    rw [if_neg h3, p9 (show ¬ (1 : Int) < ((knotsL m).length : Int) by omega), qh (zr4 hm hw hN)]
    cases zoi m d <;> rfl
  · rw [mr h, if_pos h]
/-! ### The law -/
end GV
end Go.Proofs.Ytplgbkaollfmkaa
