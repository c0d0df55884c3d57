
import Derived.Test.YtplgbkaollfmkaaKnots39c
import Derived.Test.YtplgbkaollfmkaaLaw39a
import Derived.Test.YtplgbkaollfmkaaSpec04b
import Derived.Test.YtplgbkaollfmkaaSpec09d
import Derived.Test.YtplgbkaollfmkaaShOpens
set_option linter.unusedVariables false
set_option linter.unusedSimpArgs false
namespace Go.Proofs.Ytplgbkaollfmkaa
namespace GV
set_option maxRecDepth 100000
/-! ### Words and runs, the program's -/
theorem zhj {N : Nat} {w : List Int} {n : Int} (hN : w.length < N) (hl : w.length ≤ 4611686018427387904) : z3s N w n = some (z4y w n) := by
  unfold z3s
  by_cases h : 16 < n ∨ 256 < w.length
  · rw [ct (by simp; omega), zje h]
  · rw [cf (by simp; omega)]
    rw [zix (fun _ => zia (p := zbx n) (fun j hj => rfl) hN hl)]
    by_cases h1 : n < 1 ∨ w.any (zbx n) = true
    · rw [zjy h h1]
      refine ct ?_
      by_cases h2 : n < 1
      · rw [decide_eq_true h2]; rfl
      · rw [decide_eq_false h2]; exact h1.resolve_left h2
    · rw [zk4 h h1]
      refine cf ?_
      rw [decide_eq_false (fun h2 => h1 (.inl h2))]
      exact Bool.eq_false_iff.2 fun h2 => h1 (.inr h2)
theorem zv3 {N : Nat} {m : Mach} (hm : MOk m) {s : Int} {w : List Int} (hs : SOk m s) (hw : WOk m.inputs w) (hN : w.length < N) (hl : w.length ≤ 1000000) : z4c N m s w = some (oh m s w, lq m s w) := by
  unfold z4c
  rw [zx ⟨by omega, by omega, by omega⟩, z5a]
  refine Eq.trans (qf (x := (lq m s w, oh m s w)) ?_) rfl
  refine xh (σ := Int × List Int) (fun F k x => ic N m w F x.1 (k : Int) x.2) w.length (fun k x => x.1 = lq m s (w.take k) ∧ x.2 = oh m s (w.take k) ++ List.replicate (w.length - k) (0 : Int)) _ (fun F k x hk hi => .inr ?_) (fun F x hi => ?_) N 0 (s, List.replicate w.length 0) (Nat.zero_le _) (by omega) (by simp [lq, oh])
  · obtain ⟨t, X⟩ := x
    obtain ⟨rfl, rfl⟩ := hi
    have hst := zcr m hm s (w.take k) hs (zc9 hw k)
    have hwk := hw k hk
    refine ⟨(lq m s (w.take (k + 1)), oh m s (w.take (k + 1)) ++ List.replicate (w.length - (k + 1)) (0 : Int)), ⟨rfl, rfl⟩, ?_⟩
    simp only [ic]
    rw [vz (by omega), zx (ji hk), show z06 N = some ⟨-1, -1⟩ from rfl, ziy]
    have hn : (bif decide (lq m s (w.take k) ≠ -1) then gd (okI m.rows (lq m s (w.take k))) <| gd (okI (ix m.rows (lq m s (w.take k))) (ix w (k : Int))) <| some ((ix (ix m.rows (lq m s (w.take k))) (ix w (k : Int))).to, (ix (ix m.rows (lq m s (w.take k))) (ix w (k : Int))).out) else some ((-1 : Int), (-1 : Int))) =
        some ((ll m (lq m s (w.take k)) (w.getD k default)).to, (ll m (lq m s (w.take k)) (w.getD k default)).out) := by
      rcases hst with h | h
      · rw [h]; rfl
      · have hrow := hm.row (lq m s (w.take k)).toNat (by omega)
        rw [vz (by omega), zx h, zx (show okI (ix m.rows (lq m s (w.take k))) (ix w (k : Int)) from ⟨hwk.1, show w.getD k default < ((m.rows.getD (lq m s (w.take k)).toNat default).length : Int) from by rw [hrow]; exact hwk.2⟩)]
        unfold ll
        rw [if_neg (by omega)]; rfl
    refine Eq.trans (qf hn) ?_
    have hlr := l5 m s (w.take k)
    rw [List.length_take] at hlr
    rw [zx (ji (by rw [List.length_append, List.length_replicate, hlr]; omega)), zx (jb (by omega)), z98, zra _ _ _ _ (by omega) hk, ← zan m s w k hk, ← zat m s w k hk]; rfl
  · obtain ⟨t, X⟩ := x
    obtain ⟨rfl, rfl⟩ := hi
    simp only [ic]
    rw [vv (by omega), List.take_length, Nat.sub_self, List.replicate_zero, List.append_nil]
theorem zsn {N : Nat} {m : Mach} {d : List Int} (hm : MOk m) {s : Nat} (hs : s < m.rows.length) (hw : z4y d m.inputs = 0) (hN : 400 ≤ N) : z4a N m (s : Int) d = some (oh m (s : Int) d, 0) := by
  have hw' := zkn hw
  have hst : z2u N m (s : Int) = some 0 := by
    unfold z2u
    rw [qf (ziz hm (by omega)), vv (by decide), cf (by rw [← Bool.not_eq_true, Bool.or_eq_true, decide_eq_true_iff, decide_eq_true_iff]; omega)]
  unfold z4a
  rw [qf hst, vv (by decide), qf (zhj (by omega) (by omega)), hw, vv (by decide), qf (zv3 hm (.inr ⟨by omega, by omega⟩) hw'.1 (by omega) (by omega))]
/-! ### Which of a list's words answers so -/
theorem zoh {N : Nat} {s : List (List Int)} {f : List Int → Option Bool} {p : List Int → Bool} (hf : ∀ k, k < s.length → f (s.getD k default) = some (p (s.getD k default))) (hN : s.length < N) (hl : s.length ≤ 4611686018427387904) :
    o9 N s f = some (s.any p) := by
  obtain ⟨r, h, hr⟩ : ∃ r, vo N s f N 0 = some r ∧ ((s.any p = true ∧ ∃ k : Nat, r = Ex.rt (k : Int)) ∨ (s.any p = false ∧ r = Ex.go ())) := by
    refine iy (σ := Unit) (fun F k _ => vo N s f F (k : Int)) s.length (fun k _ => (s.take k).any p = false) _ (fun F k _ hk hi => ?_) (fun F _ hi => ?_) N 0 () (Nat.zero_le _) (by omega) (by simp)
    · simp only [vo]
      rw [vz (by omega), zx (ji hk), r9, qf (hf k hk)]
      cases hp : p (s.getD k default)
      · right
        refine ⟨(), by rw [z4o p s k hk, hi, hp]; rfl, ?_⟩
        rw [cf rfl, zx (jb (by omega))]; rfl
      · left
        rw [ct rfl]
        exact ⟨_, rfl, .inl ⟨List.any_eq_true.2 ⟨_, sj hk, hp⟩, k, rfl⟩⟩
    · simp only [vo]
      rw [vv (by omega)]
      rw [List.take_length] at hi
      exact ⟨_, rfl, .inr ⟨hi, rfl⟩⟩
  unfold o9 z0p
  rw [qf h]
  rcases hr with ⟨ha, k, rfl⟩ | ⟨ha, rfl⟩
  · rw [ha]
    refine (qf (x := (k : Int)) rfl).trans ?_
    rw [decide_eq_true (by omega)]
  · rw [ha]; rfl
/-! ### Can -/
def zh0 (m : Mach) (d : List Int) (k : Nat) : Bool := (List.range k).any fun j => decide (oh m (j : Int) d = oh m (k : Int) d)
def zit (m : Mach) (d : List Int) : Bool := (List.range m.rows.length).any (zh0 m d)
noncomputable def canI (m : Mach) (d : List Int) : Int := if properM m ≠ 0 then properM m else if 256 < d.length then 3 else if d.any (z8t m) = true then 1 else if 1 < (knotsL m).length then 7 else if zit m d = true then 12 else 0
theorem zg5 (p : Nat → Bool) (k : Nat) : (List.range (k + 1)).any p = ((List.range k).any p || p k) := by rw [List.range_succ, List.any_append]; simp
theorem zlj {p : Nat → Bool} {k n : Nat} (hk : k < n) (h : p k = true) : (List.range n).any p = true := List.any_eq_true.2 ⟨k, List.mem_range.2 hk, h⟩
theorem zk3 {m : Mach} (h : properM m = 0) : MOk m ∧ z9d m = true ∧ connB m = true ∧ zgt m = true := by
  unfold properM at h
  by_cases hc : l9 m = 0
  · rw [if_neg (by omega)] at h
    refine ⟨(z1o m).1 hc, ?_⟩
    cases h1 : z9d m
    · rw [h1, if_pos rfl] at h; omega
    cases h2 : connB m
    · rw [h1, h2, if_neg Bool.noConfusion, if_pos rfl] at h; omega
    cases h3 : zgt m
    · rw [h1, h2, h3, if_neg Bool.noConfusion, if_neg Bool.noConfusion, if_pos rfl] at h; omega
    exact ⟨rfl, rfl, rfl⟩
  · rw [if_pos hc] at h; exact absurd h hc
theorem zsp {N : Nat} {m : Mach} (hm : MOk m) (hc : connB m = true) (hN : 200 ≤ N) : z3u N m = some 0 := by
  have h0 := (z1o m).2 hm
  unfold z3u
  rw [qf (zcc hm.small hN), h0, if_neg (by decide), hc]
  rfl
theorem zjr {m : Mach} {d : List Int} (hm : MOk m) : z4y d m.inputs = if 256 < d.length then 3 else if d.any (z8t m) = true then 1 else 0 := by
  have h1 := hm.i1; have h2 := hm.i2
  by_cases h : 256 < d.length
  · rw [if_pos h, zje (.inr h)]
  · rw [if_neg h]
    by_cases hb : d.any (z8t m) = true
    · rw [if_pos hb, zjy (by omega) (.inr hb)]
    · rw [if_neg hb]
      exact zk4 (by omega) (fun k => k.elim (fun k => by omega) hb)
theorem zue {N : Nat} {m : Mach} {d : List Int} (hm : MOk m) (hw : z4y d m.inputs = 0) (hN : 400 ≤ N) : fq N m d N [] 0 = some (if zit m d = true then Ex.rt 12 else Ex.go ()) := by
  have hr := hm.r2
  have hw' := zkn hw
  refine xh (σ := List (List Int)) (fun F k X => fq N m d F X (k : Int)) m.rows.length (fun k X => X = (List.range k).map (fun j : Nat => oh m (j : Int) d) ∧ (List.range k).any (zh0 m d) = false) _ (fun F k X hk hi => ?_) (fun F X hi => ?_) N 0 [] (Nat.zero_le _) (by omega) ⟨rfl, rfl⟩
  · obtain ⟨rfl, ha⟩ := hi
    have hlen : ((List.range k).map (fun j : Nat => oh m (j : Int) d)).length = k := by simp
    have hany : ((List.range k).map (fun j : Nat => oh m (j : Int) d)).any (fun z => decide (z = oh m (k : Int) d)) = zh0 m d k := by unfold zh0; rw [List.any_map]; rfl
    simp only [fq]
    rw [vz (by omega), qf (zsn hm hk hw hN), qf (zoh (p := fun z => decide (z = oh m (k : Int) d)) (fun j hj => by
      unfold z6e
      have hl2 : (((List.range k).map (fun j : Nat => oh m (j : Int) d)).getD j default).length ≤ 256 := by
        obtain ⟨i, _, e⟩ := List.mem_map.1 (sj hj)
        rw [← e, l5]; exact hw'.2
      exact qf (zib (by omega) (by omega))) (by omega) (by omega)), hany]
    cases hd : zh0 m d k
    · right
      refine ⟨(List.range k).map (fun j : Nat => oh m (j : Int) d) ++ [oh m (k : Int) d], ⟨by rw [List.range_succ, List.map_append]; rfl, by rw [zg5, ha, hd]; rfl⟩, ?_⟩
      have hfit : fits 24 ((List.range k).map (fun j : Nat => oh m (j : Int) d)) ([oh m (k : Int) d] : List (List Int)) := ⟨by rw [List.length_singleton]; omega, by rw [List.length_singleton]; omega⟩
      rw [cf rfl, zx hfit, zx (jb (by omega))]; rfl
    · left
      rw [ct rfl, if_pos (show zit m d = true from zlj hk hd)]
  · obtain ⟨rfl, ha⟩ := hi
    simp only [fq]
    rw [vv (by omega), if_neg (by unfold zit; rw [ha]; decide)]
theorem zv4 {N : Nat} {m : Mach} {d : List Int} (hs : Small m) (hd : d.length ≤ 300) (hN : 400 ≤ N) : z0z N m d = some (canI m d) := by
  unfold z0z canI
  rw [qf (zp0 hs (by omega))]
  by_cases h : properM m = 0
  · obtain ⟨hm, hcm, hcn, hrd⟩ := zk3 h
    rw [vv (by omega), if_neg (by omega), qf (zhj (by omega) (by omega)), zjr hm]
    by_cases h1 : 256 < d.length
    · rw [if_pos h1, if_pos h1, vz (by decide)]
    rw [if_neg h1, if_neg h1]
    by_cases h2 : d.any (z8t m) = true
    · rw [if_pos h2, if_pos h2, vz (by decide)]
    have hw : z4y d m.inputs = 0 := by rw [zjr hm, if_neg h1, if_neg h2]
    rw [if_neg h2, if_neg h2, vv (by decide), qf (zp3 hm (by omega) (zsp hm hcn (by omega))), vv (show ¬ ((knotsL m, (0 : Int)).2 ≠ 0) from fun h => h rfl)]
    by_cases h3 : 1 < (knotsL m).length
    · rw [if_pos h3, vz (show (1 : Int) < ((knotsL m).length : Int) by omega)]
    rw [if_neg h3, vv (show ¬ (1 : Int) < ((knotsL m).length : Int) by omega), qf (zue hm hw hN)]
    cases zit m d <;> rfl
  · rw [vz h, if_pos h]
theorem zso {N : Nat} {m : Mach} {d : List Int} (hm : MOk m) (hw : WOk m.inputs d) (hd : d.length ≤ 256) (hN : 400 ≤ N) {k : Nat} (hk : k < m.rows.length) :
    bq N m d (k : Int) N 0 = some (if zh0 m d k = true then Ex.rt (Ex.rt 12) else Ex.go ()) := by
  have hr := hm.r2
  refine xh (σ := Unit) (fun F j _ => bq N m d (k : Int) F (j : Int)) k (fun j _ => (List.range j).any (fun j : Nat => decide (oh m (j : Int) d = oh m (k : Int) d)) = false) _ (fun F j _ hj hi => ?_) (fun F _ hi => ?_) N 0 () (Nat.zero_le _) (by omega) rfl
  · simp only [bq]
    have hrun : ∀ i : Nat, i < m.rows.length → ib N m (i : Int) d = some (oh m (i : Int) d) := fun i h => zt6 hm (.inr ⟨by omega, by omega⟩) hw (by omega) (by omega)
    rw [vz (by omega), qf (hrun k hk), qf (hrun j (by omega)), qf (zjn (by rw [l5]; omega) (by rw [l5]; omega))]
    by_cases h : oh m (j : Int) d = oh m (k : Int) d
    · left
      rw [vz h.symm, if_pos (show zh0 m d k = true from zlj hj (decide_eq_true h))]
    · right
      refine ⟨(), by rw [zg5, hi, decide_eq_false h]; rfl, ?_⟩
      rw [vv (fun e => h e.symm), zx (jb (by omega))]; rfl
  · simp only [bq]
    rw [vv (by omega), if_neg (by unfold zh0; rw [hi]; decide)]
theorem zsv {N : Nat} {m : Mach} {d : List Int} (hm : MOk m) (hw : WOk m.inputs d) (hd : d.length ≤ 256) (hN : 400 ≤ N) :
    bz N m d N 0 = some (if zit m d = true then Ex.rt 12 else Ex.go ()) := by
  have hr := hm.r2
  refine xh (σ := Unit) (fun F k _ => bz N m d F (k : Int)) m.rows.length (fun k _ => (List.range k).any (zh0 m d) = false) _ (fun F k _ hk hi => ?_) (fun F _ hi => ?_) N 0 () (Nat.zero_le _) (by omega) rfl
  · simp only [bz]
    rw [vz (by omega), qf (zso hm hw hd hN hk)]
    cases h : zh0 m d k
    · right
      refine ⟨(), by rw [zg5, hi, h]; rfl, ?_⟩
      rw [if_neg Bool.false_ne_true, zh1]
      exact zx (jb (by omega))
    · left
      rw [if_pos rfl, if_pos (show zit m d = true from zlj hk h)]; rfl
  · simp only [bz]
    rw [vv (by omega), if_neg (by unfold zit; rw [hi]; decide)]
theorem zsi {N : Nat} {m : Mach} {d : List Int} (hs : Small m) (hd : d.length ≤ 300) (hN : 400 ≤ N) : z0w N m d = some (canI m d) := by
  unfold z0w canI
  rw [qf (zm5 hs (by omega))]
  by_cases h : properM m = 0
  · obtain ⟨hm, hcm, hcn, hrd⟩ := zk3 h
    rw [vv (by omega), if_neg (by omega)]
    by_cases h1 : 256 < d.length
    · rw [if_pos h1, vz (by omega)]
    rw [if_neg h1, vv (by omega), qf (zhr (by omega) (by omega))]
    cases h2 : d.any (z8t m)
    · have hw := zmx h2
      rw [if_neg Bool.false_ne_true]
      refine (cf rfl).trans ?_
      rw [qf (zo6 hm (by omega))]
      by_cases h3 : 1 < (knotsL m).length
      · rw [if_pos h3, vz (by omega)]
      rw [if_neg h3, vv (by omega), qf (zsv hm hw (by omega) hN)]
      cases zit m d <;> rfl
    · rw [if_pos rfl]; exact ct rfl
  · rw [vz h, if_pos h]
/-! ### The law -/
theorem zsf {m : Mach} (hr : m.rows.length ≤ 8) : ∃ r, um 2000 m 2000 0 = some r ∧ (r = .rt true ∨ (r = .go () ∧ Small m)) := by
  refine iy (σ := Unit) (fun F k _ => um 2000 m F (k : Int)) m.rows.length (fun k _ => ∀ j, j < k → (m.rows.getD j default).length ≤ 20) _ (fun F k _ hk hi => ?_) (fun F _ hi => ?_) 2000 0 () (Nat.zero_le _) (by omega) (fun j hj => by omega)
  · simp only [um]
    rw [vz (by omega), zx (ji hk)]
    by_cases h : 20 < ((ix m.rows (k : Int)).length : Int)
    · left
      rw [vz h]
      exact ⟨_, rfl, .inl rfl⟩
    · right
      refine ⟨(), fun j hj => ?_, ?_⟩
      · by_cases e : j = k
        · subst e; rw [r9] at h; omega
        · exact hi j (by omega)
      · rw [vv h]; exact zx (jb (by omega))
  · simp only [um]
    rw [vv (by omega)]
    exact ⟨_, rfl, .inr ⟨rfl, by omega, fun k hk => by have := hi k hk; omega⟩⟩
theorem zsc {m : Mach} {d : List Int} : eu 2000 m d = some true := by
  unfold eu
  by_cases h8 : 8 < (m.rows.length : Int) ∨ 300 < (d.length : Int)
  · exact ct (by rw [Bool.or_eq_true, decide_eq_true_iff, decide_eq_true_iff]; exact h8)
  refine (cf (by rw [← Bool.not_eq_true, Bool.or_eq_true, decide_eq_true_iff, decide_eq_true_iff]; exact h8)).trans ?_
  refine zwz (zsf (by omega)) ?_
  rintro r (rfl | ⟨rfl, hs⟩)
  · rfl
  rw [zh1]
  have hc : z0z 2000 m d = some (canI m d) := zv4 hs (by omega) (by decide)
  refine (qf (zsi (N := 2000) hs (by omega) (by decide))).trans ?_
  refine (qf hc).trans ?_
  refine (vv (fun h => h rfl)).trans ?_
  by_cases h0 : canI m d = 0
  · refine (vz h0).trans ?_
    exact (qf z8x)
  refine (vv h0).trans ?_
  have hf : z0y 2000 m d [] = some (none, canI m d) := by
    unfold z0y
    rw [qf hc, vz h0]
  have e1 : lm 2000 m d [] = some ([], canI m d) := by
    unfold lm
    rw [qf hf, vz h0]
  have e2 : z2x 2000 m d [] = some ([], canI m d) := by
    unfold z2x
    rw [qf hf, vz h0]
  have e3 : z2g 2000 m d [] = some (⟨false, [], []⟩, canI m d) := by
    unfold z2g
    rw [qf hf, vz h0]
  have e4 : z3b 2000 m d = some ([], canI m d) := by
    unfold z3b
    rw [qf hc, vz h0]
  have hd : decide (canI m d = canI m d) = true := decide_eq_true rfl
  refine (qf e1).trans ?_
  refine (qf e2).trans ?_
  refine (qf e3).trans ?_
  refine (qf e4).trans ?_
  dsimp only
  rw [hd]
  refine (zx (fun _ => by decide)).trans ?_
  refine (zx (fun _ => by decide)).trans ?_
  refine (zku rfl (show z0g 2000 ⟨false, [], []⟩ ⟨false, [], []⟩ = some true from by decide +kernel)).trans ?_
  refine (zku rfl z8x).trans ?_
  rfl
end GV
end Go.Proofs.Ytplgbkaollfmkaa

namespace Go.Proofs.Ytplgbkaollfmkaa
namespace GV
theorem wf_u8 {x : Int} (h : (Lit.int .u8 x).wf = true) : 0 ≤ x ∧ x ≤ 255 := by simpa [Lit.wf, IntKind.min, IntKind.max, IntKind.signed, IntKind.bits] using h
theorem wf_u16 {x : Int} (h : (Lit.int .u16 x).wf = true) : 0 ≤ x ∧ x ≤ 65535 := by simpa [Lit.wf, IntKind.min, IntKind.max, IntKind.signed, IntKind.bits] using h
theorem zst {x : Sgauntletlaw06_C} (h : zuv x) : CDOk x := ⟨wf_u8 h.1, wf_u8 h.2.1, wf_u8 h.2.2.1, fun k hk => wf_u8 (h.2.2.2.1.1 _ (sj hk)), fun k hk => wf_u16 (h.2.2.2.2.1 _ (sj hk))⟩
theorem zgp {x : Sgauntletlaw06_C} {w : List Int} (hx : zuv x) (hw : zvd w) : dx 2000 x w = some true := zih (zst hx) hw.2
theorem zqr {m : Mach} {d : List Int} (hm : zvr m) (hd : zvd d) : eu 2000 m d = some true := zsc
end GV
end Go.Proofs.Ytplgbkaollfmkaa
