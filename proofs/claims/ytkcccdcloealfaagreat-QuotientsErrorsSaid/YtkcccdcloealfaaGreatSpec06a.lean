import Derived.Test.YtkcccdcloealfaaGreatPlain04
import Derived.Test.YtkcccdcloealfaaGreatShPl
set_option linter.unusedVariables false
set_option linter.unusedSimpArgs false
namespace Go.Proofs.YtkcccdcloealfaaGreat
namespace GV
set_option maxRecDepth 100000
theorem q18 {N : Nat} {s : List Edge} {f : Edge → Option Bool} {p : Edge → Bool} (hf : ∀ k, k < s.length → f (s.getD k default) = some (p (s.getD k default))) (hN : s.length < N) (hl : s.length ≤ 4611686018427387904) :
    l8 N s f = some (zi2 p s) := by
  have h : w9 N s f N 0 = some (if s.any p = true then Ex.rt (zi2 p s) else Ex.go ()) := by
    refine ui (σ := Unit) (fun F k _ => w9 N s f F (k : Int)) s.length (fun k _ => (s.take k).any p = false) _ (fun F k _ hk hi => ?_) (fun F _ hi => ?_) N 0 () (Nat.zero_le _) (by omega) (by simp)
    · simp only [w9]
      rw [wu (by omega), zq (qo hk), r9, zy (hf k hk)]
      cases hp : p (s.getD k default)
      · right
        refine ⟨(), by rw [za1 p s k hk, hi, hp]; rfl, ?_⟩
        rw [cf rfl, zq (qy (by omega))]; rfl
      · left
        rw [ct rfl, if_pos (List.any_eq_true.2 ⟨_, lg hk, hp⟩), zew p s k hk hi hp]
    · simp only [w9]
      rw [uo (by omega), if_neg (by rw [List.take_length] at hi; rw [hi]; decide)]
  unfold l8
  rw [zy h]
  by_cases ha : s.any p = true
  · rw [if_pos ha]; rfl
  · rw [if_neg ha, zh9 p s (by simpa using ha)]; rfl
theorem zvg {N : Nat} {s : List Edge} {f : Edge → Option Bool} {p : Edge → Bool} (hf : ∀ k, k < s.length → f (s.getD k default) = some (p (s.getD k default))) (hN : s.length < N) (hl : s.length ≤ 4611686018427387904) :
    au N s f = some (s.any p) := by
  unfold au
  rw [zy (q18 hf hN hl), znc]
theorem z5m {N : Nat} {m : Mach} (hs : Small m) (hN : 200 ≤ N) : yc N m = some (ow m) := by
  unfold yc
  by_cases h : (16 < m.inputs ∨ 16 < m.outputs) ∨ 64 < m.rows.length
  · rw [ct (by simp; omega), zq4 h]
  · rw [cf (by simp; omega)]
    by_cases h1 : (m.inputs < 1 ∨ m.outputs < 1) ∨ m.rows.length < 1
    · rw [ct (by simp; omega), zof h h1]
    · rw [cf (by simp; omega)]
      have hl := hs.r
      have hL : ik N m N 0 = some (if m.rows.any (z2l m) = true then Ex.rt 1 else Ex.go ()) := by
        refine ui (σ := Unit) (fun F k _ => ik N m F (k : Int)) m.rows.length (fun k _ => (m.rows.take k).any (z2l m) = false) _ (fun F k _ hk hi => ?_) (fun F _ hi => ?_) N 0 () (Nat.zero_le _) (by omega) (by simp)
        · simp only [ik]
          have hc := hs.c k hk
          rw [wu (by omega), zq (qo hk), r9, zb1 (fun _ => zvg (p := fun x => !zgd m x) (fun j hj => rfl) (by omega) (by omega))]
          have hb : (decide (((m.rows.getD k default).length : Int) ≠ m.inputs) || ((bif (true && (decide (((m.rows.getD k default).length : Int) ≠ m.inputs) == false)) then some ((m.rows.getD k default).any fun x => !zgd m x) else none).getD default)) = z2l m (m.rows.getD k default) := by
            unfold z2l
            cases decide (((m.rows.getD k default).length : Int) ≠ m.inputs) <;> rfl
          rw [hb]
          cases hr : z2l m (m.rows.getD k default)
          · right
            refine ⟨(), by rw [za1 _ _ k hk, hi, hr]; rfl, ?_⟩
            rw [cf rfl, zq (qy (by omega))]; rfl
          · left
            rw [ct rfl, if_pos (List.any_eq_true.2 ⟨_, lg hk, hr⟩)]
        · simp only [ik]
          rw [uo (by omega), if_neg (by rw [List.take_length] at hi; rw [hi]; decide)]
      rw [zy hL]
      by_cases ha : m.rows.any (z2l m) = true
      · rw [if_pos ha]; unfold ow; rw [if_neg h, if_neg h1, if_pos ha]; rfl
      · rw [if_neg ha, zpj h h1 (by simpa using ha)]; rfl
theorem zqt {N : Nat} {m : Mach} (hm : MOk m) (hN : 200 ≤ N) : z0u N m = some (zv4 m : Int) := by
  have hr := hm.r2; have hi1 := hm.i1; have hi2 := hm.i2
  unfold z0u
  refine Eq.trans (zy (x := (zv4 m : Int)) ?_) rfl
  refine ui (fun F k (s : Int) => pu N m F s (k : Int)) m.rows.length (fun k s => s = (zbn m k : Int)) _ (fun F k s hk hi => .inr ?_) (fun F s hi => ?_) N 0 0 (Nat.zero_le _) (by omega) (by simp [zbn])
  · subst hi
    have hlen : ((m.rows.getD k default).length : Int) = m.inputs := hm.row k hk
    have hle := zs5 m hm k (by omega)
    have hL : xg N m (k : Int) N (zbn m k : Int) 0 = some (zbn m (k + 1) : Int) := by
      rw [zbk m k hk]
      refine ui (fun F i (s : Int) => xg N m (k : Int) F s (i : Int)) m.inputs.toNat (fun i s => s = ((zbn m k + zgm (m.rows.getD k default) i : Nat) : Int)) _ (fun F i s hi hs => .inr ?_) (fun F s hs => ?_) N 0 _ (Nat.zero_le _) (by omega) (by simp [zgs])
      · subst hs
        have hi' : i < (m.rows.getD k default).length := by omega
        refine ⟨_, rfl, ?_⟩
        simp only [xg]
        have hc := zt4 (m.rows.getD k default) i
        rw [wu (by omega), zq (qo hk), zq (show okI (ix m.rows (k : Int)) (i : Int) from qo hi'), zhh _ _ hi']
        by_cases h0 : 0 ≤ ((m.rows.getD k default).getD i default).to
        · rw [if_pos h0]
          refine Eq.trans (zy (x := ((zbn m k + (zgm (m.rows.getD k default) i + 1) : Nat) : Int)) ?_) ?_
          · refine Eq.trans (wu h0) ?_
            rw [zq (qy (by omega))]; rfl
          · rw [zq (qy (by omega))]; rfl
        · rw [if_neg h0]
          refine Eq.trans (zy (x := ((zbn m k + (zgm (m.rows.getD k default) i + 0) : Nat) : Int)) ?_) ?_
          · exact uo h0
          · rw [zq (qy (by omega))]; rfl
      · subst hs
        simp only [xg]
        rw [uo (by omega), show m.inputs.toNat = (m.rows.getD k default).length by omega]
    refine ⟨_, rfl, ?_⟩
    simp only [pu]
    rw [wu (by omega), zy hL, zq (qy (by omega))]; rfl
  · subst hi
    simp only [pu]
    rw [uo (by omega)]; rfl
theorem znk {N : Nat} {m : Mach} (hm : MOk m) (hN : 200 ≤ N) : z0f N m = some (z7j m) := by
  unfold z0f
  have := hm.mul
  rw [zy (zqt hm hN), zq (qy (by rw [this.2]; omega))]; rfl
theorem ziq {N : Nat} {m : Mach} (hm : MOk m) (hN : 200 ≤ N) {a : Nat} (ha : a < m.rows.length) : mq N m (a : Int) = some (reachL m a) := by
  have hr := hm.r2; have hi1 := hm.i1; have hi2 := hm.i2
  unfold mq
  rw [zq ⟨by omega, by omega, by omega⟩, z7n, zq (qo (by simpa using ha)), z5u]
  refine Eq.trans (zy (x := reachL m a) ?_) rfl
  refine ui (fun F r Y => pq N m F (r : Int) Y) m.rows.length (fun r Y => RInv m a r Y) _ (fun F r Y hk hi => .inr ?_) (fun F Y hi => ?_) N 0 _ (Nat.zero_le _) (by omega) (zvd ha)
  · obtain ⟨Z, hZ, hz⟩ : ∃ Z, yz N m N 0 Y = some Z ∧ RInv m a (r + 1) Z := by
      refine z2o (fun F s Z => yz N m F (s : Int) Z) m.rows.length (fun s Z => RPass m a Y s 0 Z) _ (fun F s Z hs hp => .inr ?_) (fun F Z hp => ?_) N 0 Y (Nat.zero_le _) (by omega) (zzv hi)
      · have hlen : ((m.rows.getD s default).length : Int) = m.inputs := hm.row s hs
        obtain ⟨V, hV, hv⟩ : ∃ V, yt N m (s : Int) N 0 Z = some V ∧ RPass m a Y (s + 1) 0 V := by
          refine z2o (fun F i V => yt N m (s : Int) F (i : Int) V) m.inputs.toNat (fun i V => RPass m a Y s i V) _ (fun F i V hi' hq => .inr ?_) (fun F V hq => ?_) N 0 Z (Nat.zero_le _) (by omega) hp
          · have hil : i < (m.rows.getD s default).length := by omega
            have hsl : s < V.length := by rw [hq.len]; exact hs
            simp only [yt]
            rw [wu (by omega), zq (qo hs), zq (show okI (ix m.rows (s : Int)) (i : Int) from qo hil), zq (qo hsl)]
            by_cases hc : V.getD s default = true ∧ 0 ≤ ((m.rows.getD s default).getD i default).to
            · refine ⟨_, q1k hm hq hs hil hc.1 hc.2, ?_⟩
              have hlt : ((m.rows.getD s default).getD i default).to.toNat < V.length := by
                rw [hq.len]; rcases hm.edge s i hs hil with h | h <;> omega
              refine Eq.trans (zy (x := V.set ((m.rows.getD s default).getD i default).to.toNat true) ?_) ?_
              · refine Eq.trans (ct (by show (V.getD s default && decide (0 ≤ ((m.rows.getD s default).getD i default).to)) = true; rw [hc.1, decide_eq_true hc.2]; rfl)) ?_
                exact zq (show okI V ((m.rows.getD s default).getD i default).to from ⟨hc.2, by omega⟩)
              · rw [zq (qy (by omega))]; rfl
            · refine ⟨V, q0e hq hc, ?_⟩
              refine Eq.trans (zy (x := V) ?_) ?_
              · refine cf (show (V.getD s default && decide (0 ≤ ((m.rows.getD s default).getD i default).to)) = false from ?_)
                cases h1 : V.getD s default
                · rfl
                · exact decide_eq_false fun h2 => hc ⟨h1, h2⟩
              · rw [zq (qy (by omega))]; rfl
          · simp only [yt]
            rw [uo (by omega)]
            exact ⟨V, rfl, q1f hq (by omega)⟩
        refine ⟨V, hv, ?_⟩
        simp only [yz]
        rw [wu (by omega), zy hV, zq (qy (by omega))]; rfl
      · simp only [yz]
        rw [uo (by omega)]
        exact ⟨Z, rfl, q2r hp (Nat.le_refl _) hi⟩
    refine ⟨Z, hz, ?_⟩
    simp only [pq]
    rw [wu (by omega), zy hZ, zq (qy (by omega))]; rfl
  · simp only [pq]
    rw [uo (by omega), zw0 hm ha hi (Nat.le_refl _)]
theorem zir {N : Nat} {m : Mach} (hm : MOk m) (hN : 200 ≤ N) : xw N m = some (connB m) := by
  have hr := hm.r2; have hr1 := hm.r1
  unfold xw
  rw [zy (show mq N m 0 = _ from ziq (a := 0) hm hN (by omega))]
  have hl := z8a m 0
  have hL : vk N (reachL m 0) N 0 = some (if connB m = true then Ex.go () else Ex.rt false) := by
    refine ui (σ := Unit) (fun F k _ => vk N (reachL m 0) F (k : Int)) m.rows.length (fun k _ => ∀ j, j < k → (reachL m 0).getD j default = true) _ (fun F k _ hk hi => ?_) (fun F _ hi => ?_) N 0 () (Nat.zero_le _) (by omega) (fun j hj => by omega)
    · simp only [vk]
      rw [wu (by omega), zq (qo (by omega)), r9]
      cases hb : (reachL m 0).getD k default
      · left
        refine Eq.trans (ct rfl) ?_
        rw [zsy hk hb]; rfl
      · right
        refine ⟨(), zbe hi hb, Eq.trans (cf rfl) ?_⟩
        rw [zq (qy (by omega))]; rfl
    · simp only [vk]
      rw [uo (by omega), zsu hi]; rfl
  rw [zy hL]
  cases connB m <;> rfl
/-! ### Words -/
theorem q2p {N : Nat} {s : List Int} {f : Int → Option Bool} {p : Int → Bool} (hf : ∀ k, k < s.length → f (s.getD k default) = some (p (s.getD k default))) (hN : s.length < N) (hl : s.length ≤ 4611686018427387904) :
    z1c N s f = some (zi2 p s) := by
  have h : gy N s f N 0 = some (if s.any p = true then Ex.rt (zi2 p s) else Ex.go ()) := by
    refine ui (σ := Unit) (fun F k _ => gy N s f F (k : Int)) s.length (fun k _ => (s.take k).any p = false) _ (fun F k _ hk hi => ?_) (fun F _ hi => ?_) N 0 () (Nat.zero_le _) (by omega) (by simp)
    · simp only [gy]
      rw [wu (by omega), zq (qo hk), r9, zy (hf k hk)]
      cases hp : p (s.getD k default)
      · right
        refine ⟨(), by rw [za1 p s k hk, hi, hp]; rfl, ?_⟩
        rw [cf rfl, zq (qy (by omega))]; rfl
      · left
        rw [ct rfl, if_pos (List.any_eq_true.2 ⟨_, lg hk, hp⟩), zew p s k hk hi hp]
    · simp only [gy]
      rw [uo (by omega), if_neg (by rw [List.take_length] at hi; rw [hi]; decide)]
  unfold z1c
  rw [zy h]
  by_cases ha : s.any p = true
  · rw [if_pos ha]; rfl
  · rw [if_neg ha, zh9 p s (by simpa using ha)]; rfl
theorem zls {N : Nat} {s : List Int} {f : Int → Option Bool} {p : Int → Bool} (hf : ∀ k, k < s.length → f (s.getD k default) = some (p (s.getD k default))) (hN : s.length < N) (hl : s.length ≤ 4611686018427387904) :
    z0c N s f = some (s.any p) := by
  unfold z0c
  rw [zy (q2p hf hN hl), znc]
theorem zra {N : Nat} {a b : List Int} (hN : a.length < N) (hl : a.length ≤ 4611686018427387904) : z0w N a b = some (cmpL a b) := by
  unfold z0w cmpL
  by_cases h1 : a.length < b.length
  · rw [wu (by omega), if_pos h1]
  · rw [uo (by omega), if_neg h1]
    by_cases h2 : b.length < a.length
    · rw [wu (by omega), if_pos h2]
    · rw [uo (by omega), if_neg h2]
      have he : a.length = b.length := by omega
      have hL : yu N a b N 0 = some (if zh6 a b = 0 then Ex.go () else Ex.rt (zh6 a b)) := by
        refine ui (σ := Unit) (fun F k _ => yu N a b F (k : Int)) a.length (fun k _ => zh6 (a.drop k) (b.drop k) = zh6 a b) _ (fun F k _ hk hi => ?_) (fun F _ hi => ?_) N 0 () (Nat.zero_le _) (by omega) rfl
        · simp only [yu]
          rw [wu (by omega), zq (qo hk), zq (qo (by omega))]
          have hs := ztk hk (show k < b.length by omega)
          rw [hi] at hs
          by_cases h3 : a.getD k default < b.getD k default
          · left
            refine Eq.trans (wu h3) ?_
            rw [if_pos h3] at hs; rw [hs]; rfl
          · refine (show _ ∨ _ from ?_)
            rw [if_neg h3] at hs
            by_cases h4 : b.getD k default < a.getD k default
            · left
              refine Eq.trans (uo h3) ?_
              rw [zq (qo hk), zq (qo (by omega))]
              refine Eq.trans (wu h4) ?_
              rw [if_pos h4] at hs; rw [hs]; rfl
            · right
              rw [if_neg h4] at hs
              refine ⟨(), hs.symm, Eq.trans (uo h3) ?_⟩
              rw [zq (qo hk), zq (qo (by omega))]
              refine Eq.trans (uo h4) ?_
              rw [zq (qy (by omega))]; rfl
        · simp only [yu]
          rw [uo (by omega)]
          have : zh6 a b = 0 := by rw [← hi, List.drop_of_length_le (Nat.le_refl _)]; rfl
          rw [if_pos this]
      rw [zy hL]
      by_cases h5 : zh6 a b = 0
      · rw [if_pos h5, h5]; rfl
      · rw [if_neg h5]; rfl
theorem zjg {N : Nat} {a b : List Int} (hN : a.length < N) (hl : a.length ≤ 4611686018427387904) : ai N a b = some (decide (a = b)) := by
  unfold ai
  rw [zy (zra hN hl)]
  by_cases h : a = b
  · rw [decide_eq_true h, decide_eq_true ((cmpL_eq a b).2 h)]
  · rw [decide_eq_false h, decide_eq_false (fun e => h ((cmpL_eq a b).1 e))]
theorem zz8 {N : Nat} {l w : List Int} {e f : Int} (hN : l.length < N) (hl : l.length ≤ 4611686018427387904) : z04 N l e w f = some (decide (e = f) && decide (l = w)) := by
  unfold z04
  rw [zb1 (fun _ => zjg hN hl)]
  by_cases h : e = f
  · rw [decide_eq_true h]; simp
  · rw [decide_eq_false h]; simp
theorem zsh {N : Nat} {m : Mach} (hm : MOk m) {s i : Int} (hs : SOk m s) (hi : 0 ≤ i ∧ i < m.inputs) : z10 N m s i = some (lc m s i) := by
  unfold z10 lc
  rcases hs with h | h
  · rw [h]; rfl
  · have hrow := hm.row s.toNat (by omega)
    rw [uo (by omega), if_neg (by omega), zq h, zq (show okI (ix m.rows s) i from ⟨hi.1, by rw [zmd, hrow]; exact hi.2⟩)]; rfl
theorem zib {N : Nat} {m : Mach} (hm : MOk m) {s : Int} {w : List Int} (hs : SOk m s) (hw : WOk m.inputs w) (hN : w.length < N) (hl : w.length ≤ 1000000) : df N m s w = some (z2a m s w) := by
  unfold df
  refine Eq.trans (zy (x := z2a m s w) ?_) rfl
  refine ui (σ := Int × List Int) (fun F k x => ae N m w F x.1 x.2 (k : Int)) w.length (fun k x => x.1 = l9 m s (w.take k) ∧ x.2 = z2a m s (w.take k)) _ (fun F k x hk hi => .inr ?_) (fun F x hi => ?_) N 0 (s, []) (Nat.zero_le _) (by omega) (by simp [l9, z2a])
  · obtain ⟨t, X⟩ := x
    obtain ⟨rfl, rfl⟩ := hi
    have hst := ze7 m hm s (w.take k) hs (zvs hw k)
    refine ⟨(l9 m s (w.take (k + 1)), z2a m s (w.take (k + 1))), ⟨rfl, rfl⟩, ?_⟩
    simp only [ae]
    have hlr := z3w m s (w.take k)
    rw [List.length_take] at hlr
    rw [wu (by omega), zq (qo hk)]
    refine Eq.trans (zy (zsh hm hst (show 0 ≤ w.getD k default ∧ w.getD k default < m.inputs from hw k hk))) ?_
    rw [zq ⟨by simp; omega, by simp; omega⟩, zq (qy (by omega)), zv5 m s w k hk, zv8 m s w k hk]; rfl
  · obtain ⟨t, X⟩ := x
    obtain ⟨rfl, rfl⟩ := hi
    simp only [ae]
    rw [uo (by omega), List.take_length]
theorem zt8 {N : Nat} {m : Mach} (hm : MOk m) : ∀ (F : Nat) (s : Int) (w : List Int), SOk m s → WOk m.inputs w → w.length < F → ic N F m s w = some (l9 m s w)
  | 0, s, w, _, _, h => by omega
  | F + 1, s, [], hs, _, _ => rfl
  | F + 1, s, i :: w, hs, hw, h => by
    have hi : 0 ≤ i ∧ i < m.inputs := by simpa using hw 0 (by simp)
    simp only [ic]
    rw [uo (by simp; omega), zq (show okI (i :: w) 0 from qo (k := 0) (by simp))]
    refine Eq.trans (zy (zsh hm hs (show 0 ≤ i ∧ i < m.inputs from hi))) ?_
    rw [zq ⟨by omega, by simp; omega, by simp⟩]
    have hc : cut (i :: w) 1 (((i :: w).length : Nat) : Int) = w := by simp [cut]
    rw [hc]
    refine Eq.trans (zy (zt8 (N := N) hm F _ w (zkb m hm s i hs hi).1 (fun k hk => by simpa using hw (k + 1) (by simpa using hk)) (by simpa using h))) ?_
    rfl
theorem zlt {N : Nat} {m : Mach} (hs : Small m) (hN : 200 ≤ N) : z0n N m = some (ow m) := by
  have hl := hs.r
  unfold z0n
  by_cases h : (16 < m.inputs ∨ 16 < m.outputs) ∨ 64 < m.rows.length
  · rw [ct (by simp; omega), zq4 h]
  · rw [cf (by simp; omega)]
    by_cases h1 : (m.inputs < 1 ∨ m.outputs < 1) ∨ m.rows.length < 1
    · rw [ct (by simp only [Bool.or_eq_true, decide_eq_true_eq]; omega), zof h h1]
    · rw [cf (by have : (m.rows.length : Int) ≠ 0 := by omega
                 simp only [Bool.or_eq_false_iff, decide_eq_false_iff_not]; omega)]
      have hL : vg N m N 0 = some (if m.rows.any (z2l m) = true then Ex.rt 1 else Ex.go ()) := by
        refine ui (σ := Unit) (fun F k _ => vg N m F (k : Int)) m.rows.length (fun k _ => (m.rows.take k).any (z2l m) = false) _ (fun F k _ hk hi => ?_) (fun F _ hi => ?_) N 0 () (Nat.zero_le _) (by omega) (by simp)
        · have hc := hs.c k hk
          have hin : (bd (gd (okI m.rows (k : Int)) <| bif decide (((ix m.rows (k : Int)).length : Int) ≠ m.inputs) then (some (Ex.rt (Ex.rt 1))) else yx N m (k : Int) N 0) fun q81 => Ex.on q81 (fun o80 => gd (in64 ((k : Int) + 1)) <| vg N m F ((k : Int) + 1)) some) =
              if z2l m (m.rows.getD k default) = true then some (Ex.rt 1) else vg N m F ((k + 1 : Nat) : Int) := by
            rw [zq (qo hk)]
            by_cases h2 : ((m.rows.getD k default).length : Int) ≠ m.inputs
            · have hb : z2l m (m.rows.getD k default) = true := by unfold z2l; rw [decide_eq_true h2]; rfl
              rw [if_pos hb]
              refine Eq.trans (zy (x := Ex.rt (Ex.rt 1)) (wu h2)) rfl
            · have h2' : ((ix m.rows (k : Int)).length : Int) = m.inputs := Decidable.of_not_not h2
              have hL2 : yx N m (k : Int) N 0 = some (if z2l m (m.rows.getD k default) = true then Ex.rt (Ex.rt 1) else Ex.go ()) := by
                refine ui (σ := Unit) (fun G i _ => yx N m (k : Int) G (i : Int)) m.inputs.toNat (fun i _ => (((m.rows.getD k default).take i).any fun x => !zgd m x) = false) _ (fun G i _ hi' hq => ?_) (fun G _ hq => ?_) N 0 () (Nat.zero_le _) (by have : ((m.rows.getD k default).length : Int) = m.inputs := h2'; omega) (by simp)
                · have hil : i < (m.rows.getD k default).length := by have : ((m.rows.getD k default).length : Int) = m.inputs := h2'; omega
                  simp only [yx]
                  rw [wu (by omega), zq (qo hk), zq (show okI (ix m.rows (k : Int)) (i : Int) from qo hil)]
                  have hx : ix (ix m.rows (k : Int)) (i : Int) = (m.rows.getD k default).getD i default := rfl
                  rw [hx]
                  generalize hxe : (m.rows.getD k default).getD i default = x at *
                  by_cases h3 : x.to = -1 ∧ x.out = -1
                  · right
                    have hf := zvm (m := m) (x := x) (.inl h3)
                    refine ⟨(), by rw [za1 _ _ i hil, hq, hxe, hf]; rfl, ?_⟩
                    rw [ct (by rw [decide_eq_true h3.1, decide_eq_true h3.2]; rfl), zkn, zkv, zq (qy (by omega))]; rfl
                  · rw [cf (by rw [← Bool.decide_and]; exact decide_eq_false h3)]
                    by_cases h4 : 0 ≤ x.to ∧ x.to < m.rows.length ∧ 0 ≤ x.out ∧ x.out < m.outputs
                    · right
                      have hf := zvm (m := m) (x := x) (.inr h4)
                      refine ⟨(), by rw [za1 _ _ i hil, hq, hxe, hf]; rfl, ?_⟩
                      rw [cf (by simp; omega), zkn, zkv, zq (qy (by omega))]; rfl
                    · left
                      have hf := q1s (m := m) (x := x) (fun h => h.elim h3 h4)
                      rw [ct (by simp; omega), zkn, q47, if_pos]
                      unfold z2l
                      rw [Bool.or_eq_true]
                      exact .inr (List.any_eq_true.2 ⟨_, lg hil, by rw [hxe]; exact hf⟩)
                · simp only [yx]
                  rw [uo (by omega), if_neg]
                  have hle : (m.rows.getD k default).length = m.inputs.toNat := by have : ((m.rows.getD k default).length : Int) = m.inputs := h2'; omega
                  rw [← hle, List.take_length] at hq
                  unfold z2l
                  rw [hq, decide_eq_false h2]; decide
              refine Eq.trans (zy (Eq.trans (uo (fun h => h h2')) hL2)) ?_
              by_cases hb : z2l m (m.rows.getD k default) = true
              · rw [if_pos hb, if_pos hb]; rfl
              · rw [if_neg hb, if_neg hb, zkv, zq (qy (by omega))]; rfl
          simp only [vg]
          rw [wu (by omega), hin]
          cases hr : z2l m (m.rows.getD k default)
          · right
            exact ⟨(), by rw [za1 _ _ k hk, hi, hr]; rfl, if_neg (by decide)⟩
          · left
            rw [if_pos rfl, if_pos (List.any_eq_true.2 ⟨_, lg hk, hr⟩)]
        · simp only [vg]
          rw [uo (by omega), if_neg (by rw [List.take_length] at hi; rw [hi]; decide)]
      rw [zy hL]
      by_cases ha : m.rows.any (z2l m) = true
      · rw [if_pos ha]; unfold ow; rw [if_neg h, if_neg h1, if_pos ha]; rfl
      · rw [if_neg ha, zpj h h1 (by simpa using ha)]; rfl
theorem zuh {N : Nat} {a b : List Edge} (hN : a.length < N) (hl : a.length ≤ 4611686018427387904) : z0t N a b = some (decide (a = b)) := by
  unfold z0t
  by_cases h : (a.length : Int) ≠ b.length
  · rw [wu h, decide_eq_false (fun e => h (by rw [e]))]
  · rw [uo h]
    have hl' : a.length = b.length := by omega
    have hL : xq N a b N 0 = some (if a = b then Ex.go () else Ex.rt false) := by
      refine ui (σ := Unit) (fun F k _ => xq N a b F (k : Int)) a.length (fun k _ => ∀ j, j < k → a.getD j default = b.getD j default) _ (fun F k _ hk hi => ?_) (fun F _ hi => ?_) N 0 () (Nat.zero_le _) (by omega) (fun j hj => by omega)
      · simp only [xq]
        rw [wu (by omega), zq (qo hk), zq (qo (by omega))]
        by_cases he : a.getD k default = b.getD k default
        · right
          refine ⟨(), zbe hi he, Eq.trans (uo (show ¬ ¬ ((a.getD k default).to = (b.getD k default).to ∧ (a.getD k default).out = (b.getD k default).out) from fun h => h (by rw [he]; exact ⟨rfl, rfl⟩))) ?_⟩
          rw [zq (qy (by omega))]; rfl
        · left
          refine Eq.trans (wu (show ¬ ((a.getD k default).to = (b.getD k default).to ∧ (a.getD k default).out = (b.getD k default).out) from fun h => he (zoc h))) ?_
          rw [if_neg (fun e => he (by rw [e]))]
      · simp only [xq]
        rw [uo (by omega), if_pos (l6 hl' hi)]
    rw [zy hL]
    by_cases he : a = b
    · rw [if_pos he, decide_eq_true he]; rfl
    · rw [if_neg he, decide_eq_false he]; rfl
theorem ztm {N : Nat} {a b : List (List Edge)} {f : List Edge → List Edge → Option Bool} (hf : ∀ k, k < a.length → f (a.getD k default) (b.getD k default) = some (decide (a.getD k default = b.getD k default))) (hN : a.length < N) (hl : a.length ≤ 4611686018427387904) :
    rz N a b f = some (decide (a = b)) := by
  unfold rz
  by_cases h : (a.length : Int) ≠ b.length
  · rw [wu h, decide_eq_false (fun e => h (by rw [e]))]
  · rw [uo h]
    have hl' : a.length = b.length := by omega
    have hL : ut N a b f N 0 = some (if a = b then Ex.go () else Ex.rt false) := by
      refine ui (σ := Unit) (fun F k _ => ut N a b f F (k : Int)) a.length (fun k _ => ∀ j, j < k → a.getD j default = b.getD j default) _ (fun F k _ hk hi => ?_) (fun F _ hi => ?_) N 0 () (Nat.zero_le _) (by omega) (fun j hj => by omega)
      · simp only [ut]
        rw [wu (by omega), zq (qo hk), zq (qo (by omega))]
        refine (show _ ∨ _ from ?_)
        have hk' := hf k hk
        by_cases he : a.getD k default = b.getD k default
        · rw [decide_eq_true he] at hk'
          right
          refine ⟨(), zbe hi he, Eq.trans (zy hk') (Eq.trans (cf rfl) ?_)⟩
          rw [zq (qy (by omega))]; rfl
        · rw [decide_eq_false he] at hk'
          left
          refine Eq.trans (zy hk') (Eq.trans (ct rfl) ?_)
          rw [if_neg (fun e => he (by rw [e]))]
      · simp only [ut]
        rw [uo (by omega), if_pos (l6 hl' hi)]
    rw [zy hL]
    by_cases he : a = b
    · rw [if_pos he, decide_eq_true he]; rfl
    · rw [if_neg he, decide_eq_false he]; rfl
theorem zwo {N : Nat} {a b : Mach} (ha : Small a) (hb : Small b) (hN : 200 ≤ N) : z5j N a b = some (zod a b) := by
  unfold z5j zod
  have hr := ha.r
  rw [zy (z5m ha hN), zb1 (fun _ => z5m hb hN), zb1 (fun _ => ztm (fun k hk => zuh (by have := ha.c k hk; omega) (by have := ha.c k hk; omega)) (by omega) (by omega))]
  cases decide (ow a = 0)
  · rfl
  · simp only [Bool.true_and, beq_true, cond_true, Option.getD_some]
    cases decide (ow b = 0) <;> cases decide (a.inputs = b.inputs) <;> cases decide (a.outputs = b.outputs) <;> rfl
theorem zyg {N : Nat} {a b : Mach} (ha : Small a) (hN : 200 ≤ N) : z2s N a b = some (decide (a = b)) := by
  have hr := ha.r
  unfold z2s
  by_cases h : (a.inputs ≠ b.inputs ∨ a.outputs ≠ b.outputs) ∨ (a.rows.length : Int) ≠ b.rows.length
  · rw [ct (by simpa only [Bool.or_eq_true, decide_eq_true_eq] using h), decide_eq_false]
    rintro rfl
    rcases h with (h | h) | h <;> exact h rfl
  · rw [cf (by simpa only [Bool.or_eq_false_iff, decide_eq_false_iff_not, not_or] using h)]
    simp only [not_or, Decidable.not_not] at h
    obtain ⟨⟨h1, h2⟩, h3⟩ := h
    have h3' : a.rows.length = b.rows.length := by omega
    have hab : (a = b) ↔ a.rows = b.rows := ⟨fun e => by rw [e], fun e => zi9.2 ⟨h1, h2, e⟩⟩
    have hL : yg N a b N 0 = some (if a.rows = b.rows then Ex.go () else Ex.rt false) := by
      refine ui (σ := Unit) (fun F k _ => yg N a b F (k : Int)) a.rows.length (fun k _ => ∀ j, j < k → a.rows.getD j default = b.rows.getD j default) _ (fun F k _ hk hi => ?_) (fun F _ hi => ?_) N 0 () (Nat.zero_le _) (by omega) (fun j hj => by omega)
      · have hc := ha.c k hk
        have hin : (bd (gd (okI a.rows (k : Int)) <| gd (okI b.rows (k : Int)) <| bif decide (((ix a.rows (k : Int)).length : Int) ≠ ((ix b.rows (k : Int)).length : Int)) then (some (Ex.rt (Ex.rt false))) else bg N a b (k : Int) N 0) fun q68 => Ex.on q68 (fun o67 => gd (in64 ((k : Int) + 1)) <| yg N a b F ((k : Int) + 1)) some) =
            if a.rows.getD k default = b.rows.getD k default then yg N a b F ((k + 1 : Nat) : Int) else some (Ex.rt false) := by
          rw [zq (qo hk), zq (qo (by omega))]
          by_cases h4 : ((ix a.rows (k : Int)).length : Int) ≠ ((ix b.rows (k : Int)).length : Int)
          · rw [if_neg (show ¬ a.rows.getD k default = b.rows.getD k default from fun e => h4 (congrArg (fun l : List Edge => (l.length : Int)) e))]
            exact Eq.trans (zy (x := Ex.rt (Ex.rt false)) (wu h4)) rfl
          · have h4' : (a.rows.getD k default).length = (b.rows.getD k default).length := by
              have : ((ix a.rows (k : Int)).length : Int) = ((ix b.rows (k : Int)).length : Int) := Decidable.of_not_not h4
              exact Int.ofNat.inj this
            have hL2 : bg N a b (k : Int) N 0 = some (if a.rows.getD k default = b.rows.getD k default then Ex.go () else Ex.rt (Ex.rt false)) := by
              refine ui (σ := Unit) (fun G i _ => bg N a b (k : Int) G (i : Int)) (a.rows.getD k default).length (fun i _ => ∀ j, j < i → (a.rows.getD k default).getD j default = (b.rows.getD k default).getD j default) _ (fun G i _ hi' hq => ?_) (fun G _ hq => ?_) N 0 () (Nat.zero_le _) (by omega) (fun j hj => by omega)
              · simp only [bg]
                rw [zq (qo hk)]
                refine (show _ ∨ _ from ?_)
                have hi2 : (i : Int) < ((ix a.rows (k : Int)).length : Int) := Int.ofNat_lt.2 hi'
                rw [wu hi2, zq (qo hk), zq (show okI (ix a.rows (k : Int)) (i : Int) from qo hi'), zq (qo (by omega)), zq (show okI (ix b.rows (k : Int)) (i : Int) from qo (show i < (b.rows.getD k default).length by omega))]
                by_cases he : (a.rows.getD k default).getD i default = (b.rows.getD k default).getD i default
                · right
                  refine ⟨(), zbe hq he, Eq.trans (uo (fun h => h (show ((a.rows.getD k default).getD i default).to = ((b.rows.getD k default).getD i default).to ∧ ((a.rows.getD k default).getD i default).out = ((b.rows.getD k default).getD i default).out by rw [he]; exact ⟨rfl, rfl⟩))) ?_⟩
                  rw [zq (qy (by omega))]; rfl
                · left
                  refine Eq.trans (wu (fun h => he (zoc h))) ?_
                  rw [if_neg (fun e => he (by rw [e]))]
              · simp only [bg]
                have hi2 : ¬ ((((a.rows.getD k default).length : Nat) : Int) < ((ix a.rows (k : Int)).length : Int)) := Int.lt_irrefl _
                rw [zq (qo hk), uo hi2, if_pos (l6 h4' hq)]
            refine Eq.trans (zy (Eq.trans (uo h4) hL2)) ?_
            by_cases he : a.rows.getD k default = b.rows.getD k default
            · rw [if_pos he, if_pos he, zkv, zq (qy (by omega))]; rfl
            · rw [if_neg he, if_neg he]; rfl
        simp only [yg]
        rw [wu (by omega), hin]
        by_cases he : a.rows.getD k default = b.rows.getD k default
        · right; exact ⟨(), zbe hi he, if_pos he⟩
        · left; rw [if_neg he, if_neg (fun e => he (by rw [e]))]
      · simp only [yg]
        rw [uo (by omega), if_pos (l6 h3' hi)]
    rw [zy hL]
    by_cases he : a.rows = b.rows
    · rw [if_pos he, decide_eq_true (hab.2 he)]; rfl
    · rw [if_neg he, decide_eq_false (fun e => he (hab.1 e))]; rfl
/-! ### Data -/
theorem q2m {N : Nat} {x : MDat} (hx : MDOk x) (hN : 200 ≤ N) {s : Nat} (hs : s < 6) : dz N x (s : Int) N [] 0 = some (zno x s) := by
  have h1 := hx.st; have h2 := hx.ins; have h3 := hx.outs
  have hinp : x.inp = 1 + x.ins % 3 := rfl
  refine ui (fun F i acc => dz N x (s : Int) F acc (i : Int)) x.inp.toNat (fun i acc => acc = (List.range i).map (zgb x s)) _ (fun F i acc hi hacc => .inr ?_) (fun F acc hacc => ?_) N 0 [] (Nat.zero_le _) (by omega) rfl
  · subst hacc
    refine ⟨_, rfl, ?_⟩
    have hm := ztc (k := s) (a := x.inp) (by omega) (by omega)
    have he : (s : Int) * ((1 : Int) + x.ins % 3) + (i : Int) = ((s * x.inp.toNat + i : Nat) : Int) := by
      rw [← hinp, hm.2.2]; rfl
    have hnum := hx.num (s * x.inp.toNat + i)
    simp only [dz]
    rw [wu (by omega)]
    have hv : (gd (in64 ((s : Int) * ((1 : Int) + (x.ins % 3)))) <| gd (in64 (((s : Int) * ((1 : Int) + (x.ins % 3))) + (i : Int))) <| bif decide (((s : Int) * ((1 : Int) + (x.ins % 3))) + (i : Int) < (x.edges.length : Int)) then (gd (okI x.edges (((s : Int) * ((1 : Int) + (x.ins % 3))) + (i : Int))) <| gd (in64 (ix x.edges (((s : Int) * ((1 : Int) + (x.ins % 3))) + (i : Int)))) <| some (ix x.edges (((s : Int) * ((1 : Int) + (x.ins % 3))) + (i : Int)))) else (some (0 : Int))) = some (x.num (s * x.inp.toNat + i)) := by
      rw [zq (qy (by rw [← hinp]; omega)), he, zq (qy (by omega))]
      unfold MDat.num
      by_cases hk : s * x.inp.toNat + i < x.edges.length
      · have hed := hx.ed _ hk
        rw [wu (by omega), if_pos hk, zq (qo hk), zq (show in64 (ix x.edges ((s * x.inp.toNat + i : Nat) : Int)) from qy (show -4611686018427387904 ≤ x.edges.getD (s * x.inp.toNat + i) default ∧ x.edges.getD (s * x.inp.toNat + i) default ≤ 4611686018427387904 by omega))]; rfl
      · rw [uo (by omega), if_neg hk]
    have hacc : ((List.range i).map (zgb x s)).length = i := by simp
    refine Eq.trans (zy (x := (List.range (i + 1)).map (zgb x s)) (Eq.trans (zy hv) ?_)) ?_
    · rw [zq (fun _ => ⟨hnum.1, by omega⟩), z3y]
      by_cases hp : x.part = true ∧ x.num (s * x.inp.toNat + i) % 4 = 3
      · rw [ct (by rw [hp.1, decide_eq_true hp.2]; rfl), zq ⟨by rw [hacc]; simp; omega, by rw [hacc]; simp; omega⟩, zyr rfl hp]
      · have hst : x.n = 1 + x.states % 6 := rfl
        have hot : x.out = 1 + x.outs % 3 := rfl
        have hd : 0 ≤ x.num (s * x.inp.toNat + i) / 4 := by omega
        have hd2 : 0 ≤ x.num (s * x.inp.toNat + i) / 4 / x.n := Int.ediv_nonneg hd (by omega)
        rw [cf (by rw [Bool.and_eq_false_iff]
                   by_cases h : x.part = true
                   · exact .inr (decide_eq_false fun h' => hp ⟨h, h'⟩)
                   · exact .inl (by simpa using h)), ← hst, ← hot, zq ⟨by omega, by omega, by omega⟩, zq ⟨hd, by omega⟩, zq ⟨by omega, by omega, by omega⟩, zq ⟨hd, by omega, by omega⟩, zq ⟨hd2, by omega⟩, zq ⟨by rw [hacc]; simp; omega, by rw [hacc]; simp; omega⟩, q0j rfl (fun h h' => hp ⟨h, h'⟩)]
    · rw [zq (qy (by omega))]; rfl
  · subst hacc
    simp only [dz]
    rw [uo (by omega)]; rfl
theorem zka {N : Nat} {x : MDat} (hx : MDOk x) (hN : 200 ≤ N) : af N x = some (mOf x) := by
  have h1 := hx.st; have h2 := hx.ins; have h3 := hx.outs
  have hst : x.n = 1 + x.states % 6 := rfl
  unfold af
  rw [zq ⟨by omega, by omega⟩, zq (qy (by omega)), zq (qy (by omega)), zq ⟨by omega, by omega⟩, zq (qy (by omega)), zq (qy (by omega)), zq ⟨by omega, by omega⟩, zq (qy (by omega)), zq (qy (by omega))]
  refine Eq.trans (zy (x := (List.range x.n.toNat).map (zno x)) ?_) rfl
  refine ui (fun F s acc => mr N x F (s : Int) acc) x.n.toNat (fun s acc => acc = (List.range s).map (zno x)) _ (fun F s acc hs hacc => .inr ?_) (fun F acc hacc => ?_) N 0 [] (Nat.zero_le _) (by omega) rfl
  · subst hacc
    refine ⟨_, rfl, ?_⟩
    simp only [mr]
    rw [wu (by omega), zy (q2m hx hN (by omega)), zq ⟨by simp; omega, by simp; omega⟩, zq (qy (by omega)), z3y]; rfl
  · subst hacc
    simp only [mr]
    rw [uo (by omega)]
theorem zy5 {N : Nat} {x : WDat} (hx : WDOk x) {n : Int} (hn : 1 ≤ n) (hN : 200 ≤ N) : z0y N x n = some (wOf x n) := by
  unfold z0y
  refine Eq.trans (zy (x := wOf x n) ?_) rfl
  refine ui (fun F k acc => mo N x n F acc (k : Int)) (min x.syms.length 12) (fun k acc => acc = (x.syms.take k).map (· % n)) _ (fun F k acc hk hacc => .inr ?_) (fun F acc hacc => ?_) N 0 [] (Nat.zero_le _) (by omega) (by simp)
  · subst hacc
    have hk' : k < x.syms.length := by omega
    have hsy := hx.sy k hk'
    refine ⟨_, rfl, ?_⟩
    simp only [mo]
    rw [ct (by simp; omega), zq (qo hk'), zq (show in64 (ix x.syms (k : Int)) from qy (show -4611686018427387904 ≤ x.syms.getD k default ∧ x.syms.getD k default ≤ 4611686018427387904 by omega)), zq (show okR (ix x.syms (k : Int)) n from ⟨hsy.1, by omega⟩), zq ⟨by simp; omega, by simp; omega⟩, zq (qy (by omega)), zxf hk']; rfl
  · subst hacc
    simp only [mo]
    rw [cf (by simp; omega), q0b (by omega) (by omega) (by omega)]
end GV
end Go.Proofs.YtkcccdcloealfaaGreat
