import Derived.Test.YtkcccdcloealfaaGreatPlain04
import Derived.Test.YtkcccdcloealfaaGreatShPl
set_option linter.unusedVariables false
set_option linter.unusedSimpArgs false
namespace Go.Proofs.YtkcccdcloealfaaGreat
namespace GV
set_option maxRecDepth 100000
theorem q18 {N : Nat} {s : List Edge} {f : Edge → Option Bool} {p : Edge → Bool} (hf : ∀ k, k < s.length → f (s.getD k default) = some (p (s.getD k default))) (hN : s.length < N) (hl : s.length ≤ 4611686018427387904) :
    l8 N s f = some (zi2 p s) := by
  have h : w9 N s f N 0 = some (if s.any p = true then Ex.rt (zi2 p s) else Ex.go ()) := by
    refine ui (σ := Unit) (fun F k _ => w9 N s f F (k : Int)) s.length (fun k _ => (s.take k).any p = false) _ (fun F k _ hk hi => ?_) (fun F _ hi => ?_) N 0 () (Nat.zero_le _) (by omega) (by simp)
    · simp only [w9]
      rw [wu (by omega), zq (qo hk), r9, zy (hf k hk)]
      cases hp : p (s.getD k default)
      · right
        refine ⟨(), by rw [za1 p s k hk, hi, hp]; rfl, ?_⟩
        rw [cf rfl, zq (qy (by omega))]; rfl
      · left
        rw [ct rfl, if_pos (List.any_eq_true.2 ⟨_, lg hk, hp⟩), zew p s k hk hi hp]
    · simp only [w9]
      rw [uo (by omega), if_neg (by rw [List.take_length] at hi; rw [hi]; decide)]
  unfold l8
  rw [zy h]
  by_cases ha : s.any p = true
  · rw [if_pos ha]; rfl
  · rw [if_neg ha, zh9 p s (by simpa using ha)]; rfl
theorem zvg {N : Nat} {s : List Edge} {f : Edge → Option Bool} {p : Edge → Bool} (hf : ∀ k, k < s.length → f (s.getD k default) = some (p (s.getD k default))) (hN : s.length < N) (hl : s.length ≤ 4611686018427387904) :
    au N s f = some (s.any p) := by
  unfold au
  rw [zy (q18 hf hN hl), znc]
theorem z5m {N : Nat} {m : Mach} (hs : Small m) (hN : 200 ≤ N) : yc N m = some (ow m) := by
  unfold yc
  by_cases h : (16 < m.inputs ∨ 16 < m.outputs) ∨ 64 < m.rows.length
  · rw [ct (by simp; omega), zq4 h]
  · rw [cf (by simp; omega)]
    by_cases h1 : (m.inputs < 1 ∨ m.outputs < 1) ∨ m.rows.length < 1
    · rw [ct (by simp; omega), zof h h1]
    · rw [cf (by simp; omega)]
      have hl := hs.r
      have hL : ik N m N 0 = some (if m.rows.any (z2l m) = true then Ex.rt 1 else Ex.go ()) := by
        refine ui (σ := Unit) (fun F k _ => ik N m F (k : Int)) m.rows.length (fun k _ => (m.rows.take k).any (z2l m) = false) _ (fun F k _ hk hi => ?_) (fun F _ hi => ?_) N 0 () (Nat.zero_le _) (by omega) (by simp)
        · simp only [ik]
          have hc := hs.c k hk
          rw [wu (by omega), zq (qo hk), r9, zb1 (fun _ => zvg (p := fun x => !zgd m x) (fun j hj => rfl) (by omega) (by omega))]
          have hb : (decide (((m.rows.getD k default).length : Int) ≠ m.inputs) || ((bif (true && (decide (((m.rows.getD k default).length : Int) ≠ m.inputs) == false)) then some ((m.rows.getD k default).any fun x => !zgd m x) else none).getD default)) = z2l m (m.rows.getD k default) := by
            unfold z2l
            cases decide (((m.rows.getD k default).length : Int) ≠ m.inputs) <;> rfl
          rw [hb]
          cases hr : z2l m (m.rows.getD k default)
          · right
            refine ⟨(), by rw [za1 _ _ k hk, hi, hr]; rfl, ?_⟩
            rw [cf rfl, zq (qy (by omega))]; rfl
          · left
            rw [ct rfl, if_pos (List.any_eq_true.2 ⟨_, lg hk, hr⟩)]
        · simp only [ik]
          rw [uo (by omega), if_neg (by rw [List.take_length] at hi; rw [hi]; decide)]
      rw [zy hL]
      by_cases ha : m.rows.any (z2l m) = true
      · rw [if_pos ha]; unfold ow; rw [if_neg h, if_neg h1, if_pos ha]; rfl
      · rw [if_neg ha, zpj h h1 (by simpa using ha)]; rfl
theorem zqt {N : Nat} {m : Mach} (hm : MOk m) (hN : 200 ≤ N) : z0u N m = some (zv4 m : Int) := by
  have hr := hm.r2; have hi1 := hm.i1; have hi2 := hm.i2
  unfold z0u
  refine Eq.trans (zy (x := (zv4 m : Int)) ?_) rfl
  refine ui (fun F k (s : Int) => pu N m F s (k : Int)) m.rows.length (fun k s => s = (zbn m k : Int)) _ (fun F k s hk hi => .inr ?_) (fun F s hi => ?_) N 0 0 (Nat.zero_le _) (by omega) (by simp [zbn])
  · subst hi
    have hlen : ((m.rows.getD k default).length : Int) = m.inputs := hm.row k hk
    have hle := zs5 m hm k (by omega)
    have hL : xg N m (k : Int) N (zbn m k : Int) 0 = some (zbn m (k + 1) : Int) := by
      rw [zbk m k hk]
      refine ui (fun F i (s : Int) => xg N m (k : Int) F s (i : Int)) m.inputs.toNat (fun i s => s = ((zbn m k + zgm (m.rows.getD k default) i : Nat) : Int)) _ (fun F i s hi hs => .inr ?_) (fun F s hs => ?_) N 0 _ (Nat.zero_le _) (by omega) (by simp [zgs])
      · subst hs
        have hi' : i < (m.rows.getD k default).length := by omega
        refine ⟨_, rfl, ?_⟩
        simp only [xg]
        have hc := zt4 (m.rows.getD k default) i
        rw [wu (by omega), zq (qo hk), zq (show okI (ix m.rows (k : Int)) (i : Int) from qo hi'), zhh _ _ hi']
        by_cases h0 : 0 ≤ ((m.rows.getD k default).getD i default).to
        · rw [if_pos h0]
          refine Eq.trans (zy (x := ((zbn m k + (zgm (m.rows.getD k default) i + 1) : Nat) : Int)) ?_) ?_
          · refine Eq.trans (wu h0) ?_
            rw [zq (qy (by omega))]; rfl
          · rw [zq (qy (by omega))]; rfl
        · rw [if_neg h0]
          refine Eq.trans (zy (x := ((zbn m k + (zgm (m.rows.getD k default) i + 0) : Nat) : Int)) ?_) ?_
          · exact uo h0
          · rw [zq (qy (by omega))]; rfl
      · subst hs
        simp only [xg]
        rw [uo (by omega), show m.inputs.toNat = (m.rows.getD k default).length by omega]
    refine ⟨_, rfl, ?_⟩
    simp only [pu]
    rw [wu (by omega), zy hL, zq (qy (by omega))]; rfl
  · subst hi
    simp only [pu]
    rw [uo (by omega)]; rfl
theorem znk {N : Nat} {m : Mach} (hm : MOk m) (hN : 200 ≤ N) : z0f N m = some (z7j m) := by
  unfold z0f
  have := hm.mul
  rw [zy (zqt hm hN), zq (qy (by rw [this.2]; omega))]; rfl
theorem ziq {N : Nat} {m : Mach} (hm : MOk m) (hN : 200 ≤ N) {a : Nat} (ha : a < m.rows.length) : mq N m (a : Int) = some (reachL m a) := by
  have hr := hm.r2; have hi1 := hm.i1; have hi2 := hm.i2
  unfold mq
  rw [zq ⟨by omega, by omega, by omega⟩, z7n, zq (qo (by simpa using ha)), z5u]
  refine Eq.trans (zy (x := reachL m a) ?_) rfl
  refine ui (fun F r Y => pq N m F (r : Int) Y) m.rows.length (fun r Y => RInv m a r Y) _ (fun F r Y hk hi => .inr ?_) (fun F Y hi => ?_) N 0 _ (Nat.zero_le _) (by omega) (zvd ha)
  · obtain ⟨Z, hZ, hz⟩ : ∃ Z, yz N m N 0 Y = some Z ∧ RInv m a (r + 1) Z := by
      refine z2o (fun F s Z => yz N m F (s : Int) Z) m.rows.length (fun s Z => RPass m a Y s 0 Z) _ (fun F s Z hs hp => .inr ?_) (fun F Z hp => ?_) N 0 Y (Nat.zero_le _) (by omega) (zzv hi)
      · have hlen : ((m.rows.getD s default).length : Int) = m.inputs := hm.row s hs
        obtain ⟨V, hV, hv⟩ : ∃ V, yt N m (s : Int) N 0 Z = some V ∧ RPass m a Y (s + 1) 0 V := by
          refine z2o (fun F i V => yt N m (s : Int) F (i : Int) V) m.inputs.toNat (fun i V => RPass m a Y s i V) _ (fun F i V hi' hq => .inr ?_) (fun F V hq => ?_) N 0 Z (Nat.zero_le _) (by omega) hp
          · have hil : i < (m.rows.getD s default).length := by omega
            have hsl : s < V.length := by rw [hq.len]; exact hs
            simp only [yt]
            rw [wu (by omega), zq (qo hs), zq (show okI (ix m.rows (s : Int)) (i : Int) from qo hil), zq (qo hsl)]
            by_cases hc : V.getD s default = true ∧ 0 ≤ ((m.rows.getD s default).getD i default).to
            · refine ⟨_, q1k hm hq hs hil hc.1 hc.2, ?_⟩
              have hlt : ((m.rows.getD s default).getD i default).to.toNat < V.length := by
                rw [hq.len]; rcases hm.edge s i hs hil with h | h <;> omega
              refine Eq.trans (zy (x := V.set ((m.rows.getD s default).getD i default).to.toNat true) ?_) ?_
              · refine Eq.trans (ct (by show (V.getD s default && decide (0 ≤ ((m.rows.getD s default).getD i default).to)) = true; rw [hc.1, decide_eq_true hc.2]; rfl)) ?_
                exact zq (show okI V ((m.rows.getD s default).getD i default).to from ⟨hc.2, by omega⟩)
              · rw [zq (qy (by omega))]; rfl
            · refine ⟨V, q0e hq hc, ?_⟩
              refine Eq.trans (zy (x := V) ?_) ?_
              · refine cf (show (V.getD s default && decide (0 ≤ ((m.rows.getD s default).getD i default).to)) = false from ?_)
                cases h1 : V.getD s default
                · rfl
                · exact decide_eq_false fun h2 => hc ⟨h1, h2⟩
              · rw [zq (qy (by omega))]; rfl
          · simp only [yt]
            rw [uo (by omega)]
            exact ⟨V, rfl, q1f hq (by omega)⟩
        refine ⟨V, hv, ?_⟩
        simp only [yz]
        rw [wu (by omega), zy hV, zq (qy (by omega))]; rfl
      · simp only [yz]
        rw [uo (by omega)]
        exact ⟨Z, rfl, q2r hp (Nat.le_refl _) hi⟩
    refine ⟨Z, hz, ?_⟩
    simp only [pq]
    rw [wu (by omega), zy hZ, zq (qy (by omega))]; rfl
  · simp only [pq]
    rw [uo (by omega), zw0 hm ha hi (Nat.le_refl _)]
theorem zir {N : Nat} {m : Mach} (hm : MOk m) (hN : 200 ≤ N) : xw N m = some (connB m) := by
  have hr := hm.r2; have hr1 := hm.r1
  unfold xw
  rw [zy (show mq N m 0 = _ from ziq (a := 0) hm hN (by omega))]
  have hl := z8a m 0
  have hL : vk N (reachL m 0) N 0 = some (if connB m = true then Ex.go () else Ex.rt false) := by
    refine ui (σ := Unit) (fun F k _ => vk N (reachL m 0) F (k : Int)) m.rows.length (fun k _ => ∀ j, j < k → (reachL m 0).getD j default = true) _ (fun F k _ hk hi => ?_) (fun F _ hi => ?_) N 0 () (Nat.zero_le _) (by omega) (fun j hj => by omega)
    · simp only [vk]
      rw [wu (by omega), zq (qo (by omega)), r9]
      cases hb : (reachL m 0).getD k default
      · left
        refine Eq.trans (ct rfl) ?_
        rw [zsy hk hb]; rfl
      · right
        refine ⟨(), zbe hi hb, Eq.trans (cf rfl) ?_⟩
        rw [zq (qy (by omega))]; rfl
    · simp only [vk]
      rw [uo (by omega), zsu hi]; rfl
  rw [zy hL]
  cases connB m <;> rfl
/-! ### Words -/
theorem zsh {N : Nat} {m : Mach} (hm : MOk m) {s i : Int} (hs : SOk m s) (hi : 0 ≤ i ∧ i < m.inputs) : z10 N m s i = some (lc m s i) := by
  unfold z10 lc
  rcases hs with h | h
  · rw [h]; rfl
  · have hrow := hm.row s.toNat (by omega)
    rw [uo (by omega), if_neg (by omega), zq h, zq (show okI (ix m.rows s) i from ⟨hi.1, by rw [zmd, hrow]; exact hi.2⟩)]; rfl
theorem zt8 {N : Nat} {m : Mach} (hm : MOk m) : ∀ (F : Nat) (s : Int) (w : List Int), SOk m s → WOk m.inputs w → w.length < F → ic N F m s w = some (l9 m s w)
  | 0, s, w, _, _, h => by omega
  | F + 1, s, [], hs, _, _ => rfl
  | F + 1, s, i :: w, hs, hw, h => by
    have hi : 0 ≤ i ∧ i < m.inputs := by simpa using hw 0 (by simp)
    simp only [ic]
    rw [uo (by simp; omega), zq (show okI (i :: w) 0 from qo (k := 0) (by simp))]
    refine Eq.trans (zy (zsh hm hs (show 0 ≤ i ∧ i < m.inputs from hi))) ?_
    rw [zq ⟨by omega, by simp; omega, by simp⟩]
    have hc : cut (i :: w) 1 (((i :: w).length : Nat) : Int) = w := by simp [cut]
    rw [hc]
    refine Eq.trans (zy (zt8 (N := N) hm F _ w (zkb m hm s i hs hi).1 (fun k hk => by simpa using hw (k + 1) (by simpa using hk)) (by simpa using h))) ?_
    rfl
theorem zlt {N : Nat} {m : Mach} (hs : Small m) (hN : 200 ≤ N) : z0n N m = some (ow m) := by
  have hl := hs.r
  unfold z0n
  by_cases h : (16 < m.inputs ∨ 16 < m.outputs) ∨ 64 < m.rows.length
  · rw [ct (by simp; omega), zq4 h]
  · rw [cf (by simp; omega)]
    by_cases h1 : (m.inputs < 1 ∨ m.outputs < 1) ∨ m.rows.length < 1
    · rw [ct (by simp only [Bool.or_eq_true, decide_eq_true_eq]; omega), zof h h1]
    · rw [cf (by have : (m.rows.length : Int) ≠ 0 := by omega
                 simp only [Bool.or_eq_false_iff, decide_eq_false_iff_not]; omega)]
      have hL : vg N m N 0 = some (if m.rows.any (z2l m) = true then Ex.rt 1 else Ex.go ()) := by
        refine ui (σ := Unit) (fun F k _ => vg N m F (k : Int)) m.rows.length (fun k _ => (m.rows.take k).any (z2l m) = false) _ (fun F k _ hk hi => ?_) (fun F _ hi => ?_) N 0 () (Nat.zero_le _) (by omega) (by simp)
        · have hc := hs.c k hk
          have hin : (bd (gd (okI m.rows (k : Int)) <| bif decide (((ix m.rows (k : Int)).length : Int) ≠ m.inputs) then (some (Ex.rt (Ex.rt 1))) else yx N m (k : Int) N 0) fun q81 => Ex.on q81 (fun o80 => gd (in64 ((k : Int) + 1)) <| vg N m F ((k : Int) + 1)) some) =
              if z2l m (m.rows.getD k default) = true then some (Ex.rt 1) else vg N m F ((k + 1 : Nat) : Int) := by
            rw [zq (qo hk)]
            by_cases h2 : ((m.rows.getD k default).length : Int) ≠ m.inputs
            · have hb : z2l m (m.rows.getD k default) = true := by unfold z2l; rw [decide_eq_true h2]; rfl
              rw [if_pos hb]
              refine Eq.trans (zy (x := Ex.rt (Ex.rt 1)) (wu h2)) rfl
            · have h2' : ((ix m.rows (k : Int)).length : Int) = m.inputs := Decidable.of_not_not h2
              have hL2 : yx N m (k : Int) N 0 = some (if z2l m (m.rows.getD k default) = true then Ex.rt (Ex.rt 1) else Ex.go ()) := by
                refine ui (σ := Unit) (fun G i _ => yx N m (k : Int) G (i : Int)) m.inputs.toNat (fun i _ => (((m.rows.getD k default).take i).any fun x => !zgd m x) = false) _ (fun G i _ hi' hq => ?_) (fun G _ hq => ?_) N 0 () (Nat.zero_le _) (by have : ((m.rows.getD k default).length : Int) = m.inputs := h2'; omega) (by simp)
                · have hil : i < (m.rows.getD k default).length := by have : ((m.rows.getD k default).length : Int) = m.inputs := h2'; omega
                  simp only [yx]
                  rw [wu (by omega), zq (qo hk), zq (show okI (ix m.rows (k : Int)) (i : Int) from qo hil)]
                  have hx : ix (ix m.rows (k : Int)) (i : Int) = (m.rows.getD k default).getD i default := rfl
                  rw [hx]
                  generalize hxe : (m.rows.getD k default).getD i default = x at *
                  by_cases h3 : x.to = -1 ∧ x.out = -1
                  · right
                    have hf := zvm (m := m) (x := x) (.inl h3)
                    refine ⟨(), by rw [za1 _ _ i hil, hq, hxe, hf]; rfl, ?_⟩
                    rw [ct (by rw [decide_eq_true h3.1, decide_eq_true h3.2]; rfl), zkn, zkv, zq (qy (by omega))]; rfl
                  · rw [cf (by rw [← Bool.decide_and]; exact decide_eq_false h3)]
                    by_cases h4 : 0 ≤ x.to ∧ x.to < m.rows.length ∧ 0 ≤ x.out ∧ x.out < m.outputs
                    · right
                      have hf := zvm (m := m) (x := x) (.inr h4)
                      refine ⟨(), by rw [za1 _ _ i hil, hq, hxe, hf]; rfl, ?_⟩
                      rw [cf (by simp; omega), zkn, zkv, zq (qy (by omega))]; rfl
                    · left
                      have hf := q1s (m := m) (x := x) (fun h => h.elim h3 h4)
                      rw [ct (by simp; omega), zkn, q47, if_pos]
                      unfold z2l
                      rw [Bool.or_eq_true]
                      exact .inr (List.any_eq_true.2 ⟨_, lg hil, by rw [hxe]; exact hf⟩)
                · simp only [yx]
                  rw [uo (by omega), if_neg]
                  have hle : (m.rows.getD k default).length = m.inputs.toNat := by have : ((m.rows.getD k default).length : Int) = m.inputs := h2'; omega
                  rw [← hle, List.take_length] at hq
                  unfold z2l
                  rw [hq, decide_eq_false h2]; decide
              refine Eq.trans (zy (Eq.trans (uo (fun h => h h2')) hL2)) ?_
              by_cases hb : z2l m (m.rows.getD k default) = true
              · rw [if_pos hb, if_pos hb]; rfl
              · rw [if_neg hb, if_neg hb, zkv, zq (qy (by omega))]; rfl
          simp only [vg]
          rw [wu (by omega), hin]
          cases hr : z2l m (m.rows.getD k default)
          · right
            exact ⟨(), by rw [za1 _ _ k hk, hi, hr]; rfl, if_neg (by decide)⟩
          · left
            rw [if_pos rfl, if_pos (List.any_eq_true.2 ⟨_, lg hk, hr⟩)]
        · simp only [vg]
          rw [uo (by omega), if_neg (by rw [List.take_length] at hi; rw [hi]; decide)]
      rw [zy hL]
      by_cases ha : m.rows.any (z2l m) = true
      · rw [if_pos ha]; unfold ow; rw [if_neg h, if_neg h1, if_pos ha]; rfl
      · rw [if_neg ha, zpj h h1 (by simpa using ha)]; rfl
theorem zuh {N : Nat} {a b : List Edge} (hN : a.length < N) (hl : a.length ≤ 4611686018427387904) : z0t N a b = some (decide (a = b)) := by
  unfold z0t
  by_cases h : (a.length : Int) ≠ b.length
  · rw [wu h, decide_eq_false (fun e => h (by rw [e]))]
  · rw [uo h]
    have hl' : a.length = b.length := by omega
    have hL : xq N a b N 0 = some (if a = b then Ex.go () else Ex.rt false) := by
      refine ui (σ := Unit) (fun F k _ => xq N a b F (k : Int)) a.length (fun k _ => ∀ j, j < k → a.getD j default = b.getD j default) _ (fun F k _ hk hi => ?_) (fun F _ hi => ?_) N 0 () (Nat.zero_le _) (by omega) (fun j hj => by omega)
      · simp only [xq]
        rw [wu (by omega), zq (qo hk), zq (qo (by omega))]
        by_cases he : a.getD k default = b.getD k default
        · right
          refine ⟨(), zbe hi he, Eq.trans (uo (show ¬ ¬ ((a.getD k default).to = (b.getD k default).to ∧ (a.getD k default).out = (b.getD k default).out) from fun h => h (by rw [he]; exact ⟨rfl, rfl⟩))) ?_⟩
          rw [zq (qy (by omega))]; rfl
        · left
          refine Eq.trans (wu (show ¬ ((a.getD k default).to = (b.getD k default).to ∧ (a.getD k default).out = (b.getD k default).out) from fun h => he (zoc h))) ?_
          rw [if_neg (fun e => he (by rw [e]))]
      · simp only [xq]
        rw [uo (by omega), if_pos (l6 hl' hi)]
    rw [zy hL]
    by_cases he : a = b
    · rw [if_pos he, decide_eq_true he]; rfl
    · rw [if_neg he, decide_eq_false he]; rfl
theorem ztm {N : Nat} {a b : List (List Edge)} {f : List Edge → List Edge → Option Bool} (hf : ∀ k, k < a.length → f (a.getD k default) (b.getD k default) = some (decide (a.getD k default = b.getD k default))) (hN : a.length < N) (hl : a.length ≤ 4611686018427387904) :
    rz N a b f = some (decide (a = b)) := by
  unfold rz
  by_cases h : (a.length : Int) ≠ b.length
  · rw [wu h, decide_eq_false (fun e => h (by rw [e]))]
  · rw [uo h]
    have hl' : a.length = b.length := by omega
    have hL : ut N a b f N 0 = some (if a = b then Ex.go () else Ex.rt false) := by
      refine ui (σ := Unit) (fun F k _ => ut N a b f F (k : Int)) a.length (fun k _ => ∀ j, j < k → a.getD j default = b.getD j default) _ (fun F k _ hk hi => ?_) (fun F _ hi => ?_) N 0 () (Nat.zero_le _) (by omega) (fun j hj => by omega)
      · simp only [ut]
        rw [wu (by omega), zq (qo hk), zq (qo (by omega))]
        refine (show _ ∨ _ from ?_)
        have hk' := hf k hk
        by_cases he : a.getD k default = b.getD k default
        · rw [decide_eq_true he] at hk'
          right
          refine ⟨(), zbe hi he, Eq.trans (zy hk') (Eq.trans (cf rfl) ?_)⟩
          rw [zq (qy (by omega))]; rfl
        · rw [decide_eq_false he] at hk'
          left
          refine Eq.trans (zy hk') (Eq.trans (ct rfl) ?_)
          rw [if_neg (fun e => he (by rw [e]))]
      · simp only [ut]
        rw [uo (by omega), if_pos (l6 hl' hi)]
    rw [zy hL]
    by_cases he : a = b
    · rw [if_pos he, decide_eq_true he]; rfl
    · rw [if_neg he, decide_eq_false he]; rfl
theorem zwo {N : Nat} {a b : Mach} (ha : Small a) (hb : Small b) (hN : 200 ≤ N) : z5j N a b = some (zod a b) := by
  unfold z5j zod
  have hr := ha.r
  rw [zy (z5m ha hN), zb1 (fun _ => z5m hb hN), zb1 (fun _ => ztm (fun k hk => zuh (by have := ha.c k hk; omega) (by have := ha.c k hk; omega)) (by omega) (by omega))]
  cases decide (ow a = 0)
  · rfl
  · simp only [Bool.true_and, beq_true, cond_true, Option.getD_some]
    cases decide (ow b = 0) <;> cases decide (a.inputs = b.inputs) <;> cases decide (a.outputs = b.outputs) <;> rfl
theorem zyg {N : Nat} {a b : Mach} (ha : Small a) (hN : 200 ≤ N) : z2s N a b = some (decide (a = b)) := by
  have hr := ha.r
  unfold z2s
  by_cases h : (a.inputs ≠ b.inputs ∨ a.outputs ≠ b.outputs) ∨ (a.rows.length : Int) ≠ b.rows.length
  · rw [ct (by simpa only [Bool.or_eq_true, decide_eq_true_eq] using h), decide_eq_false]
    rintro rfl
    rcases h with (h | h) | h <;> exact h rfl
  · rw [cf (by simpa only [Bool.or_eq_false_iff, decide_eq_false_iff_not, not_or] using h)]
    simp only [not_or, Decidable.not_not] at h
    obtain ⟨⟨h1, h2⟩, h3⟩ := h
    have h3' : a.rows.length = b.rows.length := by omega
    have hab : (a = b) ↔ a.rows = b.rows := ⟨fun e => by rw [e], fun e => zi9.2 ⟨h1, h2, e⟩⟩
    have hL : yg N a b N 0 = some (if a.rows = b.rows then Ex.go () else Ex.rt false) := by
      refine ui (σ := Unit) (fun F k _ => yg N a b F (k : Int)) a.rows.length (fun k _ => ∀ j, j < k → a.rows.getD j default = b.rows.getD j default) _ (fun F k _ hk hi => ?_) (fun F _ hi => ?_) N 0 () (Nat.zero_le _) (by omega) (fun j hj => by omega)
      · have hc := ha.c k hk
        have hin : (bd (gd (okI a.rows (k : Int)) <| gd (okI b.rows (k : Int)) <| bif decide (((ix a.rows (k : Int)).length : Int) ≠ ((ix b.rows (k : Int)).length : Int)) then (some (Ex.rt (Ex.rt false))) else bg N a b (k : Int) N 0) fun q68 => Ex.on q68 (fun o67 => gd (in64 ((k : Int) + 1)) <| yg N a b F ((k : Int) + 1)) some) =
            if a.rows.getD k default = b.rows.getD k default then yg N a b F ((k + 1 : Nat) : Int) else some (Ex.rt false) := by
          rw [zq (qo hk), zq (qo (by omega))]
          by_cases h4 : ((ix a.rows (k : Int)).length : Int) ≠ ((ix b.rows (k : Int)).length : Int)
          · rw [if_neg (show ¬ a.rows.getD k default = b.rows.getD k default from fun e => h4 (congrArg (fun l : List Edge => (l.length : Int)) e))]
            exact Eq.trans (zy (x := Ex.rt (Ex.rt false)) (wu h4)) rfl
          · have h4' : (a.rows.getD k default).length = (b.rows.getD k default).length := by
              have : ((ix a.rows (k : Int)).length : Int) = ((ix b.rows (k : Int)).length : Int) := Decidable.of_not_not h4
              exact Int.ofNat.inj this
            have hL2 : bg N a b (k : Int) N 0 = some (if a.rows.getD k default = b.rows.getD k default then Ex.go () else Ex.rt (Ex.rt false)) := by
              refine ui (σ := Unit) (fun G i _ => bg N a b (k : Int) G (i : Int)) (a.rows.getD k default).length (fun i _ => ∀ j, j < i → (a.rows.getD k default).getD j default = (b.rows.getD k default).getD j default) _ (fun G i _ hi' hq => ?_) (fun G _ hq => ?_) N 0 () (Nat.zero_le _) (by omega) (fun j hj => by omega)
              · simp only [bg]
                rw [zq (qo hk)]
                refine (show _ ∨ _ from ?_)
                have hi2 : (i : Int) < ((ix a.rows (k : Int)).length : Int) := Int.ofNat_lt.2 hi'
                rw [wu hi2, zq (qo hk), zq (show okI (ix a.rows (k : Int)) (i : Int) from qo hi'), zq (qo (by omega)), zq (show okI (ix b.rows (k : Int)) (i : Int) from qo (show i < (b.rows.getD k default).length by omega))]
                by_cases he : (a.rows.getD k default).getD i default = (b.rows.getD k default).getD i default
                · right
                  refine ⟨(), zbe hq he, Eq.trans (uo (fun h => h (show ((a.rows.getD k default).getD i default).to = ((b.rows.getD k default).getD i default).to ∧ ((a.rows.getD k default).getD i default).out = ((b.rows.getD k default).getD i default).out by rw [he]; exact ⟨rfl, rfl⟩))) ?_⟩
                  rw [zq (qy (by omega))]; rfl
                · left
                  refine Eq.trans (wu (fun h => he (zoc h))) ?_
                  rw [if_neg (fun e => he (by rw [e]))]
              · simp only [bg]
                have hi2 : ¬ ((((a.rows.getD k default).length : Nat) : Int) < ((ix a.rows (k : Int)).length : Int)) := Int.lt_irrefl _
                rw [zq (qo hk), uo hi2, if_pos (l6 h4' hq)]
            refine Eq.trans (zy (Eq.trans (uo h4) hL2)) ?_
            by_cases he : a.rows.getD k default = b.rows.getD k default
            · rw [if_pos he, if_pos he, zkv, zq (qy (by omega))]; rfl
            · rw [if_neg he, if_neg he]; rfl
        simp only [yg]
        rw [wu (by omega), hin]
        by_cases he : a.rows.getD k default = b.rows.getD k default
        · right; exact ⟨(), zbe hi he, if_pos he⟩
        · left; rw [if_neg he, if_neg (fun e => he (by rw [e]))]
      · simp only [yg]
        rw [uo (by omega), if_pos (l6 h3' hi)]
    rw [zy hL]
    by_cases he : a.rows = b.rows
    · rw [if_pos he, decide_eq_true (hab.2 he)]; rfl
    · rw [if_neg he, decide_eq_false (fun e => he (hab.1 e))]; rfl
/-! ### Data -/
end GV
end Go.Proofs.YtkcccdcloealfaaGreat
