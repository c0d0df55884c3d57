import Derived.Test.YtplgbkaollfmkaaPlain04
import Derived.Test.YtplgbkaollfmkaaShPl
set_option linter.unusedVariables false
set_option linter.unusedSimpArgs false
namespace Go.Proofs.Ytplgbkaollfmkaa
namespace GV
set_option maxRecDepth 100000
theorem zut {N : Nat} {s : List Edge} {f : Edge → Option Bool} {p : Edge → Bool} (hf : ∀ k, k < s.length → f (s.getD k default) = some (p (s.getD k default))) (hN : s.length < N) (hl : s.length ≤ 4611686018427387904) :
    mo N s f = some (zem p s) := by
  have h : ug N s f N 0 = some (if s.any p = true then Ex.rt (zem p s) else Ex.go ()) := by
    refine xh (σ := Unit) (fun F k _ => ug N s f F (k : Int)) s.length (fun k _ => (s.take k).any p = false) _ (fun F k _ hk hi => ?_) (fun F _ hi => ?_) N 0 () (Nat.zero_le _) (by omega) (by simp)
    · simp only [ug]
      rw [vz (by omega), zx (ji hk), r9, qf (hf k hk)]
      cases hp : p (s.getD k default)
      · right
        refine ⟨(), by rw [z4o p s k hk, hi, hp]; rfl, ?_⟩
        rw [cf rfl, zx (jb (by omega))]; rfl
      · left
        rw [ct rfl, if_pos (List.any_eq_true.2 ⟨_, sj hk, hp⟩), zbi p s k hk hi hp]
    · simp only [ug]
      rw [vv (by omega), if_neg (by rw [List.take_length] at hi; rw [hi]; decide)]
  unfold mo
  rw [qf h]
  by_cases ha : s.any p = true
  · rw [if_pos ha]; rfl
  · rw [if_neg ha, zdv p s (by simpa using ha)]; rfl
theorem zo8 {N : Nat} {s : List Edge} {f : Edge → Option Bool} {p : Edge → Bool} (hf : ∀ k, k < s.length → f (s.getD k default) = some (p (s.getD k default))) (hN : s.length < N) (hl : s.length ≤ 4611686018427387904) :
    dz N s f = some (s.any p) := by
  unfold dz
  rw [qf (zut hf hN hl), zj6]
theorem zcp {N : Nat} {m : Mach} (hs : Small m) (hN : 200 ≤ N) : df N m = some (l9 m) := by
  unfold df
  by_cases h : (16 < m.inputs ∨ 16 < m.outputs) ∨ 64 < m.rows.length
  · rw [ct (by simp; omega), zkt h]
  · rw [cf (by simp; omega)]
    by_cases h1 : (m.inputs < 1 ∨ m.outputs < 1) ∨ m.rows.length < 1
    · rw [ct (by simp; omega), zk9 h h1]
    · rw [cf (by simp; omega)]
      have hl := hs.r
      have hL : nk N m N 0 = some (if m.rows.any (z0f m) = true then Ex.rt 1 else Ex.go ()) := by
        refine xh (σ := Unit) (fun F k _ => nk N m F (k : Int)) m.rows.length (fun k _ => (m.rows.take k).any (z0f m) = false) _ (fun F k _ hk hi => ?_) (fun F _ hi => ?_) N 0 () (Nat.zero_le _) (by omega) (by simp)
        · simp only [nk]
          have hc := hs.c k hk
          rw [vz (by omega), zx (ji hk), r9, zix (fun _ => zo8 (p := fun x => !zcd m x) (fun j hj => rfl) (by omega) (by omega))]
          have hb : (decide (((m.rows.getD k default).length : Int) ≠ m.inputs) || ((bif (true && (decide (((m.rows.getD k default).length : Int) ≠ m.inputs) == false)) then some ((m.rows.getD k default).any fun x => !zcd m x) else none).getD default)) = z0f m (m.rows.getD k default) := by
            unfold z0f
            cases decide (((m.rows.getD k default).length : Int) ≠ m.inputs) <;> rfl
          rw [hb]
          cases hr : z0f m (m.rows.getD k default)
          · right
            refine ⟨(), by rw [z4o _ _ k hk, hi, hr]; rfl, ?_⟩
            rw [cf rfl, zx (jb (by omega))]; rfl
          · left
            rw [ct rfl, if_pos (List.any_eq_true.2 ⟨_, sj hk, hr⟩)]
        · simp only [nk]
          rw [vv (by omega), if_neg (by rw [List.take_length] at hi; rw [hi]; decide)]
      rw [qf hL]
      by_cases ha : m.rows.any (z0f m) = true
      · rw [if_pos ha]; unfold l9; rw [if_neg h, if_neg h1, if_pos ha]; rfl
      · rw [if_neg ha, zkb h h1 (by simpa using ha)]; rfl
theorem zlx {N : Nat} {m : Mach} (hm : MOk m) (hN : 200 ≤ N) : il N m = some (zt7 m : Int) := by
  have hr := hm.r2; have hi1 := hm.i1; have hi2 := hm.i2
  unfold il
  refine Eq.trans (qf (x := (zt7 m : Int)) ?_) rfl
  refine xh (fun F k (s : Int) => xm N m F s (k : Int)) m.rows.length (fun k s => s = (zb7 m k : Int)) _ (fun F k s hk hi => .inr ?_) (fun F s hi => ?_) N 0 0 (Nat.zero_le _) (by omega) (by simp [zb7])
  · subst hi
    have hlen : ((m.rows.getD k default).length : Int) = m.inputs := hm.row k hk
    have hle := zn3 m hm k (by omega)
    have hL : vg N m (k : Int) N (zb7 m k : Int) 0 = some (zb7 m (k + 1) : Int) := by
      rw [zds m k hk]
      refine xh (fun F i (s : Int) => vg N m (k : Int) F s (i : Int)) m.inputs.toNat (fun i s => s = ((zb7 m k + zde (m.rows.getD k default) i : Nat) : Int)) _ (fun F i s hi hs => .inr ?_) (fun F s hs => ?_) N 0 _ (Nat.zero_le _) (by omega) (by simp [zh9])
      · subst hs
        have hi' : i < (m.rows.getD k default).length := by omega
        refine ⟨_, rfl, ?_⟩
        simp only [vg]
        have hc := znh (m.rows.getD k default) i
        rw [vz (by omega), zx (ji hk), zx (show okI (ix m.rows (k : Int)) (i : Int) from ji hi'), zi0 _ _ hi']
        by_cases h0 : 0 ≤ ((m.rows.getD k default).getD i default).to
        · rw [if_pos h0]
          refine Eq.trans (qf (x := ((zb7 m k + (zde (m.rows.getD k default) i + 1) : Nat) : Int)) ?_) ?_
          · refine Eq.trans (vz h0) ?_
            rw [zx (jb (by omega))]; rfl
          · rw [zx (jb (by omega))]; rfl
        · rw [if_neg h0]
          refine Eq.trans (qf (x := ((zb7 m k + (zde (m.rows.getD k default) i + 0) : Nat) : Int)) ?_) ?_
          · exact vv h0
          · rw [zx (jb (by omega))]; rfl
      · subst hs
        simp only [vg]
        rw [vv (by omega), show m.inputs.toNat = (m.rows.getD k default).length by omega]
    refine ⟨_, rfl, ?_⟩
    simp only [xm]
    rw [vz (by omega), qf hL, zx (jb (by omega))]; rfl
  · subst hi
    simp only [xm]
    rw [vv (by omega)]; rfl
theorem ziu {N : Nat} {m : Mach} (hm : MOk m) (hN : 200 ≤ N) : az N m = some (z9d m) := by
  unfold az
  have := hm.mul
  rw [qf (zlx hm hN), zx (jb (by rw [this.2]; omega))]; rfl
theorem zmb {N : Nat} {m : Mach} (hm : MOk m) (hN : 200 ≤ N) {a : Nat} (ha : a < m.rows.length) : o8 N m (a : Int) = some (reachL m a) := by
  have hr := hm.r2; have hi1 := hm.i1; have hi2 := hm.i2
  unfold o8
  rw [zx ⟨by omega, by omega, by omega⟩, z5a, zx (ji (by simpa using ha)), z98]
  refine Eq.trans (qf (x := reachL m a) ?_) rfl
  refine xh (fun F r Y => xq N m F (r : Int) Y) m.rows.length (fun r Y => RInv m a r Y) _ (fun F r Y hk hi => .inr ?_) (fun F Y hi => ?_) N 0 _ (Nat.zero_le _) (by omega) (zdg ha)
  · obtain ⟨Z, hZ, hz⟩ : ∃ Z, wy N m N 0 Y = some Z ∧ RInv m a (r + 1) Z := by
      refine iy (fun F s Z => wy N m F (s : Int) Z) m.rows.length (fun s Z => RPass m a Y s 0 Z) _ (fun F s Z hs hp => .inr ?_) (fun F Z hp => ?_) N 0 Y (Nat.zero_le _) (by omega) (znf hi)
      · have hlen : ((m.rows.getD s default).length : Int) = m.inputs := hm.row s hs
        obtain ⟨V, hV, hv⟩ : ∃ V, wz N m (s : Int) N 0 Z = some V ∧ RPass m a Y (s + 1) 0 V := by
          refine iy (fun F i V => wz N m (s : Int) F (i : Int) V) m.inputs.toNat (fun i V => RPass m a Y s i V) _ (fun F i V hi' hq => .inr ?_) (fun F V hq => ?_) N 0 Z (Nat.zero_le _) (by omega) hp
          · have hil : i < (m.rows.getD s default).length := by omega
            have hsl : s < V.length := by rw [hq.len]; exact hs
            simp only [wz]
            rw [vz (by omega), zx (ji hs), zx (show okI (ix m.rows (s : Int)) (i : Int) from ji hil), zx (ji hsl)]
            by_cases hc : V.getD s default = true ∧ 0 ≤ ((m.rows.getD s default).getD i default).to
            · refine ⟨_, zpm hm hq hs hil hc.1 hc.2, ?_⟩
              have hlt : ((m.rows.getD s default).getD i default).to.toNat < V.length := by
                rw [hq.len]; rcases hm.edge s i hs hil with h | h <;> omega
              refine Eq.trans (qf (x := V.set ((m.rows.getD s default).getD i default).to.toNat true) ?_) ?_
              · refine Eq.trans (ct (by show (V.getD s default && decide (0 ≤ ((m.rows.getD s default).getD i default).to)) = true; rw [hc.1, decide_eq_true hc.2]; rfl)) ?_
                exact zx (show okI V ((m.rows.getD s default).getD i default).to from ⟨hc.2, by omega⟩)
              · rw [zx (jb (by omega))]; rfl
            · refine ⟨V, zmz hq hc, ?_⟩
              refine Eq.trans (qf (x := V) ?_) ?_
              · refine cf (show (V.getD s default && decide (0 ≤ ((m.rows.getD s default).getD i default).to)) = false from ?_)
                cases h1 : V.getD s default
                · rfl
                · exact decide_eq_false fun h2 => hc ⟨h1, h2⟩
              · rw [zx (jb (by omega))]; rfl
          · simp only [wz]
            rw [vv (by omega)]
            exact ⟨V, rfl, zr0 hq (by omega)⟩
        refine ⟨V, hv, ?_⟩
        simp only [wy]
        rw [vz (by omega), qf hV, zx (jb (by omega))]; rfl
      · simp only [wy]
        rw [vv (by omega)]
        exact ⟨Z, rfl, zqp hp (Nat.le_refl _) hi⟩
    refine ⟨Z, hz, ?_⟩
    simp only [xq]
    rw [vz (by omega), qf hZ, zx (jb (by omega))]; rfl
  · simp only [xq]
    rw [vv (by omega), zji hm ha hi (Nat.le_refl _)]
theorem zqk {N : Nat} {m : Mach} (hm : MOk m) (hN : 200 ≤ N) : aa N m = some (connB m) := by
  have hr := hm.r2; have hr1 := hm.r1
  unfold aa
  rw [qf (show o8 N m 0 = _ from zmb (a := 0) hm hN (by omega))]
  have hl := z2c m 0
  have hL : uk N (reachL m 0) N 0 = some (if connB m = true then Ex.go () else Ex.rt false) := by
    refine xh (σ := Unit) (fun F k _ => uk N (reachL m 0) F (k : Int)) m.rows.length (fun k _ => ∀ j, j < k → (reachL m 0).getD j default = true) _ (fun F k _ hk hi => ?_) (fun F _ hi => ?_) N 0 () (Nat.zero_le _) (by omega) (fun j hj => by omega)
    · simp only [uk]
      rw [vz (by omega), zx (ji (by omega)), r9]
      cases hb : (reachL m 0).getD k default
      · left
        refine Eq.trans (ct rfl) ?_
        rw [zte hk hb]; rfl
      · right
        refine ⟨(), zl0 hi hb, Eq.trans (cf rfl) ?_⟩
        rw [zx (jb (by omega))]; rfl
    · simp only [uk]
      rw [vv (by omega), ztk hi]; rfl
  rw [qf hL]
  cases connB m <;> rfl
/-! ### Words -/
theorem zur {N : Nat} {s : List Int} {f : Int → Option Bool} {p : Int → Bool} (hf : ∀ k, k < s.length → f (s.getD k default) = some (p (s.getD k default))) (hN : s.length < N) (hl : s.length ≤ 4611686018427387904) :
    l7 N s f = some (zem p s) := by
  have h : yn N s f N 0 = some (if s.any p = true then Ex.rt (zem p s) else Ex.go ()) := by
    refine xh (σ := Unit) (fun F k _ => yn N s f F (k : Int)) s.length (fun k _ => (s.take k).any p = false) _ (fun F k _ hk hi => ?_) (fun F _ hi => ?_) N 0 () (Nat.zero_le _) (by omega) (by simp)
    · simp only [yn]
      rw [vz (by omega), zx (ji hk), r9, qf (hf k hk)]
      cases hp : p (s.getD k default)
      · right
        refine ⟨(), by rw [z4o p s k hk, hi, hp]; rfl, ?_⟩
        rw [cf rfl, zx (jb (by omega))]; rfl
      · left
        rw [ct rfl, if_pos (List.any_eq_true.2 ⟨_, sj hk, hp⟩), zbi p s k hk hi hp]
    · simp only [yn]
      rw [vv (by omega), if_neg (by rw [List.take_length] at hi; rw [hi]; decide)]
  unfold l7
  rw [qf h]
  by_cases ha : s.any p = true
  · rw [if_pos ha]; rfl
  · rw [if_neg ha, zdv p s (by simpa using ha)]; rfl
theorem zia {N : Nat} {s : List Int} {f : Int → Option Bool} {p : Int → Bool} (hf : ∀ k, k < s.length → f (s.getD k default) = some (p (s.getD k default))) (hN : s.length < N) (hl : s.length ≤ 4611686018427387904) :
    nu N s f = some (s.any p) := by
  unfold nu
  rw [qf (zur hf hN hl), zj6]
theorem zlo {N : Nat} {a b : List Int} (hN : a.length < N) (hl : a.length ≤ 4611686018427387904) : iq N a b = some (cmpL a b) := by
  unfold iq cmpL
  by_cases h1 : a.length < b.length
  · rw [vz (by omega), if_pos h1]
  · rw [vv (by omega), if_neg h1]
    by_cases h2 : b.length < a.length
    · rw [vz (by omega), if_pos h2]
    · rw [vv (by omega), if_neg h2]
      have he : a.length = b.length := by omega
      have hL : ww N a b N 0 = some (if zdn a b = 0 then Ex.go () else Ex.rt (zdn a b)) := by
        refine xh (σ := Unit) (fun F k _ => ww N a b F (k : Int)) a.length (fun k _ => zdn (a.drop k) (b.drop k) = zdn a b) _ (fun F k _ hk hi => ?_) (fun F _ hi => ?_) N 0 () (Nat.zero_le _) (by omega) rfl
        · simp only [ww]
          rw [vz (by omega), zx (ji hk), zx (ji (by omega))]
          have hs := zp6 hk (show k < b.length by omega)
          rw [hi] at hs
          by_cases h3 : a.getD k default < b.getD k default
          · left
            refine Eq.trans (vz h3) ?_
            rw [if_pos h3] at hs; rw [hs]; rfl
          · refine (show _ ∨ _ from ?_)
            rw [if_neg h3] at hs
            by_cases h4 : b.getD k default < a.getD k default
            · left
              refine Eq.trans (vv h3) ?_
              rw [zx (ji hk), zx (ji (by omega))]
              refine Eq.trans (vz h4) ?_
              rw [if_pos h4] at hs; rw [hs]; rfl
            · right
              rw [if_neg h4] at hs
              refine ⟨(), hs.symm, Eq.trans (vv h3) ?_⟩
              rw [zx (ji hk), zx (ji (by omega))]
              refine Eq.trans (vv h4) ?_
              rw [zx (jb (by omega))]; rfl
        · simp only [ww]
          rw [vv (by omega)]
          have : zdn a b = 0 := by rw [← hi, List.drop_of_length_le (Nat.le_refl _)]; rfl
          rw [if_pos this]
      rw [qf hL]
      by_cases h5 : zdn a b = 0
      · rw [if_pos h5, h5]; rfl
      · rw [if_neg h5]; rfl
theorem zjn {N : Nat} {a b : List Int} (hN : a.length < N) (hl : a.length ≤ 4611686018427387904) : yw N a b = some (decide (a = b)) := by
  unfold yw
  rw [qf (zlo hN hl)]
  by_cases h : a = b
  · rw [decide_eq_true h, decide_eq_true ((cmpL_eq a b).2 h)]
  · rw [decide_eq_false h, decide_eq_false (fun e => h ((cmpL_eq a b).1 e))]
theorem zs7 {N : Nat} {m : Mach} (hm : MOk m) {s i : Int} (hs : SOk m s) (hi : 0 ≤ i ∧ i < m.inputs) : z0i N m s i = some (ll m s i) := by
  unfold z0i ll
  rcases hs with h | h
  · rw [h]; rfl
  · have hrow := hm.row s.toNat (by omega)
    rw [vv (by omega), if_neg (by omega), zx h, zx (show okI (ix m.rows s) i from ⟨hi.1, by rw [zbk, hrow]; exact hi.2⟩)]; rfl
theorem zt6 {N : Nat} {m : Mach} (hm : MOk m) {s : Int} {w : List Int} (hs : SOk m s) (hw : WOk m.inputs w) (hN : w.length < N) (hl : w.length ≤ 1000000) : ib N m s w = some (oh m s w) := by
  unfold ib
  refine Eq.trans (qf (x := oh m s w) ?_) rfl
  refine xh (σ := Int × List Int) (fun F k x => dh N m w F x.1 x.2 (k : Int)) w.length (fun k x => x.1 = lq m s (w.take k) ∧ x.2 = oh m s (w.take k)) _ (fun F k x hk hi => .inr ?_) (fun F x hi => ?_) N 0 (s, []) (Nat.zero_le _) (by omega) (by simp [lq, oh])
  · obtain ⟨t, X⟩ := x
    obtain ⟨rfl, rfl⟩ := hi
    have hst := zcr m hm s (w.take k) hs (zc9 hw k)
    refine ⟨(lq m s (w.take (k + 1)), oh m s (w.take (k + 1))), ⟨rfl, rfl⟩, ?_⟩
    simp only [dh]
    have hlr := l5 m s (w.take k)
    rw [List.length_take] at hlr
    rw [vz (by omega), zx (ji hk)]
    refine Eq.trans (qf (zs7 hm hst (show 0 ≤ w.getD k default ∧ w.getD k default < m.inputs from hw k hk))) ?_
    rw [zx ⟨by simp; omega, by simp; omega⟩, zx (jb (by omega)), zan m s w k hk, zat m s w k hk]; rfl
  · obtain ⟨t, X⟩ := x
    obtain ⟨rfl, rfl⟩ := hi
    simp only [dh]
    rw [vv (by omega), List.take_length]
theorem zpa {N : Nat} {m : Mach} (hs : Small m) (hN : 200 ≤ N) : mr N m = some (l9 m) := by
  have hl := hs.r
  unfold mr
  by_cases h : (16 < m.inputs ∨ 16 < m.outputs) ∨ 64 < m.rows.length
  · rw [ct (by simp; omega), zkt h]
  · rw [cf (by simp; omega)]
    by_cases h1 : (m.inputs < 1 ∨ m.outputs < 1) ∨ m.rows.length < 1
    · rw [ct (by simp only [Bool.or_eq_true, decide_eq_true_eq]; omega), zk9 h h1]
    · rw [cf (by have : (m.rows.length : Int) ≠ 0 := by omega
                 simp only [Bool.or_eq_false_iff, decide_eq_false_iff_not]; omega)]
      have hL : uo N m N 0 = some (if m.rows.any (z0f m) = true then Ex.rt 1 else Ex.go ()) := by
        refine xh (σ := Unit) (fun F k _ => uo N m F (k : Int)) m.rows.length (fun k _ => (m.rows.take k).any (z0f m) = false) _ (fun F k _ hk hi => ?_) (fun F _ hi => ?_) N 0 () (Nat.zero_le _) (by omega) (by simp)
        · have hc := hs.c k hk
          have hin : (bd (gd (okI m.rows (k : Int)) <| bif decide (((ix m.rows (k : Int)).length : Int) ≠ m.inputs) then (some (Ex.rt (Ex.rt 1))) else vk N m (k : Int) N 0) fun q81 => Ex.on q81 (fun o80 => gd (in64 ((k : Int) + 1)) <| uo N m F ((k : Int) + 1)) some) =
              if z0f m (m.rows.getD k default) = true then some (Ex.rt 1) else uo N m F ((k + 1 : Nat) : Int) := by
            rw [zx (ji hk)]
            by_cases h2 : ((m.rows.getD k default).length : Int) ≠ m.inputs
            · have hb : z0f m (m.rows.getD k default) = true := by unfold z0f; rw [decide_eq_true h2]; rfl
              rw [if_pos hb]
              refine Eq.trans (qf (x := Ex.rt (Ex.rt 1)) (vz h2)) rfl
            · have h2' : ((ix m.rows (k : Int)).length : Int) = m.inputs := Decidable.of_not_not h2
              have hL2 : vk N m (k : Int) N 0 = some (if z0f m (m.rows.getD k default) = true then Ex.rt (Ex.rt 1) else Ex.go ()) := by
                refine xh (σ := Unit) (fun G i _ => vk N m (k : Int) G (i : Int)) m.inputs.toNat (fun i _ => (((m.rows.getD k default).take i).any fun x => !zcd m x) = false) _ (fun G i _ hi' hq => ?_) (fun G _ hq => ?_) N 0 () (Nat.zero_le _) (by have : ((m.rows.getD k default).length : Int) = m.inputs := h2'; omega) (by simp)
                · have hil : i < (m.rows.getD k default).length := by have : ((m.rows.getD k default).length : Int) = m.inputs := h2'; omega
                  simp only [vk]
                  rw [vz (by omega), zx (ji hk), zx (show okI (ix m.rows (k : Int)) (i : Int) from ji hil)]
                  have hx : ix (ix m.rows (k : Int)) (i : Int) = (m.rows.getD k default).getD i default := rfl
                  rw [hx]
                  generalize hxe : (m.rows.getD k default).getD i default = x at *
                  by_cases h3 : x.to = -1 ∧ x.out = -1
                  · right
                    have hf := zpz (m := m) (x := x) (.inl h3)
                    refine ⟨(), by rw [z4o _ _ i hil, hq, hxe, hf]; rfl, ?_⟩
                    rw [ct (by rw [decide_eq_true h3.1, decide_eq_true h3.2]; rfl), ziy, zh1, zx (jb (by omega))]; rfl
                  · rw [cf (by rw [← Bool.decide_and]; exact decide_eq_false h3)]
                    by_cases h4 : 0 ≤ x.to ∧ x.to < m.rows.length ∧ 0 ≤ x.out ∧ x.out < m.outputs
                    · right
                      have hf := zpz (m := m) (x := x) (.inr h4)
                      refine ⟨(), by rw [z4o _ _ i hil, hq, hxe, hf]; rfl, ?_⟩
                      rw [cf (by simp; omega), ziy, zh1, zx (jb (by omega))]; rfl
                    · left
                      have hf := zu9 (m := m) (x := x) (fun h => h.elim h3 h4)
                      rw [ct (by simp; omega), ziy, zyy, if_pos]
                      unfold z0f
                      rw [Bool.or_eq_true]
                      exact .inr (List.any_eq_true.2 ⟨_, sj hil, by rw [hxe]; exact hf⟩)
                · simp only [vk]
                  rw [vv (by omega), if_neg]
                  have hle : (m.rows.getD k default).length = m.inputs.toNat := by have : ((m.rows.getD k default).length : Int) = m.inputs := h2'; omega
                  rw [← hle, List.take_length] at hq
                  unfold z0f
                  rw [hq, decide_eq_false h2]; decide
              refine Eq.trans (qf (Eq.trans (vv (fun h => h h2')) hL2)) ?_
              by_cases hb : z0f m (m.rows.getD k default) = true
              · rw [if_pos hb, if_pos hb]; rfl
              · rw [if_neg hb, if_neg hb, zh1, zx (jb (by omega))]; rfl
          simp only [uo]
          rw [vz (by omega), hin]
          cases hr : z0f m (m.rows.getD k default)
          · right
            exact ⟨(), by rw [z4o _ _ k hk, hi, hr]; rfl, if_neg (by decide)⟩
          · left
            rw [if_pos rfl, if_pos (List.any_eq_true.2 ⟨_, sj hk, hr⟩)]
        · simp only [uo]
          rw [vv (by omega), if_neg (by rw [List.take_length] at hi; rw [hi]; decide)]
      rw [qf hL]
      by_cases ha : m.rows.any (z0f m) = true
      · rw [if_pos ha]; unfold l9; rw [if_neg h, if_neg h1, if_pos ha]; rfl
      · rw [if_neg ha, zkb h h1 (by simpa using ha)]; rfl
/-! ### Data -/
end GV
end Go.Proofs.Ytplgbkaollfmkaa
