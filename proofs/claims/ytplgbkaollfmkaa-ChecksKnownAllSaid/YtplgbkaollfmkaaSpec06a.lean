import Derived.Test.YtplgbkaollfmkaaPlain04
import Derived.Test.YtplgbkaollfmkaaShPl
set_option linter.unusedVariables false
set_option linter.unusedSimpArgs false
namespace Go.Proofs.Ytplgbkaollfmkaa
namespace GV
set_option maxRecDepth 100000
theorem zrf {N : Nat} {s : List Edge} {f : Edge → Option Bool} {p : Edge → Bool} (hf : ∀ k, k < s.length → f (s.getD k default) = some (p (s.getD k default))) (hN : s.length < N) (hl : s.length ≤ 4611686018427387904) :
    gq N s f = some (zb4 p s) := by
  have h : jy N s f N 0 = some (if s.any p = true then Ex.rt (zb4 p s) else Ex.go ()) := by
    refine bq (σ := Unit) (fun F k _ => jy N s f F (k : Int)) s.length (fun k _ => (s.take k).any p = false) _ (fun F k _ hk hi => ?_) (fun F _ hi => ?_) N 0 () (Nat.zero_le _) (by omega) (by simp)
    · simp only [jy]
      rw [mr (by omega), zu (ji hk), su, qh (hf k hk)]
      cases hp : p (s.getD k default)
      · right
        refine ⟨(), by rw [z6g p s k hk, hi, hp]; rfl, ?_⟩
        rw [cf rfl, zu (jb (by omega))]; rfl
      · left
        rw [ct rfl, if_pos (List.any_eq_true.2 ⟨_, l5 hk, hp⟩), z8i p s k hk hi hp]
    · simp only [jy]
      rw [p9 (by omega), if_neg (by rw [List.take_length] at hi; rw [hi]; decide)]
  unfold gq
  rw [qh h]
  by_cases ha : s.any p = true
  · rw [if_pos ha]; rfl
  · rw [if_neg ha, zaa p s (by simpa using ha)]; rfl
theorem zku {N : Nat} {s : List Edge} {f : Edge → Option Bool} {p : Edge → Bool} (hf : ∀ k, k < s.length → f (s.getD k default) = some (p (s.getD k default))) (hN : s.length < N) (hl : s.length ≤ 4611686018427387904) :
    yw N s f = some (s.any p) := by
  unfold yw
  rw [qh (zrf hf hN hl), zfc]
theorem z9t {N : Nat} {m : Mach} (hs : Small m) (hN : 200 ≤ N) : xn N m = some (ni m) := by
  unfold xn
  by_cases h : (16 < m.inputs ∨ 16 < m.outputs) ∨ 64 < m.rows.length
  · rw [ct (by simp; omega), zoc h]
  · rw [cf (by simp; omega)]
    by_cases h1 : (m.inputs < 1 ∨ m.outputs < 1) ∨ m.rows.length < 1
    · rw [ct (by simp; omega), znj h h1]
    · rw [cf (by simp; omega)]
      have hl := hs.r
      have hL : xk N m N 0 = some (if m.rows.any (z3b m) = true then Ex.rt 1 else Ex.go ()) := by
        refine bq (σ := Unit) (fun F k _ => xk N m F (k : Int)) m.rows.length (fun k _ => (m.rows.take k).any (z3b m) = false) _ (fun F k _ hk hi => ?_) (fun F _ hi => ?_) N 0 () (Nat.zero_le _) (by omega) (by simp)
        · simp only [xk]
          have hc := hs.c k hk
          rw [mr (by omega), zu (ji hk), su, zi1 (fun _ => zku (p := fun x => !zgt m x) (fun j hj => rfl) (by omega) (by omega))]
          have hb : (decide (((m.rows.getD k default).length : Int) ≠ m.inputs) || ((bif (true && (decide (((m.rows.getD k default).length : Int) ≠ m.inputs) == false)) then some ((m.rows.getD k default).any fun x => !zgt m x) else none).getD default)) = z3b m (m.rows.getD k default) := by
            unfold z3b
            cases decide (((m.rows.getD k default).length : Int) ≠ m.inputs) <;> rfl
          rw [hb]
          cases hr : z3b m (m.rows.getD k default)
          · right
            refine ⟨(), by rw [z6g _ _ k hk, hi, hr]; rfl, ?_⟩
            rw [cf rfl, zu (jb (by omega))]; rfl
          · left
            rw [ct rfl, if_pos (List.any_eq_true.2 ⟨_, l5 hk, hr⟩)]
        · simp only [xk]
          rw [p9 (by omega), if_neg (by rw [List.take_length] at hi; rw [hi]; decide)]
      rw [qh hL]
      by_cases ha : m.rows.any (z3b m) = true
      · rw [if_pos ha]; unfold ni; rw [if_neg h, if_neg h1, if_pos ha]; rfl
      · rw [if_neg ha, zm9 h h1 (by simpa using ha)]; rfl
/-! ### Words -/
theorem zry {N : Nat} {s : List Int} {f : Int → Option Bool} {p : Int → Bool} (hf : ∀ k, k < s.length → f (s.getD k default) = some (p (s.getD k default))) (hN : s.length < N) (hl : s.length ≤ 4611686018427387904) :
    mo N s f = some (zb4 p s) := by
  have h : uq N s f N 0 = some (if s.any p = true then Ex.rt (zb4 p s) else Ex.go ()) := by
    refine bq (σ := Unit) (fun F k _ => uq N s f F (k : Int)) s.length (fun k _ => (s.take k).any p = false) _ (fun F k _ hk hi => ?_) (fun F _ hi => ?_) N 0 () (Nat.zero_le _) (by omega) (by simp)
    · simp only [uq]
      rw [mr (by omega), zu (ji hk), su, qh (hf k hk)]
      cases hp : p (s.getD k default)
      · right
        refine ⟨(), by rw [z6g p s k hk, hi, hp]; rfl, ?_⟩
        rw [cf rfl, zu (jb (by omega))]; rfl
      · left
        rw [ct rfl, if_pos (List.any_eq_true.2 ⟨_, l5 hk, hp⟩), z8i p s k hk hi hp]
    · simp only [uq]
      rw [p9 (by omega), if_neg (by rw [List.take_length] at hi; rw [hi]; decide)]
  unfold mo
  rw [qh h]
  by_cases ha : s.any p = true
  · rw [if_pos ha]; rfl
  · rw [if_neg ha, zaa p s (by simpa using ha)]; rfl
theorem zev {N : Nat} {s : List Int} {f : Int → Option Bool} {p : Int → Bool} (hf : ∀ k, k < s.length → f (s.getD k default) = some (p (s.getD k default))) (hN : s.length < N) (hl : s.length ≤ 4611686018427387904) :
    xm N s f = some (s.any p) := by
  unfold xm
  rw [qh (zry hf hN hl), zfc]
/-! ### Data -/
end GV
end Go.Proofs.Ytplgbkaollfmkaa
