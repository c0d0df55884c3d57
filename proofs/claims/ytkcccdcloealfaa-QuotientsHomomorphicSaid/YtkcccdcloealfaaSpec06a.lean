import Derived.Test.YtkcccdcloealfaaPlain04
import Derived.Test.YtkcccdcloealfaaShPl
set_option linter.unusedVariables false
set_option linter.unusedSimpArgs false
namespace Go.Proofs.Ytkcccdcloealfaa
namespace GV
set_option maxRecDepth 100000
theorem zv6 {N : Nat} {s : List Edge} {f : Edge → Option Bool} {p : Edge → Bool} (hf : ∀ k, k < s.length → f (s.getD k default) = some (p (s.getD k default))) (hN : s.length < N) (hl : s.length ≤ 4611686018427387904) :
    pg N s f = some (zdd p s) := by
  have h : uf N s f N 0 = some (if s.any p = true then Ex.rt (zdd p s) else Ex.go ()) := by
    refine xc (σ := Unit) (fun F k _ => uf N s f F (k : Int)) s.length (fun k _ => (s.take k).any p = false) _ (fun F k _ hk hi => ?_) (fun F _ hi => ?_) N 0 () (Nat.zero_le _) (by omega) (by simp)
    · simp only [uf]
      rw [dn (by omega), zu (j5 hk), si, qf (hf k hk)]
      cases hp : p (s.getD k default)
      · right
        refine ⟨(), by rw [z8s p s k hk, hi, hp]; rfl, ?_⟩
        rw [cf rfl, zu (jg (by omega))]; rfl
      · left
        rw [ct rfl, if_pos (List.any_eq_true.2 ⟨_, oh hk, hp⟩), zal p s k hk hi hp]
    · simp only [uf]
      rw [xw (by omega), if_neg (by rw [List.take_length] at hi; rw [hi]; decide)]
  unfold pg
  rw [qf h]
  by_cases ha : s.any p = true
  · rw [if_pos ha]; rfl
  · rw [if_neg ha, zc2 p s (by simpa using ha)]; rfl
theorem zo6 {N : Nat} {s : List Edge} {f : Edge → Option Bool} {p : Edge → Bool} (hf : ∀ k, k < s.length → f (s.getD k default) = some (p (s.getD k default))) (hN : s.length < N) (hl : s.length ≤ 4611686018427387904) :
    gq N s f = some (s.any p) := by
  unfold gq
  rw [qf (zv6 hf hN hl), zh3]
theorem zbc {N : Nat} {m : Mach} (hs : Small m) (hN : 200 ≤ N) : uw N m = some (z0f m) := by
  unfold uw
  by_cases h : (16 < m.inputs ∨ 16 < m.outputs) ∨ 64 < m.rows.length
  · rw [ct (by simp; omega), zqx h]
  · rw [cf (by simp; omega)]
    by_cases h1 : (m.inputs < 1 ∨ m.outputs < 1) ∨ m.rows.length < 1
    · rw [ct (by simp; omega), zrb h h1]
    · rw [cf (by simp; omega)]
      have hl := hs.r
      have hL : bi N m N 0 = some (if m.rows.any (z3l m) = true then Ex.rt 1 else Ex.go ()) := by
        refine xc (σ := Unit) (fun F k _ => bi N m F (k : Int)) m.rows.length (fun k _ => (m.rows.take k).any (z3l m) = false) _ (fun F k _ hk hi => ?_) (fun F _ hi => ?_) N 0 () (Nat.zero_le _) (by omega) (by simp)
        · simp only [bi]
          have hc := hs.c k hk
          rw [dn (by omega), zu (j5 hk), si, zeq (fun _ => zo6 (p := fun x => !zid m x) (fun j hj => rfl) (by omega) (by omega))]
          have hb : (decide (((m.rows.getD k default).length : Int) ≠ m.inputs) || ((bif (true && (decide (((m.rows.getD k default).length : Int) ≠ m.inputs) == false)) then some ((m.rows.getD k default).any fun x => !zid m x) else none).getD default)) = z3l m (m.rows.getD k default) := by
            unfold z3l
            cases decide (((m.rows.getD k default).length : Int) ≠ m.inputs) <;> rfl
          rw [hb]
          cases hr : z3l m (m.rows.getD k default)
          · right
            refine ⟨(), by rw [z8s _ _ k hk, hi, hr]; rfl, ?_⟩
            rw [cf rfl, zu (jg (by omega))]; rfl
          · left
            rw [ct rfl, if_pos (List.any_eq_true.2 ⟨_, oh hk, hr⟩)]
        · simp only [bi]
          rw [xw (by omega), if_neg (by rw [List.take_length] at hi; rw [hi]; decide)]
      rw [qf hL]
      by_cases ha : m.rows.any (z3l m) = true
      · rw [if_pos ha]; unfold z0f; rw [if_neg h, if_neg h1, if_pos ha]; rfl
      · rw [if_neg ha, zox h h1 (by simpa using ha)]; rfl
/-! ### Words -/
theorem zu1 {N : Nat} {s : List Int} {f : Int → Option Bool} {p : Int → Bool} (hf : ∀ k, k < s.length → f (s.getD k default) = some (p (s.getD k default))) (hN : s.length < N) (hl : s.length ≤ 4611686018427387904) :
    og N s f = some (zdd p s) := by
  have h : wz N s f N 0 = some (if s.any p = true then Ex.rt (zdd p s) else Ex.go ()) := by
    refine xc (σ := Unit) (fun F k _ => wz N s f F (k : Int)) s.length (fun k _ => (s.take k).any p = false) _ (fun F k _ hk hi => ?_) (fun F _ hi => ?_) N 0 () (Nat.zero_le _) (by omega) (by simp)
    · simp only [wz]
      rw [dn (by omega), zu (j5 hk), si, qf (hf k hk)]
      cases hp : p (s.getD k default)
      · right
        refine ⟨(), by rw [z8s p s k hk, hi, hp]; rfl, ?_⟩
        rw [cf rfl, zu (jg (by omega))]; rfl
      · left
        rw [ct rfl, if_pos (List.any_eq_true.2 ⟨_, oh hk, hp⟩), zal p s k hk hi hp]
    · simp only [wz]
      rw [xw (by omega), if_neg (by rw [List.take_length] at hi; rw [hi]; decide)]
  unfold og
  rw [qf h]
  by_cases ha : s.any p = true
  · rw [if_pos ha]; rfl
  · rw [if_neg ha, zc2 p s (by simpa using ha)]; rfl
theorem zg5 {N : Nat} {s : List Int} {f : Int → Option Bool} {p : Int → Bool} (hf : ∀ k, k < s.length → f (s.getD k default) = some (p (s.getD k default))) (hN : s.length < N) (hl : s.length ≤ 4611686018427387904) :
    cu N s f = some (s.any p) := by
  unfold cu
  rw [qf (zu1 hf hN hl), zh3]
theorem zld {N : Nat} {a b : List Int} (hN : a.length < N) (hl : a.length ≤ 4611686018427387904) : mg N a b = some (cmpL a b) := by
  unfold mg cmpL
  by_cases h1 : a.length < b.length
  · rw [dn (by omega), if_pos h1]
  · rw [xw (by omega), if_neg h1]
    by_cases h2 : b.length < a.length
    · rw [dn (by omega), if_pos h2]
    · rw [xw (by omega), if_neg h2]
      have he : a.length = b.length := by omega
      have hL : wh N a b N 0 = some (if zce a b = 0 then Ex.go () else Ex.rt (zce a b)) := by
        refine xc (σ := Unit) (fun F k _ => wh N a b F (k : Int)) a.length (fun k _ => zce (a.drop k) (b.drop k) = zce a b) _ (fun F k _ hk hi => ?_) (fun F _ hi => ?_) N 0 () (Nat.zero_le _) (by omega) rfl
        · simp only [wh]
          rw [dn (by omega), zu (j5 hk), zu (j5 (by omega))]
          have hs := zn4 hk (show k < b.length by omega)
          rw [hi] at hs
          by_cases h3 : a.getD k default < b.getD k default
          · left
            refine Eq.trans (dn h3) ?_
            rw [if_pos h3] at hs; rw [hs]; rfl
          · refine (show _ ∨ _ from ?_)
            rw [if_neg h3] at hs
            by_cases h4 : b.getD k default < a.getD k default
            · left
              refine Eq.trans (xw h3) ?_
              rw [zu (j5 hk), zu (j5 (by omega))]
              refine Eq.trans (dn h4) ?_
              rw [if_pos h4] at hs; rw [hs]; rfl
            · right
              rw [if_neg h4] at hs
              refine ⟨(), hs.symm, Eq.trans (xw h3) ?_⟩
              rw [zu (j5 hk), zu (j5 (by omega))]
              refine Eq.trans (xw h4) ?_
              rw [zu (jg (by omega))]; rfl
        · simp only [wh]
          rw [xw (by omega)]
          have : zce a b = 0 := by rw [← hi, List.drop_of_length_le (Nat.le_refl _)]; rfl
          rw [if_pos this]
      rw [qf hL]
      by_cases h5 : zce a b = 0
      · rw [if_pos h5, h5]; rfl
      · rw [if_neg h5]; rfl
theorem zpg {N : Nat} {a b : List Int} (hN : a.length < N) (hl : a.length ≤ 4611686018427387904) : mo N a b = some (decide (a = b)) := by
  unfold mo
  rw [qf (zld hN hl)]
  by_cases h : a = b
  · rw [decide_eq_true h, decide_eq_true ((cmpL_eq a b).2 h)]
  · rw [decide_eq_false h, decide_eq_false (fun e => h ((cmpL_eq a b).1 e))]
theorem zrs {N : Nat} {m : Mach} (hm : MOk m) {s i : Int} (hs : SOk m s) (hi : 0 ≤ i ∧ i < m.inputs) : ig N m s i = some (p9 m s i) := by
  unfold ig p9
  rcases hs with h | h
  · rw [h]; rfl
  · have hrow := hm.row s.toNat (by omega)
    rw [xw (by omega), if_neg (by omega), zu h, zu (show okI (ix m.rows s) i from ⟨hi.1, by rw [zha, hrow]; exact hi.2⟩)]; rfl
theorem zmu {N : Nat} {m : Mach} (hm : MOk m) {s : Int} {w : List Int} (hs : SOk m s) (hw : WOk m.inputs w) (hN : w.length < N) (hl : w.length ≤ 1000000) : dh N m s w = some (z0j m s w) := by
  unfold dh
  refine Eq.trans (qf (x := z0j m s w) ?_) rfl
  refine xc (σ := Int × List Int) (fun F k x => xy N m w F x.1 x.2 (k : Int)) w.length (fun k x => x.1 = nu m s (w.take k) ∧ x.2 = z0j m s (w.take k)) _ (fun F k x hk hi => .inr ?_) (fun F x hi => ?_) N 0 (s, []) (Nat.zero_le _) (by omega) (by simp [nu, z0j])
  · obtain ⟨t, X⟩ := x
    obtain ⟨rfl, rfl⟩ := hi
    have hst := zbz m hm s (w.take k) hs (zpp hw k)
    refine ⟨(nu m s (w.take (k + 1)), z0j m s (w.take (k + 1))), ⟨rfl, rfl⟩, ?_⟩
    simp only [xy]
    have hlr := z0q m s (w.take k)
    rw [List.length_take] at hlr
    rw [dn (by omega), zu (j5 hk)]
    refine Eq.trans (qf (zrs hm hst (show 0 ≤ w.getD k default ∧ w.getD k default < m.inputs from hw k hk))) ?_
    rw [zu ⟨by simp; omega, by simp; omega⟩, zu (jg (by omega)), znu m s w k hk, zn8 m s w k hk]; rfl
  · obtain ⟨t, X⟩ := x
    obtain ⟨rfl, rfl⟩ := hi
    simp only [xy]
    rw [xw (by omega), List.take_length]
theorem zog {N : Nat} {a b : List Edge} (hN : a.length < N) (hl : a.length ≤ 4611686018427387904) : mh N a b = some (decide (a = b)) := by
  unfold mh
  by_cases h : (a.length : Int) ≠ b.length
  · rw [dn h, decide_eq_false (fun e => h (by rw [e]))]
  · rw [xw h]
    have hl' : a.length = b.length := by omega
    have hL : w9 N a b N 0 = some (if a = b then Ex.go () else Ex.rt false) := by
      refine xc (σ := Unit) (fun F k _ => w9 N a b F (k : Int)) a.length (fun k _ => ∀ j, j < k → a.getD j default = b.getD j default) _ (fun F k _ hk hi => ?_) (fun F _ hi => ?_) N 0 () (Nat.zero_le _) (by omega) (fun j hj => by omega)
      · simp only [w9]
        rw [dn (by omega), zu (j5 hk), zu (j5 (by omega))]
        by_cases he : a.getD k default = b.getD k default
        · right
          refine ⟨(), z8e hi he, Eq.trans (xw (show ¬ ¬ ((a.getD k default).to = (b.getD k default).to ∧ (a.getD k default).out = (b.getD k default).out) from fun h => h (by rw [he]; exact ⟨rfl, rfl⟩))) ?_⟩
          rw [zu (jg (by omega))]; rfl
        · left
          refine Eq.trans (dn (show ¬ ((a.getD k default).to = (b.getD k default).to ∧ (a.getD k default).out = (b.getD k default).out) from fun h => he (zia h))) ?_
          rw [if_neg (fun e => he (by rw [e]))]
      · simp only [w9]
        rw [xw (by omega), if_pos (rz hl' hi)]
    rw [qf hL]
    by_cases he : a = b
    · rw [if_pos he, decide_eq_true he]; rfl
    · rw [if_neg he, decide_eq_false he]; rfl
theorem znf {N : Nat} {a b : List (List Edge)} {f : List Edge → List Edge → Option Bool} (hf : ∀ k, k < a.length → f (a.getD k default) (b.getD k default) = some (decide (a.getD k default = b.getD k default))) (hN : a.length < N) (hl : a.length ≤ 4611686018427387904) :
    bv N a b f = some (decide (a = b)) := by
  unfold bv
  by_cases h : (a.length : Int) ≠ b.length
  · rw [dn h, decide_eq_false (fun e => h (by rw [e]))]
  · rw [xw h]
    have hl' : a.length = b.length := by omega
    have hL : kz N a b f N 0 = some (if a = b then Ex.go () else Ex.rt false) := by
      refine xc (σ := Unit) (fun F k _ => kz N a b f F (k : Int)) a.length (fun k _ => ∀ j, j < k → a.getD j default = b.getD j default) _ (fun F k _ hk hi => ?_) (fun F _ hi => ?_) N 0 () (Nat.zero_le _) (by omega) (fun j hj => by omega)
      · simp only [kz]
        rw [dn (by omega), zu (j5 hk), zu (j5 (by omega))]
        refine (show _ ∨ _ from ?_)
        have hk' := hf k hk
        by_cases he : a.getD k default = b.getD k default
        · rw [decide_eq_true he] at hk'
          right
          refine ⟨(), z8e hi he, Eq.trans (qf hk') (Eq.trans (cf rfl) ?_)⟩
          rw [zu (jg (by omega))]; rfl
        · rw [decide_eq_false he] at hk'
          left
          refine Eq.trans (qf hk') (Eq.trans (ct rfl) ?_)
          rw [if_neg (fun e => he (by rw [e]))]
      · simp only [kz]
        rw [xw (by omega), if_pos (rz hl' hi)]
    rw [qf hL]
    by_cases he : a = b
    · rw [if_pos he, decide_eq_true he]; rfl
    · rw [if_neg he, decide_eq_false he]; rfl
theorem zpz {N : Nat} {a b : Mach} (ha : Small a) (hb : Small b) (hN : 200 ≤ N) : z1c N a b = some (zji a b) := by
  unfold z1c zji
  have hr := ha.r
  rw [qf (zbc ha hN), zeq (fun _ => zbc hb hN), zeq (fun _ => znf (fun k hk => zog (by have := ha.c k hk; omega) (by have := ha.c k hk; omega)) (by omega) (by omega))]
  cases decide (z0f a = 0)
  · rfl
  · simp only [Bool.true_and, beq_true, cond_true, Option.getD_some]
    cases decide (z0f b = 0) <;> cases decide (a.inputs = b.inputs) <;> cases decide (a.outputs = b.outputs) <;> rfl
theorem zr0 {N : Nat} {a b : Mach} (ha : Small a) (hN : 200 ≤ N) : dz N a b = some (decide (a = b)) := by
  have hr := ha.r
  unfold dz
  by_cases h : (a.inputs ≠ b.inputs ∨ a.outputs ≠ b.outputs) ∨ (a.rows.length : Int) ≠ b.rows.length
  · rw [ct (by simpa only [Bool.or_eq_true, decide_eq_true_eq] using h), decide_eq_false]
    rintro rfl
    rcases h with (h | h) | h <;> exact h rfl
  · rw [cf (by simpa only [Bool.or_eq_false_iff, decide_eq_false_iff_not, not_or] using h)]
    simp only [not_or, Decidable.not_not] at h
    obtain ⟨⟨h1, h2⟩, h3⟩ := h
    have h3' : a.rows.length = b.rows.length := by omega
    have hab : (a = b) ↔ a.rows = b.rows := ⟨fun e => by rw [e], fun e => zdh.2 ⟨h1, h2, e⟩⟩
    have hL : uu N a b N 0 = some (if a.rows = b.rows then Ex.go () else Ex.rt false) := by
      refine xc (σ := Unit) (fun F k _ => uu N a b F (k : Int)) a.rows.length (fun k _ => ∀ j, j < k → a.rows.getD j default = b.rows.getD j default) _ (fun F k _ hk hi => ?_) (fun F _ hi => ?_) N 0 () (Nat.zero_le _) (by omega) (fun j hj => by omega)
      · have hc := ha.c k hk
        have hin : (bd (gd (okI a.rows (k : Int)) <| gd (okI b.rows (k : Int)) <| bif decide (((ix a.rows (k : Int)).length : Int) ≠ ((ix b.rows (k : Int)).length : Int)) then (some (Ex.rt (Ex.rt false))) else vv N a b (k : Int) N 0) fun q68 => Ex.on q68 (fun o67 => gd (in64 ((k : Int) + 1)) <| uu N a b F ((k : Int) + 1)) some) =
            if a.rows.getD k default = b.rows.getD k default then uu N a b F ((k + 1 : Nat) : Int) else some (Ex.rt false) := by
          rw [zu (j5 hk), zu (j5 (by omega))]
          by_cases h4 : ((ix a.rows (k : Int)).length : Int) ≠ ((ix b.rows (k : Int)).length : Int)
          · rw [if_neg (show ¬ a.rows.getD k default = b.rows.getD k default from fun e => h4 (congrArg (fun l : List Edge => (l.length : Int)) e))]
            exact Eq.trans (qf (x := Ex.rt (Ex.rt false)) (dn h4)) rfl
          · have h4' : (a.rows.getD k default).length = (b.rows.getD k default).length := by
              have : ((ix a.rows (k : Int)).length : Int) = ((ix b.rows (k : Int)).length : Int) := Decidable.of_not_not h4
              exact Int.ofNat.inj this
            have hL2 : vv N a b (k : Int) N 0 = some (if a.rows.getD k default = b.rows.getD k default then Ex.go () else Ex.rt (Ex.rt false)) := by
              refine xc (σ := Unit) (fun G i _ => vv N a b (k : Int) G (i : Int)) (a.rows.getD k default).length (fun i _ => ∀ j, j < i → (a.rows.getD k default).getD j default = (b.rows.getD k default).getD j default) _ (fun G i _ hi' hq => ?_) (fun G _ hq => ?_) N 0 () (Nat.zero_le _) (by omega) (fun j hj => by omega)
              · simp only [vv]
                rw [zu (j5 hk)]
                refine (show _ ∨ _ from ?_)
                have hi2 : (i : Int) < ((ix a.rows (k : Int)).length : Int) := Int.ofNat_lt.2 hi'
                rw [dn hi2, zu (j5 hk), zu (show okI (ix a.rows (k : Int)) (i : Int) from j5 hi'), zu (j5 (by omega)), zu (show okI (ix b.rows (k : Int)) (i : Int) from j5 (show i < (b.rows.getD k default).length by omega))]
                by_cases he : (a.rows.getD k default).getD i default = (b.rows.getD k default).getD i default
                · right
                  refine ⟨(), z8e hq he, Eq.trans (xw (fun h => h (show ((a.rows.getD k default).getD i default).to = ((b.rows.getD k default).getD i default).to ∧ ((a.rows.getD k default).getD i default).out = ((b.rows.getD k default).getD i default).out by rw [he]; exact ⟨rfl, rfl⟩))) ?_⟩
                  rw [zu (jg (by omega))]; rfl
                · left
                  refine Eq.trans (dn (fun h => he (zia h))) ?_
                  rw [if_neg (fun e => he (by rw [e]))]
              · simp only [vv]
                have hi2 : ¬ ((((a.rows.getD k default).length : Nat) : Int) < ((ix a.rows (k : Int)).length : Int)) := Int.lt_irrefl _
                rw [zu (j5 hk), xw hi2, if_pos (rz h4' hq)]
            refine Eq.trans (qf (Eq.trans (xw h4) hL2)) ?_
            by_cases he : a.rows.getD k default = b.rows.getD k default
            · rw [if_pos he, if_pos he, zs6, zu (jg (by omega))]; rfl
            · rw [if_neg he, if_neg he]; rfl
        simp only [uu]
        rw [dn (by omega), hin]
        by_cases he : a.rows.getD k default = b.rows.getD k default
        · right; exact ⟨(), z8e hi he, if_pos he⟩
        · left; rw [if_neg he, if_neg (fun e => he (by rw [e]))]
      · simp only [uu]
        rw [xw (by omega), if_pos (rz h3' hi)]
    rw [qf hL]
    by_cases he : a.rows = b.rows
    · rw [if_pos he, decide_eq_true (hab.2 he)]; rfl
    · rw [if_neg he, decide_eq_false (fun e => he (hab.1 e))]; rfl
/-! ### Data -/
theorem zv7 {N : Nat} {x : MDat} (hx : MDOk x) (hN : 200 ≤ N) {s : Nat} (hs : s < 6) : yl N x (s : Int) N [] 0 = some (zgz x s) := by
  have h1 := hx.st; have h2 := hx.ins; have h3 := hx.outs
  have hinp : x.inp = 1 + x.ins % 3 := rfl
  refine xc (fun F i acc => yl N x (s : Int) F acc (i : Int)) x.inp.toNat (fun i acc => acc = (List.range i).map (zb7 x s)) _ (fun F i acc hi hacc => .inr ?_) (fun F acc hacc => ?_) N 0 [] (Nat.zero_le _) (by omega) rfl
  · subst hacc
    refine ⟨_, rfl, ?_⟩
    have hm := znt (k := s) (a := x.inp) (by omega) (by omega)
    have he : (s : Int) * ((1 : Int) + x.ins % 3) + (i : Int) = ((s * x.inp.toNat + i : Nat) : Int) := by
      rw [← hinp, hm.2.2]; rfl
    have hnum := hx.num (s * x.inp.toNat + i)
    simp only [yl]
    rw [dn (by omega)]
    have hv : (gd (in64 ((s : Int) * ((1 : Int) + (x.ins % 3)))) <| gd (in64 (((s : Int) * ((1 : Int) + (x.ins % 3))) + (i : Int))) <| bif decide (((s : Int) * ((1 : Int) + (x.ins % 3))) + (i : Int) < (x.edges.length : Int)) then (gd (okI x.edges (((s : Int) * ((1 : Int) + (x.ins % 3))) + (i : Int))) <| gd (in64 (ix x.edges (((s : Int) * ((1 : Int) + (x.ins % 3))) + (i : Int)))) <| some (ix x.edges (((s : Int) * ((1 : Int) + (x.ins % 3))) + (i : Int)))) else (some (0 : Int))) = some (x.num (s * x.inp.toNat + i)) := by
      rw [zu (jg (by rw [← hinp]; omega)), he, zu (jg (by omega))]
      unfold MDat.num
      by_cases hk : s * x.inp.toNat + i < x.edges.length
      · have hed := hx.ed _ hk
        rw [dn (by omega), if_pos hk, zu (j5 hk), zu (show in64 (ix x.edges ((s * x.inp.toNat + i : Nat) : Int)) from jg (show -4611686018427387904 ≤ x.edges.getD (s * x.inp.toNat + i) default ∧ x.edges.getD (s * x.inp.toNat + i) default ≤ 4611686018427387904 by omega))]; rfl
      · rw [xw (by omega), if_neg hk]
    have hacc : ((List.range i).map (zb7 x s)).length = i := by simp
    refine Eq.trans (qf (x := (List.range (i + 1)).map (zb7 x s)) (Eq.trans (qf hv) ?_)) ?_
    · rw [zu (fun _ => ⟨hnum.1, by omega⟩), z1m]
      by_cases hp : x.part = true ∧ x.num (s * x.inp.toNat + i) % 4 = 3
      · rw [ct (by rw [hp.1, decide_eq_true hp.2]; rfl), zu ⟨by rw [hacc]; simp; omega, by rw [hacc]; simp; omega⟩, zsh rfl hp]
      · have hst : x.n = 1 + x.states % 6 := rfl
        have hot : x.out = 1 + x.outs % 3 := rfl
        have hd : 0 ≤ x.num (s * x.inp.toNat + i) / 4 := by omega
        have hd2 : 0 ≤ x.num (s * x.inp.toNat + i) / 4 / x.n := Int.ediv_nonneg hd (by omega)
        rw [cf (by rw [Bool.and_eq_false_iff]
                   by_cases h : x.part = true
                   · exact .inr (decide_eq_false fun h' => hp ⟨h, h'⟩)
                   · exact .inl (by simpa using h)), ← hst, ← hot, zu ⟨by omega, by omega, by omega⟩, zu ⟨hd, by omega⟩, zu ⟨by omega, by omega, by omega⟩, zu ⟨hd, by omega, by omega⟩, zu ⟨hd2, by omega⟩, zu ⟨by rw [hacc]; simp; omega, by rw [hacc]; simp; omega⟩, zs7 rfl (fun h h' => hp ⟨h, h'⟩)]
    · rw [zu (jg (by omega))]; rfl
  · subst hacc
    simp only [yl]
    rw [xw (by omega)]; rfl
theorem zki {N : Nat} {x : MDat} (hx : MDOk x) (hN : 200 ≤ N) : dx N x = some (mOf x) := by
  have h1 := hx.st; have h2 := hx.ins; have h3 := hx.outs
  have hst : x.n = 1 + x.states % 6 := rfl
  unfold dx
  rw [zu ⟨by omega, by omega⟩, zu (jg (by omega)), zu (jg (by omega)), zu ⟨by omega, by omega⟩, zu (jg (by omega)), zu (jg (by omega)), zu ⟨by omega, by omega⟩, zu (jg (by omega)), zu (jg (by omega))]
  refine Eq.trans (qf (x := (List.range x.n.toNat).map (zgz x)) ?_) rfl
  refine xc (fun F s acc => xe N x F (s : Int) acc) x.n.toNat (fun s acc => acc = (List.range s).map (zgz x)) _ (fun F s acc hs hacc => .inr ?_) (fun F acc hacc => ?_) N 0 [] (Nat.zero_le _) (by omega) rfl
  · subst hacc
    refine ⟨_, rfl, ?_⟩
    simp only [xe]
    rw [dn (by omega), qf (zv7 hx hN (by omega)), zu ⟨by simp; omega, by simp; omega⟩, zu (jg (by omega)), z1m]; rfl
  · subst hacc
    simp only [xe]
    rw [xw (by omega)]
theorem zuz {N : Nat} {x : WDat} (hx : WDOk x) {n : Int} (hn : 1 ≤ n) (hN : 200 ≤ N) : ic N x n = some (wOf x n) := by
  unfold ic
  refine Eq.trans (qf (x := wOf x n) ?_) rfl
  refine xc (fun F k acc => xg N x n F acc (k : Int)) (min x.syms.length 12) (fun k acc => acc = (x.syms.take k).map (· % n)) _ (fun F k acc hk hacc => .inr ?_) (fun F acc hacc => ?_) N 0 [] (Nat.zero_le _) (by omega) (by simp)
  · subst hacc
    have hk' : k < x.syms.length := by omega
    have hsy := hx.sy k hk'
    refine ⟨_, rfl, ?_⟩
    simp only [xg]
    rw [ct (by simp; omega), zu (j5 hk'), zu (show in64 (ix x.syms (k : Int)) from jg (show -4611686018427387904 ≤ x.syms.getD k default ∧ x.syms.getD k default ≤ 4611686018427387904 by omega)), zu (show okR (ix x.syms (k : Int)) n from ⟨hsy.1, by omega⟩), zu ⟨by simp; omega, by simp; omega⟩, zu (jg (by omega)), zqu hk']; rfl
  · subst hacc
    simp only [xg]
    rw [cf (by simp; omega), zsq (by omega) (by omega) (by omega)]
end GV
end Go.Proofs.Ytkcccdcloealfaa
