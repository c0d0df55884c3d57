/- Chapter 06: what the plain programs of layer 4 compute (taken over from chapter 04). -/
import Derived.Test.YtncblcdhmcmkmaaPlain04
import Derived.Test.YtncblcdhmcmkmaaShPl
namespace Go.Proofs.Ytncblcdhmcmkmaa
namespace GV
set_option linter.unusedVariables false
set_option maxRecDepth 100000

theorem indexE {N : Nat} {s : List Edge} {f : Edge → Option Bool} {p : Edge → Bool} (hf : ∀ k, k < s.length → f (s.getD k default) = some (p (s.getD k default))) (hN : s.length < N) (hl : s.length ≤ 4611686018427387904) :
    slices_IndexFunc_api_Edge N s f = some (idxF p s) := by
  have h : slices_IndexFunc_api_Edge_L1 N s f N 0 = some (if s.any p = true then Ex.rt (idxF p s) else Ex.go ()) := by
    refine loop_eq (σ := Unit) (fun F k _ => slices_IndexFunc_api_Edge_L1 N s f F (k : Int)) s.length (fun k _ => (s.take k).any p = false) _ (fun F k _ hk hi => ?_) (fun F _ hi => ?_) N 0 () (Nat.zero_le _) (by omega) (by simp)
    · simp only [slices_IndexFunc_api_Edge_L1]
      rw [cd_t (by omega), gd_pos (okI_nat hk), ix_nat, bd_pos (hf k hk)]
      cases hp : p (s.getD k default)
      · right
        refine ⟨(), by rw [take_any p s k hk, hi, hp]; rfl, ?_⟩
        rw [cf rfl, gd_pos (in64_of (by omega))]; rfl
      · left
        rw [ct rfl, if_pos (List.any_eq_true.2 ⟨_, getD_mem hk, hp⟩), idxF_found p s k hk hi hp]
    · simp only [slices_IndexFunc_api_Edge_L1]
      rw [cd_f (by omega), if_neg (by rw [List.take_length] at hi; rw [hi]; decide)]
  unfold slices_IndexFunc_api_Edge
  rw [bd_pos h]
  by_cases ha : s.any p = true
  · rw [if_pos ha]; rfl
  · rw [if_neg ha, idxF_none p s (by simpa using ha)]; rfl
theorem containsE {N : Nat} {s : List Edge} {f : Edge → Option Bool} {p : Edge → Bool} (hf : ∀ k, k < s.length → f (s.getD k default) = some (p (s.getD k default))) (hN : s.length < N) (hl : s.length ≤ 4611686018427387904) :
    slices_ContainsFunc_api_Edge N s f = some (s.any p) := by
  unfold slices_ContainsFunc_api_Edge
  rw [bd_pos (indexE hf hN hl), idxF_ge]
theorem check_eq {N : Nat} {m : Mach} (hs : Small m) (hN : 200 ≤ N) : machines_Check N m = some (checkM m) := by
  unfold machines_Check
  by_cases h : (16 < m.inputs ∨ 16 < m.outputs) ∨ 64 < m.rows.length
  · rw [ct (by simp; omega), checkM_3 h]
  · rw [cf (by simp; omega)]
    by_cases h1 : (m.inputs < 1 ∨ m.outputs < 1) ∨ m.rows.length < 1
    · rw [ct (by simp; omega), checkM_1 h h1]
    · rw [cf (by simp; omega)]
      have hl := hs.r
      have hL : machines_Check_L1 N m N 0 = some (if m.rows.any (rowBad m) = true then Ex.rt 1 else Ex.go ()) := by
        refine loop_eq (σ := Unit) (fun F k _ => machines_Check_L1 N m F (k : Int)) m.rows.length (fun k _ => (m.rows.take k).any (rowBad m) = false) _ (fun F k _ hk hi => ?_) (fun F _ hi => ?_) N 0 () (Nat.zero_le _) (by omega) (by simp)
        · simp only [machines_Check_L1]
          have hc := hs.c k hk
          rw [cd_t (by omega), gd_pos (okI_nat hk), ix_nat, bd_gop (fun _ => containsE (p := fun x => !fitsB m x) (fun j hj => rfl) (by omega) (by omega))]
          have hb : (decide (((m.rows.getD k default).length : Int) ≠ m.inputs) || ((bif (true && (decide (((m.rows.getD k default).length : Int) ≠ m.inputs) == false)) then some ((m.rows.getD k default).any fun x => !fitsB m x) else none).getD default)) = rowBad m (m.rows.getD k default) := by
            unfold rowBad
            cases decide (((m.rows.getD k default).length : Int) ≠ m.inputs) <;> rfl
          rw [hb]
          cases hr : rowBad m (m.rows.getD k default)
          · right
            refine ⟨(), by rw [take_any _ _ k hk, hi, hr]; rfl, ?_⟩
            rw [cf rfl, gd_pos (in64_of (by omega))]; rfl
          · left
            rw [ct rfl, if_pos (List.any_eq_true.2 ⟨_, getD_mem hk, hr⟩)]
        · simp only [machines_Check_L1]
          rw [cd_f (by omega), if_neg (by rw [List.take_length] at hi; rw [hi]; decide)]
      rw [bd_pos hL]
      by_cases ha : m.rows.any (rowBad m) = true
      · rw [if_pos ha]; unfold checkM; rw [if_neg h, if_neg h1, if_pos ha]; rfl
      · rw [if_neg ha, checkM_0 h h1 (by simpa using ha)]; rfl
theorem defined_eq {N : Nat} {m : Mach} (hm : MOk m) (hN : 200 ≤ N) : gauntletref04_Defined N m = some (defd m : Int) := by
  have hr := hm.r2; have hi1 := hm.i1; have hi2 := hm.i2
  unfold gauntletref04_Defined
  refine Eq.trans (bd_pos (x := (defd m : Int)) ?_) rfl
  refine loop_eq (fun F k (s : Int) => gauntletref04_Defined_L1 N m F s (k : Int)) m.rows.length (fun k s => s = (cntR m k : Int)) _ (fun F k s hk hi => .inr ?_) (fun F s hi => ?_) N 0 0 (Nat.zero_le _) (by omega) (by simp [cntR])
  · subst hi
    have hlen : ((m.rows.getD k default).length : Int) = m.inputs := hm.row k hk
    have hle := cntR_le m hm k (by omega)
    have hL : gauntletref04_Defined_L2 N m (k : Int) N (cntR m k : Int) 0 = some (cntR m (k + 1) : Int) := by
      rw [cntR_succ m k hk]
      refine loop_eq (fun F i (s : Int) => gauntletref04_Defined_L2 N m (k : Int) F s (i : Int)) m.inputs.toNat (fun i s => s = ((cntR m k + cntE (m.rows.getD k default) i : Nat) : Int)) _ (fun F i s hi hs => .inr ?_) (fun F s hs => ?_) N 0 _ (Nat.zero_le _) (by omega) (by simp [cntE_zero])
      · subst hs
        have hi' : i < (m.rows.getD k default).length := by omega
        refine ⟨_, rfl, ?_⟩
        simp only [gauntletref04_Defined_L2]
        have hc := cntE_le (m.rows.getD k default) i
        rw [cd_t (by omega), gd_pos (okI_nat hk), gd_pos (show okI (ix m.rows (k : Int)) (i : Int) from okI_nat hi'), cntE_succ _ _ hi']
        by_cases h0 : 0 ≤ ((m.rows.getD k default).getD i default).to
        · rw [if_pos h0]
          refine Eq.trans (bd_pos (x := ((cntR m k + (cntE (m.rows.getD k default) i + 1) : Nat) : Int)) ?_) ?_
          · refine Eq.trans (cd_t h0) ?_
            rw [gd_pos (in64_of (by omega))]; rfl
          · rw [gd_pos (in64_of (by omega))]; rfl
        · rw [if_neg h0]
          refine Eq.trans (bd_pos (x := ((cntR m k + (cntE (m.rows.getD k default) i + 0) : Nat) : Int)) ?_) ?_
          · exact cd_f h0
          · rw [gd_pos (in64_of (by omega))]; rfl
      · subst hs
        simp only [gauntletref04_Defined_L2]
        rw [cd_f (by omega), show m.inputs.toNat = (m.rows.getD k default).length by omega]
    refine ⟨_, rfl, ?_⟩
    simp only [gauntletref04_Defined_L1]
    rw [cd_t (by omega), bd_pos hL, gd_pos (in64_of (by omega))]; rfl
  · subst hi
    simp only [gauntletref04_Defined_L1]
    rw [cd_f (by omega)]; rfl
theorem rcomplete_eq {N : Nat} {m : Mach} (hm : MOk m) (hN : 200 ≤ N) : gauntletref04_Complete N m = some (complB m) := by
  unfold gauntletref04_Complete
  have := hm.mul
  rw [bd_pos (defined_eq hm hN), gd_pos (in64_of (by rw [this.2]; omega))]; rfl
/-! ### Words -/
theorem indexI {N : Nat} {s : List Int} {f : Int → Option Bool} {p : Int → Bool} (hf : ∀ k, k < s.length → f (s.getD k default) = some (p (s.getD k default))) (hN : s.length < N) (hl : s.length ≤ 4611686018427387904) :
    slices_IndexFunc_int N s f = some (idxF p s) := by
  have h : slices_IndexFunc_int_L1 N s f N 0 = some (if s.any p = true then Ex.rt (idxF p s) else Ex.go ()) := by
    refine loop_eq (σ := Unit) (fun F k _ => slices_IndexFunc_int_L1 N s f F (k : Int)) s.length (fun k _ => (s.take k).any p = false) _ (fun F k _ hk hi => ?_) (fun F _ hi => ?_) N 0 () (Nat.zero_le _) (by omega) (by simp)
    · simp only [slices_IndexFunc_int_L1]
      rw [cd_t (by omega), gd_pos (okI_nat hk), ix_nat, bd_pos (hf k hk)]
      cases hp : p (s.getD k default)
      · right
        refine ⟨(), by rw [take_any p s k hk, hi, hp]; rfl, ?_⟩
        rw [cf rfl, gd_pos (in64_of (by omega))]; rfl
      · left
        rw [ct rfl, if_pos (List.any_eq_true.2 ⟨_, getD_mem hk, hp⟩), idxF_found p s k hk hi hp]
    · simp only [slices_IndexFunc_int_L1]
      rw [cd_f (by omega), if_neg (by rw [List.take_length] at hi; rw [hi]; decide)]
  unfold slices_IndexFunc_int
  rw [bd_pos h]
  by_cases ha : s.any p = true
  · rw [if_pos ha]; rfl
  · rw [if_neg ha, idxF_none p s (by simpa using ha)]; rfl
theorem containsI {N : Nat} {s : List Int} {f : Int → Option Bool} {p : Int → Bool} (hf : ∀ k, k < s.length → f (s.getD k default) = some (p (s.getD k default))) (hN : s.length < N) (hl : s.length ≤ 4611686018427387904) :
    slices_ContainsFunc_int N s f = some (s.any p) := by
  unfold slices_ContainsFunc_int
  rw [bd_pos (indexI hf hN hl), idxF_ge]
theorem compare_eq {N : Nat} {a b : List Int} (hN : a.length < N) (hl : a.length ≤ 4611686018427387904) : gauntletref01_Compare N a b = some (cmpL a b) := by
  unfold gauntletref01_Compare cmpL
  by_cases h1 : a.length < b.length
  · rw [cd_t (by omega), if_pos h1]
  · rw [cd_f (by omega), if_neg h1]
    by_cases h2 : b.length < a.length
    · rw [cd_t (by omega), if_pos h2]
    · rw [cd_f (by omega), if_neg h2]
      have he : a.length = b.length := by omega
      have hL : gauntletref01_Compare_L1 N a b N 0 = some (if lexC a b = 0 then Ex.go () else Ex.rt (lexC a b)) := by
        refine loop_eq (σ := Unit) (fun F k _ => gauntletref01_Compare_L1 N a b F (k : Int)) a.length (fun k _ => lexC (a.drop k) (b.drop k) = lexC a b) _ (fun F k _ hk hi => ?_) (fun F _ hi => ?_) N 0 () (Nat.zero_le _) (by omega) rfl
        · simp only [gauntletref01_Compare_L1]
          rw [cd_t (by omega), gd_pos (okI_nat hk), gd_pos (okI_nat (by omega))]
          have hs := lexC_step hk (show k < b.length by omega)
          rw [hi] at hs
          by_cases h3 : a.getD k default < b.getD k default
          · left
            refine Eq.trans (cd_t h3) ?_
            rw [if_pos h3] at hs; rw [hs]; rfl
          · refine (show _ ∨ _ from ?_)
            rw [if_neg h3] at hs
            by_cases h4 : b.getD k default < a.getD k default
            · left
              refine Eq.trans (cd_f h3) ?_
              rw [gd_pos (okI_nat hk), gd_pos (okI_nat (by omega))]
              refine Eq.trans (cd_t h4) ?_
              rw [if_pos h4] at hs; rw [hs]; rfl
            · right
              rw [if_neg h4] at hs
              refine ⟨(), hs.symm, Eq.trans (cd_f h3) ?_⟩
              rw [gd_pos (okI_nat hk), gd_pos (okI_nat (by omega))]
              refine Eq.trans (cd_f h4) ?_
              rw [gd_pos (in64_of (by omega))]; rfl
        · simp only [gauntletref01_Compare_L1]
          rw [cd_f (by omega)]
          have : lexC a b = 0 := by rw [← hi, List.drop_of_length_le (Nat.le_refl _)]; rfl
          rw [if_pos this]
      rw [bd_pos hL]
      by_cases h5 : lexC a b = 0
      · rw [if_pos h5, h5]; rfl
      · rw [if_neg h5]; rfl
theorem isame_eq {N : Nat} {a b : List Int} (hN : a.length < N) (hl : a.length ≤ 4611686018427387904) : gauntletref01_Same N a b = some (decide (a = b)) := by
  unfold gauntletref01_Same
  rw [bd_pos (compare_eq hN hl)]
  by_cases h : a = b
  · rw [decide_eq_true h, decide_eq_true ((cmpL_eq a b).2 h)]
  · rw [decide_eq_false h, decide_eq_false (fun e => h ((cmpL_eq a b).1 e))]
theorem next_eq {N : Nat} {m : Mach} (hm : MOk m) {s i : Int} (hs : SOk m s) (hi : 0 ≤ i ∧ i < m.inputs) : gauntletref04_Next N m s i = some (nextE m s i) := by
  unfold gauntletref04_Next nextE
  rcases hs with h | h
  · rw [h]; rfl
  · have hrow := hm.row s.toNat (by omega)
    rw [cd_f (by omega), if_neg (by omega), gd_pos h, gd_pos (show okI (ix m.rows s) i from ⟨hi.1, by rw [ix_int, hrow]; exact hi.2⟩)]; rfl
theorem rrun_eq {N : Nat} {m : Mach} (hm : MOk m) {s : Int} {w : List Int} (hs : SOk m s) (hw : WOk m.inputs w) (hN : w.length < N) (hl : w.length ≤ 1000000) : gauntletref04_Run N m s w = some (runL m s w) := by
  unfold gauntletref04_Run
  refine Eq.trans (bd_pos (x := runL m s w) ?_) rfl
  refine loop_eq (σ := Int × List Int) (fun F k x => gauntletref04_Run_L1 N m w F x.1 x.2 (k : Int)) w.length (fun k x => x.1 = aftL m s (w.take k) ∧ x.2 = runL m s (w.take k)) _ (fun F k x hk hi => .inr ?_) (fun F x hi => ?_) N 0 (s, []) (Nat.zero_le _) (by omega) (by simp [aftL, runL])
  · obtain ⟨t, X⟩ := x
    obtain ⟨rfl, rfl⟩ := hi
    have hst := aftL_ok m hm s (w.take k) hs (wok_take hw k)
    refine ⟨(aftL m s (w.take (k + 1)), runL m s (w.take (k + 1))), ⟨rfl, rfl⟩, ?_⟩
    simp only [gauntletref04_Run_L1]
    have hlr := runL_length m s (w.take k)
    rw [List.length_take] at hlr
    rw [cd_t (by omega), gd_pos (okI_nat hk)]
    refine Eq.trans (bd_pos (next_eq hm hst (show 0 ≤ w.getD k default ∧ w.getD k default < m.inputs from hw k hk))) ?_
    rw [gd_pos ⟨by simp; omega, by simp; omega⟩, gd_pos (in64_of (by omega)), aftL_take m s w k hk, runL_take m s w k hk]; rfl
  · obtain ⟨t, X⟩ := x
    obtain ⟨rfl, rfl⟩ := hi
    simp only [gauntletref04_Run_L1]
    rw [cd_f (by omega), List.take_length]
theorem raft_eq {N : Nat} {m : Mach} (hm : MOk m) : ∀ (F : Nat) (s : Int) (w : List Int), SOk m s → WOk m.inputs w → w.length < F → gauntletref04_After N F m s w = some (aftL m s w)
  | 0, s, w, _, _, h => by omega
  | F + 1, s, [], hs, _, _ => rfl
  | F + 1, s, i :: w, hs, hw, h => by
    have hi : 0 ≤ i ∧ i < m.inputs := by simpa using hw 0 (by simp)
    simp only [gauntletref04_After]
    rw [cd_f (by simp; omega), gd_pos (show okI (i :: w) 0 from okI_nat (k := 0) (by simp))]
    refine Eq.trans (bd_pos (next_eq hm hs (show 0 ≤ i ∧ i < m.inputs from hi))) ?_
    rw [gd_pos ⟨by omega, by simp; omega, by simp⟩]
    have hc : cut (i :: w) 1 (((i :: w).length : Nat) : Int) = w := by simp [cut]
    rw [hc]
    refine Eq.trans (bd_pos (raft_eq (N := N) hm F _ w (nextE_ok m hm s i hs hi).1 (fun k hk => by simpa using hw (k + 1) (by simpa using hk)) (by simpa using h))) ?_
    rfl
theorem rcheck_eq {N : Nat} {m : Mach} (hs : Small m) (hN : 200 ≤ N) : gauntletref04_Check N m = some (checkM m) := by
  have hl := hs.r
  unfold gauntletref04_Check
  by_cases h : (16 < m.inputs ∨ 16 < m.outputs) ∨ 64 < m.rows.length
  · rw [ct (by simp; omega), checkM_3 h]
  · rw [cf (by simp; omega)]
    by_cases h1 : (m.inputs < 1 ∨ m.outputs < 1) ∨ m.rows.length < 1
    · rw [ct (by simp only [Bool.or_eq_true, decide_eq_true_eq]; omega), checkM_1 h h1]
    · rw [cf (by have : (m.rows.length : Int) ≠ 0 := by omega
                 simp only [Bool.or_eq_false_iff, decide_eq_false_iff_not]; omega)]
      have hL : gauntletref04_Check_L1 N m N 0 = some (if m.rows.any (rowBad m) = true then Ex.rt 1 else Ex.go ()) := by
        refine loop_eq (σ := Unit) (fun F k _ => gauntletref04_Check_L1 N m F (k : Int)) m.rows.length (fun k _ => (m.rows.take k).any (rowBad m) = false) _ (fun F k _ hk hi => ?_) (fun F _ hi => ?_) N 0 () (Nat.zero_le _) (by omega) (by simp)
        · have hc := hs.c k hk
          have hin : (bd (gd (okI m.rows (k : Int)) <| bif decide (((ix m.rows (k : Int)).length : Int) ≠ m.inputs) then (some (Ex.rt (Ex.rt 1))) else gauntletref04_Check_L2 N m (k : Int) N 0) fun q81 => Ex.on q81 (fun o80 => gd (in64 ((k : Int) + 1)) <| gauntletref04_Check_L1 N m F ((k : Int) + 1)) some) =
              if rowBad m (m.rows.getD k default) = true then some (Ex.rt 1) else gauntletref04_Check_L1 N m F ((k + 1 : Nat) : Int) := by
            rw [gd_pos (okI_nat hk)]
            by_cases h2 : ((m.rows.getD k default).length : Int) ≠ m.inputs
            · have hb : rowBad m (m.rows.getD k default) = true := by unfold rowBad; rw [decide_eq_true h2]; rfl
              rw [if_pos hb]
              refine Eq.trans (bd_pos (x := Ex.rt (Ex.rt 1)) (cd_t h2)) rfl
            · have h2' : ((ix m.rows (k : Int)).length : Int) = m.inputs := Decidable.of_not_not h2
              have hL2 : gauntletref04_Check_L2 N m (k : Int) N 0 = some (if rowBad m (m.rows.getD k default) = true then Ex.rt (Ex.rt 1) else Ex.go ()) := by
                refine loop_eq (σ := Unit) (fun G i _ => gauntletref04_Check_L2 N m (k : Int) G (i : Int)) m.inputs.toNat (fun i _ => (((m.rows.getD k default).take i).any fun x => !fitsB m x) = false) _ (fun G i _ hi' hq => ?_) (fun G _ hq => ?_) N 0 () (Nat.zero_le _) (by have : ((m.rows.getD k default).length : Int) = m.inputs := h2'; omega) (by simp)
                · have hil : i < (m.rows.getD k default).length := by have : ((m.rows.getD k default).length : Int) = m.inputs := h2'; omega
                  simp only [gauntletref04_Check_L2]
                  rw [cd_t (by omega), gd_pos (okI_nat hk), gd_pos (show okI (ix m.rows (k : Int)) (i : Int) from okI_nat hil)]
                  have hx : ix (ix m.rows (k : Int)) (i : Int) = (m.rows.getD k default).getD i default := rfl
                  rw [hx]
                  generalize hxe : (m.rows.getD k default).getD i default = x at *
                  by_cases h3 : x.to = -1 ∧ x.out = -1
                  · right
                    have hf := fits_t (m := m) (x := x) (.inl h3)
                    refine ⟨(), by rw [take_any _ _ i hil, hq, hxe, hf]; rfl, ?_⟩
                    rw [ct (by rw [decide_eq_true h3.1, decide_eq_true h3.2]; rfl), bd_s, on_g, gd_pos (in64_of (by omega))]; rfl
                  · rw [cf (by rw [← Bool.decide_and]; exact decide_eq_false h3)]
                    by_cases h4 : 0 ≤ x.to ∧ x.to < m.rows.length ∧ 0 ≤ x.out ∧ x.out < m.outputs
                    · right
                      have hf := fits_t (m := m) (x := x) (.inr h4)
                      refine ⟨(), by rw [take_any _ _ i hil, hq, hxe, hf]; rfl, ?_⟩
                      rw [cf (by simp; omega), bd_s, on_g, gd_pos (in64_of (by omega))]; rfl
                    · left
                      have hf := fits_f (m := m) (x := x) (fun h => h.elim h3 h4)
                      rw [ct (by simp; omega), bd_s, on_r, if_pos]
                      unfold rowBad
                      rw [Bool.or_eq_true]
                      exact .inr (List.any_eq_true.2 ⟨_, getD_mem hil, by rw [hxe]; exact hf⟩)
                · simp only [gauntletref04_Check_L2]
                  rw [cd_f (by omega), if_neg]
                  have hle : (m.rows.getD k default).length = m.inputs.toNat := by have : ((m.rows.getD k default).length : Int) = m.inputs := h2'; omega
                  rw [← hle, List.take_length] at hq
                  unfold rowBad
                  rw [hq, decide_eq_false h2]; decide
              refine Eq.trans (bd_pos (Eq.trans (cd_f (fun h => h h2')) hL2)) ?_
              by_cases hb : rowBad m (m.rows.getD k default) = true
              · rw [if_pos hb, if_pos hb]; rfl
              · rw [if_neg hb, if_neg hb, on_g, gd_pos (in64_of (by omega))]; rfl
          simp only [gauntletref04_Check_L1]
          rw [cd_t (by omega), hin]
          cases hr : rowBad m (m.rows.getD k default)
          · right
            exact ⟨(), by rw [take_any _ _ k hk, hi, hr]; rfl, if_neg (by decide)⟩
          · left
            rw [if_pos rfl, if_pos (List.any_eq_true.2 ⟨_, getD_mem hk, hr⟩)]
        · simp only [gauntletref04_Check_L1]
          rw [cd_f (by omega), if_neg (by rw [List.take_length] at hi; rw [hi]; decide)]
      rw [bd_pos hL]
      by_cases ha : m.rows.any (rowBad m) = true
      · rw [if_pos ha]; unfold checkM; rw [if_neg h, if_neg h1, if_pos ha]; rfl
      · rw [if_neg ha, checkM_0 h h1 (by simpa using ha)]; rfl
theorem equalE_eq {N : Nat} {a b : List Edge} (hN : a.length < N) (hl : a.length ≤ 4611686018427387904) : slices_Equal_api_Edge N a b = some (decide (a = b)) := by
  unfold slices_Equal_api_Edge
  by_cases h : (a.length : Int) ≠ b.length
  · rw [cd_t h, decide_eq_false (fun e => h (by rw [e]))]
  · rw [cd_f h]
    have hl' : a.length = b.length := by omega
    have hL : slices_Equal_api_Edge_L1 N a b N 0 = some (if a = b then Ex.go () else Ex.rt false) := by
      refine loop_eq (σ := Unit) (fun F k _ => slices_Equal_api_Edge_L1 N a b F (k : Int)) a.length (fun k _ => ∀ j, j < k → a.getD j default = b.getD j default) _ (fun F k _ hk hi => ?_) (fun F _ hi => ?_) N 0 () (Nat.zero_le _) (by omega) (fun j hj => by omega)
      · simp only [slices_Equal_api_Edge_L1]
        rw [cd_t (by omega), gd_pos (okI_nat hk), gd_pos (okI_nat (by omega))]
        by_cases he : a.getD k default = b.getD k default
        · right
          refine ⟨(), all_upto hi he, Eq.trans (cd_f (show ¬ ¬ ((a.getD k default).to = (b.getD k default).to ∧ (a.getD k default).out = (b.getD k default).out) from fun h => h (by rw [he]; exact ⟨rfl, rfl⟩))) ?_⟩
          rw [gd_pos (in64_of (by omega))]; rfl
        · left
          refine Eq.trans (cd_t (show ¬ ((a.getD k default).to = (b.getD k default).to ∧ (a.getD k default).out = (b.getD k default).out) from fun h => he (edge_ext h))) ?_
          rw [if_neg (fun e => he (by rw [e]))]
      · simp only [slices_Equal_api_Edge_L1]
        rw [cd_f (by omega), if_pos (ext_getD hl' hi)]
    rw [bd_pos hL]
    by_cases he : a = b
    · rw [if_pos he, decide_eq_true he]; rfl
    · rw [if_neg he, decide_eq_false he]; rfl
theorem equalF_eq {N : Nat} {a b : List (List Edge)} {f : List Edge → List Edge → Option Bool} (hf : ∀ k, k < a.length → f (a.getD k default) (b.getD k default) = some (decide (a.getD k default = b.getD k default))) (hN : a.length < N) (hl : a.length ≤ 4611686018427387904) :
    slices_EqualFunc__api_Edge N a b f = some (decide (a = b)) := by
  unfold slices_EqualFunc__api_Edge
  by_cases h : (a.length : Int) ≠ b.length
  · rw [cd_t h, decide_eq_false (fun e => h (by rw [e]))]
  · rw [cd_f h]
    have hl' : a.length = b.length := by omega
    have hL : slices_EqualFunc__api_Edge_L1 N a b f N 0 = some (if a = b then Ex.go () else Ex.rt false) := by
      refine loop_eq (σ := Unit) (fun F k _ => slices_EqualFunc__api_Edge_L1 N a b f F (k : Int)) a.length (fun k _ => ∀ j, j < k → a.getD j default = b.getD j default) _ (fun F k _ hk hi => ?_) (fun F _ hi => ?_) N 0 () (Nat.zero_le _) (by omega) (fun j hj => by omega)
      · simp only [slices_EqualFunc__api_Edge_L1]
        rw [cd_t (by omega), gd_pos (okI_nat hk), gd_pos (okI_nat (by omega))]
        refine (show _ ∨ _ from ?_)
        have hk' := hf k hk
        by_cases he : a.getD k default = b.getD k default
        · rw [decide_eq_true he] at hk'
          right
          refine ⟨(), all_upto hi he, Eq.trans (bd_pos hk') (Eq.trans (cf rfl) ?_)⟩
          rw [gd_pos (in64_of (by omega))]; rfl
        · rw [decide_eq_false he] at hk'
          left
          refine Eq.trans (bd_pos hk') (Eq.trans (ct rfl) ?_)
          rw [if_neg (fun e => he (by rw [e]))]
      · simp only [slices_EqualFunc__api_Edge_L1]
        rw [cd_f (by omega), if_pos (ext_getD hl' hi)]
    rw [bd_pos hL]
    by_cases he : a = b
    · rw [if_pos he, decide_eq_true he]; rfl
    · rw [if_neg he, decide_eq_false he]; rfl
theorem msame_eq {N : Nat} {a b : Mach} (ha : Small a) (hb : Small b) (hN : 200 ≤ N) : machines_Same N a b = some (sameR a b) := by
  unfold machines_Same sameR
  have hr := ha.r
  rw [bd_pos (check_eq ha hN), bd_gop (fun _ => check_eq hb hN), bd_gop (fun _ => equalF_eq (fun k hk => equalE_eq (by have := ha.c k hk; omega) (by have := ha.c k hk; omega)) (by omega) (by omega))]
  cases decide (checkM a = 0)
  · rfl
  · simp only [Bool.true_and, beq_true, cond_true, Option.getD_some]
    cases decide (checkM b = 0) <;> cases decide (a.inputs = b.inputs) <;> cases decide (a.outputs = b.outputs) <;> rfl
theorem rsame_eq {N : Nat} {a b : Mach} (ha : Small a) (hN : 200 ≤ N) : gauntletref04_Same N a b = some (decide (a = b)) := by
  have hr := ha.r
  unfold gauntletref04_Same
  by_cases h : (a.inputs ≠ b.inputs ∨ a.outputs ≠ b.outputs) ∨ (a.rows.length : Int) ≠ b.rows.length
  · rw [ct (by simpa only [Bool.or_eq_true, decide_eq_true_eq] using h), decide_eq_false]
    rintro rfl
    rcases h with (h | h) | h <;> exact h rfl
  · rw [cf (by simpa only [Bool.or_eq_false_iff, decide_eq_false_iff_not, not_or] using h)]
    simp only [not_or, Decidable.not_not] at h
    obtain ⟨⟨h1, h2⟩, h3⟩ := h
    have h3' : a.rows.length = b.rows.length := by omega
    have hab : (a = b) ↔ a.rows = b.rows := ⟨fun e => by rw [e], fun e => mach_eq.2 ⟨h1, h2, e⟩⟩
    have hL : gauntletref04_Same_L1 N a b N 0 = some (if a.rows = b.rows then Ex.go () else Ex.rt false) := by
      refine loop_eq (σ := Unit) (fun F k _ => gauntletref04_Same_L1 N a b F (k : Int)) a.rows.length (fun k _ => ∀ j, j < k → a.rows.getD j default = b.rows.getD j default) _ (fun F k _ hk hi => ?_) (fun F _ hi => ?_) N 0 () (Nat.zero_le _) (by omega) (fun j hj => by omega)
      · have hc := ha.c k hk
        have hin : (bd (gd (okI a.rows (k : Int)) <| gd (okI b.rows (k : Int)) <| bif decide (((ix a.rows (k : Int)).length : Int) ≠ ((ix b.rows (k : Int)).length : Int)) then (some (Ex.rt (Ex.rt false))) else gauntletref04_Same_L2 N a b (k : Int) N 0) fun q68 => Ex.on q68 (fun o67 => gd (in64 ((k : Int) + 1)) <| gauntletref04_Same_L1 N a b F ((k : Int) + 1)) some) =
            if a.rows.getD k default = b.rows.getD k default then gauntletref04_Same_L1 N a b F ((k + 1 : Nat) : Int) else some (Ex.rt false) := by
          rw [gd_pos (okI_nat hk), gd_pos (okI_nat (by omega))]
          by_cases h4 : ((ix a.rows (k : Int)).length : Int) ≠ ((ix b.rows (k : Int)).length : Int)
          · rw [if_neg (show ¬ a.rows.getD k default = b.rows.getD k default from fun e => h4 (congrArg (fun l : List Edge => (l.length : Int)) e))]
            exact Eq.trans (bd_pos (x := Ex.rt (Ex.rt false)) (cd_t h4)) rfl
          · have h4' : (a.rows.getD k default).length = (b.rows.getD k default).length := by
              have : ((ix a.rows (k : Int)).length : Int) = ((ix b.rows (k : Int)).length : Int) := Decidable.of_not_not h4
              exact Int.ofNat.inj this
            have hL2 : gauntletref04_Same_L2 N a b (k : Int) N 0 = some (if a.rows.getD k default = b.rows.getD k default then Ex.go () else Ex.rt (Ex.rt false)) := by
              refine loop_eq (σ := Unit) (fun G i _ => gauntletref04_Same_L2 N a b (k : Int) G (i : Int)) (a.rows.getD k default).length (fun i _ => ∀ j, j < i → (a.rows.getD k default).getD j default = (b.rows.getD k default).getD j default) _ (fun G i _ hi' hq => ?_) (fun G _ hq => ?_) N 0 () (Nat.zero_le _) (by omega) (fun j hj => by omega)
              · simp only [gauntletref04_Same_L2]
                rw [gd_pos (okI_nat hk)]
                refine (show _ ∨ _ from ?_)
                have hi2 : (i : Int) < ((ix a.rows (k : Int)).length : Int) := Int.ofNat_lt.2 hi'
                rw [cd_t hi2, gd_pos (okI_nat hk), gd_pos (show okI (ix a.rows (k : Int)) (i : Int) from okI_nat hi'), gd_pos (okI_nat (by omega)), gd_pos (show okI (ix b.rows (k : Int)) (i : Int) from okI_nat (show i < (b.rows.getD k default).length by omega))]
                by_cases he : (a.rows.getD k default).getD i default = (b.rows.getD k default).getD i default
                · right
                  refine ⟨(), all_upto hq he, Eq.trans (cd_f (fun h => h (show ((a.rows.getD k default).getD i default).to = ((b.rows.getD k default).getD i default).to ∧ ((a.rows.getD k default).getD i default).out = ((b.rows.getD k default).getD i default).out by rw [he]; exact ⟨rfl, rfl⟩))) ?_⟩
                  rw [gd_pos (in64_of (by omega))]; rfl
                · left
                  refine Eq.trans (cd_t (fun h => he (edge_ext h))) ?_
                  rw [if_neg (fun e => he (by rw [e]))]
              · simp only [gauntletref04_Same_L2]
                have hi2 : ¬ ((((a.rows.getD k default).length : Nat) : Int) < ((ix a.rows (k : Int)).length : Int)) := Int.lt_irrefl _
                rw [gd_pos (okI_nat hk), cd_f hi2, if_pos (ext_getD h4' hq)]
            refine Eq.trans (bd_pos (Eq.trans (cd_f h4) hL2)) ?_
            by_cases he : a.rows.getD k default = b.rows.getD k default
            · rw [if_pos he, if_pos he, on_g, gd_pos (in64_of (by omega))]; rfl
            · rw [if_neg he, if_neg he]; rfl
        simp only [gauntletref04_Same_L1]
        rw [cd_t (by omega), hin]
        by_cases he : a.rows.getD k default = b.rows.getD k default
        · right; exact ⟨(), all_upto hi he, if_pos he⟩
        · left; rw [if_neg he, if_neg (fun e => he (by rw [e]))]
      · simp only [gauntletref04_Same_L1]
        rw [cd_f (by omega), if_pos (ext_getD h3' hi)]
    rw [bd_pos hL]
    by_cases he : a.rows = b.rows
    · rw [if_pos he, decide_eq_true (hab.2 he)]; rfl
    · rw [if_neg he, decide_eq_false (fun e => he (hab.1 e))]; rfl
/-! ### Data -/
theorem row_eq {N : Nat} {x : MDat} (hx : MDOk x) (hN : 200 ≤ N) {s : Nat} (hs : s < 6) : gauntletlaw04_M_Of_L2 N x (s : Int) N [] 0 = some (rowM x s) := by
  have h1 := hx.st; have h2 := hx.ins; have h3 := hx.outs
  have hinp : x.inp = 1 + x.ins % 3 := rfl
  refine loop_eq (fun F i acc => gauntletlaw04_M_Of_L2 N x (s : Int) F acc (i : Int)) x.inp.toNat (fun i acc => acc = (List.range i).map (edgeM x s)) _ (fun F i acc hi hacc => .inr ?_) (fun F acc hacc => ?_) N 0 [] (Nat.zero_le _) (by omega) rfl
  · subst hacc
    refine ⟨_, rfl, ?_⟩
    have hm := mul_small (k := s) (a := x.inp) (by omega) (by omega)
    have he : (s : Int) * ((1 : Int) + x.ins % 3) + (i : Int) = ((s * x.inp.toNat + i : Nat) : Int) := by
      rw [← hinp, hm.2.2]; rfl
    have hnum := hx.num (s * x.inp.toNat + i)
    simp only [gauntletlaw04_M_Of_L2]
    rw [cd_t (by omega)]
    have hv : (gd (in64 ((s : Int) * ((1 : Int) + (x.ins % 3)))) <| gd (in64 (((s : Int) * ((1 : Int) + (x.ins % 3))) + (i : Int))) <| bif decide (((s : Int) * ((1 : Int) + (x.ins % 3))) + (i : Int) < (x.edges.length : Int)) then (gd (okI x.edges (((s : Int) * ((1 : Int) + (x.ins % 3))) + (i : Int))) <| gd (in64 (ix x.edges (((s : Int) * ((1 : Int) + (x.ins % 3))) + (i : Int)))) <| some (ix x.edges (((s : Int) * ((1 : Int) + (x.ins % 3))) + (i : Int)))) else (some (0 : Int))) = some (x.num (s * x.inp.toNat + i)) := by
      rw [gd_pos (in64_of (by rw [← hinp]; omega)), he, gd_pos (in64_of (by omega))]
      unfold MDat.num
      by_cases hk : s * x.inp.toNat + i < x.edges.length
      · have hed := hx.ed _ hk
        rw [cd_t (by omega), if_pos hk, gd_pos (okI_nat hk), gd_pos (show in64 (ix x.edges ((s * x.inp.toNat + i : Nat) : Int)) from in64_of (show -4611686018427387904 ≤ x.edges.getD (s * x.inp.toNat + i) default ∧ x.edges.getD (s * x.inp.toNat + i) default ≤ 4611686018427387904 by omega))]; rfl
      · rw [cd_f (by omega), if_neg hk]
    have hacc : ((List.range i).map (edgeM x s)).length = i := by simp
    refine Eq.trans (bd_pos (x := (List.range (i + 1)).map (edgeM x s)) (Eq.trans (bd_pos hv) ?_)) ?_
    · rw [gd_pos (fun _ => ⟨hnum.1, by omega⟩), range_snoc]
      by_cases hp : x.part = true ∧ x.num (s * x.inp.toNat + i) % 4 = 3
      · rw [ct (by rw [hp.1, decide_eq_true hp.2]; rfl), gd_pos ⟨by rw [hacc]; simp; omega, by rw [hacc]; simp; omega⟩, edgeM_t rfl hp]
      · have hst : x.n = 1 + x.states % 6 := rfl
        have hot : x.out = 1 + x.outs % 3 := rfl
        have hd : 0 ≤ x.num (s * x.inp.toNat + i) / 4 := by omega
        have hd2 : 0 ≤ x.num (s * x.inp.toNat + i) / 4 / x.n := Int.ediv_nonneg hd (by omega)
        rw [cf (by rw [Bool.and_eq_false_iff]
                   by_cases h : x.part = true
                   · exact .inr (decide_eq_false fun h' => hp ⟨h, h'⟩)
                   · exact .inl (by simpa using h)), ← hst, ← hot, gd_pos ⟨by omega, by omega, by omega⟩, gd_pos ⟨hd, by omega⟩, gd_pos ⟨by omega, by omega, by omega⟩, gd_pos ⟨hd, by omega, by omega⟩, gd_pos ⟨hd2, by omega⟩, gd_pos ⟨by rw [hacc]; simp; omega, by rw [hacc]; simp; omega⟩, edgeM_f rfl (fun h h' => hp ⟨h, h'⟩)]
    · rw [gd_pos (in64_of (by omega))]; rfl
  · subst hacc
    simp only [gauntletlaw04_M_Of_L2]
    rw [cd_f (by omega)]; rfl
theorem mof_eq {N : Nat} {x : MDat} (hx : MDOk x) (hN : 200 ≤ N) : gauntletlaw04_M_Of N x = some (mOf x) := by
  have h1 := hx.st; have h2 := hx.ins; have h3 := hx.outs
  have hst : x.n = 1 + x.states % 6 := rfl
  unfold gauntletlaw04_M_Of
  rw [gd_pos ⟨by omega, by omega⟩, gd_pos (in64_of (by omega)), gd_pos (in64_of (by omega)), gd_pos ⟨by omega, by omega⟩, gd_pos (in64_of (by omega)), gd_pos (in64_of (by omega)), gd_pos ⟨by omega, by omega⟩, gd_pos (in64_of (by omega)), gd_pos (in64_of (by omega))]
  refine Eq.trans (bd_pos (x := (List.range x.n.toNat).map (rowM x)) ?_) rfl
  refine loop_eq (fun F s acc => gauntletlaw04_M_Of_L1 N x F (s : Int) acc) x.n.toNat (fun s acc => acc = (List.range s).map (rowM x)) _ (fun F s acc hs hacc => .inr ?_) (fun F acc hacc => ?_) N 0 [] (Nat.zero_le _) (by omega) rfl
  · subst hacc
    refine ⟨_, rfl, ?_⟩
    simp only [gauntletlaw04_M_Of_L1]
    rw [cd_t (by omega), bd_pos (row_eq hx hN (by omega)), gd_pos ⟨by simp; omega, by simp; omega⟩, gd_pos (in64_of (by omega)), range_snoc]; rfl
  · subst hacc
    simp only [gauntletlaw04_M_Of_L1]
    rw [cd_f (by omega)]
theorem wof_eq {N : Nat} {x : WDat} (hx : WDOk x) {n : Int} (hn : 1 ≤ n) (hN : 200 ≤ N) : gauntletlaw01_W_Of N x n = some (wOf x n) := by
  unfold gauntletlaw01_W_Of
  refine Eq.trans (bd_pos (x := wOf x n) ?_) rfl
  refine loop_eq (fun F k acc => gauntletlaw01_W_Of_L1 N x n F acc (k : Int)) (min x.syms.length 12) (fun k acc => acc = (x.syms.take k).map (· % n)) _ (fun F k acc hk hacc => .inr ?_) (fun F acc hacc => ?_) N 0 [] (Nat.zero_le _) (by omega) (by simp)
  · subst hacc
    have hk' : k < x.syms.length := by omega
    have hsy := hx.sy k hk'
    refine ⟨_, rfl, ?_⟩
    simp only [gauntletlaw01_W_Of_L1]
    rw [ct (by simp; omega), gd_pos (okI_nat hk'), gd_pos (show in64 (ix x.syms (k : Int)) from in64_of (show -4611686018427387904 ≤ x.syms.getD k default ∧ x.syms.getD k default ≤ 4611686018427387904 by omega)), gd_pos (show okR (ix x.syms (k : Int)) n from ⟨hsy.1, by omega⟩), gd_pos ⟨by simp; omega, by simp; omega⟩, gd_pos (in64_of (by omega)), wOf_take hk']; rfl
  · subst hacc
    simp only [gauntletlaw01_W_Of_L1]
    rw [cf (by simp; omega), wOf_end (by omega) (by omega) (by omega)]
end GV
end Go.Proofs.Ytncblcdhmcmkmaa
