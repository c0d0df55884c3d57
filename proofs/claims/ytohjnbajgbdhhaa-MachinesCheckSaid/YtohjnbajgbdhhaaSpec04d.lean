/- Chapter 04: what the plain programs compute, fourth part: comparing, the document's walk, machines of plain data. -/
import Derived.Test.YtohjnbajgbdhhaaSpec04c
namespace Go.Proofs.Ytohjnbajgbdhhaa
namespace GV
set_option linter.unusedVariables false
set_option maxRecDepth 100000

theorem compare_eq {N : Nat} {a b : List Int} (hN : a.length < N) (hl : a.length ≤ 4611686018427387904) : gauntletref01_Compare N a b = some (cmpL a b) := by
  unfold gauntletref01_Compare cmpL
  by_cases h1 : a.length < b.length
  · rw [cd_t (by omega), if_pos h1]
  · rw [cd_f (by omega), if_neg h1]
    by_cases h2 : b.length < a.length
    · rw [cd_t (by omega), if_pos h2]
    · rw [cd_f (by omega), if_neg h2]
      have he : a.length = b.length := by omega
      have hL : gauntletref01_Compare_L1 N a b N 0 = some (if lexC a b = 0 then Ex.go () else Ex.rt (lexC a b)) := by
        refine loop_eq (σ := Unit) (fun F k _ => gauntletref01_Compare_L1 N a b F (k : Int)) a.length (fun k _ => lexC (a.drop k) (b.drop k) = lexC a b) _ (fun F k _ hk hi => ?_) (fun F _ hi => ?_) N 0 () (Nat.zero_le _) (by omega) rfl
        · simp only [gauntletref01_Compare_L1]
          rw [cd_t (by omega), gd_pos (okI_nat hk), gd_pos (okI_nat (by omega))]
          have hs := lexC_step hk (show k < b.length by omega)
          rw [hi] at hs
          by_cases h3 : a.getD k default < b.getD k default
          · left
            refine Eq.trans (cd_t h3) ?_
            rw [if_pos h3] at hs; rw [hs]; rfl
          · refine (show _ ∨ _ from ?_)
            rw [if_neg h3] at hs
            by_cases h4 : b.getD k default < a.getD k default
            · left
              refine Eq.trans (cd_f h3) ?_
              rw [gd_pos (okI_nat hk), gd_pos (okI_nat (by omega))]
              refine Eq.trans (cd_t h4) ?_
              rw [if_pos h4] at hs; rw [hs]; rfl
            · right
              rw [if_neg h4] at hs
              refine ⟨(), hs.symm, Eq.trans (cd_f h3) ?_⟩
              rw [gd_pos (okI_nat hk), gd_pos (okI_nat (by omega))]
              refine Eq.trans (cd_f h4) ?_
              rw [gd_pos (in64_of (by omega))]; rfl
        · simp only [gauntletref01_Compare_L1]
          rw [cd_f (by omega)]
          have : lexC a b = 0 := by rw [← hi, List.drop_of_length_le (Nat.le_refl _)]; rfl
          rw [if_pos this]
      rw [bd_pos hL]
      by_cases h5 : lexC a b = 0
      · rw [if_pos h5, h5]; rfl
      · rw [if_neg h5]; rfl
theorem isame_eq {N : Nat} {a b : List Int} (hN : a.length < N) (hl : a.length ≤ 4611686018427387904) : gauntletref01_Same N a b = some (decide (a = b)) := by
  unfold gauntletref01_Same
  rw [bd_pos (compare_eq hN hl)]
  by_cases h : a = b
  · rw [decide_eq_true h, decide_eq_true ((cmpL_eq a b).2 h)]
  · rw [decide_eq_false h, decide_eq_false (fun e => h ((cmpL_eq a b).1 e))]
theorem list_eq {N : Nat} {l w : List Int} {e f : Int} (hN : l.length < N) (hl : l.length ≤ 4611686018427387904) : gauntletlaw04_list N l e w f = some (decide (e = f) && decide (l = w)) := by
  unfold gauntletlaw04_list
  rw [bd_gop (fun _ => isame_eq hN hl)]
  by_cases h : e = f
  · rw [decide_eq_true h]; simp
  · rw [decide_eq_false h]; simp
theorem next_eq {N : Nat} {m : Mach} (hm : MOk m) {s i : Int} (hs : SOk m s) (hi : 0 ≤ i ∧ i < m.inputs) : gauntletref04_Next N m s i = some (nextE m s i) := by
  unfold gauntletref04_Next nextE
  rcases hs with h | h
  · rw [h]; rfl
  · have hrow := hm.row s.toNat (by omega)
    rw [cd_f (by omega), if_neg (by omega), gd_pos h, gd_pos (show okI (ix m.rows s) i from ⟨hi.1, by rw [ix_int, hrow]; exact hi.2⟩)]; rfl
theorem rrun_eq {N : Nat} {m : Mach} (hm : MOk m) {s : Int} {w : List Int} (hs : SOk m s) (hw : WOk m.inputs w) (hN : w.length < N) (hl : w.length ≤ 1000000) : gauntletref04_Run N m s w = some (runL m s w) := by
  unfold gauntletref04_Run
  refine Eq.trans (bd_pos (x := runL m s w) ?_) rfl
  refine loop_eq (σ := Int × List Int) (fun F k x => gauntletref04_Run_L1 N m w F x.1 x.2 (k : Int)) w.length (fun k x => x.1 = aftL m s (w.take k) ∧ x.2 = runL m s (w.take k)) _ (fun F k x hk hi => .inr ?_) (fun F x hi => ?_) N 0 (s, []) (Nat.zero_le _) (by omega) (by simp [aftL, runL])
  · obtain ⟨t, X⟩ := x
    obtain ⟨rfl, rfl⟩ := hi
    have hst := aftL_ok m hm s (w.take k) hs (wok_take hw k)
    refine ⟨(aftL m s (w.take (k + 1)), runL m s (w.take (k + 1))), ⟨rfl, rfl⟩, ?_⟩
    simp only [gauntletref04_Run_L1]
    have hlr := runL_length m s (w.take k)
    rw [List.length_take] at hlr
    rw [cd_t (by omega), gd_pos (okI_nat hk)]
    refine Eq.trans (bd_pos (next_eq hm hst (show 0 ≤ w.getD k default ∧ w.getD k default < m.inputs from hw k hk))) ?_
    rw [gd_pos ⟨by simp; omega, by simp; omega⟩, gd_pos (in64_of (by omega)), aftL_take m s w k hk, runL_take m s w k hk]; rfl
  · obtain ⟨t, X⟩ := x
    obtain ⟨rfl, rfl⟩ := hi
    simp only [gauntletref04_Run_L1]
    rw [cd_f (by omega), List.take_length]
theorem raft_eq {N : Nat} {m : Mach} (hm : MOk m) : ∀ (F : Nat) (s : Int) (w : List Int), SOk m s → WOk m.inputs w → w.length < F → gauntletref04_After N F m s w = some (aftL m s w)
  | 0, s, w, _, _, h => by omega
  | F + 1, s, [], hs, _, _ => rfl
  | F + 1, s, i :: w, hs, hw, h => by
    have hi : 0 ≤ i ∧ i < m.inputs := by simpa using hw 0 (by simp)
    simp only [gauntletref04_After]
    rw [cd_f (by simp; omega), gd_pos (show okI (i :: w) 0 from okI_nat (k := 0) (by simp))]
    refine Eq.trans (bd_pos (next_eq hm hs (show 0 ≤ i ∧ i < m.inputs from hi))) ?_
    rw [gd_pos ⟨by omega, by simp; omega, by simp⟩]
    have hc : cut (i :: w) 1 (((i :: w).length : Nat) : Int) = w := by simp [cut]
    rw [hc]
    refine Eq.trans (bd_pos (raft_eq (N := N) hm F _ w (nextE_ok m hm s i hs hi).1 (fun k hk => by simpa using hw (k + 1) (by simpa using hk)) (by simpa using h))) ?_
    rfl
theorem great_eq {N : Nat} {m : Mach} (hN : 200 ≤ N) : gauntletlaw04_great N m = some (greatI m) := by
  unfold gauntletlaw04_great
  by_cases h : 70 < m.rows.length
  · rw [cd_t (by omega), great_1 h]
  · rw [cd_f (by omega)]
    have hL : gauntletlaw04_great_L1 N m N 0 = some (if (m.rows.any fun r => decide (20 < r.length)) = true then Ex.rt 1 else Ex.go ()) := by
      refine loop_eq (σ := Unit) (fun F k _ => gauntletlaw04_great_L1 N m F (k : Int)) m.rows.length (fun k _ => ((m.rows.take k).any fun r => decide (20 < r.length)) = false) _ (fun F k _ hk hi => ?_) (fun F _ hi => ?_) N 0 () (Nat.zero_le _) (by omega) (by simp)
      · simp only [gauntletlaw04_great_L1]
        rw [cd_t (by omega), gd_pos (okI_nat hk)]
        by_cases h1 : 20 < (m.rows.getD k default).length
        · left
          refine Eq.trans (cd_t (show (20 : Int) < (((m.rows.getD k default).length : Nat) : Int) by omega)) ?_
          rw [if_pos (List.any_eq_true.2 ⟨_, getD_mem hk, decide_eq_true h1⟩)]
        · right
          refine ⟨(), by rw [take_any _ _ k hk, hi, decide_eq_false h1]; rfl, Eq.trans (cd_f (show ¬ (20 : Int) < (((m.rows.getD k default).length : Nat) : Int) by omega)) ?_⟩
          rw [gd_pos (in64_of (by omega))]; rfl
      · simp only [gauntletlaw04_great_L1]
        rw [cd_f (by omega), if_neg (by rw [List.take_length] at hi; rw [hi]; decide)]
    rw [bd_pos hL]
    by_cases ha : (m.rows.any fun r => decide (20 < r.length)) = true
    · rw [if_pos ha]
      obtain ⟨r, hr, h2⟩ := List.any_eq_true.1 ha
      obtain ⟨k, hk, rfl⟩ := List.getElem_of_mem hr
      rw [great_row k hk (by simpa [List.getD_eq_getElem?_getD, hk] using h2)]; rfl
    · rw [if_neg ha, great_0 h (by simpa using ha)]; rfl
theorem rcheck_eq {N : Nat} {m : Mach} (hs : Small m) (hN : 200 ≤ N) : gauntletref04_Check N m = some (checkM m) := by
  have hl := hs.r
  unfold gauntletref04_Check
  by_cases h : (16 < m.inputs ∨ 16 < m.outputs) ∨ 64 < m.rows.length
  · rw [ct (by simp; omega), checkM_3 h]
  · rw [cf (by simp; omega)]
    by_cases h1 : (m.inputs < 1 ∨ m.outputs < 1) ∨ m.rows.length < 1
    · rw [ct (by simp only [Bool.or_eq_true, decide_eq_true_eq]; omega), checkM_1 h h1]
    · rw [cf (by have : (m.rows.length : Int) ≠ 0 := by omega
                 simp only [Bool.or_eq_false_iff, decide_eq_false_iff_not]; omega)]
      have hL : gauntletref04_Check_L1 N m N 0 = some (if m.rows.any (rowBad m) = true then Ex.rt 1 else Ex.go ()) := by
        refine loop_eq (σ := Unit) (fun F k _ => gauntletref04_Check_L1 N m F (k : Int)) m.rows.length (fun k _ => (m.rows.take k).any (rowBad m) = false) _ (fun F k _ hk hi => ?_) (fun F _ hi => ?_) N 0 () (Nat.zero_le _) (by omega) (by simp)
        · have hc := hs.c k hk
          have hin : (bd (gd (okI m.rows (k : Int)) <| bif decide (((ix m.rows (k : Int)).length : Int) ≠ m.inputs) then (some (Ex.rt (Ex.rt 1))) else gauntletref04_Check_L2 N m (k : Int) N 0) fun q81 => Ex.on q81 (fun o80 => gd (in64 ((k : Int) + 1)) <| gauntletref04_Check_L1 N m F ((k : Int) + 1)) some) =
              if rowBad m (m.rows.getD k default) = true then some (Ex.rt 1) else gauntletref04_Check_L1 N m F ((k + 1 : Nat) : Int) := by
            rw [gd_pos (okI_nat hk)]
            by_cases h2 : ((m.rows.getD k default).length : Int) ≠ m.inputs
            · have hb : rowBad m (m.rows.getD k default) = true := by unfold rowBad; rw [decide_eq_true h2]; rfl
              rw [if_pos hb]
              refine Eq.trans (bd_pos (x := Ex.rt (Ex.rt 1)) (cd_t h2)) rfl
            · have h2' : ((ix m.rows (k : Int)).length : Int) = m.inputs := Decidable.of_not_not h2
              have hL2 : gauntletref04_Check_L2 N m (k : Int) N 0 = some (if rowBad m (m.rows.getD k default) = true then Ex.rt (Ex.rt 1) else Ex.go ()) := by
                refine loop_eq (σ := Unit) (fun G i _ => gauntletref04_Check_L2 N m (k : Int) G (i : Int)) m.inputs.toNat (fun i _ => (((m.rows.getD k default).take i).any fun x => !fitsB m x) = false) _ (fun G i _ hi' hq => ?_) (fun G _ hq => ?_) N 0 () (Nat.zero_le _) (by have : ((m.rows.getD k default).length : Int) = m.inputs := h2'; omega) (by simp)
                · have hil : i < (m.rows.getD k default).length := by have : ((m.rows.getD k default).length : Int) = m.inputs := h2'; omega
                  simp only [gauntletref04_Check_L2]
                  rw [cd_t (by omega), gd_pos (okI_nat hk), gd_pos (show okI (ix m.rows (k : Int)) (i : Int) from okI_nat hil)]
                  have hx : ix (ix m.rows (k : Int)) (i : Int) = (m.rows.getD k default).getD i default := rfl
                  rw [hx]
                  generalize hxe : (m.rows.getD k default).getD i default = x at *
                  by_cases h3 : x.to = -1 ∧ x.out = -1
                  · right
                    have hf := fits_t (m := m) (x := x) (.inl h3)
                    refine ⟨(), by rw [take_any _ _ i hil, hq, hxe, hf]; rfl, ?_⟩
                    rw [ct (by rw [decide_eq_true h3.1, decide_eq_true h3.2]; rfl), bd_s, on_g, gd_pos (in64_of (by omega))]; rfl
                  · rw [cf (by rw [← Bool.decide_and]; exact decide_eq_false h3)]
                    by_cases h4 : 0 ≤ x.to ∧ x.to < m.rows.length ∧ 0 ≤ x.out ∧ x.out < m.outputs
                    · right
                      have hf := fits_t (m := m) (x := x) (.inr h4)
                      refine ⟨(), by rw [take_any _ _ i hil, hq, hxe, hf]; rfl, ?_⟩
                      rw [cf (by simp; omega), bd_s, on_g, gd_pos (in64_of (by omega))]; rfl
                    · left
                      have hf := fits_f (m := m) (x := x) (fun h => h.elim h3 h4)
                      rw [ct (by simp; omega), bd_s, on_r, if_pos]
                      unfold rowBad
                      rw [Bool.or_eq_true]
                      exact .inr (List.any_eq_true.2 ⟨_, getD_mem hil, by rw [hxe]; exact hf⟩)
                · simp only [gauntletref04_Check_L2]
                  rw [cd_f (by omega), if_neg]
                  have hle : (m.rows.getD k default).length = m.inputs.toNat := by have : ((m.rows.getD k default).length : Int) = m.inputs := h2'; omega
                  rw [← hle, List.take_length] at hq
                  unfold rowBad
                  rw [hq, decide_eq_false h2]; decide
              refine Eq.trans (bd_pos (Eq.trans (cd_f (fun h => h h2')) hL2)) ?_
              by_cases hb : rowBad m (m.rows.getD k default) = true
              · rw [if_pos hb, if_pos hb]; rfl
              · rw [if_neg hb, if_neg hb, on_g, gd_pos (in64_of (by omega))]; rfl
          simp only [gauntletref04_Check_L1]
          rw [cd_t (by omega), hin]
          cases hr : rowBad m (m.rows.getD k default)
          · right
            exact ⟨(), by rw [take_any _ _ k hk, hi, hr]; rfl, if_neg (by decide)⟩
          · left
            rw [if_pos rfl, if_pos (List.any_eq_true.2 ⟨_, getD_mem hk, hr⟩)]
        · simp only [gauntletref04_Check_L1]
          rw [cd_f (by omega), if_neg (by rw [List.take_length] at hi; rw [hi]; decide)]
      rw [bd_pos hL]
      by_cases ha : m.rows.any (rowBad m) = true
      · rw [if_pos ha]; unfold checkM; rw [if_neg h, if_neg h1, if_pos ha]; rfl
      · rw [if_neg ha, checkM_0 h h1 (by simpa using ha)]; rfl
end GV
end Go.Proofs.Ytohjnbajgbdhhaa
