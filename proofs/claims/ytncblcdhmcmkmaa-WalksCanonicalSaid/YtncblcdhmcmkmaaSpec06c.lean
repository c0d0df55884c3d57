/- Chapter 06: the paths of layer 6's program. -/
import Derived.Test.YtncblcdhmcmkmaaSpec06b
namespace Go.Proofs.Ytncblcdhmcmkmaa
namespace GV
set_option linter.unusedVariables false
set_option maxRecDepth 100000

def wdOf (P : List BE) (t : Nat) : List Int := ((P.find? fun e => decide (e.st = t)).map (·.wd)).getD []
def wordsL (n : Nat) (P : List BE) : List (List Int) := (List.range n).map (wdOf P)
theorem wordsL_len (n : Nat) (P : List BE) : (wordsL n P).length = n := by simp [wordsL]
theorem wordsL_get {n : Nat} {P : List BE} {t : Nat} (h : t < n) : (wordsL n P).getD t default = wdOf P t := by
  simp [wordsL, List.getD_eq_getElem?_getD, h]
theorem wdOf_snoc (P : List BE) (e : BE) (t : Nat) : wdOf (P ++ [e]) t = if occ P t = true then wdOf P t else if e.st = t then e.wd else [] := by
  unfold wdOf occ
  rw [List.find?_append]
  by_cases h : (P.any fun e => decide (e.st = t)) = true
  · rw [if_pos h]
    obtain ⟨x, hx, hp⟩ := List.any_eq_true.1 h
    cases hf : P.find? (fun e => decide (e.st = t)) with
    | none => exact absurd hp (by simpa using List.find?_eq_none.1 hf x hx)
    | some y => rfl
  · rw [if_neg h]
    have hn : P.find? (fun e => decide (e.st = t)) = none := List.find?_eq_none.2 fun x hx hp => h (List.any_eq_true.2 ⟨x, hx, hp⟩)
    rw [hn]
    by_cases he : e.st = t
    · simp [he]
    · simp [he]
theorem wdOf_nocc {P : List BE} {t : Nat} (h : occ P t = false) : wdOf P t = [] := by
  unfold wdOf occ at *
  have hn : P.find? (fun e => decide (e.st = t)) = none := List.find?_eq_none.2 fun x hx hp => by
    have : (P.any fun e => decide (e.st = t)) = true := List.any_eq_true.2 ⟨x, hx, hp⟩
    rw [h] at this; cases this
  rw [hn]; rfl
theorem wordsL_set {n : Nat} {P : List BE} {e : BE} (hn : e.st < n) (ho : occ P e.st = false) : (wordsL n P).set e.st e.wd = wordsL n (P ++ [e]) := by
  refine ext_getD (by rw [List.length_set, wordsL_len, wordsL_len]) fun k hk => ?_
  rw [List.length_set, wordsL_len] at hk
  rw [wordsL_get hk, wdOf_snoc, List.getD_eq_getElem?_getD, List.getElem?_set]
  by_cases hek : e.st = k
  · subst hek
    rw [if_pos rfl, wordsL_len, if_pos hn, ho]; simp
  · rw [if_neg hek, ← List.getD_eq_getElem?_getD, wordsL_get hk, if_neg hek]
    by_cases h : occ P k = true
    · rw [if_pos h]
    · rw [if_neg h, wdOf_nocc (Bool.eq_false_iff.2 h)]
theorem take_snocB (P : List BE) (k : Nat) (h : k < P.length) : P.take (k + 1) = P.take k ++ [P.getD k default] := by
  rw [List.take_add_one]; simp [List.getD_eq_getElem?_getD, h]
section rch
variable {m : Mach} {s0 : Nat} {P : List BE}
theorem Rch.find (h : Rch m s0 P) {j : Nat} : ∀ k, k ≤ P.length → j < k → wdOf (P.take k) (P.getD j default).st = (P.getD j default).wd
  | 0, _, hj => by omega
  | k + 1, hk, hj => by
    rw [take_snocB P k (by omega), wdOf_snoc]
    by_cases e : j = k
    · subst e
      have ho : occ (P.take j) (P.getD j default).st = false := by
        cases hc : occ (P.take j) (P.getD j default).st with
        | false => rfl
        | true =>
          obtain ⟨i, hi, he⟩ := occ_iff.1 hc
          rw [List.length_take] at hi
          have hg : (P.take j).getD i default = P.getD i default := by simp only [List.getD_eq_getElem?_getD, List.getElem?_take, if_pos (show i < j by omega)]
          rw [hg] at he
          have := h.dis i j (by omega) (by omega) he
          omega
      rw [ho, if_neg (by decide), if_pos rfl]
    · have ih := Rch.find h k (by omega) (show j < k by omega)
      have ho : occ (P.take k) (P.getD j default).st = true := occ_iff.2 ⟨j, by rw [List.length_take]; omega, by simp only [List.getD_eq_getElem?_getD, List.getElem?_take, if_pos (show j < k by omega)]⟩
      rw [if_pos ho, ih]
theorem Rch.fresh (h : Rch m s0 P) {k : Nat} (hk : k < P.length) : occ (P.take k) (P.getD k default).st = false := by
  cases hc : occ (P.take k) (P.getD k default).st with
  | false => rfl
  | true =>
    obtain ⟨i, hi, he⟩ := occ_iff.1 hc
    rw [List.length_take] at hi
    have hg : (P.take k).getD i default = P.getD i default := by simp only [List.getD_eq_getElem?_getD, List.getElem?_take, if_pos (show i < k by omega)]
    rw [hg] at he
    have := h.dis i k (by omega) hk he
    omega
theorem Rch.wdOf (h : Rch m s0 P) {j : Nat} (hj : j < P.length) : wdOf P (P.getD j default).st = (P.getD j default).wd := by
  have := h.find P.length (Nat.le_refl _) hj
  rwa [List.take_length] at this
end rch
theorem clone_eq {N : Nat} {s : List Int} (hl : s.length ≤ 1000000) : slices_Clone_int_o N s = some s := by
  have : fits 8 ([] : List Int) s := ⟨by simp only [List.length_nil]; omega, by simp only [List.length_nil]; omega⟩
  unfold slices_Clone_int_o
  rw [gd_pos this, List.nil_append]
theorem clip_eq {N : Nat} {s : List Int} : slices_Clip_int N s = some s := by
  unfold slices_Clip_int
  rw [gd_pos (okS_all s), cut_all]
theorem paths_eq {N : Nat} {m : Mach} (hm : MOk m) (hN : 200 ≤ N) {s0 : Nat} (hs : s0 < m.rows.length) : walks_paths N m (s0 : Int) = some (wordsL m.rows.length (rch m s0), seenL m.rows.length (rch m s0)) := by
  have hr2 := hm.r2
  have hP := rch_ok hm hs
  generalize hPe : rch m s0 = P at hP ⊢
  unfold walks_paths
  rw [gd_pos ⟨by omega, by omega, by omega⟩, gd_pos ⟨by omega, by omega, by omega⟩]
  rw [bd_pos (show walks_arrivals N m (s0 : Int) = some (m, (s0 : Int)) from rfl)]
  have e1 : mk (m.rows.length : Int) ([] : List Int) = wordsL m.rows.length (P.take 0) := by
    rw [mk_nat]
    refine ext_getD (by rw [List.length_replicate, wordsL_len]) fun k hk => ?_
    rw [List.length_replicate] at hk
    rw [wordsL_get hk]
    simp [List.getD_eq_getElem?_getD, hk, GV.wdOf]
  have e2 : mk (m.rows.length : Int) false = seenL m.rows.length (P.take 0) := by
    rw [mk_nat]
    refine ext_getD (by rw [List.length_replicate, seenL_len]) fun k hk => ?_
    rw [List.length_replicate] at hk
    rw [seenL_get hk]
    simp [List.getD_eq_getElem?_getD, hk, occ]
  rw [e1, e2]
  have key := arr_eq (N := N) hm hN hs (σ := List (List Int) × List Bool) (fun y56 x57 =>
    gd (okI x57.2 y56.f_state) <|
    bif decide (y56.f_from ≠ (-1)) then (
    gd (okI x57.1 y56.f_from) <|
    bd (slices_Clone_int_o N (ix x57.1 y56.f_from)) fun y87 =>
    gd (fits 8 y87 ([y56.f_input] : List Int)) <|
    bd (slices_Clip_int N (y87 ++ ([y56.f_input] : List Int))) fun y91 =>
    gd (okI x57.1 y56.f_state) <|
    some (true, ((up x57.1 y56.f_state y91), (up x57.2 y56.f_state true)))) else (
    some (true, (x57.1, (up x57.2 y56.f_state true))))) (fun k => (wordsL m.rows.length (P.take k), seenL m.rows.length (P.take k))) (fun k hk => ?_)
  · rw [bd_pos key, hPe, List.take_length]
  · rw [hPe] at hk ⊢
    have hx := hP.rng k hk
    have hfr := hP.fresh hk
    have hset : up (seenL m.rows.length (P.take k)) ((P.getD k default).st : Int) true = seenL m.rows.length (P.take (k + 1)) := by
      rw [up_nat, seenL_set hx, ← take_snocB P k hk]
    show gd (okI (seenL m.rows.length (P.take k)) ((P.getD k default).st : Int)) (bif decide ((P.getD k default).par ≠ (-1)) then (
      gd (okI (wordsL m.rows.length (P.take k)) (P.getD k default).par) <|
      bd (slices_Clone_int_o N (ix (wordsL m.rows.length (P.take k)) (P.getD k default).par)) fun y87 =>
      gd (fits 8 y87 ([(P.getD k default).inp] : List Int)) <|
      bd (slices_Clip_int N (y87 ++ ([(P.getD k default).inp] : List Int))) fun y91 =>
      gd (okI (wordsL m.rows.length (P.take k)) ((P.getD k default).st : Int)) <|
      some (true, ((up (wordsL m.rows.length (P.take k)) ((P.getD k default).st : Int) y91), (up (seenL m.rows.length (P.take k)) ((P.getD k default).st : Int) true)))) else (
      some (true, ((wordsL m.rows.length (P.take k)), (up (seenL m.rows.length (P.take k)) ((P.getD k default).st : Int) true))))) = _
    rw [gd_pos (okI_nat (by rw [seenL_len]; exact hx)), hset]
    by_cases h0 : k = 0
    · subst h0
      rw [cd_f (by rw [hP.root]; simp)]
      congr 3
      rw [take_snocB P 0 hk]
      refine ext_getD (by rw [wordsL_len, wordsL_len]) fun j hj => ?_
      rw [wordsL_len] at hj
      rw [wordsL_get hj, wordsL_get hj, wdOf_snoc, hP.root]
      simp [GV.wdOf, occ]
    · obtain ⟨q, i, hq, hi, h1, h2, h3, _⟩ := hP.par k (by omega) hk
      have hqw := hP.wok q (by omega)
      have hple := hP.le
      have hqx := hP.rng q (by omega)
      rw [cd_t (by rw [h1]; omega), h1, gd_pos (okI_nat (by rw [wordsL_len]; exact hqx)), ix_nat, wordsL_get hqx, hP.find k (by omega) hq, bd_pos (clone_eq (by omega))]
      have hfit : fits 8 (P.getD q default).wd ([(P.getD k default).inp] : List Int) := ⟨by simp only [List.length_singleton]; omega, by simp only [List.length_singleton]; omega⟩
      rw [gd_pos hfit, bd_pos clip_eq, gd_pos (okI_nat (by rw [wordsL_len]; exact hx)), up_nat, h2, ← h3, wordsL_set hx hfr, ← take_snocB P k hk]
end GV
end Go.Proofs.Ytncblcdhmcmkmaa
