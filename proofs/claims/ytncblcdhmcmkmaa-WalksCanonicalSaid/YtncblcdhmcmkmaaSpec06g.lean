/- Chapter 06: the reference's order and canonical form. -/
import Derived.Test.YtncblcdhmcmkmaaCanon06
namespace Go.Proofs.Ytncblcdhmcmkmaa
namespace GV
set_option linter.unusedVariables false
set_option maxRecDepth 100000

theorem lexlt_at : ∀ {a b : List Int} {k : Nat}, k < a.length → k < b.length → a.take k = b.take k → a.getD k default < b.getD k default → lexlt a b
  | [], _, _, h, _, _, _ => by simp at h
  | _ :: _, [], _, _, h, _, _ => by simp at h
  | x :: a, y :: b, 0, _, _, _, h => .inl h
  | x :: a, y :: b, k + 1, h1, h2, ht, h => by
    rw [List.take_succ_cons, List.take_succ_cons] at ht
    obtain ⟨rfl, ht'⟩ := List.cons.inj ht
    exact .inr ⟨rfl, lexlt_at (k := k) (by simpa using h1) (by simpa using h2) ht' h⟩
theorem less_L {N : Nat} {a b : List Int} (hl : a.length = b.length) (hN : a.length < N) (hb : a.length ≤ 1000000) {r : Ex Unit Int} (h1 : lexlt a b → r = Ex.rt 1) (h2 : lexlt b a → r = Ex.rt 0) (h3 : a = b → r = Ex.go ()) : gauntletref06_less_L1 N a b N 0 = some r := by
  refine loop_eq (σ := Unit) (fun F k _ => gauntletref06_less_L1 N a b F (k : Int)) a.length (fun k _ => a.take k = b.take k) r (fun F k _ hk hi => ?_) (fun F _ hi => ?_) N 0 () (Nat.zero_le _) (by omega) rfl
  · simp only [gauntletref06_less_L1]
    have oa : okI a (k : Int) := okI_nat hk
    have ob : okI b (k : Int) := okI_nat (by omega)
    rw [cd_t (by omega), gd_pos oa, gd_pos ob]
    rcases Int.lt_trichotomy (ix a (k : Int)) (ix b (k : Int)) with h | h | h
    · left
      rw [cd_t (by omega), gd_pos oa, gd_pos ob, cd_t h, h1 (lexlt_at hk (by omega) hi h)]
    · right
      refine ⟨(), ?_, ?_⟩
      · rw [take_snoc a k hk, take_snoc b k (by omega), hi, show a.getD k default = b.getD k default from h]
      · rw [cd_f (by omega)]; exact gd_pos (in64_of (by omega))
    · left
      rw [cd_t (by omega), gd_pos oa, gd_pos ob, cd_f (by omega), h2 (lexlt_at (by omega) hk hi.symm h)]
  · simp only [gauntletref06_less_L1]
    rw [cd_f (by omega), h3 (by rw [List.take_length, hl, List.take_length] at hi; exact hi)]
theorem less_t {N : Nat} {a b : List Int} (h : llt a b) (hN : a.length < N) (hb : a.length ≤ 1000000) : gauntletref06_less N a b = some 1 := by
  unfold gauntletref06_less
  rcases h with h | ⟨hl, h⟩
  · rw [cd_t (by omega), cd_t (by omega)]
  · rw [cd_f (by omega), bd_pos (less_L hl hN hb (r := Ex.rt 1) (fun _ => rfl) (fun k => absurd (lexlt_trans h k) (lexlt_irrefl _)) (fun e => by rw [e] at h; exact absurd h (lexlt_irrefl _)))]; rfl
theorem less_f {N : Nat} {a b : List Int} (h : llt b a) (hN : a.length < N) (hb : a.length ≤ 1000000) : gauntletref06_less N a b = some 0 := by
  unfold gauntletref06_less
  rcases h with h | ⟨hl, h⟩
  · rw [cd_t (by omega), cd_f (by omega)]
  · rw [cd_f (by omega), bd_pos (less_L hl.symm hN hb (r := Ex.rt 0) (fun k => absurd (lexlt_trans h k) (lexlt_irrefl _)) (fun _ => rfl) (fun e => by rw [e] at h; exact absurd h (lexlt_irrefl _)))]; rfl
/-- The entries of the states below a number, in their order. -/
def belowL (s : Nat) (P : List BE) : List BE := P.filter fun e => decide (e.st < s)
theorem below_split {m : Mach} {s0 : Nat} {P : List BE} (hP : Rch m s0 P) {j : Nat} (hj : j < P.length) :
    belowL ((P.getD j default).st + 1) P = belowL (P.getD j default).st (P.take j) ++ P.getD j default :: belowL (P.getD j default).st (P.drop (j + 1)) ∧
    belowL (P.getD j default).st P = belowL (P.getD j default).st (P.take j) ++ belowL (P.getD j default).st (P.drop (j + 1)) := by
  have hs : P = P.take j ++ P.getD j default :: P.drop (j + 1) := by rw [← drop_cons P j hj, List.take_append_drop]
  have key : ∀ i, i < P.length → i ≠ j → decide ((P.getD i default).st < (P.getD j default).st + 1) = decide ((P.getD i default).st < (P.getD j default).st) := fun i hi hne => by
    have : (P.getD i default).st ≠ (P.getD j default).st := fun e => hne (hP.dis i j hi hj e)
    rw [decide_eq_decide]; omega
  generalize hx : P.getD j default = x at *
  have h1 : belowL (x.st + 1) (P.take j) = belowL x.st (P.take j) := by
    refine List.filter_congr fun e he => ?_
    obtain ⟨i, hi, rfl⟩ := List.mem_iff_getElem.1 he
    rw [List.length_take] at hi
    have := key i (by omega) (by omega)
    rw [List.getElem_take]
    rwa [show P.getD i default = P[i]'(by omega) by simp [List.getD_eq_getElem?_getD, show i < P.length by omega]] at this
  have h2 : belowL (x.st + 1) (P.drop (j + 1)) = belowL x.st (P.drop (j + 1)) := by
    refine List.filter_congr fun e he => ?_
    obtain ⟨i, hi, rfl⟩ := List.mem_iff_getElem.1 he
    rw [List.length_drop] at hi
    have := key (j + 1 + i) (by omega) (by omega)
    rw [List.getElem_drop]
    rwa [show P.getD (j + 1 + i) default = P[j + 1 + i]'(by omega) by simp [List.getD_eq_getElem?_getD, show j + 1 + i < P.length by omega]] at this
  constructor
  · conv => lhs; rw [hs]
    unfold belowL at *
    rw [List.filter_append, List.filter_cons, if_pos (decide_eq_true (by omega)), h1, h2]
  · conv => lhs; rw [hs]
    unfold belowL
    rw [List.filter_append, List.filter_cons, if_neg (by simp)]
theorem below_nocc {P : List BE} {s : Nat} (h : occ P s = false) : belowL (s + 1) P = belowL s P := by
  refine List.filter_congr fun e he => ?_
  have : e.st ≠ s := fun hst => by
    have : occ P s = true := List.any_eq_true.2 ⟨e, he, decide_eq_true hst⟩
    rw [h] at this; cases this
  rw [decide_eq_decide]; omega
theorem below_all {m : Mach} {s0 : Nat} {P : List BE} (hP : Rch m s0 P) : belowL m.rows.length P = P := by
  unfold belowL
  rw [List.filter_eq_self]
  intro e he
  obtain ⟨i, hi, rfl⟩ := List.mem_iff_getElem.1 he
  have := hP.rng i hi
  rw [show P.getD i default = P[i] by simp [List.getD_eq_getElem?_getD, hi]] at this
  exact decide_eq_true this
theorem below_len {m : Mach} {s0 : Nat} {P : List BE} (hP : Rch m s0 P) (s : Nat) : (stsL (belowL s P)).length ≤ P.length := by
  unfold stsL belowL; rw [List.length_map]; exact List.length_filter_le _ _
theorem stsL_append (X Y : List BE) : stsL (X ++ Y) = stsL X ++ stsL Y := by simp [stsL]
theorem order_L2 {N : Nat} {m : Mach} (hN : 200 ≤ N) {s0 : Nat} {P : List BE} (hP : Rch m s0 P) (hr2 : m.rows.length ≤ 64) {j : Nat} (hj : j < P.length) :
    gauntletref06_Order_L2 N (wordsL m.rows.length P, seenL m.rows.length P) (stsL (belowL (P.getD j default).st P)) ((P.getD j default).st : Int) N 0 = some ((belowL (P.getD j default).st (P.take j)).length : Int) := by
  obtain ⟨_, hsp⟩ := below_split hP hj
  have hle := hP.le
  have hst := hP.rng j hj
  -- where the elements come from
  have hA : ∀ e ∈ belowL (P.getD j default).st (P.take j), ∃ i, i < j ∧ e = P.getD i default := fun e he => by
    obtain ⟨i, hi, rfl⟩ := List.mem_iff_getElem.1 (List.mem_filter.1 he).1
    rw [List.length_take] at hi
    exact ⟨i, by omega, by rw [List.getElem_take]; simp [List.getD_eq_getElem?_getD, show i < P.length by omega]⟩
  have hB : ∀ e ∈ belowL (P.getD j default).st (P.drop (j + 1)), ∃ i, j < i ∧ i < P.length ∧ e = P.getD i default := fun e he => by
    obtain ⟨i, hi, rfl⟩ := List.mem_iff_getElem.1 (List.mem_filter.1 he).1
    rw [List.length_drop] at hi
    exact ⟨j + 1 + i, by omega, by omega, by rw [List.getElem_drop]; simp [List.getD_eq_getElem?_getD, show j + 1 + i < P.length by omega]⟩
  have hlen := below_len hP (P.getD j default).st
  rw [hsp] at hlen ⊢
  generalize hx : belowL (P.getD j default).st (P.take j) = A at *
  generalize belowL (P.getD j default).st (P.drop (j + 1)) = B at *
  have hwj : ix (wordsL m.rows.length P) ((P.getD j default).st : Int) = (P.getD j default).wd := by rw [ix_nat, wordsL_get hst, hP.wdOf hj]
  have okw : okI (wordsL m.rows.length P) ((P.getD j default).st : Int) := okI_nat (by rw [wordsL_len]; exact hst)
  have hlen2 : (stsL (A ++ B)).length = A.length + B.length := by simp [stsL]
  have hget : ∀ k, k < A.length + B.length → ix (stsL (A ++ B)) (k : Int) = (((A ++ B).getD k default).st : Int) := fun k hk => by
    have hk' : k < (A ++ B).length := by rw [List.length_append]; exact hk
    rw [ix_nat]
    unfold stsL
    rw [List.getD_eq_getElem?_getD, List.getElem?_map, List.getD_eq_getElem?_getD, List.getElem?_eq_getElem hk']; rfl
  refine loop_eq (σ := Unit) (fun F k _ => gauntletref06_Order_L2 N (wordsL m.rows.length P, seenL m.rows.length P) (stsL (A ++ B)) ((P.getD j default).st : Int) F (k : Int)) A.length (fun _ _ => True) _ (fun F k _ hk _ => ?_) (fun F _ _ => ?_) N 0 () (Nat.zero_le _) (by omega) trivial
  · right
    refine ⟨(), trivial, ?_⟩
    simp only [gauntletref06_Order_L2, hget k (by omega), hwj]
    have he : (A ++ B).getD k default ∈ A := by
      have : (A ++ B).getD k default = A[k] := by simp [List.getD_eq_getElem?_getD, List.getElem?_append_left hk, hk]
      rw [this]; exact List.getElem_mem hk
    obtain ⟨i, hij, hei⟩ := hA _ he
    rw [hei]
    have hsi := hP.rng i (by omega)
    have hwi : ix (wordsL m.rows.length P) ((P.getD i default).st : Int) = (P.getD i default).wd := by rw [ix_nat, wordsL_get hsi, hP.wdOf (by omega)]
    have hwl := (hP.wok i (by omega)).2
    rw [hwi, gd_pos (fun _ => okI_nat (by omega)), gd_pos (fun _ => okI_nat (by rw [wordsL_len]; exact hsi)), gd_pos (fun _ => okw), bd_gop (fun _ => less_t (N := N) (hP.inc i j hij hj) (by omega) (by omega))]
    have hd : decide ((k : Int) < ((stsL (A ++ B)).length : Int)) = true := decide_eq_true (by omega)
    refine (ct (by rw [hd]; rfl)).trans ?_
    exact gd_pos (in64_of (by omega))
  · simp only [gauntletref06_Order_L2]
    by_cases hb : 0 < B.length
    · have hd : decide ((A.length : Int) < ((stsL (A ++ B)).length : Int)) = true := decide_eq_true (by omega)
      simp only [hget A.length (by omega), hwj]
      have he : (A ++ B).getD A.length default ∈ B := by
        have : (A ++ B).getD A.length default = B[0] := by simp [List.getD_eq_getElem?_getD, hb]
        rw [this]; exact List.getElem_mem hb
      obtain ⟨i, hij, hil, hei⟩ := hB _ he
      rw [hei]
      have hsi := hP.rng i (by omega)
      have hwi : ix (wordsL m.rows.length P) ((P.getD i default).st : Int) = (P.getD i default).wd := by rw [ix_nat, wordsL_get hsi, hP.wdOf (by omega)]
      have hwl := (hP.wok i (by omega)).2
      rw [hwi, gd_pos (fun _ => okI_nat (by omega)), gd_pos (fun _ => okI_nat (by rw [wordsL_len]; exact hsi)), gd_pos (fun _ => okw), bd_gop (fun _ => less_f (N := N) (hP.inc j i hij hil) (by omega) (by omega))]
      exact cf (by rw [hd]; rfl)
    · have hd : decide ((A.length : Int) < ((stsL (A ++ B)).length : Int)) = false := decide_eq_false (by omega)
      rw [hd, gd_pos (fun h => by simp at h), gd_pos (fun h => by simp at h), gd_pos (fun h => by simp at h), gop_f (by rfl)]
      rfl
theorem rorder_eq {N : Nat} {m : Mach} (hm : MOk m) (hN : 400 ≤ N) (h6 : m.rows.length ≤ 6) (h3 : m.inputs ≤ 3) : gauntletref06_Order N m = some (stsL (rch m 0)) := by
  have hP := rch0 hm
  have hr2 := hm.r2
  unfold gauntletref06_Order
  rw [bd_pos (raccess_eq hm hN h6 h3)]
  generalize rch m 0 = P at *
  have hle := hP.le
  have hL : gauntletref06_Order_L1 N (wordsL m.rows.length P, seenL m.rows.length P) N [] 0 = some (stsL P) := by
    refine loop_eq (σ := List Int) (fun F k st => gauntletref06_Order_L1 N (wordsL m.rows.length P, seenL m.rows.length P) F st (k : Int)) m.rows.length (fun k st => st = stsL (belowL k P)) _ (fun F k st hk hst => ?_) (fun F st hst => ?_) N 0 _ (Nat.zero_le _) (by omega) (by unfold belowL stsL; simp)
    · subst hst
      right
      refine ⟨_, rfl, ?_⟩
      have hixs : ix (seenL m.rows.length P) (k : Int) = occ P k := by rw [ix_nat, seenL_get hk]
      simp only [gauntletref06_Order_L1, hixs]
      rw [cd_t (by rw [wordsL_len]; omega)]
      refine (bd_pos (x := stsL (belowL (k + 1) P)) ?_).trans (gd_pos (in64_of (by omega)))
      rw [gd_pos (okI_nat (by rw [seenL_len]; exact hk))]
      cases ho : occ P k
      · rw [ct (b := !false) rfl, below_nocc ho]
      · rw [cf (b := !true) rfl]
        obtain ⟨j, hj, rfl⟩ := occ_iff.1 ho
        obtain ⟨h1, h2⟩ := below_split hP hj
        have hlen := below_len hP (P.getD j default).st
        rw [bd_pos (order_L2 (by omega) hP hr2 hj), h1, h2]
        rw [h2] at hlen
        generalize belowL (P.getD j default).st (P.take j) = A at *
        generalize belowL (P.getD j default).st (P.drop (j + 1)) = B at *
        have hla : (stsL A).length = A.length := by simp [stsL]
        have hlb : (stsL B).length = B.length := by simp [stsL]
        rw [stsL_append] at hlen ⊢
        rw [List.length_append] at hlen
        have c1 : cut (stsL A ++ stsL B) 0 (A.length : Int) = stsL A := by rw [cut_take, ← hla, List.take_left]
        have c2 : cut (stsL A ++ stsL B) (A.length : Int) ((stsL A ++ stsL B).length : Int) = stsL B := by
          unfold cut
          rw [Int.toNat_natCast, Int.toNat_natCast, ← hla, List.drop_left, List.take_of_length_le (by rw [List.length_append]; omega)]
        have f : ∀ {X Y : List Int}, X.length ≤ 1000 → Y.length ≤ 1000 → fits 8 X Y := fun h1 h2 => ⟨by omega, by omega⟩
        have la : (stsL A ++ stsL B).length = A.length + B.length := by rw [List.length_append]; omega
        rw [gd_pos ⟨by omega, by omega, by omega⟩, c1, gd_pos (f (by simp) (by omega)), List.nil_append, gd_pos (f (by omega) (by simp)), gd_pos ⟨by omega, by omega, by omega⟩, c2, gd_pos (f (by rw [List.length_append]; simp; omega) (by omega))]
        rw [stsL_append, List.append_assoc]; rfl
    · subst hst
      simp only [gauntletref06_Order_L1]
      rw [cd_f (by rw [wordsL_len]; omega), below_all hP]
  rw [bd_pos hL]
theorem rcanon_eq {N : Nat} {m : Mach} (hm : MOk m) (hN : 400 ≤ N) (h6 : m.rows.length ≤ 6) (h3 : m.inputs ≤ 3) : gauntletref06_Canonical N m = some (canM m) := by
  unfold gauntletref06_Canonical
  rw [bd_pos (rorder_eq hm hN h6 h3), bd_pos (show gauntletref06_Part N m (stsL (rch m 0)) = some (canM m) from by rw [← cast_ord]; exact rpart_eq hm (ord_closed (rch0 hm)) (by omega))]
end GV
end Go.Proofs.Ytncblcdhmcmkmaa
