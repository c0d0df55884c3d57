/- Chapter 06: all words, one after the other; the reference's paths are those of the program. -/
import Derived.Test.YtncblcdhmcmkmaaSpec06c
namespace Go.Proofs.Ytncblcdhmcmkmaa
namespace GV
set_option linter.unusedVariables false
set_option maxRecDepth 100000

def nxt (K : Int) : List Int → Option (List Int)
  | [] => none
  | d :: r => match nxt K r with
    | some r' => some (d :: r')
    | none => if d + 1 < K then some ((d + 1) :: List.replicate r.length 0) else none
def nextW (K : Int) (w : List Int) : List Int := (nxt K w).getD (List.replicate w.length 0 ++ [0])
def Dg (K : Int) (w : List Int) : Prop := ∀ d ∈ w, 0 ≤ d ∧ d < K
theorem dg_wok {K : Int} {w : List Int} : Dg K w ↔ WOk K w := by
  constructor
  · intro h k hk; exact h _ (getD_mem hk)
  · intro h d hd
    obtain ⟨k, hk, rfl⟩ := List.mem_iff_getElem.1 hd
    have := h k hk
    simpa [List.getD_eq_getElem?_getD, hk] using this
theorem no_lt_zeros : ∀ {v : List Int} {n : Nat}, (∀ d ∈ v, 0 ≤ d) → ¬ lexlt v (List.replicate n 0)
  | [], _, _, h => h
  | _ :: _, 0, _, h => h
  | d :: v, n + 1, hd, h => by
    rw [List.replicate_succ] at h
    have := hd d (by simp)
    rcases h with h | ⟨_, h⟩
    · omega
    · exact no_lt_zeros (fun x hx => hd x (by simp [hx])) h
theorem nxt_none {K : Int} : ∀ {w v : List Int}, nxt K w = none → Dg K v → ¬ lexlt w v
  | [], _, _, _, h => h
  | _ :: _, [], _, _, h => h
  | d :: r, e :: v, hn, hv, h => by
    unfold nxt at hn
    cases hr : nxt K r with
    | some r' => rw [hr] at hn; cases hn
    | none =>
      rw [hr] at hn
      simp only at hn
      split at hn
      · cases hn
      · have := hv e (by simp)
        rcases h with h | ⟨_, h⟩
        · omega
        · exact nxt_none hr (fun x hx => hv x (by simp [hx])) h
theorem nxt_some {K : Int} : ∀ {w u : List Int}, nxt K w = some u → u.length = w.length ∧ (Dg K w → Dg K u) ∧ lexlt w u ∧ ∀ v, Dg K v → lexlt v u → ¬ lexlt w v
  | [], _, h => by cases h
  | d :: r, u, h => by
    unfold nxt at h
    cases hr : nxt K r with
    | some r' =>
      rw [hr] at h
      simp only [Option.some.injEq] at h
      subst h
      obtain ⟨h1, h2, h3, h4⟩ := nxt_some hr
      refine ⟨by simp [h1], fun hd x hx => ?_, .inr ⟨rfl, h3⟩, fun v hv hlt hlt' => ?_⟩
      · rcases List.mem_cons.1 hx with rfl | hx
        · exact hd _ (by simp)
        · exact h2 (fun y hy => hd y (by simp [hy])) x hx
      · cases v with
        | nil => exact hlt
        | cons e v =>
          rcases hlt with hlt | ⟨rfl, hlt⟩
          · rcases hlt' with hlt' | ⟨rfl, _⟩ <;> omega
          · rcases hlt' with hlt' | ⟨_, hlt'⟩
            · omega
            · exact h4 v (fun x hx => hv x (by simp [hx])) hlt hlt'
    | none =>
      rw [hr] at h
      simp only at h
      split at h
      · rename_i hK
        simp only [Option.some.injEq] at h
        subst h
        refine ⟨by simp, fun hd x hx => ?_, .inl (by omega), fun v hv hlt hlt' => ?_⟩
        · rcases List.mem_cons.1 hx with rfl | hx
          · have := hd d (by simp); omega
          · have := (List.mem_replicate.1 hx).2
            have := hd d (by simp); omega
        · cases v with
          | nil => exact hlt
          | cons e v =>
            have hvn : Dg K v := fun x hx => hv x (by simp [hx])
            rcases hlt with hlt | ⟨rfl, hlt⟩
            · rcases hlt' with hlt' | ⟨rfl, hlt'⟩
              · omega
              · exact nxt_none hr hvn hlt'
            · exact no_lt_zeros (fun x hx => (hvn x hx).1) hlt
      · cases h
theorem nextW_ok {K : Int} (hK : 1 ≤ K) {w : List Int} (hw : Dg K w) : Dg K (nextW K w) ∧ llt w (nextW K w) ∧ ∀ v, Dg K v → llt v (nextW K w) → lle v w := by
  unfold nextW
  cases h : nxt K w with
  | some u =>
    obtain ⟨h1, h2, h3, h4⟩ := nxt_some h
    refine ⟨h2 hw, .inr ⟨h1.symm, h3⟩, fun v hv hlt => ?_⟩
    rcases hlt with hlt | ⟨hl, hlt⟩
    · exact .inr (.inl (by simp only [Option.getD_some] at hlt; omega))
    · simp only [Option.getD_some] at hl hlt
      rcases lexlt_total (a := v) (b := w) (by omega) with k | rfl | k
      · exact .inr (.inr ⟨by omega, k⟩)
      · exact .inl rfl
      · exact absurd k (h4 v hv hlt)
  | none =>
    simp only [Option.getD_none]
    have e : List.replicate w.length (0 : Int) ++ [0] = List.replicate (w.length + 1) 0 := by rw [List.replicate_succ']
    rw [e]
    refine ⟨fun d hd => by rw [(List.mem_replicate.1 hd).2]; omega, .inl (by simp), fun v hv hlt => ?_⟩
    rcases hlt with hlt | ⟨hl, hlt⟩
    · rw [List.length_replicate] at hlt
      by_cases hvl : v.length = w.length
      · rcases lexlt_total hvl with k | rfl | k
        · exact .inr (.inr ⟨hvl, k⟩)
        · exact .inl rfl
        · exact absurd k (nxt_none h hv)
      · exact .inr (.inl (by omega))
    · exact absurd hlt (no_lt_zeros fun x hx => (hv x hx).1)
theorem nxt_pre {K : Int} {b b' : List Int} (h : nxt K b = some b') : ∀ a : List Int, nxt K (a ++ b) = some (a ++ b')
  | [] => h
  | d :: a => by
    show (match nxt K (a ++ b) with | some r' => some (d :: r') | none => _) = _
    rw [nxt_pre h a]; rfl
theorem nxt_len {K : Int} {w : List Int} : w.length ≤ (nextW K w).length ∧ (nextW K w).length ≤ w.length + 1 := by
  unfold nextW
  cases h : nxt K w with
  | some u => have := (nxt_some h).1; simp only [Option.getD_some]; omega
  | none => simp
theorem set_mid {A B : List Int} {c v : Int} : ((A ++ [c]) ++ B).set A.length v = A ++ v :: B := by
  rw [List.append_assoc, List.set_append_right _ _ (Nat.le_refl _), Nat.sub_self]; rfl
theorem rnext_eq {N : Nat} {K : Int} {w : List Int} (hN : w.length < N) (hl : w.length ≤ 100000) (hw : Dg K w) (hK : K ≤ 1000) : gauntletref06_next N w K = some (nextW K w) := by
  unfold gauntletref06_next
  have hf1 : fits 8 ([] : List Int) w := ⟨by simp only [List.length_nil]; omega, by simp only [List.length_nil]; omega⟩
  rw [gd_pos hf1, List.nil_append]
  have hL : gauntletref06_next_L1 N K N ((w.length : Int) - 1) w = some (match nxt K w with | some u => Ex.rt u | none => Ex.go (List.replicate w.length 0)) := by
    have key := loop_eq (σ := List Int) (fun F k s => gauntletref06_next_L1 N K F ((w.length : Int) - 1 - (k : Int)) s) w.length
      (fun k s => k ≤ w.length ∧ s = w.take (w.length - k) ++ List.replicate k 0 ∧ nxt K (w.drop (w.length - k)) = none) (match nxt K w with | some u => Ex.rt u | none => Ex.go (List.replicate w.length 0)) (fun F k s hk hi => ?_) (fun F s hi => ?_) N 0 w (Nat.zero_le _) (by omega) ⟨Nat.zero_le _, by simp, by rw [Nat.sub_zero, List.drop_length]; rfl⟩
    · simpa using key
    · obtain ⟨_, rfl, hn⟩ := hi
      have hp : w.length - 1 - k < w.length := by omega
      generalize hpe : w.length - 1 - k = p at hp
      have hidx : (w.length : Int) - 1 - (k : Int) = (p : Int) := by omega
      have htake : w.take (w.length - k) = w.take p ++ [w.getD p default] := by rw [show w.length - k = p + 1 by omega]; exact take_snoc w p hp
      have hdrop : w.drop p = w.getD p default :: w.drop (w.length - k) := by rw [drop_cons w p hp, show p + 1 = w.length - k by omega]
      have hsl : (w.take (w.length - k) ++ List.replicate k (0 : Int)).length = w.length := by simp; omega
      have hix : ix (w.take (w.length - k) ++ List.replicate k (0 : Int)) (p : Int) = w.getD p default := by
        rw [ix_nat, List.getD_eq_getElem?_getD, List.getElem?_append_left (by rw [List.length_take]; omega), List.getElem?_take, if_pos (by omega), ← List.getD_eq_getElem?_getD]
      have hdg := dg_wok.1 hw p hp
      have hsplit : w = w.take p ++ (w.getD p default :: w.drop (w.length - k)) := by rw [← hdrop, List.take_append_drop]
      have hset : ∀ v, up (w.take (w.length - k) ++ List.replicate k (0 : Int)) (p : Int) v = w.take p ++ v :: List.replicate k 0 := fun v => by
        rw [up_nat, htake]
        have := set_mid (A := w.take p) (B := List.replicate k (0 : Int)) (c := w.getD p default) (v := v)
        rwa [List.length_take, Nat.min_eq_left (by omega)] at this
      have hdl : (w.drop (w.length - k)).length = k := by rw [List.length_drop]; omega
      have hnx : nxt K (w.getD p default :: w.drop (w.length - k)) = if w.getD p default + 1 < K then some ((w.getD p default + 1) :: List.replicate k 0) else none := by
        show (match nxt K (w.drop (w.length - k)) with | some r' => _ | none => _) = _
        rw [hn, hdl]
      simp only [gauntletref06_next_L1]
      simp only [hidx, hix]
      rw [cd_t (by omega), gd_pos (okI_nat (by rw [hsl]; exact hp)), gd_pos (in64_of (by omega))]
      by_cases hc : w.getD p default + 1 < K
      · left
        rw [cd_t hc, gd_pos (okI_nat (by rw [hsl]; exact hp)), gd_pos (in64_of (by omega)), gd_pos (okI_nat (by rw [hsl]; exact hp)), hset]
        rw [if_pos hc] at hnx
        have hw' : nxt K w = some (w.take p ++ ((w.getD p default + 1) :: List.replicate k 0)) := by
          have := nxt_pre hnx (w.take p)
          rwa [← hsplit] at this
        rw [hw']
      · right
        refine ⟨w.take p ++ 0 :: List.replicate k 0, ⟨by omega, ?_, ?_⟩, ?_⟩
        · rw [show w.length - (k + 1) = p by omega, List.replicate_succ]
        · rw [show w.length - (k + 1) = p by omega, hdrop, hnx, if_neg hc]
        · rw [cd_f hc, gd_pos (okI_nat (by rw [hsl]; exact hp)), gd_pos (in64_of (by omega)), hset]
          congr 1
          omega
    · obtain ⟨_, rfl, hn⟩ := hi
      rw [Nat.sub_self, List.drop_zero] at hn
      simp only [gauntletref06_next_L1]
      rw [cd_f (by omega), hn, Nat.sub_self, List.take_zero, List.nil_append]
  rw [bd_pos (show (gd (in64 ((w.length : Int) - 1)) (gauntletref06_next_L1 N K N ((w.length : Int) - 1) w)) = some (match nxt K w with | some u => Ex.rt u | none => Ex.go (List.replicate w.length 0)) from by rw [gd_pos (in64_of (by omega)), hL])]
  unfold nextW
  cases h : nxt K w with
  | some u => rfl
  | none =>
    simp only
    rw [on_g]
    have hf2 : fits 8 (List.replicate w.length (0 : Int)) ([0] : List Int) := ⟨by simp only [List.length_replicate, List.length_singleton]; omega, by simp only [List.length_replicate, List.length_singleton]; omega⟩
    rw [gd_pos hf2]; rfl
/-- The k-th word. -/
def iterW (K : Int) : Nat → List Int
  | 0 => []
  | k + 1 => nextW K (iterW K k)
theorem iterW_long : ∀ K, 1 ≤ K → K ≤ 3 → 6 ≤ (iterW K 364).length := by
  intro K h1 h2
  have : K = 1 ∨ K = 2 ∨ K = 3 := by omega
  rcases this with rfl | rfl | rfl <;> decide +kernel
theorem iterW_dg {K : Int} (hK : 1 ≤ K) : ∀ k, Dg K (iterW K k)
  | 0 => fun d hd => by simp [iterW] at hd
  | k + 1 => (nextW_ok hK (iterW_dg hK k)).1
/-- The reference's paths. -/
theorem rpaths_eq {N : Nat} {m : Mach} (hm : MOk m) (hN : 400 ≤ N) (h6 : m.rows.length ≤ 6) (h3 : m.inputs ≤ 3) {s0 : Nat} (hs : s0 < m.rows.length) : gauntletref06_Paths N m (s0 : Int) = some (wordsL m.rows.length (rch m s0), seenL m.rows.length (rch m s0)) := by
  have hP := rch_ok hm hs
  generalize hPe : rch m s0 = P at hP ⊢
  have hi1 := hm.i1
  unfold gauntletref06_Paths
  rw [gd_pos ⟨by omega, by omega, by omega⟩, gd_pos ⟨by omega, by omega, by omega⟩]
  have e1 : mk (m.rows.length : Int) ([] : List Int) = wordsL m.rows.length (P.take 0) := by
    rw [mk_nat]
    refine ext_getD (by rw [List.length_replicate, wordsL_len]) fun k hk => ?_
    rw [List.length_replicate] at hk
    rw [wordsL_get hk]
    simp [List.getD_eq_getElem?_getD, hk, wdOf]
  have e2 : mk (m.rows.length : Int) false = seenL m.rows.length (P.take 0) := by
    rw [mk_nat]
    refine ext_getD (by rw [List.length_replicate, seenL_len]) fun k hk => ?_
    rw [List.length_replicate] at hk
    rw [seenL_get hk]
    simp [List.getD_eq_getElem?_getD, hk, occ]
  have hL : gauntletref06_Paths_L1 N m (s0 : Int) N [] (mk (m.rows.length : Int) ([] : List Int)) (mk (m.rows.length : Int) false) = some (wordsL m.rows.length P, seenL m.rows.length P) := by
    refine loop_eq (σ := List Int × List (List Int) × List Bool) (fun F k s => gauntletref06_Paths_L1 N m (s0 : Int) F s.1 s.2.1 s.2.2) 364
      (fun k s => s.1 = iterW m.inputs k ∧ s.1.length ≤ 6 ∧ ∃ c, c ≤ P.length ∧ s.2 = (wordsL m.rows.length (P.take c), seenL m.rows.length (P.take c)) ∧ (∀ j, j < c → llt (P.getD j default).wd s.1) ∧ ∀ j, c ≤ j → j < P.length → lle s.1 (P.getD j default).wd)
      _ (fun F k s hk hi => ?_) (fun F s hi => ?_) N 0 ([], _, _) (Nat.zero_le _) (by omega) ⟨rfl, by simp, 0, Nat.zero_le _, Prod.ext e1 e2, fun j hj => by omega, fun j _ hj => ?_⟩
    · obtain ⟨w, l, is⟩ := s
      obtain ⟨hw, hwl, c, hc, hs2, hlo, hhi⟩ := hi
      simp only at hw hwl hs2 hlo hhi
      obtain ⟨rfl, rfl⟩ := Prod.mk.inj hs2
      have hdg := hw ▸ iterW_dg hi1 k
      have hdw := dg_wok.1 hdg
      simp only [gauntletref06_Paths_L1]
      by_cases hlen : w.length < m.rows.length
      · right
        rw [cd_t (by omega)]
        have haft := raft_eq (N := N) hm N (s0 : Int) w (.inr ⟨by omega, by omega⟩) hdw (by omega)
        have hok := aftL_ok m hm (s0 : Int) w (.inr ⟨by omega, by omega⟩) hdw
        obtain ⟨hn1, hn2, hn3⟩ := nextW_ok hi1 hdg
        have hnl := nxt_len (K := m.inputs) (w := w)
        have hrn := rnext_eq (N := N) (K := m.inputs) (w := w) (by omega) (by omega) hdg (by omega)
        -- how what is known of the entries goes on
        have go : ∀ c', c' ≤ P.length → (∀ j, j < c' → lle (P.getD j default).wd w) → (∀ j, c' ≤ j → j < P.length → llt w (P.getD j default).wd) →
            (nextW m.inputs w = iterW m.inputs (k + 1) ∧ (nextW m.inputs w).length ≤ 6 ∧ ∃ c, c ≤ P.length ∧ (wordsL m.rows.length (P.take c'), seenL m.rows.length (P.take c')) = (wordsL m.rows.length (P.take c), seenL m.rows.length (P.take c)) ∧ (∀ j, j < c → llt (P.getD j default).wd (nextW m.inputs w)) ∧ ∀ j, c ≤ j → j < P.length → lle (nextW m.inputs w) (P.getD j default).wd) := fun c' hc' h1 h2 =>
          ⟨by rw [hw]; rfl, by omega, c', hc', rfl, fun j hj => lle_llt (h1 j hj) hn2, fun j hj hjl => by
            rcases llt_total (nextW m.inputs w) (P.getD j default).wd with h | h | h
            · exact .inr h
            · exact .inl h
            · exact absurd (h2 j hj hjl) (lle_not (hn3 _ (dg_wok.2 (hP.wok j hjl).1) h))⟩
        have strict : ∀ j, j < P.length → lle w (P.getD j default).wd → (P.getD j default).wd ≠ w → llt w (P.getD j default).wd := fun j hj h hne => h.resolve_left fun e => hne e.symm
        have hsame : aftL m (s0 : Int) w = -1 ∨ (0 ≤ aftL m (s0 : Int) w ∧ ix (seenL m.rows.length (P.take c)) (aftL m (s0 : Int) w) = true) →
            ∃ s' : List Int × List (List Int) × List Bool, (s'.1 = iterW m.inputs (k + 1) ∧ s'.1.length ≤ 6 ∧ ∃ c, c ≤ P.length ∧ s'.2 = (wordsL m.rows.length (P.take c), seenL m.rows.length (P.take c)) ∧ (∀ j, j < c → llt (P.getD j default).wd s'.1) ∧ ∀ j, c ≤ j → j < P.length → lle s'.1 (P.getD j default).wd) ∧
            (bd (bd (gauntletref04_After N N m (s0 : Int) w) fun y73 => gd ((true && ((decide (0 ≤ y73)) == true)) = true → okI (seenL m.rows.length (P.take c)) y73) <| bif (decide (0 ≤ y73)) && (!(ix (seenL m.rows.length (P.take c)) y73)) then (gd (okI (seenL m.rows.length (P.take c)) y73) <| gd (okI (wordsL m.rows.length (P.take c)) y73) <| some ((up (wordsL m.rows.length (P.take c)) y73 w), (up (seenL m.rows.length (P.take c)) y73 true))) else (some (wordsL m.rows.length (P.take c), seenL m.rows.length (P.take c)))) fun o62 => bd (gauntletref06_next N w m.inputs) fun y118 => gauntletref06_Paths_L1 N m (s0 : Int) F y118 o62.1 o62.2) = gauntletref06_Paths_L1 N m (s0 : Int) F s'.1 s'.2.1 s'.2.2 := fun hcase => by
          refine ⟨(nextW m.inputs w, wordsL m.rows.length (P.take c), seenL m.rows.length (P.take c)), go c hc (fun j hj => .inr (hlo j hj)) (fun j hj hjl => strict j hjl (hhi j hj hjl) fun e => ?_), ?_⟩
          · have ha := hP.aft j hjl
            rw [e] at ha
            rcases hcase with h | ⟨h0, h⟩
            · rw [ha] at h; omega
            · rw [ha, seen_ix (by omega) (by have := hP.rng j hjl; omega)] at h
              obtain ⟨i, hi, hst⟩ := occ_iff.1 h
              rw [List.length_take] at hi
              have hg : (P.take c).getD i default = P.getD i default := by simp only [List.getD_eq_getElem?_getD, List.getElem?_take, if_pos (show i < c by omega)]
              rw [hg] at hst
              have := hP.dis i j (by omega) hjl (by omega)
              omega
          · rw [bd_pos (show _ = some (wordsL m.rows.length (P.take c), seenL m.rows.length (P.take c)) from by
              rw [bd_pos haft]
              rcases hcase with h | ⟨h0, h⟩
              · rw [h, gd_pos (by simp)]; rfl
              · have hlt : aftL m (s0 : Int) w < m.rows.length := by rcases hok with e | e <;> omega
                rw [gd_pos (fun _ => ⟨h0, by rw [seenL_len]; exact hlt⟩), h, cf (by simp)]), bd_pos hrn]
        by_cases ht : aftL m (s0 : Int) w = -1
        · exact hsame (.inl ht)
        · obtain ⟨ht0, ht1⟩ := hok.resolve_left ht
          by_cases hseen : ix (seenL m.rows.length (P.take c)) (aftL m (s0 : Int) w) = true
          · exact hsame (.inr ⟨ht0, hseen⟩)
          · obtain ⟨j, hj, hst, hle⟩ := hP.least hm _ w rfl hdw ht
            have hcj : c ≤ j := by
              rcases Nat.lt_or_ge j c with h | h
              · exfalso
                apply hseen
                rw [seen_ix ht0 ht1]
                refine occ_iff.2 ⟨j, by rw [List.length_take]; omega, ?_⟩
                simp only [List.getD_eq_getElem?_getD, List.getElem?_take, if_pos h]
                rw [← List.getD_eq_getElem?_getD]; omega
              · exact h
            have hwj : (P.getD j default).wd = w := by
              rcases hle with h | h
              · exact h
              · exact absurd h (lle_not (hhi j hcj hj))
            have hjc : j = c := by
              rcases Nat.lt_or_ge c j with h | h
              · have h1 := hP.inc c j h hj
                rw [hwj] at h1
                exact absurd h1 (lle_not (hhi c (Nat.le_refl _) (by omega)))
              · omega
            subst hjc
            have hx := hP.rng j hj
            have hfr := hP.fresh hj
            refine ⟨(nextW m.inputs w, wordsL m.rows.length (P.take (j + 1)), seenL m.rows.length (P.take (j + 1))), go (j + 1) (by omega) (fun i hi => ?_) (fun i hi hil => ?_), ?_⟩
            · by_cases e : i = j
              · subst e; rw [hwj]; exact .inl rfl
              · exact .inr (hlo i (by omega))
            · have := hP.inc j i (by omega) hil
              rwa [hwj] at this
            · rw [bd_pos (show _ = some (wordsL m.rows.length (P.take (j + 1)), seenL m.rows.length (P.take (j + 1))) from by
                rw [bd_pos haft, ← hst]
                rw [← hst] at hseen
                rw [gd_pos (fun _ => okI_nat (by rw [seenL_len]; exact hx)), ct (by rw [Bool.eq_false_iff.2 hseen]; simp), gd_pos (okI_nat (by rw [seenL_len]; exact hx)), gd_pos (okI_nat (by rw [wordsL_len]; exact hx)), up_nat, up_nat, seenL_set hx, ← take_snocB P j hj]
                have := wordsL_set hx hfr
                rw [hwj, ← take_snocB P j hj] at this
                rw [this]), bd_pos hrn]
      · left
        rw [cd_f (by omega)]
        have hcl : c = P.length := by
          rcases Nat.lt_or_ge c P.length with h | h
          · have h1 := (hP.wok c h).2
            have h2 := hP.le
            exact absurd (show llt (P.getD c default).wd w from .inl (by omega)) (lle_not (hhi c (Nat.le_refl _) h))
          · omega
        rw [hcl, List.take_length]
    · obtain ⟨w, l, is⟩ := s
      obtain ⟨hw, hwl, c, hc, hs2, hlo, hhi⟩ := hi
      simp only at hw hwl hs2 hlo hhi
      obtain ⟨rfl, rfl⟩ := Prod.mk.inj hs2
      have h6' := iterW_long m.inputs hi1 h3
      rw [← hw] at h6'
      simp only [gauntletref06_Paths_L1]
      rw [cd_f (by omega)]
      have hcl : c = P.length := by
        rcases Nat.lt_or_ge c P.length with h | h
        · have h1 := (hP.wok c h).2
          have h2 := hP.le
          exact absurd (show llt (P.getD c default).wd w from .inl (by omega)) (lle_not (hhi c (Nat.le_refl _) h))
        · omega
      rw [hcl, List.take_length]
    · show lle [] _
      cases hwd : (P.getD j default).wd with
      | nil => exact .inl rfl
      | cons a b => exact .inr (.inl (by simp))
  rw [bd_pos hL]
end GV
end Go.Proofs.Ytncblcdhmcmkmaa
