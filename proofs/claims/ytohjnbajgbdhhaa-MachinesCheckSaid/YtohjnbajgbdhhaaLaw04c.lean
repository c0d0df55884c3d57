/- Chapter 04: the laws of the plain programs, second part. -/
import Derived.Test.YtohjnbajgbdhhaaLaw04
namespace Go.Proofs.Ytohjnbajgbdhhaa
namespace GV
set_option linter.unusedVariables false
set_option maxRecDepth 100000

theorem nextE_none (m : Mach) (i : Int) : nextE m (-1) i = ⟨-1, -1⟩ := rfl
theorem runL_none (m : Mach) : ∀ v : List Int, runL m (-1) v = List.replicate v.length (-1)
  | [] => rfl
  | i :: v => by
    show (nextE m (-1) i).out :: runL m (nextE m (-1) i).to v = _
    rw [nextE_none, runL_none m v]; rfl
theorem aftL_none (m : Mach) : ∀ v : List Int, aftL m (-1) v = -1
  | [] => rfl
  | i :: v => by
    show aftL m (nextE m (-1) i).to v = _
    rw [nextE_none]; exact aftL_none m v
theorem getD_appr {α : Type} {X Y : List α} {k : Nat} {d : α} (h : X.length ≤ k) : (X ++ Y).getD k d = Y.getD (k - X.length) d := by
  simp only [List.getD_eq_getElem?_getD]; rw [List.getElem?_append_right h]
theorem wok_append {n : Int} {u v : List Int} (hu : WOk n u) (hv : WOk n v) : WOk n (u ++ v) := fun k hk => by
  rw [List.length_append] at hk
  by_cases h : k < u.length
  · rw [getD_app1 h]; exact hu k h
  · rw [getD_appr (by omega)]; exact hv _ (by omega)
theorem runR_ok {m : Mach} {s : Int} {w : List Int} (hm : MOk m) (hs : 0 ≤ s ∧ s < m.rows.length) (hw : WOk m.inputs w) (hl : w.length ≤ 256) : runR m s w = runL m s w ∧ aftR m s w = aftL m s w ∧ runC m s w = 0 := by
  have hst := stateM_ok hm hs
  have hcw := checkW_ok hm.i1 hm.i2 hw hl
  refine ⟨?_, ?_, ?_⟩
  · unfold runR; rw [if_neg (by rw [hst]; simp), if_neg (by rw [hcw]; simp)]
  · unfold aftR; rw [if_neg (by rw [hst]; simp), if_neg (by rw [hcw]; simp)]
  · unfold runC; rw [if_neg (by rw [hst]; simp), hcw]
theorem split_law {x : MDat} {y : WDat × WDat} {f : Int} (hx : MDOk x) (hy1 : WDOk y.1) (hy2 : WDOk y.2) (hf : 0 ≤ f ∧ f ≤ 255) : gauntletlaw04_MachinesSplit 2000 x y f = some true := by
  have hok := mOf_ok hx
  have hsm := mOf_small hx
  have hu := wOf_ok (x := y.1) (n := (mOf x).inputs) hok.i1
  have hv := wOf_ok (x := y.2) (n := (mOf x).inputs) hok.i1
  have hr1 := hok.r1
  have hr2 := hok.r2
  unfold gauntletlaw04_MachinesSplit
  rw [bd_pos (mof_eq hx (by decide)), bd_pos (wof_eq hy1 hok.i1 (by decide)), bd_pos (wof_eq hy2 hok.i1 (by decide)), gd_pos (in64_of (by omega)), gd_pos ⟨hf.1, by omega⟩]
  simp only [mach_eta]
  generalize hm : mOf x = m at *
  generalize wOf y.1 m.inputs = u at *
  generalize wOf y.2 m.inputs = v at *
  have hs : 0 ≤ f % (m.rows.length : Int) ∧ f % (m.rows.length : Int) < m.rows.length := ⟨Int.emod_nonneg _ (by omega), Int.emod_lt_of_pos _ (by omega)⟩
  generalize f % (m.rows.length : Int) = s at *
  have huv := wok_append hu.1 hv.1
  have hluv : (u ++ v).length = u.length + v.length := List.length_append
  obtain ⟨a1, a2, a3⟩ := runR_ok hok hs huv (by omega)
  obtain ⟨b1, b2, b3⟩ := runR_ok hok hs hu.1 (by omega)
  have hlr := runL_length m s (u ++ v)
  have hlu := runL_length m s u
  have happ := runL_append m s u v
  have hcut : cut (runL m s (u ++ v)) 0 (u.length : Int) = runL m s u := by
    rw [happ]; unfold cut
    simp only [Int.toNat_zero, List.drop_zero, Int.toNat_natCast, Nat.sub_zero]
    rw [← hlu, List.take_left]
  rw [bd_pos (join_eq (by omega) (by omega) (by decide)), bd_pos (Run_eq hsm (by decide) (by omega) (by omega)), bd_pos (Run_eq hsm (by decide) (by omega) (by omega)), bd_pos (After_eq hsm (by decide) (by omega) (by omega)),
    bd_pos (join_eq (by omega) (by omega) (by decide)), bd_pos (After_eq hsm (by decide) (by omega) (by omega)), a1, a2, a3, b1, b2, b3, gd_pos (fun _ => in64_of (by omega)),
    gd_pos (fun _ => show okS (runL m s (u ++ v)) 0 (u.length : Int) from ⟨Int.le_refl _, by omega, by omega⟩), bd_gop (fun _ => isame_eq (show (cut (runL m s (u ++ v)) 0 (u.length : Int)).length < 2000 by rw [hcut]; omega) (show (cut (runL m s (u ++ v)) 0 (u.length : Int)).length ≤ _ by rw [hcut]; omega))]
  rw [show cut (runL m s (u ++ v), (0 : Int)).1 0 (u.length : Int) = runL m s u from hcut]
  have hle : (((runL m s (u ++ v)).length : Nat) : Int) = (u.length : Int) + (v.length : Int) := by omega
  refine Eq.trans (cf (by simp [hle])) ?_
  have hat := aftL_append m s u v
  by_cases ht : aftL m s u = -1
  · refine Eq.trans (cd_t ht) ?_
    have hL : gauntletlaw04_MachinesSplit_L1 2000 (runL m s (u ++ v), 0) 2000 (u.length : Int) = some (Ex.go ()) := by
      refine loop_eq (σ := Unit) (fun F k _ => gauntletlaw04_MachinesSplit_L1 2000 (runL m s (u ++ v), 0) F (k : Int)) (runL m s (u ++ v)).length (fun k _ => u.length ≤ k) _ (fun F k _ hk hi => .inr ⟨(), by omega, ?_⟩) (fun F _ hi => ?_) 2000 u.length () (by omega) (by omega) (Nat.le_refl _)
      · simp only [gauntletlaw04_MachinesSplit_L1]
        rw [cd_t (by omega), gd_pos (okI_nat hk)]
        have hxk : (runL m s (u ++ v)).getD k default = -1 := by
          rw [happ, ht, runL_none, getD_appr (by omega)]
          have hkk : k - (runL m s u).length < v.length := by omega
          simp [List.getD_eq_getElem?_getD, hkk]
        refine Eq.trans (cd_f (fun h => h hxk)) ?_
        rw [gd_pos (in64_of (by omega))]; rfl
      · simp only [gauntletlaw04_MachinesSplit_L1]
        rw [cd_f (by omega)]
    rw [bd_pos hL, on_g, bd_gop (fun _ => lives_eq)]
    have : aftL m s (u ++ v) = -1 := by rw [hat, ht, aftL_none]
    simp [this]
  · refine Eq.trans (cd_f ht) ?_
    have hts := (aftL_ok m hok s u (.inr hs) hu.1).resolve_left ht
    obtain ⟨c1, c2, c3⟩ := runR_ok hok hts hv.1 (by omega)
    have hlv := runL_length m (aftL m s u) v
    have hcut2 : cut (runL m s (u ++ v)) (u.length : Int) ((runL m s (u ++ v)).length : Int) = runL m (aftL m s u) v := by
      unfold cut
      rw [happ]
      simp only [Int.toNat_natCast]
      rw [← hlu, List.drop_left, List.take_of_length_le (by rw [List.length_append]; omega)]
    rw [bd_pos (Run_eq hsm (by decide) (by omega) (by omega)), bd_pos (After_eq hsm (by decide) (by omega) (by omega)), c1, c2, c3, gd_pos (fun _ => show okS (runL m s (u ++ v)) (u.length : Int) ((runL m s (u ++ v)).length : Int) from ⟨by omega, by omega, Int.le_refl _⟩),
      bd_gop (fun _ => isame_eq (show (cut (runL m s (u ++ v)) (u.length : Int) ((runL m s (u ++ v)).length : Int)).length < 2000 by rw [hcut2]; omega) (show (cut (runL m s (u ++ v)) (u.length : Int) ((runL m s (u ++ v)).length : Int)).length ≤ _ by rw [hcut2]; omega)), bd_gop (fun _ => lives_eq)]
    rw [show cut (runL m s (u ++ v), (0 : Int)).1 (u.length : Int) ((runL m s (u ++ v), (0 : Int)).1.length : Int) = runL m (aftL m s u) v from hcut2]
    simp [hat]
/-! ### The shape of a machine -/
theorem edge_two {m : Mach} (hm : MOk m) {k i : Nat} (hk : k < m.rows.length) (hi : i < m.inputs.toNat) : (edgeAt m (k * m.inputs.toNat + i)).to = -1 ∧ (edgeAt m (k * m.inputs.toNat + i)).out = -1 ∧ ¬ 0 ≤ ((m.rows.getD k default).getD i default).to ∨
    ¬ ((edgeAt m (k * m.inputs.toNat + i)).to = -1 ∧ (edgeAt m (k * m.inputs.toNat + i)).out = -1) ∧ 0 ≤ ((m.rows.getD k default).getD i default).to := by
  rw [edgeAt_place hi]
  have hrow := hm.row k hk
  rcases hm.edge k i hk (by omega) with h | h
  · left; omega
  · right; omega
theorem def_undef {m : Mach} (hm : MOk m) : ∀ k, k ≤ m.rows.length → cntR m k + (undefK m (k * m.inputs.toNat)).length = k * m.inputs.toNat
  | 0, _ => by simp [cntR, undefK]
  | k + 1, hk => by
    have ih := def_undef hm k (by omega)
    have hrow := hm.row k (by omega)
    have inner : ∀ i, i ≤ m.inputs.toNat → cntE (m.rows.getD k default) i + (undefK m (k * m.inputs.toNat + i)).length = (undefK m (k * m.inputs.toNat)).length + i := by
      intro i
      induction i with
      | zero => intro _; simp [cntE_zero]
      | succ i ih' =>
        intro hi
        have h0 := ih' (by omega)
        have hil : i < (m.rows.getD k default).length := by omega
        rw [cntE_succ _ _ hil, ← Nat.add_assoc, undefK_succ, List.length_append]
        rcases edge_two hm (by omega : k < m.rows.length) (by omega : i < m.inputs.toNat) with ⟨h1, h2, h3⟩ | ⟨h1, h2⟩
        · rw [if_neg h3, if_pos ⟨h1, h2⟩, List.length_singleton]; omega
        · rw [if_pos h2, if_neg h1, List.length_nil]; omega
    have := inner m.inputs.toNat (Nat.le_refl _)
    rw [cntR_succ m k (by omega), Nat.succ_mul, show (m.rows.getD k default).length = m.inputs.toNat by omega]
    omega
theorem undefL_get {m : Mach} {k : Nat} (hk : k < (undefL m).length) : ∃ q, q < m.rows.length * m.inputs.toNat ∧ ((edgeAt m q).to = -1 ∧ (edgeAt m q).out = -1) ∧ (undefL m).getD k default = (((q / m.inputs.toNat : Nat) : Int), ((q % m.inputs.toNat : Nat) : Int)) ∧
    (0 < k → ∃ p, p < q ∧ (undefL m).getD (k - 1) default = (((p / m.inputs.toNat : Nat) : Int), ((p % m.inputs.toNat : Nat) : Int))) := by
  unfold undefL undefK at hk ⊢
  generalize hQ : (List.range (m.rows.length * m.inputs.toNat)).filter (fun k => decide ((edgeAt m k).to = -1 ∧ (edgeAt m k).out = -1)) = Q at *
  rw [List.length_map] at hk
  have hpw : Q.Pairwise (· < ·) := by rw [← hQ]; exact List.Pairwise.filter _ List.pairwise_lt_range
  have hall : ∀ a ∈ Q, a ∈ List.range (m.rows.length * m.inputs.toNat) ∧ decide ((edgeAt m a).to = -1 ∧ (edgeAt m a).out = -1) = true := by
    rw [← hQ]; exact fun a ha => List.mem_filter.1 ha
  obtain ⟨h1, h2⟩ := hall _ (List.getElem_mem hk)
  refine ⟨Q[k], List.mem_range.1 h1, of_decide_eq_true h2, by simp [List.getD_eq_getElem?_getD, hk], fun h0 => ⟨Q[k - 1], List.pairwise_iff_getElem.1 hpw (k - 1) k (by omega) hk (by omega), by simp [List.getD_eq_getElem?_getD, show k - 1 < Q.length by omega]⟩⟩
theorem place_mono {n p q : Nat} (hn : 0 < n) (hn2 : n ≤ 16) (h : p < q) : (((p / n : Nat) : Int) * 100 + ((p % n : Nat) : Int)) < (((q / n : Nat) : Int) * 100 + ((q % n : Nat) : Int)) := by
  have h1 : p / n ≤ q / n := Nat.div_le_div_right (Nat.le_of_lt h)
  have h2 := Nat.mod_lt p hn
  have h3 := Nat.mod_lt q hn
  have h4 := Nat.div_add_mod p n
  have h5 := Nat.div_add_mod q n
  by_cases e : p / n = q / n
  · rw [e] at h4
    rw [e]; omega
  · omega
theorem undef_at {m : Mach} (hm : MOk m) {k : Nat} (hk : k < (undefL m).length) : ∃ a b : Nat, a < m.rows.length ∧ b < (m.rows.getD a default).length ∧ b < 16 ∧ (m.rows.getD a default).getD b default = ⟨-1, -1⟩ ∧ (undefL m).getD k default = ((a : Int), (b : Int)) ∧
    (0 < k → ∃ c d : Nat, c < 64 ∧ d < 16 ∧ (undefL m).getD (k - 1) default = ((c : Int), (d : Int)) ∧ (c : Int) * 100 + d < (a : Int) * 100 + b) := by
  obtain ⟨q, hq1, hq2, hq3, hq4⟩ := undefL_get hk
  have hi1 := hm.i1
  have hi2 := hm.i2
  have hr2 := hm.r2
  have hn : 0 < m.inputs.toNat := by omega
  have hqd : q / m.inputs.toNat < m.rows.length := Nat.div_lt_of_lt_mul (by rw [Nat.mul_comm]; exact hq1)
  have hqm := Nat.mod_lt q hn
  have hrow := hm.row (q / m.inputs.toNat) hqd
  have hl : (m.rows.getD (q / m.inputs.toNat) default).length = m.inputs.toNat := by omega
  refine ⟨q / m.inputs.toNat, q % m.inputs.toNat, hqd, by rw [hl]; exact hqm, Nat.lt_of_lt_of_le hqm (by omega), edge_ext hq2, hq3, fun h0 => ?_⟩
  obtain ⟨p, hpq, hp⟩ := hq4 h0
  refine ⟨p / m.inputs.toNat, p % m.inputs.toNat, Nat.lt_of_le_of_lt (Nat.div_le_div_right (Nat.le_of_lt hpq)) (by omega), Nat.lt_of_lt_of_le (Nat.mod_lt p hn) (by omega), hp, place_mono hn (by omega) hpq⟩
theorem shape_law {x : MDat} (hx : MDOk x) : gauntletlaw04_MachinesShape 2000 x = some true := by
  have hok := mOf_ok hx
  have hsm := mOf_small hx
  unfold gauntletlaw04_MachinesShape
  rw [bd_pos (mof_eq hx (by decide))]
  simp only [mach_eta]
  generalize hm : mOf x = m at *
  have hc : checkM m = 0 := (checkM_iff m).2 hok
  have hmul := hok.mul
  have hi1 := hok.i1
  have hi2 := hok.i2
  have hr2 := hok.r2
  have hdu := def_undef hok m.rows.length (Nat.le_refl _)
  have hU : (undefL m).length = (undefK m (m.rows.length * m.inputs.toNat)).length := rfl
  have hD : defd m = cntR m m.rows.length := rfl
  have e1 : complR m = complB m := by
    unfold complR complB
    rw [if_neg (by rw [hc]; simp), hmul.2]
    by_cases h : (undefL m).length = 0
    · rw [decide_eq_true (by omega), decide_eq_true (by omega)]
    · rw [decide_eq_false (by omega), decide_eq_false (by omega)]
  have e2 : traR m = (defd m : Int) := by
    unfold traR
    rw [if_neg (by rw [hc]; simp), hmul.2]; omega
  have e3 : undR m = undefL m := by unfold undR; rw [if_neg (by rw [hc]; simp)]
  have e4 : (if checkM m ≠ 0 then false else connB m) = connB m := if_neg (by rw [hc]; simp)
  rw [bd_pos (complete_eq hsm (by decide)), bd_pos (connected_eq hsm (by decide)), bd_pos (trans_eq hsm (by decide)), bd_pos (undefined_eq hsm (by decide)), e1, e2, e3, e4, hc,
    bd_gop (fun _ => rcomplete_eq hok (by decide)), bd_gop (fun _ => rconn_eq hok (by decide)), bd_gop (fun _ => defined_eq hok (by decide)), gd_pos (fun _ => in64_of (by show _ ≤ (defd m : Int) + ((undefL m).length : Int) ∧ (defd m : Int) + ((undefL m).length : Int) ≤ _; omega)), gd_pos (fun _ => in64_of (by rw [hmul.2]; omega))]
  have hsum : (defd m : Int) + ((undefL m).length : Int) = (m.rows.length : Int) * m.inputs := by rw [hmul.2]; omega
  refine Eq.trans (cf (by simp [hsum])) ?_
  have hL : gauntletlaw04_MachinesShape_L1 2000 m (undefL m, 0) 2000 0 = some (Ex.go ()) := by
    refine loop_eq (σ := Unit) (fun F k _ => gauntletlaw04_MachinesShape_L1 2000 m (undefL m, 0) F (k : Int)) (undefL m).length (fun _ _ => True) _ (fun F k _ hk _ => .inr ⟨(), trivial, ?_⟩) (fun F _ _ => ?_) 2000 0 () (Nat.zero_le _) (by omega) trivial
    · obtain ⟨a, b, ha, hb, hb16, hab, hak, hprev⟩ := undef_at hok hk
      have hx1 : ix (undefL m) (k : Int) = ((a : Int), (b : Int)) := hak
      have hed : ix (ix m.rows (a : Int)) (b : Int) = ⟨-1, -1⟩ := hab
      simp only [gauntletlaw04_MachinesShape_L1]
      rw [cd_t (by omega), gd_pos (okI_nat hk)]
      simp only [hx1]
      rw [gd_pos (okI_nat ha), gd_pos (okI_nat hk), gd_pos (show okI (ix m.rows (a : Int)) (b : Int) from okI_nat hb), show gauntletlaw04_edge 2000 (-1) (-1) = some ⟨-1, -1⟩ from rfl, bd_s]
      simp only [hed]
      rw [gd_pos (fun _ => okI_nat hk), gd_pos (fun _ => in64_of (by omega)), gd_pos (fun _ => okI_nat hk), gd_pos (fun _ => in64_of (by omega)), gd_pos (fun _ => in64_of (by omega))]
      by_cases h0 : 0 < k
      · obtain ⟨c, d, hc64, hd16, hcd, hmono⟩ := hprev h0
        have hk1 : ((k : Int) - 1) = ((k - 1 : Nat) : Int) := by omega
        have hx2 : ix (undefL m) ((k - 1 : Nat) : Int) = ((c : Int), (d : Int)) := hcd
        simp only [hk1, hx2]
        rw [gd_pos (fun _ => okI_nat (by omega)), gd_pos (fun _ => in64_of (by omega)), gd_pos (fun _ => in64_of (by omega)), gd_pos (fun _ => okI_nat (by omega)), gd_pos (fun _ => in64_of (by omega))]
        refine Eq.trans (cf ?_) ?_
        · simp; omega
        · rw [gd_pos (in64_of (by omega))]; rfl
      · have hk0 : k = 0 := by omega
        subst hk0
        have hz : decide ((0 : Int) < ((0 : Nat) : Int)) = false := rfl
        rw [hz]
        rw [gd_pos (fun h => by simp at h), gd_pos (fun h => by simp at h), gd_pos (fun h => by simp at h), gd_pos (fun h => by simp at h), gd_pos (fun h => by simp at h)]
        refine Eq.trans (cf ?_) ?_
        · simp
        · rw [gd_pos (in64_of (by omega))]; rfl
    · simp only [gauntletlaw04_MachinesShape_L1]
      rw [cd_f (by omega)]
  rw [bd_pos hL, on_g, bd_pos lives_eq]
end GV
end Go.Proofs.Ytohjnbajgbdhhaa
