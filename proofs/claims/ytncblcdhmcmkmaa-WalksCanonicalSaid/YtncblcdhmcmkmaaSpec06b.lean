/- Chapter 06: what the plain programs compute: arrivals and paths. -/
import Derived.Test.YtncblcdhmcmkmaaBfs06
import Derived.Test.YtncblcdhmcmkmaaSpec06a
namespace Go.Proofs.Ytncblcdhmcmkmaa
namespace GV
set_option linter.unusedVariables false
set_option maxRecDepth 100000

def toA (e : BE) : Swalks_arrival := ⟨(e.st : Int), e.par, e.inp⟩
def seenL (n : Nat) (All : List BE) : List Bool := (List.range n).map fun s => occ All s
theorem seenL_len (n : Nat) (All : List BE) : (seenL n All).length = n := by simp [seenL]
theorem seenL_get {n : Nat} {All : List BE} {t : Nat} (h : t < n) : (seenL n All).getD t default = occ All t := by
  simp [seenL, List.getD_eq_getElem?_getD, h]
theorem occ_snoc (All : List BE) (e : BE) (t : Nat) : occ (All ++ [e]) t = (occ All t || decide (e.st = t)) := by simp [occ]
theorem seenL_set {n : Nat} {All : List BE} {e : BE} (h : e.st < n) : (seenL n All).set e.st true = seenL n (All ++ [e]) := by
  refine ext_getD (by rw [List.length_set, seenL_len, seenL_len]) fun k hk => ?_
  rw [List.length_set, seenL_len] at hk
  rw [seenL_get hk, occ_snoc, List.getD_eq_getElem?_getD, List.getElem?_set]
  by_cases hek : e.st = k
  · subst hek
    rw [if_pos rfl, seenL_len, if_pos h]; simp
  · rw [if_neg hek, ← List.getD_eq_getElem?_getD, seenL_get hk]; simp [hek]
theorem seen_ix {n : Nat} {All : List BE} {t : Int} (h0 : 0 ≤ t) (h : t < n) : ix (seenL n All) t = occ All t.toNat := by
  rw [ix_int, seenL_get (by omega)]
theorem drop_head {All : List BE} {p : Nat} (hp : p < All.length) : ix ((All.drop p).map toA) 0 = toA (All.getD p default) := by
  rw [drop_cons All p hp]; rfl
theorem drop_tail {All : List BE} {p : Nat} : cut ((All.drop p).map toA) 1 (((All.drop p).map toA).length : Int) = (All.drop (p + 1)).map toA := by
  unfold cut
  rw [Int.toNat_natCast, show (1 : Int).toNat = 1 from rfl, ← List.map_drop, List.drop_drop, List.take_of_length_le (by simp only [List.length_map, List.length_drop]; omega)]
theorem arr_row {N : Nat} {m : Mach} (hm : MOk m) (hN : 200 ≤ N) {σ : Type} {s0 p : Nat} {All : List BE} (h : Inv m s0 p 0 All) (hp : p < All.length) (s : σ) :
    walks_arrivals_1_L2 N σ m ((All.drop p).map toA) N s 0 (seenL m.rows.length All) ((All.drop (p + 1)).map toA) = some (.go (s, seenL m.rows.length (pushRow m (All.getD p default) All m.inputs.toNat), ((pushRow m (All.getD p default) All m.inputs.toNat).drop (p + 1)).map toA)) := by
  have hi1 := hm.i1
  have hi2 := hm.i2
  have hx := h.rng p hp
  have hrow := hm.row _ hx
  refine loop_eq (σ := List Bool × List Swalks_arrival) (fun F k st => walks_arrivals_1_L2 N σ m ((All.drop p).map toA) F s (k : Int) st.1 st.2) m.inputs.toNat
    (fun k st => st = (seenL m.rows.length (pushRow m (All.getD p default) All k), ((pushRow m (All.getD p default) All k).drop (p + 1)).map toA)) _ (fun F k st hk hi => ?_) (fun F st hi => ?_) N 0 _ (Nat.zero_le _) (by omega) rfl
  · subst hi
    right
    refine ⟨_, rfl, ?_⟩
    have hinv := inv_row hm h hp k (by omega)
    have hpre := pushRow_pre m (All.getD p default) All k
    have hpl : p < (pushRow m (All.getD p default) All k).length := by have := hpre.length_le; omega
    have hlen := inv_len hinv
    have hr2 := hm.r2
    simp only [walks_arrivals_1_L2, drop_head hp]
    simp only [show ∀ e : BE, (toA e).f_state = (e.st : Int) from fun _ => rfl, ix_nat]
    rw [cd_t (by omega)]
    refine (bd_pos (x := (s, seenL m.rows.length (pushRow m (All.getD p default) All (k + 1)), ((pushRow m (All.getD p default) All (k + 1)).drop (p + 1)).map toA)) ?_).trans ?_
    · rw [gd_pos (okI_nat (by omega))]
      have hed : ((m.rows.getD (All.getD p default).st default).getD k default).to = ed m (All.getD p default).st k := rfl
      rw [hed]
      have hok := ed_ok hm hx hk
      have hps : pushRow m (All.getD p default) All (k + 1) = push m (All.getD p default) (pushRow m (All.getD p default) All k) k := rfl
      rw [hps]
      unfold push
      by_cases h1 : ed m (All.getD p default).st k = -1
      · rw [if_pos h1, gd_pos (by rw [h1]; simp), h1]; rfl
      · obtain ⟨h2, h3⟩ := hok.resolve_left h1
        rw [if_neg h1, gd_pos (fun _ => ⟨h2, by rw [seenL_len]; exact h3⟩), seen_ix h2 h3]
        by_cases h4 : occ (pushRow m (All.getD p default) All k) (ed m (All.getD p default).st k).toNat = true
        · rw [if_pos h4, h4]
          rw [cf (by simp)]
        · have h4' := Bool.eq_false_iff.2 h4
          have hfit : fits 24 (((pushRow m (All.getD p default) All k).drop (p + 1)).map toA) ([⟨ed m (All.getD p default).st k, ((All.getD p default).st : Int), (k : Int)⟩] : List Swalks_arrival) := by
            have : (((pushRow m (All.getD p default) All k).drop (p + 1)).map toA).length ≤ 64 := by rw [List.length_map, List.length_drop]; omega
            exact ⟨by simp only [List.length_singleton]; omega, by simp only [List.length_singleton]; omega⟩
          have e2 : ((pushRow m (All.getD p default) All k).drop (p + 1)).map toA ++ [(⟨ed m (All.getD p default).st k, ((All.getD p default).st : Int), (k : Int)⟩ : Swalks_arrival)] = ((pushRow m (All.getD p default) All k ++ [(⟨(ed m (All.getD p default).st k).toNat, ((All.getD p default).st : Int), (k : Int), (All.getD p default).wd ++ [(k : Int)]⟩ : BE)]).drop (p + 1)).map toA := by
            rw [List.drop_append_of_le_length (by omega), List.map_append]
            congr 1
            show [_] = [_]
            simp only [toA, Int.toNat_of_nonneg h2]
          rw [if_neg h4, ct (by rw [decide_eq_true h1, h4']; rfl), gd_pos ⟨h2, by rw [seenL_len]; exact h3⟩, gd_pos hfit]
          exact congrArg some (Prod.ext rfl (Prod.ext (seenL_set (e := ⟨(ed m (All.getD p default).st k).toNat, ((All.getD p default).st : Int), (k : Int), (All.getD p default).wd ++ [(k : Int)]⟩) (by show (ed m _ _).toNat < _; omega)) e2))
    · rw [gd_pos (in64_of (by omega))]; rfl
  · subst hi
    simp only [walks_arrivals_1_L2, drop_head hp]
    simp only [show ∀ e : BE, (toA e).f_state = (e.st : Int) from fun _ => rfl, ix_nat]
    rw [cd_f (by omega)]
theorem bfs_stop {m : Mach} {g p : Nat} {All : List BE} (h : ¬ p < All.length) : bfs m g p All = All := by
  cases g with
  | zero => rfl
  | succ g => unfold bfs; rw [if_neg h]
theorem arr_run {N : Nat} {m : Mach} (hm : MOk m) (hN : 200 ≤ N) {σ : Type} {s0 : Nat} (B : Swalks_arrival → σ → Option (Bool × σ)) (f : Nat → σ) : ∀ (g p F : Nat) (All : List BE), p + g = m.rows.length → p ≤ All.length → Inv m s0 p 0 All → g < F →
    (∀ k, p ≤ k → k < (bfs m g p All).length → B (toA ((bfs m g p All).getD k default)) (f k) = some (true, f (k + 1))) →
    walks_arrivals_1_L1 N σ B m F (f p) (seenL m.rows.length All) ((All.drop p).map toA) = some (f (bfs m g p All).length)
  | g, p, 0, All, _, _, _, hF, _ => by omega
  | g, p, F + 1, All, hg, hpl, h, hF, hB => by
    simp only [walks_arrivals_1_L1]
    by_cases hp : p < All.length
    · have hlen := inv_len h
      obtain ⟨g', rfl⟩ : ∃ g', g = g' + 1 := ⟨g - 1, by omega⟩
      have hbfs : bfs m (g' + 1) p All = bfs m g' (p + 1) (pushRow m (All.getD p default) All m.inputs.toNat) := by
        show (if p < All.length then _ else _) = _
        rw [if_pos hp]
      have hl : ((All.drop p).map toA).length = All.length - p := by simp
      have hget : (bfs m (g' + 1) p All).getD p default = All.getD p default := pre_getD (bfs_pre m _ p All) hp
      have hpl2 := (bfs_pre m (g' + 1) p All).length_le
      have hb := hB p (Nat.le_refl _) (by omega)
      rw [hget] at hb
      refine (bd_pos (x := (Ex.go (f (p + 1), seenL m.rows.length (pushRow m (All.getD p default) All m.inputs.toNat), ((pushRow m (All.getD p default) All m.inputs.toNat).drop (p + 1)).map toA) : Ex (σ × List Bool × List Swalks_arrival) σ)) ?_).trans ?_
      · rw [cd_t (by omega), gd_pos ⟨by omega, by omega⟩, gd_pos ⟨by omega, by omega, by omega⟩, drop_head hp, bd_pos (show B ⟨(toA (All.getD p default)).f_state, (toA (All.getD p default)).f_from, (toA (All.getD p default)).f_input⟩ (f p) = some (true, f (p + 1)) from hb)]
        simp only [Bool.not_true, cond_false]
        rw [gd_pos (show okI m.rows (toA (All.getD p default)).f_state from okI_nat (h.rng p hp)), drop_tail]
        exact arr_row hm hN h hp _
      · rw [on_g]
        have hpre := (pushRow_pre m (All.getD p default) All m.inputs.toNat).length_le
        rw [hbfs] at hB ⊢
        exact arr_run hm hN B f g' (p + 1) F _ (by omega) (by omega) (inv_next (inv_row hm h hp _ (Nat.le_refl _)) (by omega)) (by omega) fun k hk hk' => hB k (by omega) hk'
    · have he : p = All.length := by omega
      have hl : ((All.drop p).map toA).length = 0 := by simp; omega
      rw [cd_f (by omega), bd_s, on_r, bfs_stop hp, ← he]
/-- A range over the arrivals that is never left. -/
theorem arr_eq {N : Nat} {m : Mach} (hm : MOk m) (hN : 200 ≤ N) {σ : Type} {s0 : Nat} (hs : s0 < m.rows.length) (B : Swalks_arrival → σ → Option (Bool × σ)) (f : Nat → σ)
    (hB : ∀ k, k < (rch m s0).length → B (toA ((rch m s0).getD k default)) (f k) = some (true, f (k + 1))) : walks_arrivals_1 N m (s0 : Int) σ B (f 0) = some (f (rch m s0).length) := by
  have hr2 := hm.r2
  have hr1 := hm.r1
  unfold walks_arrivals_1
  rw [gd_pos ⟨by omega, by omega, by omega⟩, mk_nat, gd_pos (okI_nat (by rw [List.length_replicate]; exact hs)), up_nat]
  have := arr_run (N := N) hm hN B f m.rows.length 0 N [⟨s0, -1, -1, []⟩] (by omega) (Nat.zero_le _) (inv_root hs) (by omega) (fun k _ hk => hB k hk)
  have e : (List.replicate m.rows.length false).set s0 true = seenL m.rows.length [⟨s0, -1, -1, []⟩] := by
    have := seenL_set (n := m.rows.length) (All := []) (e := ⟨s0, -1, -1, []⟩) hs
    rw [List.nil_append] at this
    rw [← this]
    congr 1
    refine ext_getD (by rw [List.length_replicate, seenL_len]) fun k hk => ?_
    rw [List.length_replicate] at hk
    rw [seenL_get hk]
    simp [List.getD_eq_getElem?_getD, hk, occ]
  rw [e]
  exact this
end GV
end Go.Proofs.Ytncblcdhmcmkmaa
