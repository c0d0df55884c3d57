/- Chapter 04: what the plain programs compute, fifth part: equality, copies, machines and words of plain data. -/
import Derived.Test.YtohjnbajgbdhhaaSpec04d
namespace Go.Proofs.Ytohjnbajgbdhhaa
namespace GV
set_option linter.unusedVariables false
set_option maxRecDepth 100000

theorem equalE_eq {N : Nat} {a b : List Edge} (hN : a.length < N) (hl : a.length ≤ 4611686018427387904) : slices_Equal_api_Edge N a b = some (decide (a = b)) := by
  unfold slices_Equal_api_Edge
  by_cases h : (a.length : Int) ≠ b.length
  · rw [cd_t h, decide_eq_false (fun e => h (by rw [e]))]
  · rw [cd_f h]
    have hl' : a.length = b.length := by omega
    have hL : slices_Equal_api_Edge_L1 N a b N 0 = some (if a = b then Ex.go () else Ex.rt false) := by
      refine loop_eq (σ := Unit) (fun F k _ => slices_Equal_api_Edge_L1 N a b F (k : Int)) a.length (fun k _ => ∀ j, j < k → a.getD j default = b.getD j default) _ (fun F k _ hk hi => ?_) (fun F _ hi => ?_) N 0 () (Nat.zero_le _) (by omega) (fun j hj => by omega)
      · simp only [slices_Equal_api_Edge_L1]
        rw [cd_t (by omega), gd_pos (okI_nat hk), gd_pos (okI_nat (by omega))]
        by_cases he : a.getD k default = b.getD k default
        · right
          refine ⟨(), all_upto hi he, Eq.trans (cd_f (show ¬ ¬ ((a.getD k default).to = (b.getD k default).to ∧ (a.getD k default).out = (b.getD k default).out) from fun h => h (by rw [he]; exact ⟨rfl, rfl⟩))) ?_⟩
          rw [gd_pos (in64_of (by omega))]; rfl
        · left
          refine Eq.trans (cd_t (show ¬ ((a.getD k default).to = (b.getD k default).to ∧ (a.getD k default).out = (b.getD k default).out) from fun h => he (edge_ext h))) ?_
          rw [if_neg (fun e => he (by rw [e]))]
      · simp only [slices_Equal_api_Edge_L1]
        rw [cd_f (by omega), if_pos (ext_getD hl' hi)]
    rw [bd_pos hL]
    by_cases he : a = b
    · rw [if_pos he, decide_eq_true he]; rfl
    · rw [if_neg he, decide_eq_false he]; rfl
theorem equalF_eq {N : Nat} {a b : List (List Edge)} {f : List Edge → List Edge → Option Bool} (hf : ∀ k, k < a.length → f (a.getD k default) (b.getD k default) = some (decide (a.getD k default = b.getD k default))) (hN : a.length < N) (hl : a.length ≤ 4611686018427387904) :
    slices_EqualFunc__api_Edge N a b f = some (decide (a = b)) := by
  unfold slices_EqualFunc__api_Edge
  by_cases h : (a.length : Int) ≠ b.length
  · rw [cd_t h, decide_eq_false (fun e => h (by rw [e]))]
  · rw [cd_f h]
    have hl' : a.length = b.length := by omega
    have hL : slices_EqualFunc__api_Edge_L1 N a b f N 0 = some (if a = b then Ex.go () else Ex.rt false) := by
      refine loop_eq (σ := Unit) (fun F k _ => slices_EqualFunc__api_Edge_L1 N a b f F (k : Int)) a.length (fun k _ => ∀ j, j < k → a.getD j default = b.getD j default) _ (fun F k _ hk hi => ?_) (fun F _ hi => ?_) N 0 () (Nat.zero_le _) (by omega) (fun j hj => by omega)
      · simp only [slices_EqualFunc__api_Edge_L1]
        rw [cd_t (by omega), gd_pos (okI_nat hk), gd_pos (okI_nat (by omega))]
        refine (show _ ∨ _ from ?_)
        have hk' := hf k hk
        by_cases he : a.getD k default = b.getD k default
        · rw [decide_eq_true he] at hk'
          right
          refine ⟨(), all_upto hi he, Eq.trans (bd_pos hk') (Eq.trans (cf rfl) ?_)⟩
          rw [gd_pos (in64_of (by omega))]; rfl
        · rw [decide_eq_false he] at hk'
          left
          refine Eq.trans (bd_pos hk') (Eq.trans (ct rfl) ?_)
          rw [if_neg (fun e => he (by rw [e]))]
      · simp only [slices_EqualFunc__api_Edge_L1]
        rw [cd_f (by omega), if_pos (ext_getD hl' hi)]
    rw [bd_pos hL]
    by_cases he : a = b
    · rw [if_pos he, decide_eq_true he]; rfl
    · rw [if_neg he, decide_eq_false he]; rfl
theorem msame_eq {N : Nat} {a b : Mach} (ha : Small a) (hb : Small b) (hN : 200 ≤ N) : machines_Same N a b = some (sameR a b) := by
  unfold machines_Same sameR
  have hr := ha.r
  rw [bd_pos (check_eq ha hN), bd_gop (fun _ => check_eq hb hN), bd_gop (fun _ => equalF_eq (fun k hk => equalE_eq (by have := ha.c k hk; omega) (by have := ha.c k hk; omega)) (by omega) (by omega))]
  cases decide (checkM a = 0)
  · rfl
  · simp only [Bool.true_and, beq_true, cond_true, Option.getD_some]
    cases decide (checkM b = 0) <;> cases decide (a.inputs = b.inputs) <;> cases decide (a.outputs = b.outputs) <;> rfl
theorem rsame_eq {N : Nat} {a b : Mach} (ha : Small a) (hN : 200 ≤ N) : gauntletref04_Same N a b = some (decide (a = b)) := by
  have hr := ha.r
  unfold gauntletref04_Same
  by_cases h : (a.inputs ≠ b.inputs ∨ a.outputs ≠ b.outputs) ∨ (a.rows.length : Int) ≠ b.rows.length
  · rw [ct (by simpa only [Bool.or_eq_true, decide_eq_true_eq] using h), decide_eq_false]
    rintro rfl
    rcases h with (h | h) | h <;> exact h rfl
  · rw [cf (by simpa only [Bool.or_eq_false_iff, decide_eq_false_iff_not, not_or] using h)]
    simp only [not_or, Decidable.not_not] at h
    obtain ⟨⟨h1, h2⟩, h3⟩ := h
    have h3' : a.rows.length = b.rows.length := by omega
    have hab : (a = b) ↔ a.rows = b.rows := ⟨fun e => by rw [e], fun e => mach_eq.2 ⟨h1, h2, e⟩⟩
    have hL : gauntletref04_Same_L1 N a b N 0 = some (if a.rows = b.rows then Ex.go () else Ex.rt false) := by
      refine loop_eq (σ := Unit) (fun F k _ => gauntletref04_Same_L1 N a b F (k : Int)) a.rows.length (fun k _ => ∀ j, j < k → a.rows.getD j default = b.rows.getD j default) _ (fun F k _ hk hi => ?_) (fun F _ hi => ?_) N 0 () (Nat.zero_le _) (by omega) (fun j hj => by omega)
      · have hc := ha.c k hk
        have hin : (bd (gd (okI a.rows (k : Int)) <| gd (okI b.rows (k : Int)) <| bif decide (((ix a.rows (k : Int)).length : Int) ≠ ((ix b.rows (k : Int)).length : Int)) then (some (Ex.rt (Ex.rt false))) else gauntletref04_Same_L2 N a b (k : Int) N 0) fun q68 => Ex.on q68 (fun o67 => gd (in64 ((k : Int) + 1)) <| gauntletref04_Same_L1 N a b F ((k : Int) + 1)) some) =
            if a.rows.getD k default = b.rows.getD k default then gauntletref04_Same_L1 N a b F ((k + 1 : Nat) : Int) else some (Ex.rt false) := by
          rw [gd_pos (okI_nat hk), gd_pos (okI_nat (by omega))]
          by_cases h4 : ((ix a.rows (k : Int)).length : Int) ≠ ((ix b.rows (k : Int)).length : Int)
          · rw [if_neg (show ¬ a.rows.getD k default = b.rows.getD k default from fun e => h4 (congrArg (fun l : List Edge => (l.length : Int)) e))]
            exact Eq.trans (bd_pos (x := Ex.rt (Ex.rt false)) (cd_t h4)) rfl
          · have h4' : (a.rows.getD k default).length = (b.rows.getD k default).length := by
              have : ((ix a.rows (k : Int)).length : Int) = ((ix b.rows (k : Int)).length : Int) := Decidable.of_not_not h4
              exact Int.ofNat.inj this
            have hL2 : gauntletref04_Same_L2 N a b (k : Int) N 0 = some (if a.rows.getD k default = b.rows.getD k default then Ex.go () else Ex.rt (Ex.rt false)) := by
              refine loop_eq (σ := Unit) (fun G i _ => gauntletref04_Same_L2 N a b (k : Int) G (i : Int)) (a.rows.getD k default).length (fun i _ => ∀ j, j < i → (a.rows.getD k default).getD j default = (b.rows.getD k default).getD j default) _ (fun G i _ hi' hq => ?_) (fun G _ hq => ?_) N 0 () (Nat.zero_le _) (by omega) (fun j hj => by omega)
              · simp only [gauntletref04_Same_L2]
                rw [gd_pos (okI_nat hk)]
                refine (show _ ∨ _ from ?_)
                have hi2 : (i : Int) < ((ix a.rows (k : Int)).length : Int) := Int.ofNat_lt.2 hi'
                rw [cd_t hi2, gd_pos (okI_nat hk), gd_pos (show okI (ix a.rows (k : Int)) (i : Int) from okI_nat hi'), gd_pos (okI_nat (by omega)), gd_pos (show okI (ix b.rows (k : Int)) (i : Int) from okI_nat (show i < (b.rows.getD k default).length by omega))]
                by_cases he : (a.rows.getD k default).getD i default = (b.rows.getD k default).getD i default
                · right
                  refine ⟨(), all_upto hq he, Eq.trans (cd_f (fun h => h (show ((a.rows.getD k default).getD i default).to = ((b.rows.getD k default).getD i default).to ∧ ((a.rows.getD k default).getD i default).out = ((b.rows.getD k default).getD i default).out by rw [he]; exact ⟨rfl, rfl⟩))) ?_⟩
                  rw [gd_pos (in64_of (by omega))]; rfl
                · left
                  refine Eq.trans (cd_t (fun h => he (edge_ext h))) ?_
                  rw [if_neg (fun e => he (by rw [e]))]
              · simp only [gauntletref04_Same_L2]
                have hi2 : ¬ ((((a.rows.getD k default).length : Nat) : Int) < ((ix a.rows (k : Int)).length : Int)) := Int.lt_irrefl _
                rw [gd_pos (okI_nat hk), cd_f hi2, if_pos (ext_getD h4' hq)]
            refine Eq.trans (bd_pos (Eq.trans (cd_f h4) hL2)) ?_
            by_cases he : a.rows.getD k default = b.rows.getD k default
            · rw [if_pos he, if_pos he, on_g, gd_pos (in64_of (by omega))]; rfl
            · rw [if_neg he, if_neg he]; rfl
        simp only [gauntletref04_Same_L1]
        rw [cd_t (by omega), hin]
        by_cases he : a.rows.getD k default = b.rows.getD k default
        · right; exact ⟨(), all_upto hi he, if_pos he⟩
        · left; rw [if_neg he, if_neg (fun e => he (by rw [e]))]
      · simp only [gauntletref04_Same_L1]
        rw [cd_f (by omega), if_pos (ext_getD h3' hi)]
    rw [bd_pos hL]
    by_cases he : a.rows = b.rows
    · rw [if_pos he, decide_eq_true (hab.2 he)]; rfl
    · rw [if_neg he, decide_eq_false (fun e => he (hab.1 e))]; rfl
/-! ### Data -/
theorem row_eq {N : Nat} {x : MDat} (hx : MDOk x) (hN : 200 ≤ N) {s : Nat} (hs : s < 6) : gauntletlaw04_M_Of_L2 N x (s : Int) N [] 0 = some (rowM x s) := by
  have h1 := hx.st; have h2 := hx.ins; have h3 := hx.outs
  have hinp : x.inp = 1 + x.ins % 3 := rfl
  refine loop_eq (fun F i acc => gauntletlaw04_M_Of_L2 N x (s : Int) F acc (i : Int)) x.inp.toNat (fun i acc => acc = (List.range i).map (edgeM x s)) _ (fun F i acc hi hacc => .inr ?_) (fun F acc hacc => ?_) N 0 [] (Nat.zero_le _) (by omega) rfl
  · subst hacc
    refine ⟨_, rfl, ?_⟩
    have hm := mul_small (k := s) (a := x.inp) (by omega) (by omega)
    have he : (s : Int) * ((1 : Int) + x.ins % 3) + (i : Int) = ((s * x.inp.toNat + i : Nat) : Int) := by
      rw [← hinp, hm.2.2]; rfl
    have hnum := hx.num (s * x.inp.toNat + i)
    simp only [gauntletlaw04_M_Of_L2]
    rw [cd_t (by omega)]
    have hv : (gd (in64 ((s : Int) * ((1 : Int) + (x.ins % 3)))) <| gd (in64 (((s : Int) * ((1 : Int) + (x.ins % 3))) + (i : Int))) <| bif decide (((s : Int) * ((1 : Int) + (x.ins % 3))) + (i : Int) < (x.edges.length : Int)) then (gd (okI x.edges (((s : Int) * ((1 : Int) + (x.ins % 3))) + (i : Int))) <| gd (in64 (ix x.edges (((s : Int) * ((1 : Int) + (x.ins % 3))) + (i : Int)))) <| some (ix x.edges (((s : Int) * ((1 : Int) + (x.ins % 3))) + (i : Int)))) else (some (0 : Int))) = some (x.num (s * x.inp.toNat + i)) := by
      rw [gd_pos (in64_of (by rw [← hinp]; omega)), he, gd_pos (in64_of (by omega))]
      unfold MDat.num
      by_cases hk : s * x.inp.toNat + i < x.edges.length
      · have hed := hx.ed _ hk
        rw [cd_t (by omega), if_pos hk, gd_pos (okI_nat hk), gd_pos (show in64 (ix x.edges ((s * x.inp.toNat + i : Nat) : Int)) from in64_of (show -4611686018427387904 ≤ x.edges.getD (s * x.inp.toNat + i) default ∧ x.edges.getD (s * x.inp.toNat + i) default ≤ 4611686018427387904 by omega))]; rfl
      · rw [cd_f (by omega), if_neg hk]
    have hacc : ((List.range i).map (edgeM x s)).length = i := by simp
    refine Eq.trans (bd_pos (x := (List.range (i + 1)).map (edgeM x s)) (Eq.trans (bd_pos hv) ?_)) ?_
    · rw [gd_pos (fun _ => ⟨hnum.1, by omega⟩), range_snoc]
      by_cases hp : x.part = true ∧ x.num (s * x.inp.toNat + i) % 4 = 3
      · rw [ct (by rw [hp.1, decide_eq_true hp.2]; rfl), gd_pos ⟨by rw [hacc]; simp; omega, by rw [hacc]; simp; omega⟩, edgeM_t rfl hp]
      · have hst : x.n = 1 + x.states % 6 := rfl
        have hot : x.out = 1 + x.outs % 3 := rfl
        have hd : 0 ≤ x.num (s * x.inp.toNat + i) / 4 := by omega
        have hd2 : 0 ≤ x.num (s * x.inp.toNat + i) / 4 / x.n := Int.ediv_nonneg hd (by omega)
        rw [cf (by rw [Bool.and_eq_false_iff]
                   by_cases h : x.part = true
                   · exact .inr (decide_eq_false fun h' => hp ⟨h, h'⟩)
                   · exact .inl (by simpa using h)), ← hst, ← hot, gd_pos ⟨by omega, by omega, by omega⟩, gd_pos ⟨hd, by omega⟩, gd_pos ⟨by omega, by omega, by omega⟩, gd_pos ⟨hd, by omega, by omega⟩, gd_pos ⟨hd2, by omega⟩, gd_pos ⟨by rw [hacc]; simp; omega, by rw [hacc]; simp; omega⟩, edgeM_f rfl (fun h h' => hp ⟨h, h'⟩)]
    · rw [gd_pos (in64_of (by omega))]; rfl
  · subst hacc
    simp only [gauntletlaw04_M_Of_L2]
    rw [cd_f (by omega)]; rfl
theorem mof_eq {N : Nat} {x : MDat} (hx : MDOk x) (hN : 200 ≤ N) : gauntletlaw04_M_Of N x = some (mOf x) := by
  have h1 := hx.st; have h2 := hx.ins; have h3 := hx.outs
  have hst : x.n = 1 + x.states % 6 := rfl
  unfold gauntletlaw04_M_Of
  rw [gd_pos ⟨by omega, by omega⟩, gd_pos (in64_of (by omega)), gd_pos (in64_of (by omega)), gd_pos ⟨by omega, by omega⟩, gd_pos (in64_of (by omega)), gd_pos (in64_of (by omega)), gd_pos ⟨by omega, by omega⟩, gd_pos (in64_of (by omega)), gd_pos (in64_of (by omega))]
  refine Eq.trans (bd_pos (x := (List.range x.n.toNat).map (rowM x)) ?_) rfl
  refine loop_eq (fun F s acc => gauntletlaw04_M_Of_L1 N x F (s : Int) acc) x.n.toNat (fun s acc => acc = (List.range s).map (rowM x)) _ (fun F s acc hs hacc => .inr ?_) (fun F acc hacc => ?_) N 0 [] (Nat.zero_le _) (by omega) rfl
  · subst hacc
    refine ⟨_, rfl, ?_⟩
    simp only [gauntletlaw04_M_Of_L1]
    rw [cd_t (by omega), bd_pos (row_eq hx hN (by omega)), gd_pos ⟨by simp; omega, by simp; omega⟩, gd_pos (in64_of (by omega)), range_snoc]; rfl
  · subst hacc
    simp only [gauntletlaw04_M_Of_L1]
    rw [cd_f (by omega)]
theorem wof_eq {N : Nat} {x : WDat} (hx : WDOk x) {n : Int} (hn : 1 ≤ n) (hN : 200 ≤ N) : gauntletlaw01_W_Of N x n = some (wOf x n) := by
  unfold gauntletlaw01_W_Of
  refine Eq.trans (bd_pos (x := wOf x n) ?_) rfl
  refine loop_eq (fun F k acc => gauntletlaw01_W_Of_L1 N x n F acc (k : Int)) (min x.syms.length 12) (fun k acc => acc = (x.syms.take k).map (· % n)) _ (fun F k acc hk hacc => .inr ?_) (fun F acc hacc => ?_) N 0 [] (Nat.zero_le _) (by omega) (by simp)
  · subst hacc
    have hk' : k < x.syms.length := by omega
    have hsy := hx.sy k hk'
    refine ⟨_, rfl, ?_⟩
    simp only [gauntletlaw01_W_Of_L1]
    rw [ct (by simp; omega), gd_pos (okI_nat hk'), gd_pos (show in64 (ix x.syms (k : Int)) from in64_of (show -4611686018427387904 ≤ x.syms.getD k default ∧ x.syms.getD k default ≤ 4611686018427387904 by omega)), gd_pos (show okR (ix x.syms (k : Int)) n from ⟨hsy.1, by omega⟩), gd_pos ⟨by simp; omega, by simp; omega⟩, gd_pos (in64_of (by omega)), wOf_take hk']; rfl
  · subst hacc
    simp only [gauntletlaw01_W_Of_L1]
    rw [cf (by simp; omega), wOf_end (by omega) (by omega) (by omega)]
theorem join_eq {N : Nat} {a b : List Int} (ha : a.length ≤ 100) (hb : b.length ≤ 100) (hN : 200 ≤ N) : gauntletref01_Join N a b = some (a ++ b) := by
  unfold gauntletref01_Join
  have hL1 : gauntletref01_Join_L1 N a N [] 0 = some a := by
    refine loop_eq (fun F k acc => gauntletref01_Join_L1 N a F acc (k : Int)) a.length (fun k acc => acc = a.take k) _ (fun F k acc hk hacc => .inr ?_) (fun F acc hacc => ?_) N 0 [] (Nat.zero_le _) (by omega) (by simp)
    · subst hacc
      refine ⟨_, rfl, ?_⟩
      simp only [gauntletref01_Join_L1]
      rw [cd_t (by omega), gd_pos (okI_nat hk), gd_pos ⟨by simp; omega, by simp; omega⟩, gd_pos (in64_of (by omega)), take_snoc a k hk]; rfl
    · subst hacc
      simp only [gauntletref01_Join_L1]
      rw [cd_f (by omega), List.take_length]
  have hL2 : gauntletref01_Join_L2 N b N 0 a = some (a ++ b) := by
    refine loop_eq (fun F k acc => gauntletref01_Join_L2 N b F (k : Int) acc) b.length (fun k acc => acc = a ++ b.take k) _ (fun F k acc hk hacc => .inr ?_) (fun F acc hacc => ?_) N 0 a (Nat.zero_le _) (by omega) (by simp)
    · subst hacc
      refine ⟨_, rfl, ?_⟩
      simp only [gauntletref01_Join_L2]
      rw [cd_t (by omega), gd_pos (okI_nat hk), gd_pos ⟨by simp; omega, by simp; omega⟩, gd_pos (in64_of (by omega)), take_snoc b k hk, ← List.append_assoc]; rfl
    · subst hacc
      simp only [gauntletref01_Join_L2]
      rw [cd_f (by omega), List.take_length]
  rw [bd_pos hL1, bd_pos hL2]
end GV
end Go.Proofs.Ytohjnbajgbdhhaa
