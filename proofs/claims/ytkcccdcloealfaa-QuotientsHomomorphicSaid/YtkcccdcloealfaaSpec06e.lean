
import Derived.Test.YtkcccdcloealfaaBfs06
import Derived.Test.YtkcccdcloealfaaSpec06a
set_option linter.unusedVariables false
set_option linter.unusedSimpArgs false
namespace Go.Proofs.Ytkcccdcloealfaa
namespace GV
set_option maxRecDepth 100000
def toA (e : BE) : Swalks_arrival := ⟨(e.st : Int), e.par, e.inp⟩
def z5l (n : Nat) (All : List BE) : List Bool := (List.range n).map fun s => occ All s
theorem z2r (n : Nat) (All : List BE) : (z5l n All).length = n := by simp [z5l]
theorem z9c {n : Nat} {All : List BE} {t : Nat} (h : t < n) : (z5l n All).getD t default = occ All t := by
  simp [z5l, List.getD_eq_getElem?_getD, h]
theorem zi6 (All : List BE) (e : BE) (t : Nat) : occ (All ++ [e]) t = (occ All t || decide (e.st = t)) := by simp [occ]
theorem zg0 {n : Nat} {All : List BE} {e : BE} (h : e.st < n) : (z5l n All).set e.st true = z5l n (All ++ [e]) := by
  refine rz (by rw [List.length_set, z2r, z2r]) fun k hk => ?_
  rw [List.length_set, z2r] at hk
  rw [z9c hk, zi6, List.getD_eq_getElem?_getD, List.getElem?_set]
  by_cases hek : e.st = k
  · subst hek
    rw [if_pos rfl, z2r, if_pos h]; simp
  · rw [if_neg hek, ← List.getD_eq_getElem?_getD, z9c hk]; simp [hek]
theorem zsb {n : Nat} {All : List BE} {t : Int} (h0 : 0 ≤ t) (h : t < n) : ix (z5l n All) t = occ All t.toNat := by
  rw [zha, z9c (by omega)]
theorem zcc {All : List BE} {p : Nat} (hp : p < All.length) : ix ((All.drop p).map toA) 0 = toA (All.getD p default) := by
  rw [z5z All p hp]; rfl
theorem zo0 {All : List BE} {p : Nat} : cut ((All.drop p).map toA) 1 (((All.drop p).map toA).length : Int) = (All.drop (p + 1)).map toA := by
  unfold cut
  rw [Int.toNat_natCast, show (1 : Int).toNat = 1 from rfl, ← List.map_drop, List.drop_drop, List.take_of_length_le (by simp only [List.length_map, List.length_drop]; omega)]
theorem ztb {N : Nat} {m : Mach} (hm : MOk m) (hN : 200 ≤ N) {σ : Type} {s0 p : Nat} {All : List BE} (h : Inv m s0 p 0 All) (hp : p < All.length) (s : σ) :
    xm N σ m ((All.drop p).map toA) N s 0 (z5l m.rows.length All) ((All.drop (p + 1)).map toA) = some (.go (s, z5l m.rows.length (gy m (All.getD p default) All m.inputs.toNat), ((gy m (All.getD p default) All m.inputs.toNat).drop (p + 1)).map toA)) := by
  have hi1 := hm.i1
  have hi2 := hm.i2
  have hx := h.rng p hp
  have hrow := hm.row _ hx
  refine xc (σ := List Bool × List Swalks_arrival) (fun F k st => xm N σ m ((All.drop p).map toA) F s (k : Int) st.1 st.2) m.inputs.toNat
    (fun k st => st = (z5l m.rows.length (gy m (All.getD p default) All k), ((gy m (All.getD p default) All k).drop (p + 1)).map toA)) _ (fun F k st hk hi => ?_) (fun F st hi => ?_) N 0 _ (Nat.zero_le _) (by omega) rfl
  · subst hi
    right
    refine ⟨_, rfl, ?_⟩
    have hinv := zbh hm h hp k (by omega)
    have hpre := z0o m (All.getD p default) All k
    have hpl : p < (gy m (All.getD p default) All k).length := by have := hpre.length_le; omega
    have hlen := z92 hinv
    have hr2 := hm.r2
    simp only [xm, zcc hp]
    simp only [show ∀ e : BE, (toA e).f_state = (e.st : Int) from fun _ => rfl, si]
    rw [dn (by omega)]
    refine (qf (x := (s, z5l m.rows.length (gy m (All.getD p default) All (k + 1)), ((gy m (All.getD p default) All (k + 1)).drop (p + 1)).map toA)) ?_).trans ?_
    · rw [zu (j5 (by omega))]
      have hed : ((m.rows.getD (All.getD p default).st default).getD k default).to = ed m (All.getD p default).st k := rfl
      rw [hed]
      have hok := z14 hm hx hk
      have hps : gy m (All.getD p default) All (k + 1) = push m (All.getD p default) (gy m (All.getD p default) All k) k := rfl
      rw [hps]
      unfold push
      by_cases h1 : ed m (All.getD p default).st k = -1
      · rw [if_pos h1, zu (by rw [h1]; simp), h1]; rfl
      · obtain ⟨h2, h3⟩ := hok.resolve_left h1
        rw [if_neg h1, zu (fun _ => ⟨h2, by rw [z2r]; exact h3⟩), zsb h2 h3]
        by_cases h4 : occ (gy m (All.getD p default) All k) (ed m (All.getD p default).st k).toNat = true
        · rw [if_pos h4, h4]
          rw [cf (by simp)]
        · have h4' := Bool.eq_false_iff.2 h4
          have hfit : fits 24 (((gy m (All.getD p default) All k).drop (p + 1)).map toA) ([⟨ed m (All.getD p default).st k, ((All.getD p default).st : Int), (k : Int)⟩] : List Swalks_arrival) := by
            have : (((gy m (All.getD p default) All k).drop (p + 1)).map toA).length ≤ 64 := by rw [List.length_map, List.length_drop]; omega
            exact ⟨by simp only [List.length_singleton]; omega, by simp only [List.length_singleton]; omega⟩
          have e2 : ((gy m (All.getD p default) All k).drop (p + 1)).map toA ++ [(⟨ed m (All.getD p default).st k, ((All.getD p default).st : Int), (k : Int)⟩ : Swalks_arrival)] = ((gy m (All.getD p default) All k ++ [(⟨(ed m (All.getD p default).st k).toNat, ((All.getD p default).st : Int), (k : Int), (All.getD p default).wd ++ [(k : Int)]⟩ : BE)]).drop (p + 1)).map toA := by
            rw [List.drop_append_of_le_length (by omega), List.map_append]
            congr 1
            show [_] = [_]
            simp only [toA, Int.toNat_of_nonneg h2]
          rw [if_neg h4, ct (by rw [decide_eq_true h1, h4']; rfl), zu ⟨h2, by rw [z2r]; exact h3⟩, zu hfit]
          exact congrArg some (Prod.ext rfl (Prod.ext (zg0 (e := ⟨(ed m (All.getD p default).st k).toNat, ((All.getD p default).st : Int), (k : Int), (All.getD p default).wd ++ [(k : Int)]⟩) (by show (ed m _ _).toNat < _; omega)) e2))
    · rw [zu (jg (by omega))]; rfl
  · subst hi
    simp only [xm, zcc hp]
    simp only [show ∀ e : BE, (toA e).f_state = (e.st : Int) from fun _ => rfl, si]
    rw [xw (by omega)]
theorem z8q {m : Mach} {g p : Nat} {All : List BE} (h : ¬ p < All.length) : bfs m g p All = All := by
  cases g with
  | zero => rfl
  | succ g => unfold bfs; rw [if_neg h]
theorem zm2 {N : Nat} {m : Mach} (hm : MOk m) (hN : 200 ≤ N) {σ : Type} {s0 : Nat} (B : Swalks_arrival → σ → Option (Bool × σ)) (f : Nat → σ) : ∀ (g p F : Nat) (All : List BE), p + g = m.rows.length → p ≤ All.length → Inv m s0 p 0 All → g < F →
    (∀ k, p ≤ k → k < (bfs m g p All).length → B (toA ((bfs m g p All).getD k default)) (f k) = some (true, f (k + 1))) →
    df N σ B m F (f p) (z5l m.rows.length All) ((All.drop p).map toA) = some (f (bfs m g p All).length)
  | g, p, 0, All, _, _, _, hF, _ => by omega
  | g, p, F + 1, All, hg, hpl, h, hF, hB => by
    simp only [df]
    by_cases hp : p < All.length
    · have hlen := z92 h
      obtain ⟨g', rfl⟩ : ∃ g', g = g' + 1 := ⟨g - 1, by omega⟩
      have hbfs : bfs m (g' + 1) p All = bfs m g' (p + 1) (gy m (All.getD p default) All m.inputs.toNat) := by
        show (if p < All.length then _ else _) = _
        rw [if_pos hp]
      have hl : ((All.drop p).map toA).length = All.length - p := by simp
      have hget : (bfs m (g' + 1) p All).getD p default = All.getD p default := zib (zhc m _ p All) hp
      have hpl2 := (zhc m (g' + 1) p All).length_le
      have hb := hB p (Nat.le_refl _) (by omega)
      rw [hget] at hb
      refine (qf (x := (Ex.go (f (p + 1), z5l m.rows.length (gy m (All.getD p default) All m.inputs.toNat), ((gy m (All.getD p default) All m.inputs.toNat).drop (p + 1)).map toA) : Ex (σ × List Bool × List Swalks_arrival) σ)) ?_).trans ?_
      · rw [dn (by omega), zu ⟨by omega, by omega⟩, zu ⟨by omega, by omega, by omega⟩, zcc hp, qf (show B ⟨(toA (All.getD p default)).f_state, (toA (All.getD p default)).f_from, (toA (All.getD p default)).f_input⟩ (f p) = some (true, f (p + 1)) from hb)]
        simp only [Bool.not_true, cond_false]
        rw [zu (show okI m.rows (toA (All.getD p default)).f_state from j5 (h.rng p hp)), zo0]
        exact ztb hm hN h hp _
      · rw [zs6]
        have hpre := (z0o m (All.getD p default) All m.inputs.toNat).length_le
        rw [hbfs] at hB ⊢
        exact zm2 hm hN B f g' (p + 1) F _ (by omega) (by omega) (zf4 (zbh hm h hp _ (Nat.le_refl _)) (by omega)) (by omega) fun k hk hk' => hB k (by omega) hk'
    · have he : p = All.length := by omega
      have hl : ((All.drop p).map toA).length = 0 := by simp; omega
      rw [xw (by omega), ztz, zxn, z8q hp, ← he]
theorem zu6 {N : Nat} {m : Mach} (hm : MOk m) (hN : 200 ≤ N) {σ : Type} {s0 : Nat} (hs : s0 < m.rows.length) (B : Swalks_arrival → σ → Option (Bool × σ)) (f : Nat → σ)
    (hB : ∀ k, k < (rch m s0).length → B (toA ((rch m s0).getD k default)) (f k) = some (true, f (k + 1))) : av N m (s0 : Int) σ B (f 0) = some (f (rch m s0).length) := by
  have hr2 := hm.r2
  have hr1 := hm.r1
  unfold av
  rw [zu ⟨by omega, by omega, by omega⟩, z88, zu (j5 (by rw [List.length_replicate]; exact hs)), z6v]
  have := zm2 (N := N) hm hN B f m.rows.length 0 N [⟨s0, -1, -1, []⟩] (by omega) (Nat.zero_le _) (zdr hs) (by omega) (fun k _ hk => hB k hk)
  have e : (List.replicate m.rows.length false).set s0 true = z5l m.rows.length [⟨s0, -1, -1, []⟩] := by
    have := zg0 (n := m.rows.length) (All := []) (e := ⟨s0, -1, -1, []⟩) hs
    rw [List.nil_append] at this
    rw [← this]
    congr 1
    refine rz (by rw [List.length_replicate, z2r]) fun k hk => ?_
    rw [List.length_replicate] at hk
    rw [z9c hk]
    simp [List.getD_eq_getElem?_getD, hk, occ]
  rw [e]
  exact this
end GV
end Go.Proofs.Ytkcccdcloealfaa

namespace Go.Proofs.Ytkcccdcloealfaa
namespace GV
set_option maxRecDepth 100000
def wdOf (P : List BE) (t : Nat) : List Int := ((P.find? fun e => decide (e.st = t)).map (·.wd)).getD []
theorem zom (P : List BE) (e : BE) (t : Nat) : wdOf (P ++ [e]) t = if occ P t = true then wdOf P t else if e.st = t then e.wd else [] := by
  unfold wdOf occ
  rw [List.find?_append]
  by_cases h : (P.any fun e => decide (e.st = t)) = true
  · rw [if_pos h]
    obtain ⟨x, hx, hp⟩ := List.any_eq_true.1 h
    cases hf : P.find? (fun e => decide (e.st = t)) with
    | none => exact absurd hp (by simpa using List.find?_eq_none.1 hf x hx)
    | some y => rfl
  · rw [if_neg h]
    have hn : P.find? (fun e => decide (e.st = t)) = none := List.find?_eq_none.2 fun x hx hp => h (List.any_eq_true.2 ⟨x, hx, hp⟩)
    rw [hn]
    by_cases he : e.st = t
    · simp [he]
    · simp [he]
theorem z9z (P : List BE) (k : Nat) (h : k < P.length) : P.take (k + 1) = P.take k ++ [P.getD k default] := by
  rw [List.take_add_one]; simp [List.getD_eq_getElem?_getD, h]
section rch
variable {m : Mach} {s0 : Nat} {P : List BE}
theorem Rch.find (h : Rch m s0 P) {j : Nat} : ∀ k, k ≤ P.length → j < k → wdOf (P.take k) (P.getD j default).st = (P.getD j default).wd
  | 0, _, hj => by omega
  | k + 1, hk, hj => by
    rw [z9z P k (by omega), zom]
    by_cases e : j = k
    · subst e
      have ho : occ (P.take j) (P.getD j default).st = false := by
        cases hc : occ (P.take j) (P.getD j default).st with
        | false => rfl
        | true =>
          obtain ⟨i, hi, he⟩ := z0i.1 hc
          rw [List.length_take] at hi
          have hg : (P.take j).getD i default = P.getD i default := by simp only [List.getD_eq_getElem?_getD, List.getElem?_take, if_pos (show i < j by omega)]
          rw [hg] at he
          have := h.dis i j (by omega) (by omega) he
          omega
      rw [ho, if_neg (by decide), if_pos rfl]
    · have ih := Rch.find h k (by omega) (show j < k by omega)
      have ho : occ (P.take k) (P.getD j default).st = true := z0i.2 ⟨j, by rw [List.length_take]; omega, by simp only [List.getD_eq_getElem?_getD, List.getElem?_take, if_pos (show j < k by omega)]⟩
      rw [if_pos ho, ih]
theorem Rch.fresh (h : Rch m s0 P) {k : Nat} (hk : k < P.length) : occ (P.take k) (P.getD k default).st = false := by
  cases hc : occ (P.take k) (P.getD k default).st with
  | false => rfl
  | true =>
    obtain ⟨i, hi, he⟩ := z0i.1 hc
    rw [List.length_take] at hi
    have hg : (P.take k).getD i default = P.getD i default := by simp only [List.getD_eq_getElem?_getD, List.getElem?_take, if_pos (show i < k by omega)]
    rw [hg] at he
    have := h.dis i k (by omega) hk he
    omega
theorem Rch.wdOf (h : Rch m s0 P) {j : Nat} (hj : j < P.length) : wdOf P (P.getD j default).st = (P.getD j default).wd := by
  have := h.find P.length (Nat.le_refl _) hj
  rwa [List.take_length] at this
end rch
theorem zgv {N : Nat} {s : List Int} : ow N s = some s := by
  unfold ow
  rw [zu (zms s), zlx]
end GV
end Go.Proofs.Ytkcccdcloealfaa

namespace Go.Proofs.Ytkcccdcloealfaa
namespace GV
set_option maxRecDepth 100000
end GV
end Go.Proofs.Ytkcccdcloealfaa

namespace Go.Proofs.Ytkcccdcloealfaa
namespace GV
set_option maxRecDepth 100000
theorem z5s {N : Nat} {m : Mach} (hm : MOk m) (hN : 200 ≤ N) : uw N m = some 0 := by rw [zbc hm.small hN, (z7e m).2 hm]
def z3c (P : List BE) : List Int := P.map fun e => (e.st : Int)
theorem z5o {N : Nat} {m : Mach} (hm : MOk m) (hN : 200 ≤ N) : ai N m = some (z3c (rch m 0)) := by
  have hr1 := hm.r1
  have hr2 := hm.r2
  have hP := zar hm (s0 := 0) (by omega)
  generalize hPe : rch m 0 = P at hP ⊢
  have hple := hP.le
  unfold ai
  rw [qf (show z1y N m 0 = some (m, 0) from rfl)]
  have key := zu6 (N := N) hm hN (s0 := 0) (by omega) (σ := List Int) (fun y22 x23 =>
    gd (fits 8 x23 ([y22.f_state] : List Int)) <|
    some (true, (x23 ++ ([y22.f_state] : List Int)))) (fun k => z3c (P.take k)) (fun k hk => ?_)
  · rw [qf (show av N m 0 (List Int) _ ([] : List Int) = _ from key), hPe, List.take_length]
  · rw [hPe] at hk ⊢
    have hfit : fits 8 (z3c (P.take k)) ([((P.getD k default).st : Int)] : List Int) := by
      have : (z3c (P.take k)).length ≤ 64 := by unfold z3c; rw [List.length_map, List.length_take]; omega
      exact ⟨by simp only [List.length_singleton]; omega, by simp only [List.length_singleton]; omega⟩
    show gd (fits 8 (z3c (P.take k)) ([((P.getD k default).st : Int)] : List Int)) (some (true, (z3c (P.take k) ++ ([((P.getD k default).st : Int)] : List Int)))) = _
    rw [zu hfit, z9z P k hk]
    unfold z3c
    rw [List.map_append]; rfl
theorem znq {N : Nat} {l : List Int} (hN : l.length < N) (hl : l.length ≤ 1000000) {σ : Type} (B : Int → σ → Option (Bool × σ)) (f : Nat → σ) (hB : ∀ k, k < l.length → B (l.getD k default) (f k) = some (true, f (k + 1))) : oz N l σ B (f 0) = some (f l.length) := by
  unfold oz
  refine xc (σ := σ) (fun F k s => yu N σ B l F s (k : Int)) l.length (fun k s => s = f k) _ (fun F k s hk hi => ?_) (fun F s hi => ?_) N 0 (f 0) (Nat.zero_le _) (by omega) rfl
  · subst hi
    right
    refine ⟨_, rfl, ?_⟩
    simp only [yu]
    rw [dn (by omega), zu (j5 hk), si]
    refine (qf (hB k hk)).trans ?_
    refine (cf (b := !(true, f (k + 1)).1) rfl).trans ?_
    exact zu (jg (by omega))
  · subst hi
    simp only [yu]
    rw [xw (by omega)]
theorem zod {N : Nat} {s l : List Int} (hN : l.length < N) (hl : s.length + l.length ≤ 1000000) : p8 N s l = some (s ++ l) := by
  unfold p8
  have key := znq (N := N) hN (by omega) (fun y5 x6 =>
    gd (fits 8 x6 ([y5] : List Int)) <|
    some (true, (x6 ++ ([y5] : List Int)))) (fun k => s ++ l.take k) (fun k hk => ?_)
  · rw [List.take_zero, List.append_nil, List.take_length] at key
    rw [qf key]
  · have hfit : fits 8 (s ++ l.take k) ([l.getD k default] : List Int) := by
      have : (s ++ l.take k).length ≤ 1000000 := by rw [List.length_append, List.length_take]; omega
      exact ⟨by simp only [List.length_singleton]; omega, by simp only [List.length_singleton]; omega⟩
    rw [zu hfit, z95 l k hk, List.append_assoc]
theorem zn6 {N : Nat} {l : List Int} (hN : l.length < N) (h0 : 0 < l.length) (hl : l.length ≤ 1000000) : l6 N l = some (z10 l) := by
  unfold l6 l5
  rw [qf (show (bd (p8 N [] l) fun y2 => some y2) = some l from by rw [qf (zod hN (by simp; omega))]; rfl)]
  unfold slices_Sort_int
  rw [zu ⟨h0, by omega⟩]; rfl
theorem zqf {N : Nat} {m : Mach} (hm : MOk m) (hN : 200 ≤ N) : z1r N m = some (z10 (z3c (rch m 0)), 0) := by
  have hr1 := hm.r1
  have hr2 := hm.r2
  have hP := zar hm (s0 := 0) (by omega)
  have h1 : (z3c (rch m 0)).length = (rch m 0).length := by simp [z3c]
  have hle := hP.le
  have hpos := hP.pos
  unfold z1r
  rw [qf (z5s hm hN), xw (by simp), qf (z5o hm hN), qf (show z0g N _ = some _ from rfl), qf (zn6 (by omega) (by omega) (by omega)), qf zgv]
def ztd (n : Nat) (P : List BE) : List Int := ((List.range n).filter fun s => occ P s).map fun s => ((s : Nat) : Int)
theorem zkh (n : Nat) (P : List BE) : (ztd n P).Pairwise (· ≤ ·) := by
  unfold ztd
  rw [List.pairwise_map]
  exact ((List.pairwise_lt_range (n := n)).filter _).imp fun h => by omega
theorem zrf {m : Mach} {s0 : Nat} {P : List BE} (h : Rch m s0 P) : z10 (z3c P) = ztd m.rows.length P := by
  refine z4w ((zac _).trans ?_) (zbf _) (zkh _ _)
  unfold z3c ztd
  have e : (P.map fun e => (e.st : Int)) = (P.map (·.st)).map fun s => ((s : Nat) : Int) := by rw [List.map_map]; rfl
  rw [e]
  refine List.Perm.map _ ?_
  have hnd : (P.map (·.st)).Nodup := by
    rw [List.nodup_iff_pairwise_ne, List.pairwise_iff_getElem]
    intro i j hi hj hij e
    rw [List.length_map] at hi hj
    rw [List.getElem_map, List.getElem_map] at e
    have := h.dis i j hi hj (by simpa [List.getD_eq_getElem?_getD, hj, hi] using e)
    omega
  have hnd2 : ((List.range m.rows.length).filter fun s => occ P s).Nodup := List.Pairwise.filter _ List.nodup_range
  rw [List.perm_ext_iff_of_nodup hnd hnd2]
  intro a
  rw [List.mem_map, List.mem_filter, List.mem_range, z0i]
  constructor
  · rintro ⟨x, hx, rfl⟩
    obtain ⟨j, hj, rfl⟩ := List.mem_iff_getElem.1 hx
    have hg : P.getD j default = P[j] := by simp [List.getD_eq_getElem?_getD, hj]
    exact ⟨by rw [← hg]; exact h.rng j hj, j, hj, by rw [hg]⟩
  · rintro ⟨_, j, hj, rfl⟩
    exact ⟨_, oh hj, rfl⟩
end GV
end Go.Proofs.Ytkcccdcloealfaa
