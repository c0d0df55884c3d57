
import Derived.Test.YtkcccdcloealfaaGreatBfs06
import Derived.Test.YtkcccdcloealfaaGreatSpec06a
set_option linter.unusedVariables false
set_option linter.unusedSimpArgs false
namespace Go.Proofs.YtkcccdcloealfaaGreat
namespace GV
set_option maxRecDepth 100000
def toA (e : BE) : Swalks_arrival := ⟨(e.st : Int), e.par, e.inp⟩
def lq (n : Nat) (All : List BE) : List Bool := (List.range n).map fun s => occ All s
theorem z1n (n : Nat) (All : List BE) : (lq n All).length = n := by simp [lq]
theorem z6d {n : Nat} {All : List BE} {t : Nat} (h : t < n) : (lq n All).getD t default = occ All t := by
  simp [lq, List.getD_eq_getElem?_getD, h]
theorem zor (All : List BE) (e : BE) (t : Nat) : occ (All ++ [e]) t = (occ All t || decide (e.st = t)) := by simp [occ]
theorem zgu {n : Nat} {All : List BE} {e : BE} (h : e.st < n) : (lq n All).set e.st true = lq n (All ++ [e]) := by
  refine l6 (by rw [List.length_set, z1n, z1n]) fun k hk => ?_
  rw [List.length_set, z1n] at hk
  rw [z6d hk, zor, List.getD_eq_getElem?_getD, List.getElem?_set]
  by_cases hek : e.st = k
  · subst hek
    rw [if_pos rfl, z1n, if_pos h]; simp
  · rw [if_neg hek, ← List.getD_eq_getElem?_getD, z6d hk]; simp [hek]
theorem znh {n : Nat} {All : List BE} {t : Int} (h0 : 0 ≤ t) (h : t < n) : ix (lq n All) t = occ All t.toNat := by
  rw [zmd, z6d (by omega)]
theorem zgv {All : List BE} {p : Nat} (hp : p < All.length) : ix ((All.drop p).map toA) 0 = toA (All.getD p default) := by
  rw [z7w All p hp]; rfl
theorem zux {All : List BE} {p : Nat} : cut ((All.drop p).map toA) 1 (((All.drop p).map toA).length : Int) = (All.drop (p + 1)).map toA := by
  unfold cut
  rw [Int.toNat_natCast, show (1 : Int).toNat = 1 from rfl, ← List.map_drop, List.drop_drop, List.take_of_length_le (by simp only [List.length_map, List.length_drop]; omega)]
theorem q03 {N : Nat} {m : Mach} (hm : MOk m) (hN : 200 ≤ N) {σ : Type} {s0 p : Nat} {All : List BE} (h : Inv m s0 p 0 All) (hp : p < All.length) (s : σ) :
    tq N σ m ((All.drop p).map toA) N s 0 (lq m.rows.length All) ((All.drop (p + 1)).map toA) = some (.go (s, lq m.rows.length (ay m (All.getD p default) All m.inputs.toNat), ((ay m (All.getD p default) All m.inputs.toNat).drop (p + 1)).map toA)) := by
  have hi1 := hm.i1
  have hi2 := hm.i2
  have hx := h.rng p hp
  have hrow := hm.row _ hx
  refine ui (σ := List Bool × List Swalks_arrival) (fun F k st => tq N σ m ((All.drop p).map toA) F s (k : Int) st.1 st.2) m.inputs.toNat
    (fun k st => st = (lq m.rows.length (ay m (All.getD p default) All k), ((ay m (All.getD p default) All k).drop (p + 1)).map toA)) _ (fun F k st hk hi => ?_) (fun F st hi => ?_) N 0 _ (Nat.zero_le _) (by omega) rfl
  · subst hi
    right
    refine ⟨_, rfl, ?_⟩
    have hinv := zfx hm h hp k (by omega)
    have hpre := z4s m (All.getD p default) All k
    have hpl : p < (ay m (All.getD p default) All k).length := by have := hpre.length_le; omega
    have hlen := zdz hinv
    have hr2 := hm.r2
    simp only [tq, zgv hp]
    simp only [show ∀ e : BE, (toA e).f_state = (e.st : Int) from fun _ => rfl, r9]
    rw [wu (by omega)]
    refine (zy (x := (s, lq m.rows.length (ay m (All.getD p default) All (k + 1)), ((ay m (All.getD p default) All (k + 1)).drop (p + 1)).map toA)) ?_).trans ?_
    · rw [zq (qo (by omega))]
      have hed : ((m.rows.getD (All.getD p default).st default).getD k default).to = ed m (All.getD p default).st k := rfl
      rw [hed]
      have hok := z4h hm hx hk
      have hps : ay m (All.getD p default) All (k + 1) = push m (All.getD p default) (ay m (All.getD p default) All k) k := rfl
      rw [hps]
      unfold push
      by_cases h1 : ed m (All.getD p default).st k = -1
      · rw [if_pos h1, zq (by rw [h1]; simp), h1]; rfl
      · obtain ⟨h2, h3⟩ := hok.resolve_left h1
        rw [if_neg h1, zq (fun _ => ⟨h2, by rw [z1n]; exact h3⟩), znh h2 h3]
        by_cases h4 : occ (ay m (All.getD p default) All k) (ed m (All.getD p default).st k).toNat = true
        · rw [if_pos h4, h4]
          rw [cf (by simp)]
        · have h4' := Bool.eq_false_iff.2 h4
          have hfit : fits 24 (((ay m (All.getD p default) All k).drop (p + 1)).map toA) ([⟨ed m (All.getD p default).st k, ((All.getD p default).st : Int), (k : Int)⟩] : List Swalks_arrival) := by
            have : (((ay m (All.getD p default) All k).drop (p + 1)).map toA).length ≤ 64 := by rw [List.length_map, List.length_drop]; omega
            exact ⟨by simp only [List.length_singleton]; omega, by simp only [List.length_singleton]; omega⟩
          have e2 : ((ay m (All.getD p default) All k).drop (p + 1)).map toA ++ [(⟨ed m (All.getD p default).st k, ((All.getD p default).st : Int), (k : Int)⟩ : Swalks_arrival)] = ((ay m (All.getD p default) All k ++ [(⟨(ed m (All.getD p default).st k).toNat, ((All.getD p default).st : Int), (k : Int), (All.getD p default).wd ++ [(k : Int)]⟩ : BE)]).drop (p + 1)).map toA := by
            rw [List.drop_append_of_le_length (by omega), List.map_append]
            congr 1
            show [_] = [_]
            simp only [toA, Int.toNat_of_nonneg h2]
          rw [if_neg h4, ct (by rw [decide_eq_true h1, h4']; rfl), zq ⟨h2, by rw [z1n]; exact h3⟩, zq hfit]
          exact congrArg some (Prod.ext rfl (Prod.ext (zgu (e := ⟨(ed m (All.getD p default).st k).toNat, ((All.getD p default).st : Int), (k : Int), (All.getD p default).wd ++ [(k : Int)]⟩) (by show (ed m _ _).toNat < _; omega)) e2))
    · rw [zq (qy (by omega))]; rfl
  · subst hi
    simp only [tq, zgv hp]
    simp only [show ∀ e : BE, (toA e).f_state = (e.st : Int) from fun _ => rfl, r9]
    rw [uo (by omega)]
theorem zd2 {m : Mach} {g p : Nat} {All : List BE} (h : ¬ p < All.length) : bfs m g p All = All := by
  cases g with
  | zero => rfl
  | succ g => unfold bfs; rw [if_neg h]
theorem zss {N : Nat} {m : Mach} (hm : MOk m) (hN : 200 ≤ N) {σ : Type} {s0 : Nat} (B : Swalks_arrival → σ → Option (Bool × σ)) (f : Nat → σ) : ∀ (g p F : Nat) (All : List BE), p + g = m.rows.length → p ≤ All.length → Inv m s0 p 0 All → g < F →
    (∀ k, p ≤ k → k < (bfs m g p All).length → B (toA ((bfs m g p All).getD k default)) (f k) = some (true, f (k + 1))) →
    lh N σ B m F (f p) (lq m.rows.length All) ((All.drop p).map toA) = some (f (bfs m g p All).length)
  | g, p, 0, All, _, _, _, hF, _ => by omega
  | g, p, F + 1, All, hg, hpl, h, hF, hB => by
    simp only [lh]
    by_cases hp : p < All.length
    · have hlen := zdz h
      obtain ⟨g', rfl⟩ : ∃ g', g = g' + 1 := ⟨g - 1, by omega⟩
      have hbfs : bfs m (g' + 1) p All = bfs m g' (p + 1) (ay m (All.getD p default) All m.inputs.toNat) := by
        show (if p < All.length then _ else _) = _
        rw [if_pos hp]
      have hl : ((All.drop p).map toA).length = All.length - p := by simp
      have hget : (bfs m (g' + 1) p All).getD p default = All.getD p default := zny (znm m _ p All) hp
      have hpl2 := (znm m (g' + 1) p All).length_le
      have hb := hB p (Nat.le_refl _) (by omega)
      rw [hget] at hb
      refine (zy (x := (Ex.go (f (p + 1), lq m.rows.length (ay m (All.getD p default) All m.inputs.toNat), ((ay m (All.getD p default) All m.inputs.toNat).drop (p + 1)).map toA) : Ex (σ × List Bool × List Swalks_arrival) σ)) ?_).trans ?_
      · rw [wu (by omega), zq ⟨by omega, by omega⟩, zq ⟨by omega, by omega, by omega⟩, zgv hp, zy (show B ⟨(toA (All.getD p default)).f_state, (toA (All.getD p default)).f_from, (toA (All.getD p default)).f_input⟩ (f p) = some (true, f (p + 1)) from hb)]
        simp only [Bool.not_true, cond_false]
        rw [zq (show okI m.rows (toA (All.getD p default)).f_state from qo (h.rng p hp)), zux]
        exact q03 hm hN h hp _
      · rw [zkv]
        have hpre := (z4s m (All.getD p default) All m.inputs.toNat).length_le
        rw [hbfs] at hB ⊢
        exact zss hm hN B f g' (p + 1) F _ (by omega) (by omega) (zke (zfx hm h hp _ (Nat.le_refl _)) (by omega)) (by omega) fun k hk hk' => hB k (by omega) hk'
    · have he : p = All.length := by omega
      have hl : ((All.drop p).map toA).length = 0 := by simp; omega
      rw [uo (by omega), zkn, q47, zd2 hp, ← he]
theorem q2c {N : Nat} {m : Mach} (hm : MOk m) (hN : 200 ≤ N) {σ : Type} {s0 : Nat} (hs : s0 < m.rows.length) (B : Swalks_arrival → σ → Option (Bool × σ)) (f : Nat → σ)
    (hB : ∀ k, k < (rch m s0).length → B (toA ((rch m s0).getD k default)) (f k) = some (true, f (k + 1))) : z2j N m (s0 : Int) σ B (f 0) = some (f (rch m s0).length) := by
  have hr2 := hm.r2
  have hr1 := hm.r1
  unfold z2j
  rw [zq ⟨by omega, by omega, by omega⟩, z7n, zq (qo (by rw [List.length_replicate]; exact hs)), z5u]
  have := zss (N := N) hm hN B f m.rows.length 0 N [⟨s0, -1, -1, []⟩] (by omega) (Nat.zero_le _) (zin hs) (by omega) (fun k _ hk => hB k hk)
  have e : (List.replicate m.rows.length false).set s0 true = lq m.rows.length [⟨s0, -1, -1, []⟩] := by
    have := zgu (n := m.rows.length) (All := []) (e := ⟨s0, -1, -1, []⟩) hs
    rw [List.nil_append] at this
    rw [← this]
    congr 1
    refine l6 (by rw [List.length_replicate, z1n]) fun k hk => ?_
    rw [List.length_replicate] at hk
    rw [z6d hk]
    simp [List.getD_eq_getElem?_getD, hk, occ]
  rw [e]
  exact this
end GV
end Go.Proofs.YtkcccdcloealfaaGreat

namespace Go.Proofs.YtkcccdcloealfaaGreat
namespace GV
set_option maxRecDepth 100000
def wdOf (P : List BE) (t : Nat) : List Int := ((P.find? fun e => decide (e.st = t)).map (·.wd)).getD []
def z0g (n : Nat) (P : List BE) : List (List Int) := (List.range n).map (wdOf P)
theorem z2m (n : Nat) (P : List BE) : (z0g n P).length = n := by simp [z0g]
theorem z7o {n : Nat} {P : List BE} {t : Nat} (h : t < n) : (z0g n P).getD t default = wdOf P t := by
  simp [z0g, List.getD_eq_getElem?_getD, h]
theorem zlu (P : List BE) (e : BE) (t : Nat) : wdOf (P ++ [e]) t = if occ P t = true then wdOf P t else if e.st = t then e.wd else [] := by
  unfold wdOf occ
  rw [List.find?_append]
  by_cases h : (P.any fun e => decide (e.st = t)) = true
  · rw [if_pos h]
    obtain ⟨x, hx, hp⟩ := List.any_eq_true.1 h
    cases hf : P.find? (fun e => decide (e.st = t)) with
    | none => exact absurd hp (by simpa using List.find?_eq_none.1 hf x hx)
    | some y => rfl
  · rw [if_neg h]
    have hn : P.find? (fun e => decide (e.st = t)) = none := List.find?_eq_none.2 fun x hx hp => h (List.any_eq_true.2 ⟨x, hx, hp⟩)
    rw [hn]
    by_cases he : e.st = t
    · simp [he]
    · simp [he]
theorem zti {P : List BE} {t : Nat} (h : occ P t = false) : wdOf P t = [] := by
  unfold wdOf occ at *
  have hn : P.find? (fun e => decide (e.st = t)) = none := List.find?_eq_none.2 fun x hx hp => by
    have : (P.any fun e => decide (e.st = t)) = true := List.any_eq_true.2 ⟨x, hx, hp⟩
    rw [h] at this; cases this
  rw [hn]; rfl
theorem zrt {n : Nat} {P : List BE} {e : BE} (hn : e.st < n) (ho : occ P e.st = false) : (z0g n P).set e.st e.wd = z0g n (P ++ [e]) := by
  refine l6 (by rw [List.length_set, z2m, z2m]) fun k hk => ?_
  rw [List.length_set, z2m] at hk
  rw [z7o hk, zlu, List.getD_eq_getElem?_getD, List.getElem?_set]
  by_cases hek : e.st = k
  · subst hek
    rw [if_pos rfl, z2m, if_pos hn, ho]; simp
  · rw [if_neg hek, ← List.getD_eq_getElem?_getD, z7o hk, if_neg hek]
    by_cases h : occ P k = true
    · rw [if_pos h]
    · rw [if_neg h, zti (Bool.eq_false_iff.2 h)]
theorem z9k (P : List BE) (k : Nat) (h : k < P.length) : P.take (k + 1) = P.take k ++ [P.getD k default] := by
  rw [List.take_add_one]; simp [List.getD_eq_getElem?_getD, h]
section rch
variable {m : Mach} {s0 : Nat} {P : List BE}
theorem Rch.find (h : Rch m s0 P) {j : Nat} : ∀ k, k ≤ P.length → j < k → wdOf (P.take k) (P.getD j default).st = (P.getD j default).wd
  | 0, _, hj => by omega
  | k + 1, hk, hj => by
    rw [z9k P k (by omega), zlu]
    by_cases e : j = k
    · subst e
      have ho : occ (P.take j) (P.getD j default).st = false := by
        cases hc : occ (P.take j) (P.getD j default).st with
        | false => rfl
        | true =>
          obtain ⟨i, hi, he⟩ := z15.1 hc
          rw [List.length_take] at hi
          have hg : (P.take j).getD i default = P.getD i default := by simp only [List.getD_eq_getElem?_getD, List.getElem?_take, if_pos (show i < j by omega)]
          rw [hg] at he
          have := h.dis i j (by omega) (by omega) he
          omega
      rw [ho, if_neg (by decide), if_pos rfl]
    · have ih := Rch.find h k (by omega) (show j < k by omega)
      have ho : occ (P.take k) (P.getD j default).st = true := z15.2 ⟨j, by rw [List.length_take]; omega, by simp only [List.getD_eq_getElem?_getD, List.getElem?_take, if_pos (show j < k by omega)]⟩
      rw [if_pos ho, ih]
theorem Rch.fresh (h : Rch m s0 P) {k : Nat} (hk : k < P.length) : occ (P.take k) (P.getD k default).st = false := by
  cases hc : occ (P.take k) (P.getD k default).st with
  | false => rfl
  | true =>
    obtain ⟨i, hi, he⟩ := z15.1 hc
    rw [List.length_take] at hi
    have hg : (P.take k).getD i default = P.getD i default := by simp only [List.getD_eq_getElem?_getD, List.getElem?_take, if_pos (show i < k by omega)]
    rw [hg] at he
    have := h.dis i k (by omega) hk he
    omega
theorem Rch.wdOf (h : Rch m s0 P) {j : Nat} (hj : j < P.length) : wdOf P (P.getD j default).st = (P.getD j default).wd := by
  have := h.find P.length (Nat.le_refl _) hj
  rwa [List.take_length] at this
end rch
theorem zmu {N : Nat} {s : List Int} : z1o N s = some s := by
  unfold z1o
  rw [zq (zme s), zmw]
end GV
end Go.Proofs.YtkcccdcloealfaaGreat

namespace Go.Proofs.YtkcccdcloealfaaGreat
namespace GV
set_option maxRecDepth 100000
def nxt (K : Int) : List Int → Option (List Int)
  | [] => none
  | d :: r => match nxt K r with
    | some r' => some (d :: r')
    | none => if d + 1 < K then some ((d + 1) :: List.replicate r.length 0) else none
def z8q (K : Int) (w : List Int) : List Int := (nxt K w).getD (List.replicate w.length 0 ++ [0])
def Dg (K : Int) (w : List Int) : Prop := ∀ d ∈ w, 0 ≤ d ∧ d < K
theorem zrp {K : Int} {w : List Int} : Dg K w ↔ WOk K w := by
  constructor
  · intro h k hk; exact h _ (lg hk)
  · intro h d hd
    obtain ⟨k, hk, rfl⟩ := List.mem_iff_getElem.1 hd
    have := h k hk
    simpa [List.getD_eq_getElem?_getD, hk] using this
theorem zde : ∀ {v : List Int} {n : Nat}, (∀ d ∈ v, 0 ≤ d) → ¬ z6m v (List.replicate n 0)
  | [], _, _, h => h
  | _ :: _, 0, _, h => h
  | d :: v, n + 1, hd, h => by
    rw [List.replicate_succ] at h
    have := hd d (by simp)
    rcases h with h | ⟨_, h⟩
    · omega
    · exact zde (fun x hx => hd x (by simp [hx])) h
theorem zj6 {K : Int} : ∀ {w v : List Int}, nxt K w = none → Dg K v → ¬ z6m w v
  | [], _, _, _, h => h
  | _ :: _, [], _, _, h => h
  | d :: r, e :: v, hn, hv, h => by
    unfold nxt at hn
    cases hr : nxt K r with
    | some r' => rw [hr] at hn; cases hn
    | none =>
      rw [hr] at hn
      simp only at hn
      split at hn
      · cases hn
      · have := hv e (by simp)
        rcases h with h | ⟨_, h⟩
        · omega
        · exact zj6 hr (fun x hx => hv x (by simp [hx])) h
theorem zk0 {K : Int} : ∀ {w u : List Int}, nxt K w = some u → u.length = w.length ∧ (Dg K w → Dg K u) ∧ z6m w u ∧ ∀ v, Dg K v → z6m v u → ¬ z6m w v
  | [], _, h => by cases h
  | d :: r, u, h => by
    unfold nxt at h
    cases hr : nxt K r with
    | some r' =>
      rw [hr] at h
      simp only [Option.some.injEq] at h
      subst h
      obtain ⟨h1, h2, h3, h4⟩ := zk0 hr
      refine ⟨by simp [h1], fun hd x hx => ?_, .inr ⟨rfl, h3⟩, fun v hv hlt hlt' => ?_⟩
      · rcases List.mem_cons.1 hx with rfl | hx
        · exact hd _ (by simp)
        · exact h2 (fun y hy => hd y (by simp [hy])) x hx
      · cases v with
        | nil => exact hlt
        | cons e v =>
          rcases hlt with hlt | ⟨rfl, hlt⟩
          · rcases hlt' with hlt' | ⟨rfl, _⟩ <;> omega
          · rcases hlt' with hlt' | ⟨_, hlt'⟩
            · omega
            · exact h4 v (fun x hx => hv x (by simp [hx])) hlt hlt'
    | none =>
      rw [hr] at h
      simp only at h
      split at h
      · rename_i hK
        simp only [Option.some.injEq] at h
        subst h
        refine ⟨by simp, fun hd x hx => ?_, .inl (by omega), fun v hv hlt hlt' => ?_⟩
        · rcases List.mem_cons.1 hx with rfl | hx
          · have := hd d (by simp); omega
          · have := (List.mem_replicate.1 hx).2
            have := hd d (by simp); omega
        · cases v with
          | nil => exact hlt
          | cons e v =>
            have hvn : Dg K v := fun x hx => hv x (by simp [hx])
            rcases hlt with hlt | ⟨rfl, hlt⟩
            · rcases hlt' with hlt' | ⟨rfl, hlt'⟩
              · omega
              · exact zj6 hr hvn hlt'
            · exact zde (fun x hx => (hvn x hx).1) hlt
      · cases h
theorem zpf {K : Int} (hK : 1 ≤ K) {w : List Int} (hw : Dg K w) : Dg K (z8q K w) ∧ llt w (z8q K w) ∧ ∀ v, Dg K v → llt v (z8q K w) → lle v w := by
  unfold z8q
  cases h : nxt K w with
  | some u =>
    obtain ⟨h1, h2, h3, h4⟩ := zk0 h
    refine ⟨h2 hw, .inr ⟨h1.symm, h3⟩, fun v hv hlt => ?_⟩
    rcases hlt with hlt | ⟨hl, hlt⟩
    · exact .inr (.inl (by simp only [Option.getD_some] at hlt; omega))
    · simp only [Option.getD_some] at hl hlt
      rcases zaf (a := v) (b := w) (by omega) with k | rfl | k
      · exact .inr (.inr ⟨by omega, k⟩)
      · exact .inl rfl
      · exact absurd k (h4 v hv hlt)
  | none =>
    simp only [Option.getD_none]
    have e : List.replicate w.length (0 : Int) ++ [0] = List.replicate (w.length + 1) 0 := by rw [List.replicate_succ']
    rw [e]
    refine ⟨fun d hd => by rw [(List.mem_replicate.1 hd).2]; omega, .inl (by simp), fun v hv hlt => ?_⟩
    rcases hlt with hlt | ⟨hl, hlt⟩
    · rw [List.length_replicate] at hlt
      by_cases hvl : v.length = w.length
      · rcases zaf hvl with k | rfl | k
        · exact .inr (.inr ⟨hvl, k⟩)
        · exact .inl rfl
        · exact absurd k (zj6 h hv)
      · exact .inr (.inl (by omega))
    · exact absurd hlt (zde fun x hx => (hv x hx).1)
theorem zt5 {K : Int} {b b' : List Int} (h : nxt K b = some b') : ∀ a : List Int, nxt K (a ++ b) = some (a ++ b')
  | [] => h
  | d :: a => by
    show (match nxt K (a ++ b) with | some r' => some (d :: r') | none => _) = _
    rw [zt5 h a]; rfl
theorem zzs {K : Int} {w : List Int} : w.length ≤ (z8q K w).length ∧ (z8q K w).length ≤ w.length + 1 := by
  unfold z8q
  cases h : nxt K w with
  | some u => have := (zk0 h).1; simp only [Option.getD_some]; omega
  | none => simp
theorem set_mid {A B : List Int} {c v : Int} : ((A ++ [c]) ++ B).set A.length v = A ++ v :: B := by
  rw [List.append_assoc, List.set_append_right _ _ (Nat.le_refl _), Nat.sub_self]; rfl
theorem zxy {N : Nat} {K : Int} {w : List Int} (hN : w.length < N) (hl : w.length ≤ 100000) (hw : Dg K w) (hK : K ≤ 1000) : z0x N w K = some (z8q K w) := by
  unfold z0x
  have hf1 : fits 8 ([] : List Int) w := ⟨by simp only [List.length_nil]; omega, by simp only [List.length_nil]; omega⟩
  rw [zq hf1, List.nil_append]
  have hL : bf N K N ((w.length : Int) - 1) w = some (match nxt K w with | some u => Ex.rt u | none => Ex.go (List.replicate w.length 0)) := by
    have key := ui (σ := List Int) (fun F k s => bf N K F ((w.length : Int) - 1 - (k : Int)) s) w.length
      (fun k s => k ≤ w.length ∧ s = w.take (w.length - k) ++ List.replicate k 0 ∧ nxt K (w.drop (w.length - k)) = none) (match nxt K w with | some u => Ex.rt u | none => Ex.go (List.replicate w.length 0)) (fun F k s hk hi => ?_) (fun F s hi => ?_) N 0 w (Nat.zero_le _) (by omega) ⟨Nat.zero_le _, by simp, by rw [Nat.sub_zero, List.drop_length]; rfl⟩
    · simpa using key
    · obtain ⟨_, rfl, hn⟩ := hi
      have hp : w.length - 1 - k < w.length := by omega
      generalize hpe : w.length - 1 - k = p at hp
      have hidx : (w.length : Int) - 1 - (k : Int) = (p : Int) := by omega
      have htake : w.take (w.length - k) = w.take p ++ [w.getD p default] := by rw [show w.length - k = p + 1 by omega]; exact z7l w p hp
      have hdrop : w.drop p = w.getD p default :: w.drop (w.length - k) := by rw [z7w w p hp, show p + 1 = w.length - k by omega]
      have hsl : (w.take (w.length - k) ++ List.replicate k (0 : Int)).length = w.length := by simp; omega
      have hix : ix (w.take (w.length - k) ++ List.replicate k (0 : Int)) (p : Int) = w.getD p default := by
        rw [r9, List.getD_eq_getElem?_getD, List.getElem?_append_left (by rw [List.length_take]; omega), List.getElem?_take, if_pos (by omega), ← List.getD_eq_getElem?_getD]
      have hdg := zrp.1 hw p hp
      have hsplit : w = w.take p ++ (w.getD p default :: w.drop (w.length - k)) := by rw [← hdrop, List.take_append_drop]
      have hset : ∀ v, up (w.take (w.length - k) ++ List.replicate k (0 : Int)) (p : Int) v = w.take p ++ v :: List.replicate k 0 := fun v => by
        rw [z5u, htake]
        have := set_mid (A := w.take p) (B := List.replicate k (0 : Int)) (c := w.getD p default) (v := v)
        rwa [List.length_take, Nat.min_eq_left (by omega)] at this
      have hdl : (w.drop (w.length - k)).length = k := by rw [List.length_drop]; omega
      have hnx : nxt K (w.getD p default :: w.drop (w.length - k)) = if w.getD p default + 1 < K then some ((w.getD p default + 1) :: List.replicate k 0) else none := by
        show (match nxt K (w.drop (w.length - k)) with | some r' => _ | none => _) = _
        rw [hn, hdl]
      simp only [bf]
      simp only [hidx, hix]
      rw [wu (by omega), zq (qo (by rw [hsl]; exact hp)), zq (qy (by omega))]
      by_cases hc : w.getD p default + 1 < K
      · left
        rw [wu hc, zq (qo (by rw [hsl]; exact hp)), zq (qy (by omega)), zq (qo (by rw [hsl]; exact hp)), hset]
        rw [if_pos hc] at hnx
        have hw' : nxt K w = some (w.take p ++ ((w.getD p default + 1) :: List.replicate k 0)) := by
          have := zt5 hnx (w.take p)
          rwa [← hsplit] at this
        rw [hw']
      · right
        refine ⟨w.take p ++ 0 :: List.replicate k 0, ⟨by omega, ?_, ?_⟩, ?_⟩
        · rw [show w.length - (k + 1) = p by omega, List.replicate_succ]
        · rw [show w.length - (k + 1) = p by omega, hdrop, hnx, if_neg hc]
        · rw [uo hc, zq (qo (by rw [hsl]; exact hp)), zq (qy (by omega)), hset]
          congr 1
          omega
    · obtain ⟨_, rfl, hn⟩ := hi
      rw [Nat.sub_self, List.drop_zero] at hn
      simp only [bf]
      rw [uo (by omega), hn, Nat.sub_self, List.take_zero, List.nil_append]
  rw [zy (show (gd (in64 ((w.length : Int) - 1)) (bf N K N ((w.length : Int) - 1) w)) = some (match nxt K w with | some u => Ex.rt u | none => Ex.go (List.replicate w.length 0)) from by rw [zq (qy (by omega)), hL])]
  unfold z8q
  cases h : nxt K w with
  | some u => rfl
  | none =>
    simp only
    rw [zkv]
    have hf2 : fits 8 (List.replicate w.length (0 : Int)) ([0] : List Int) := ⟨by simp only [List.length_replicate, List.length_singleton]; omega, by simp only [List.length_replicate, List.length_singleton]; omega⟩
    rw [zq hf2]; rfl
def zkj (K : Int) : Nat → List Int
  | 0 => []
  | k + 1 => z8q K (zkj K k)
theorem zqv : ∀ K, 1 ≤ K → K ≤ 3 → 6 ≤ (zkj K 364).length := by
  intro K h1 h2
  have : K = 1 ∨ K = 2 ∨ K = 3 := by omega
  rcases this with rfl | rfl | rfl <;> decide +kernel
theorem zpv {K : Int} (hK : 1 ≤ K) : ∀ k, Dg K (zkj K k)
  | 0 => fun d hd => by simp [zkj] at hd
  | k + 1 => (zpf hK (zpv hK k)).1
theorem zuu {N : Nat} {m : Mach} (hm : MOk m) (hN : 400 ≤ N) (h6 : m.rows.length ≤ 6) (h3 : m.inputs ≤ 3) {s0 : Nat} (hs : s0 < m.rows.length) : z0m N m (s0 : Int) = some (z0g m.rows.length (rch m s0), lq m.rows.length (rch m s0)) := by
  have hP := zds hm hs
  generalize hPe : rch m s0 = P at hP ⊢
  have hi1 := hm.i1
  unfold z0m
  rw [zq ⟨by omega, by omega, by omega⟩, zq ⟨by omega, by omega, by omega⟩]
  have e1 : mk (m.rows.length : Int) ([] : List Int) = z0g m.rows.length (P.take 0) := by
    rw [z7n]
    refine l6 (by rw [List.length_replicate, z2m]) fun k hk => ?_
    rw [List.length_replicate] at hk
    rw [z7o hk]
    simp [List.getD_eq_getElem?_getD, hk, wdOf]
  have e2 : mk (m.rows.length : Int) false = lq m.rows.length (P.take 0) := by
    rw [z7n]
    refine l6 (by rw [List.length_replicate, z1n]) fun k hk => ?_
    rw [List.length_replicate] at hk
    rw [z6d hk]
    simp [List.getD_eq_getElem?_getD, hk, occ]
  have hL : ww N m (s0 : Int) N [] (mk (m.rows.length : Int) ([] : List Int)) (mk (m.rows.length : Int) false) = some (z0g m.rows.length P, lq m.rows.length P) := by
    refine ui (σ := List Int × List (List Int) × List Bool) (fun F k s => ww N m (s0 : Int) F s.1 s.2.1 s.2.2) 364
      (fun k s => s.1 = zkj m.inputs k ∧ s.1.length ≤ 6 ∧ ∃ c, c ≤ P.length ∧ s.2 = (z0g m.rows.length (P.take c), lq m.rows.length (P.take c)) ∧ (∀ j, j < c → llt (P.getD j default).wd s.1) ∧ ∀ j, c ≤ j → j < P.length → lle s.1 (P.getD j default).wd)
      _ (fun F k s hk hi => ?_) (fun F s hi => ?_) N 0 ([], _, _) (Nat.zero_le _) (by omega) ⟨rfl, by simp, 0, Nat.zero_le _, Prod.ext e1 e2, fun j hj => by omega, fun j _ hj => ?_⟩
    · obtain ⟨w, l, is⟩ := s
      obtain ⟨hw, hwl, c, hc, hs2, hlo, hhi⟩ := hi
      simp only at hw hwl hs2 hlo hhi
      obtain ⟨rfl, rfl⟩ := Prod.mk.inj hs2
      have hdg := hw ▸ zpv hi1 k
      have hdw := zrp.1 hdg
      simp only [ww]
      by_cases hlen : w.length < m.rows.length
      · right
        rw [wu (by omega)]
        have haft := zt8 (N := N) hm N (s0 : Int) w (.inr ⟨by omega, by omega⟩) hdw (by omega)
        have hok := ze7 m hm (s0 : Int) w (.inr ⟨by omega, by omega⟩) hdw
        obtain ⟨hn1, hn2, hn3⟩ := zpf hi1 hdg
        have hnl := zzs (K := m.inputs) (w := w)
        have hrn := zxy (N := N) (K := m.inputs) (w := w) (by omega) (by omega) hdg (by omega)
        have go : ∀ c', c' ≤ P.length → (∀ j, j < c' → lle (P.getD j default).wd w) → (∀ j, c' ≤ j → j < P.length → llt w (P.getD j default).wd) →
            (z8q m.inputs w = zkj m.inputs (k + 1) ∧ (z8q m.inputs w).length ≤ 6 ∧ ∃ c, c ≤ P.length ∧ (z0g m.rows.length (P.take c'), lq m.rows.length (P.take c')) = (z0g m.rows.length (P.take c), lq m.rows.length (P.take c)) ∧ (∀ j, j < c → llt (P.getD j default).wd (z8q m.inputs w)) ∧ ∀ j, c ≤ j → j < P.length → lle (z8q m.inputs w) (P.getD j default).wd) := fun c' hc' h1 h2 =>
          ⟨by rw [hw]; rfl, by omega, c', hc', rfl, fun j hj => zna (h1 j hj) hn2, fun j hj hjl => by
            rcases zvc (z8q m.inputs w) (P.getD j default).wd with h | h | h
            · exact .inr h
            · exact .inl h
            · exact absurd (h2 j hj hjl) (zcd (hn3 _ (zrp.2 (hP.wok j hjl).1) h))⟩
        have strict : ∀ j, j < P.length → lle w (P.getD j default).wd → (P.getD j default).wd ≠ w → llt w (P.getD j default).wd := fun j hj h hne => h.resolve_left fun e => hne e.symm
        have hsame : l9 m (s0 : Int) w = -1 ∨ (0 ≤ l9 m (s0 : Int) w ∧ ix (lq m.rows.length (P.take c)) (l9 m (s0 : Int) w) = true) →
            ∃ s' : List Int × List (List Int) × List Bool, (s'.1 = zkj m.inputs (k + 1) ∧ s'.1.length ≤ 6 ∧ ∃ c, c ≤ P.length ∧ s'.2 = (z0g m.rows.length (P.take c), lq m.rows.length (P.take c)) ∧ (∀ j, j < c → llt (P.getD j default).wd s'.1) ∧ ∀ j, c ≤ j → j < P.length → lle s'.1 (P.getD j default).wd) ∧
            (bd (bd (ic N N m (s0 : Int) w) fun y73 => gd ((true && ((decide (0 ≤ y73)) == true)) = true → okI (lq m.rows.length (P.take c)) y73) <| bif (decide (0 ≤ y73)) && (!(ix (lq m.rows.length (P.take c)) y73)) then (gd (okI (lq m.rows.length (P.take c)) y73) <| gd (okI (z0g m.rows.length (P.take c)) y73) <| some ((up (z0g m.rows.length (P.take c)) y73 w), (up (lq m.rows.length (P.take c)) y73 true))) else (some (z0g m.rows.length (P.take c), lq m.rows.length (P.take c)))) fun o62 => bd (z0x N w m.inputs) fun y118 => ww N m (s0 : Int) F y118 o62.1 o62.2) = ww N m (s0 : Int) F s'.1 s'.2.1 s'.2.2 := fun hcase => by
          refine ⟨(z8q m.inputs w, z0g m.rows.length (P.take c), lq m.rows.length (P.take c)), go c hc (fun j hj => .inr (hlo j hj)) (fun j hj hjl => strict j hjl (hhi j hj hjl) fun e => ?_), ?_⟩
          · have ha := hP.aft j hjl
            rw [e] at ha
            rcases hcase with h | ⟨h0, h⟩
            · rw [ha] at h; omega
            · rw [ha, znh (by omega) (by have := hP.rng j hjl; omega)] at h
              obtain ⟨i, hi, hst⟩ := z15.1 h
              rw [List.length_take] at hi
              have hg : (P.take c).getD i default = P.getD i default := by simp only [List.getD_eq_getElem?_getD, List.getElem?_take, if_pos (show i < c by omega)]
              rw [hg] at hst
              have := hP.dis i j (by omega) hjl (by omega)
              omega
          · rw [zy (show _ = some (z0g m.rows.length (P.take c), lq m.rows.length (P.take c)) from by
              rw [zy haft]
              rcases hcase with h | ⟨h0, h⟩
              · rw [h, zq (by simp)]; rfl
              · have hlt : l9 m (s0 : Int) w < m.rows.length := by rcases hok with e | e <;> omega
                rw [zq (fun _ => ⟨h0, by rw [z1n]; exact hlt⟩), h, cf (by simp)]), zy hrn]
        by_cases ht : l9 m (s0 : Int) w = -1
        · exact hsame (.inl ht)
        · obtain ⟨ht0, ht1⟩ := hok.resolve_left ht
          by_cases hseen : ix (lq m.rows.length (P.take c)) (l9 m (s0 : Int) w) = true
          · exact hsame (.inr ⟨ht0, hseen⟩)
          · obtain ⟨j, hj, hst, hle⟩ := hP.least hm _ w rfl hdw ht
            have hcj : c ≤ j := by
              rcases Nat.lt_or_ge j c with h | h
              · exfalso
                apply hseen
                rw [znh ht0 ht1]
                refine z15.2 ⟨j, by rw [List.length_take]; omega, ?_⟩
                simp only [List.getD_eq_getElem?_getD, List.getElem?_take, if_pos h]
                rw [← List.getD_eq_getElem?_getD]; omega
              · exact h
            have hwj : (P.getD j default).wd = w := by
              rcases hle with h | h
              · exact h
              · exact absurd h (zcd (hhi j hcj hj))
            have hjc : j = c := by
              rcases Nat.lt_or_ge c j with h | h
              · have h1 := hP.inc c j h hj
                rw [hwj] at h1
                exact absurd h1 (zcd (hhi c (Nat.le_refl _) (by omega)))
              · omega
            subst hjc
            have hx := hP.rng j hj
            have hfr := hP.fresh hj
            refine ⟨(z8q m.inputs w, z0g m.rows.length (P.take (j + 1)), lq m.rows.length (P.take (j + 1))), go (j + 1) (by omega) (fun i hi => ?_) (fun i hi hil => ?_), ?_⟩
            · by_cases e : i = j
              · subst e; rw [hwj]; exact .inl rfl
              · exact .inr (hlo i (by omega))
            · have := hP.inc j i (by omega) hil
              rwa [hwj] at this
            · rw [zy (show _ = some (z0g m.rows.length (P.take (j + 1)), lq m.rows.length (P.take (j + 1))) from by
                rw [zy haft, ← hst]
                rw [← hst] at hseen
                rw [zq (fun _ => qo (by rw [z1n]; exact hx)), ct (by rw [Bool.eq_false_iff.2 hseen]; simp), zq (qo (by rw [z1n]; exact hx)), zq (qo (by rw [z2m]; exact hx)), z5u, z5u, zgu hx, ← z9k P j hj]
                have := zrt hx hfr
                rw [hwj, ← z9k P j hj] at this
                rw [this]), zy hrn]
      · left
        rw [uo (by omega)]
        have hcl : c = P.length := by
          rcases Nat.lt_or_ge c P.length with h | h
          · have h1 := (hP.wok c h).2
            have h2 := hP.le
            exact absurd (show llt (P.getD c default).wd w from .inl (by omega)) (zcd (hhi c (Nat.le_refl _) h))
          · omega
        rw [hcl, List.take_length]
    · obtain ⟨w, l, is⟩ := s
      obtain ⟨hw, hwl, c, hc, hs2, hlo, hhi⟩ := hi
      simp only at hw hwl hs2 hlo hhi
      obtain ⟨rfl, rfl⟩ := Prod.mk.inj hs2
      have h6' := zqv m.inputs hi1 h3
      rw [← hw] at h6'
      simp only [ww]
      rw [uo (by omega)]
      have hcl : c = P.length := by
        rcases Nat.lt_or_ge c P.length with h | h
        · have h1 := (hP.wok c h).2
          have h2 := hP.le
          exact absurd (show llt (P.getD c default).wd w from .inl (by omega)) (zcd (hhi c (Nat.le_refl _) h))
        · omega
      rw [hcl, List.take_length]
    · show lle [] _
      cases hwd : (P.getD j default).wd with
      | nil => exact .inl rfl
      | cons a b => exact .inr (.inl (by simp))
  rw [zy hL]
end GV
end Go.Proofs.YtkcccdcloealfaaGreat

namespace Go.Proofs.YtkcccdcloealfaaGreat
namespace GV
set_option maxRecDepth 100000
theorem zb0 {N : Nat} {m : Mach} (hm : MOk m) (hN : 200 ≤ N) : yc N m = some 0 := by rw [z5m hm.small hN, (z1q m).2 hm]
theorem zrj {N : Nat} {m : Mach} (hm : MOk m) (hN : 400 ≤ N) (h6 : m.rows.length ≤ 6) (h3 : m.inputs ≤ 3) : z1e N m = some (z0g m.rows.length (rch m 0), lq m.rows.length (rch m 0)) := by
  have hr1 := hm.r1
  unfold z1e
  rw [zy (show z0m N m 0 = _ from zuu hm hN h6 h3 (s0 := 0) (by omega))]
def lu (P : List BE) : List Int := P.map fun e => (e.st : Int)
theorem zah {N : Nat} {m : Mach} (hm : MOk m) (hN : 200 ≤ N) : z2g N m = some (lu (rch m 0)) := by
  have hr1 := hm.r1
  have hr2 := hm.r2
  have hP := zds hm (s0 := 0) (by omega)
  generalize hPe : rch m 0 = P at hP ⊢
  have hple := hP.le
  unfold z2g
  rw [zy (show z6v N m 0 = some (m, 0) from rfl)]
  have key := q2c (N := N) hm hN (s0 := 0) (by omega) (σ := List Int) (fun y22 x23 =>
    gd (fits 8 x23 ([y22.f_state] : List Int)) <|
    some (true, (x23 ++ ([y22.f_state] : List Int)))) (fun k => lu (P.take k)) (fun k hk => ?_)
  · rw [zy (show z2j N m 0 (List Int) _ ([] : List Int) = _ from key), hPe, List.take_length]
  · rw [hPe] at hk ⊢
    have hfit : fits 8 (lu (P.take k)) ([((P.getD k default).st : Int)] : List Int) := by
      have : (lu (P.take k)).length ≤ 64 := by unfold lu; rw [List.length_map, List.length_take]; omega
      exact ⟨by simp only [List.length_singleton]; omega, by simp only [List.length_singleton]; omega⟩
    show gd (fits 8 (lu (P.take k)) ([((P.getD k default).st : Int)] : List Int)) (some (true, (lu (P.take k) ++ ([((P.getD k default).st : Int)] : List Int)))) = _
    rw [zq hfit, z9k P k hk]
    unfold lu
    rw [List.map_append]; rfl
theorem zup {N : Nat} {l : List Int} (hN : l.length < N) (hl : l.length ≤ 1000000) {σ : Type} (B : Int → σ → Option (Bool × σ)) (f : Nat → σ) (hB : ∀ k, k < l.length → B (l.getD k default) (f k) = some (true, f (k + 1))) : z1u N l σ B (f 0) = some (f l.length) := by
  unfold z1u
  refine ui (σ := σ) (fun F k s => mg N σ B l F s (k : Int)) l.length (fun k s => s = f k) _ (fun F k s hk hi => ?_) (fun F s hi => ?_) N 0 (f 0) (Nat.zero_le _) (by omega) rfl
  · subst hi
    right
    refine ⟨_, rfl, ?_⟩
    simp only [mg]
    rw [wu (by omega), zq (qo hk), r9]
    refine (zy (hB k hk)).trans ?_
    refine (cf (b := !(true, f (k + 1)).1) rfl).trans ?_
    exact zq (qy (by omega))
  · subst hi
    simp only [mg]
    rw [uo (by omega)]
theorem ztn {N : Nat} {s l : List Int} (hN : l.length < N) (hl : s.length + l.length ≤ 1000000) : l5 N s l = some (s ++ l) := by
  unfold l5
  have key := zup (N := N) hN (by omega) (fun y5 x6 =>
    gd (fits 8 x6 ([y5] : List Int)) <|
    some (true, (x6 ++ ([y5] : List Int)))) (fun k => s ++ l.take k) (fun k hk => ?_)
  · rw [List.take_zero, List.append_nil, List.take_length] at key
    rw [zy key]
  · have hfit : fits 8 (s ++ l.take k) ([l.getD k default] : List Int) := by
      have : (s ++ l.take k).length ≤ 1000000 := by rw [List.length_append, List.length_take]; omega
      exact ⟨by simp only [List.length_singleton]; omega, by simp only [List.length_singleton]; omega⟩
    rw [zq hfit, z7l l k hk, List.append_assoc]
theorem zuz {N : Nat} {l : List Int} (hN : l.length < N) (h0 : 0 < l.length) (hl : l.length ≤ 1000000) : z3d N l = some (z5d l) := by
  unfold z3d z3e
  rw [zy (show (bd (l5 N [] l) fun y2 => some y2) = some l from by rw [zy (ztn hN (by simp; omega))]; rfl)]
  unfold slices_Sort_int
  rw [zq ⟨h0, by omega⟩]; rfl
theorem zwa {N : Nat} {m : Mach} (hm : MOk m) (hN : 200 ≤ N) : z6c N m = some (z5d (lu (rch m 0)), 0) := by
  have hr1 := hm.r1
  have hr2 := hm.r2
  have hP := zds hm (s0 := 0) (by omega)
  have h1 : (lu (rch m 0)).length = (rch m 0).length := by simp [lu]
  have hle := hP.le
  have hpos := hP.pos
  unfold z6c
  rw [zy (zb0 hm hN), uo (by simp), zy (zah hm hN), zy (show z4g N _ = some _ from rfl), zy (zuz (by omega) (by omega) (by omega)), zy zmu]
def q0f (n : Nat) (P : List BE) : List Int := ((List.range n).filter fun s => occ P s).map fun s => ((s : Nat) : Int)
theorem zre (n : Nat) (P : List BE) : (q0f n P).Pairwise (· ≤ ·) := by
  unfold q0f
  rw [List.pairwise_map]
  exact ((List.pairwise_lt_range (n := n)).filter _).imp fun h => by omega
theorem zwl {m : Mach} {s0 : Nat} {P : List BE} (h : Rch m s0 P) : z5d (lu P) = q0f m.rows.length P := by
  refine za4 ((zex _).trans ?_) (zgf _) (zre _ _)
  unfold lu q0f
  have e : (P.map fun e => (e.st : Int)) = (P.map (·.st)).map fun s => ((s : Nat) : Int) := by rw [List.map_map]; rfl
  rw [e]
  refine List.Perm.map _ ?_
  have hnd : (P.map (·.st)).Nodup := by
    rw [List.nodup_iff_pairwise_ne, List.pairwise_iff_getElem]
    intro i j hi hj hij e
    rw [List.length_map] at hi hj
    rw [List.getElem_map, List.getElem_map] at e
    have := h.dis i j hi hj (by simpa [List.getD_eq_getElem?_getD, hj, hi] using e)
    omega
  have hnd2 : ((List.range m.rows.length).filter fun s => occ P s).Nodup := List.Pairwise.filter _ List.nodup_range
  rw [List.perm_ext_iff_of_nodup hnd hnd2]
  intro a
  rw [List.mem_map, List.mem_filter, List.mem_range, z15]
  constructor
  · rintro ⟨x, hx, rfl⟩
    obtain ⟨j, hj, rfl⟩ := List.mem_iff_getElem.1 hx
    have hg : P.getD j default = P[j] := by simp [List.getD_eq_getElem?_getD, hj]
    exact ⟨by rw [← hg]; exact h.rng j hj, j, hj, by rw [hg]⟩
  · rintro ⟨_, j, hj, rfl⟩
    exact ⟨_, lg hj, rfl⟩
end GV
end Go.Proofs.YtkcccdcloealfaaGreat
