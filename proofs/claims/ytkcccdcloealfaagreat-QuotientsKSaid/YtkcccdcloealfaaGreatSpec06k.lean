
import Derived.Test.YtkcccdcloealfaaGreatPart06
set_option linter.unusedVariables false
set_option linter.unusedSimpArgs false
namespace Go.Proofs.YtkcccdcloealfaaGreat
namespace GV
set_option maxRecDepth 100000
theorem zes {N : Nat} {m : Mach} (hs : Small m) (hN : 200 ≤ N) : y8 N m 0 m = some true := by
  have hr := hs.r
  unfold y8
  rw [zb1 (fun _ => zyg hs hN)]
  have hL : xm N m N 0 = some (.go ()) := by
    refine ui (σ := Unit) (fun F k _ => xm N m F (k : Int)) m.rows.length (fun _ _ => True) _ (fun F k _ hk _ => ?_) (fun F _ _ => ?_) N 0 () (Nat.zero_le _) (by omega) trivial
    · right
      refine ⟨(), trivial, ?_⟩
      simp only [xm]
      rw [wu (by omega), zq (qo hk), zq (qo hk), uo (by simp)]
      exact zq (qy (by omega))
    · simp only [xm]
      rw [uo (by omega)]
  refine (cf (by simp)).trans ?_
  rw [zy hL]; rfl
end GV
end Go.Proofs.YtkcccdcloealfaaGreat

namespace Go.Proofs.YtkcccdcloealfaaGreat
namespace GV
set_option maxRecDepth 100000
theorem znx {m : Mach} (hm : MOk m) {s0 : Nat} : ∀ (g h p : Nat) (All : List BE), Inv m s0 p 0 All → m.rows.length ≤ p + g → m.rows.length ≤ p + h → bfs m g p All = bfs m h p All
  | 0, h, p, All, hi, hg, _ => by
    have := zdz hi
    rw [zd2 (g := 0) (by omega), zd2 (g := h) (by omega)]
  | g + 1, 0, p, All, hi, _, hh => by
    have := zdz hi
    rw [zd2 (g := g + 1) (by omega), zd2 (g := 0) (by omega)]
  | g + 1, h + 1, p, All, hi, hg, hh => by
    show (if p < All.length then _ else _) = (if p < All.length then _ else _)
    by_cases hp : p < All.length
    · rw [if_pos hp, if_pos hp]
      have hpre := (z4s m (All.getD p default) All m.inputs.toNat).length_le
      exact znx hm g h (p + 1) _ (zke (zfx hm hi hp _ (Nat.le_refl _)) (by omega)) (by omega) (by omega)
    · rw [if_neg hp, if_neg hp]
def ren (L : List Nat) (e : BE) : BE := ⟨L.idxOf e.st, pos L e.par, e.inp, e.wd⟩
theorem zst {L : List Nat} {a b : Nat} (ha : a ∈ L) (hb : b ∈ L) (h : L.idxOf a = L.idxOf b) : a = b := by
  have h1 := (z6p ha).2
  have h2 := (z6p hb).2
  rw [← h1, h, h2]
theorem z4v (L : List Nat) (t : Nat) : pos L (t : Int) = (L.idxOf t : Int) := by
  unfold pos; rw [if_neg (by omega), Int.toNat_natCast]
theorem zhm {f : Nat → Nat} : ∀ {K : List Nat} {a : Nat}, (∀ b ∈ K, f b = f a → b = a) → (K.map f).idxOf (f a) = K.idxOf a
  | [], a, _ => rfl
  | b :: K, a, h => by
    rw [List.map_cons, List.idxOf_cons, List.idxOf_cons]
    by_cases e : b = a
    · subst e; simp
    · have : f b ≠ f a := fun he => e (h b (by simp) he)
      rw [beq_false_of_ne this, beq_false_of_ne e, zhm (K := K) (a := a) (fun c hc => h c (by simp [hc]))]
section
variable {m : Mach} {L : List Nat}
theorem zyq (hm : MOk m) (hc : ClosedP m L) {s i : Nat} (hs : s ∈ L) (hi : i < m.inputs.toNat) : ed (z09 m L) (L.idxOf s) i = pos L (ed m s i) := by
  obtain ⟨h1, h2⟩ := z6p hs
  show (((z09 m L).rows.getD (L.idxOf s) default).getD i default).to = _
  rw [z99 h1, h2, z8r hm (hc.rng s hs) hi]
theorem zzw {All : List BE} (hA : ∀ e ∈ All, e.st ∈ L) {t : Nat} (ht : t ∈ L) : occ (All.map (ren L)) (L.idxOf t) = occ All t := by
  unfold occ
  rw [Bool.eq_iff_iff, List.any_eq_true, List.any_eq_true]
  constructor
  · rintro ⟨e, he, h⟩
    obtain ⟨x, hx, rfl⟩ := List.mem_map.1 he
    exact ⟨x, hx, decide_eq_true (zst (hA x hx) ht (of_decide_eq_true h))⟩
  · rintro ⟨e, he, h⟩
    exact ⟨ren L e, List.mem_map.2 ⟨e, he, rfl⟩, decide_eq_true (congrArg L.idxOf (of_decide_eq_true h))⟩
theorem zx4 (hm : MOk m) (hc : ClosedP m L) {x : BE} {All : List BE} (hA : ∀ e ∈ All, e.st ∈ L) (hx : x.st ∈ L) {i : Nat} (hi : i < m.inputs.toNat) :
    push (z09 m L) (ren L x) (All.map (ren L)) i = (push m x All i).map (ren L) ∧ ∀ e ∈ push m x All i, e.st ∈ L := by
  have he : ed (z09 m L) (ren L x).st i = pos L (ed m x.st i) := zyq hm hc hx hi
  unfold push
  rw [he]
  rcases z4h hm (hc.rng _ hx) hi with h | ⟨h1, h2⟩
  · rw [h, if_pos (show pos L (-1) = -1 from rfl), if_pos (show (-1 : Int) = -1 from rfl)]
    exact ⟨rfl, hA⟩
  · have hne : ed m x.st i ≠ -1 := by omega
    have hin := hc.cl _ hx i hi hne
    have hp : pos L (ed m x.st i) = ((L.idxOf (ed m x.st i).toNat : Nat) : Int) := by unfold pos; rw [if_neg hne]
    rw [hp, if_neg (show ¬ ((L.idxOf (ed m x.st i).toNat : Nat) : Int) = -1 by omega), if_neg hne, Int.toNat_natCast, zzw hA hin]
    by_cases ho : occ All (ed m x.st i).toNat = true
    · rw [if_pos ho, if_pos ho]; exact ⟨rfl, hA⟩
    · rw [if_neg ho, if_neg ho]
      refine ⟨?_, fun e he => ?_⟩
      · rw [List.map_append]
        congr 1
      · rcases List.mem_append.1 he with he | he
        · exact hA e he
        · rw [List.mem_singleton.1 he]; exact hin
theorem zhz (hm : MOk m) (hc : ClosedP m L) {x : BE} {All : List BE} (hA : ∀ e ∈ All, e.st ∈ L) (hx : x.st ∈ L) : ∀ k, k ≤ m.inputs.toNat →
    ay (z09 m L) (ren L x) (All.map (ren L)) k = (ay m x All k).map (ren L) ∧ ∀ e ∈ ay m x All k, e.st ∈ L
  | 0, _ => ⟨rfl, hA⟩
  | k + 1, hk => by
    obtain ⟨h1, h2⟩ := zhz hm hc hA hx k (by omega)
    show push (z09 m L) (ren L x) (ay (z09 m L) (ren L x) (All.map (ren L)) k) k = (push m x (ay m x All k) k).map (ren L) ∧ ∀ e ∈ push m x (ay m x All k) k, e.st ∈ L
    rw [h1]
    exact zx4 hm hc h2 hx (by omega)
theorem zsm (hm : MOk m) (hc : ClosedP m L) : ∀ (g p : Nat) (All : List BE), (∀ e ∈ All, e.st ∈ L) → bfs (z09 m L) g p (All.map (ren L)) = (bfs m g p All).map (ren L)
  | 0, p, All, _ => rfl
  | g + 1, p, All, hA => by
    show (if p < (All.map (ren L)).length then bfs (z09 m L) g (p + 1) (ay (z09 m L) ((All.map (ren L)).getD p default) (All.map (ren L)) (z09 m L).inputs.toNat) else All.map (ren L)) = (if p < All.length then bfs m g (p + 1) (ay m (All.getD p default) All m.inputs.toNat) else All).map (ren L)
    rw [List.length_map]
    by_cases hp : p < All.length
    · rw [if_pos hp, if_pos hp]
      have e : (All.map (ren L)).getD p default = ren L (All.getD p default) := by simp [List.getD_eq_getElem?_getD, hp]
      have hx := hA _ (lg hp)
      obtain ⟨h1, h2⟩ := zhz hm hc hA hx m.inputs.toNat (Nat.le_refl _)
      rw [e, show (z09 m L).inputs.toNat = m.inputs.toNat from rfl, h1]
      exact zsm hm hc g (p + 1) _ h2
    · rw [if_neg hp, if_neg hp]
theorem zh5 : (z09 m L).rows.length = L.length := by simp [z09]
theorem zmj (hm : MOk m) (hc : ClosedP m L) {s0 : Nat} (hs : s0 ∈ L) : rch (z09 m L) (L.idxOf s0) = (rch m s0).map (ren L) := by
  have hl := zh5 (m := m) (L := L)
  obtain ⟨h1, h2⟩ := z6p hs
  have hlen := hc.len
  have hroot := zin (m := z09 m L) (s0 := L.idxOf s0) (by rw [hl]; exact h1)
  unfold rch
  rw [znx (zq3 hm hc) (z09 m L).rows.length m.rows.length 0 _ hroot (by omega) (by omega)]
  exact zsm hm hc m.rows.length 0 [⟨s0, -1, -1, []⟩] (fun e he => by rw [List.mem_singleton.1 he]; exact hs)
theorem zoi (hm : MOk m) {K : List Nat} (hk : ClosedP m K) (hKL : ∀ s ∈ K, s ∈ L) : z09 (z09 m L) (K.map fun s => L.idxOf s) = z09 m K := by
  show Mach.mk m.inputs m.outputs ((K.map fun s => L.idxOf s).map (rowP (z09 m L) (K.map fun s => L.idxOf s))) = Mach.mk m.inputs m.outputs (K.map (rowP m K))
  congr 1
  rw [List.map_map]
  refine List.map_congr_left fun s hs => ?_
  show rowP (z09 m L) (K.map fun s => L.idxOf s) (L.idxOf s) = rowP m K s
  obtain ⟨h1, h2⟩ := z6p (hKL s hs)
  show ((z09 m L).rows.getD (L.idxOf s) default).map (fun e => (⟨pos (K.map fun s => L.idxOf s) e.to, e.out⟩ : Edge)) = _
  rw [z99 h1, h2]
  unfold rowP
  rw [List.map_map]
  refine List.map_congr_left fun e he => ?_
  show Edge.mk (pos (K.map fun s => L.idxOf s) (pos L e.to)) e.out = Edge.mk (pos K e.to) e.out
  congr 1
  obtain ⟨i, hi, rfl⟩ := List.mem_iff_getElem.1 he
  have hrow := hm.row s (hk.rng s hs)
  have hed : ((m.rows.getD s default)[i]).to = ed m s i := by
    unfold ed
    rw [List.getD_eq_getElem?_getD (l := m.rows.getD s default), List.getElem?_eq_getElem hi]; rfl
  rw [hed]
  rcases z4h hm (hk.rng s hs) (show i < m.inputs.toNat by omega) with h | ⟨h3, h4⟩
  · rw [h]; rfl
  · have hin := hk.cl s hs i (by omega) (by omega)
    generalize ed m s i = t at *
    obtain ⟨t, rfl⟩ := Int.eq_ofNat_of_zero_le h3
    rw [Int.toNat_natCast] at hin
    rw [z4v, z4v, z4v, zhm (f := fun s => L.idxOf s) (fun b hb h => zst (hKL b hb) (hKL _ hin) h)]
end
/-! ### The states in their order -/
def z2y (P : List BE) : List Nat := P.map (·.st)
theorem zjd (P : List BE) : ry (z2y P) = lu P := by unfold ry z2y lu; rw [List.map_map]; rfl
theorem z5k (P : List BE) : (z2y P).length = P.length := by simp [z2y]
theorem z8m (P : List BE) {k : Nat} (hk : k < P.length) : (z2y P).getD k 0 = (P.getD k default).st := by
  simp [z2y, List.getD_eq_getElem?_getD, hk]
theorem zea {P : List BE} {s : Nat} : s ∈ z2y P ↔ ∃ j, j < P.length ∧ (P.getD j default).st = s := by
  unfold z2y; rw [List.mem_map]
  constructor
  · rintro ⟨e, he, rfl⟩
    obtain ⟨j, hj, rfl⟩ := List.mem_iff_getElem.1 he
    exact ⟨j, hj, by simp [List.getD_eq_getElem?_getD, hj]⟩
  · rintro ⟨j, hj, rfl⟩; exact ⟨_, lg hj, rfl⟩
section
variable {m : Mach} {s0 : Nat} {P : List BE}
theorem zmy (hP : Rch m s0 P) : (z2y P).Nodup := by
  unfold z2y
  rw [List.nodup_iff_pairwise_ne, List.pairwise_iff_getElem]
  intro i j hi hj hij e
  rw [List.length_map] at hi hj
  rw [List.getElem_map, List.getElem_map] at e
  have := hP.dis i j hi hj (by simpa [List.getD_eq_getElem?_getD, hj, hi] using e)
  omega
theorem z1p (hP : Rch m s0 P) : ClosedP m (z2y P) := by
  refine ⟨fun s hs => ?_, zmy hP, fun s hs i hi hne => ?_, fun e => ?_⟩
  · obtain ⟨j, hj, rfl⟩ := zea.1 hs
    exact hP.rng j hj
  · obtain ⟨q, hq, rfl⟩ := zea.1 hs
    obtain ⟨j, hj, hst, _⟩ := hP.cls q i hq hi hne
    exact zea.2 ⟨j, hj, by omega⟩
  · have h1 := z5k P
    rw [e] at h1
    have := hP.pos
    simp at h1; omega
theorem zdp (hP : Rch m s0 P) : s0 ∈ z2y P ∧ (z2y P).idxOf s0 = 0 := by
  have h0 : (z2y P).getD 0 0 = s0 := by rw [z8m P hP.pos, hP.root]
  have := z4p (zmy hP) (show 0 < (z2y P).length by rw [z5k]; exact hP.pos)
  rw [h0] at this
  exact ⟨zea.2 ⟨0, hP.pos, by rw [hP.root]⟩, this⟩
end
def z7i (m : Mach) : Mach := z09 m (z2y (rch m 0))
section
variable {m : Mach} {L : List Nat}
theorem z6r (hm : MOk m) : Rch m 0 (rch m 0) := zds hm (by have := hm.r1; omega)
theorem zij (hm : MOk m) : MOk (z7i m) := zq3 hm (z1p (z6r hm))
theorem zv1 (hm : MOk m) (hc : ClosedP m L) (h0 : 0 ∈ L) (hz : L.idxOf 0 = 0) (hsub : ∀ s ∈ z2y (rch m 0), s ∈ L) : z7i (z09 m L) = z7i m := by
  have := zmj hm hc h0
  rw [hz] at this
  unfold z7i
  rw [this]
  have e : z2y ((rch m 0).map (ren L)) = (z2y (rch m 0)).map fun s => L.idxOf s := by unfold z2y; rw [List.map_map, List.map_map]; rfl
  rw [e]
  exact zoi hm (z1p (z6r hm)) hsub
theorem ztv (hm : MOk m) : z7i (z7i m) = z7i m := by
  obtain ⟨h1, h2⟩ := zdp (z6r hm)
  exact zv1 hm (z1p (z6r hm)) h1 h2 fun s hs => hs
theorem zxi (hm : MOk m) {w : List Int} (hw : WOk m.inputs w) : z2a (z7i m) 0 w = z2a m 0 w := by
  obtain ⟨h1, h2⟩ := zdp (z6r hm)
  have := (zgh hm (z1p (z6r hm)) w (s := 0) (.inr ⟨by decide, h1⟩) hw).1
  rw [show (0 : Int) = ((0 : Nat) : Int) from rfl, z4v, h2] at this
  exact this
theorem zpy (hm : MOk m) {w : List Int} (hw : WOk m.inputs w) : l9 (z7i m) 0 w = pos (z2y (rch m 0)) (l9 m 0 w) := by
  obtain ⟨h1, h2⟩ := zdp (z6r hm)
  have := (zgh hm (z1p (z6r hm)) w (s := 0) (.inr ⟨by decide, h1⟩) hw).2
  rw [show (0 : Int) = ((0 : Nat) : Int) from rfl, z4v, h2] at this
  exact this
theorem zvv {N : Nat} (hm : MOk m) (hN : 200 ≤ N) : z2w N m = some (z7i m, 0) := by
  unfold z2w
  rw [zy (zb0 hm hN), uo (by simp), zy (zah hm hN), zy (show z3h N m (lu (rch m 0)) = some (z7i m) from by rw [← zjd]; exact znv hm (z1p (z6r hm)) hN)]
theorem zxc {a b : Mach} (ha : MOk a) : zod a b = decide (a = b) := by
  rw [Bool.eq_iff_iff, zut, decide_eq_true_eq]
  exact ⟨fun h => h.2, fun h => ⟨ha, h⟩⟩
end
end GV
end Go.Proofs.YtkcccdcloealfaaGreat

namespace Go.Proofs.YtkcccdcloealfaaGreat
namespace GV
set_option maxRecDepth 100000
theorem zjj : ∀ {a b : List Int} {k : Nat}, k < a.length → k < b.length → a.take k = b.take k → a.getD k default < b.getD k default → z6m a b
  | [], _, _, h, _, _, _ => by simp at h
  | _ :: _, [], _, _, h, _, _ => by simp at h
  | x :: a, y :: b, 0, _, _, _, h => .inl h
  | x :: a, y :: b, k + 1, h1, h2, ht, h => by
    rw [List.take_succ_cons, List.take_succ_cons] at ht
    obtain ⟨rfl, ht'⟩ := List.cons.inj ht
    exact .inr ⟨rfl, zjj (k := k) (by simpa using h1) (by simpa using h2) ht' h⟩
theorem zwd {N : Nat} {a b : List Int} (hl : a.length = b.length) (hN : a.length < N) (hb : a.length ≤ 1000000) {r : Ex Unit Int} (h1 : z6m a b → r = Ex.rt 1) (h2 : z6m b a → r = Ex.rt 0) (h3 : a = b → r = Ex.go ()) : dw N a b N 0 = some r := by
  refine ui (σ := Unit) (fun F k _ => dw N a b F (k : Int)) a.length (fun k _ => a.take k = b.take k) r (fun F k _ hk hi => ?_) (fun F _ hi => ?_) N 0 () (Nat.zero_le _) (by omega) rfl
  · simp only [dw]
    have oa : okI a (k : Int) := qo hk
    have ob : okI b (k : Int) := qo (by omega)
    rw [wu (by omega), zq oa, zq ob]
    rcases Int.lt_trichotomy (ix a (k : Int)) (ix b (k : Int)) with h | h | h
    · left
      rw [wu (by omega), zq oa, zq ob, wu h, h1 (zjj hk (by omega) hi h)]
    · right
      refine ⟨(), ?_, ?_⟩
      · rw [z7l a k hk, z7l b k (by omega), hi, show a.getD k default = b.getD k default from h]
      · rw [uo (by omega)]; exact zq (qy (by omega))
    · left
      rw [wu (by omega), zq oa, zq ob, uo (by omega), h2 (zjj (by omega) hk hi.symm h)]
  · simp only [dw]
    rw [uo (by omega), h3 (by rw [List.take_length, hl, List.take_length] at hi; exact hi)]
theorem q2s {N : Nat} {a b : List Int} (h : llt a b) (hN : a.length < N) (hb : a.length ≤ 1000000) : z03 N a b = some 1 := by
  unfold z03
  rcases h with h | ⟨hl, h⟩
  · rw [wu (by omega), wu (by omega)]
  · rw [uo (by omega), zy (zwd hl hN hb (r := Ex.rt 1) (fun _ => rfl) (fun k => absurd (zam h k) (z5a _)) (fun e => by rw [e] at h; exact absurd h (z5a _)))]; rfl
theorem q2d {N : Nat} {a b : List Int} (h : llt b a) (hN : a.length < N) (hb : a.length ≤ 1000000) : z03 N a b = some 0 := by
  unfold z03
  rcases h with h | ⟨hl, h⟩
  · rw [wu (by omega), uo (by omega)]
  · rw [uo (by omega), zy (zwd hl.symm hN hb (r := Ex.rt 0) (fun k => absurd (zam h k) (z5a _)) (fun _ => rfl) (fun e => by rw [e] at h; exact absurd h (z5a _)))]; rfl
def z0j (s : Nat) (P : List BE) : List BE := P.filter fun e => decide (e.st < s)
theorem zhk {m : Mach} {s0 : Nat} {P : List BE} (hP : Rch m s0 P) {j : Nat} (hj : j < P.length) :
    z0j ((P.getD j default).st + 1) P = z0j (P.getD j default).st (P.take j) ++ P.getD j default :: z0j (P.getD j default).st (P.drop (j + 1)) ∧
    z0j (P.getD j default).st P = z0j (P.getD j default).st (P.take j) ++ z0j (P.getD j default).st (P.drop (j + 1)) := by
  have hs : P = P.take j ++ P.getD j default :: P.drop (j + 1) := by rw [← z7w P j hj, List.take_append_drop]
  have key : ∀ i, i < P.length → i ≠ j → decide ((P.getD i default).st < (P.getD j default).st + 1) = decide ((P.getD i default).st < (P.getD j default).st) := fun i hi hne => by
    have : (P.getD i default).st ≠ (P.getD j default).st := fun e => hne (hP.dis i j hi hj e)
    rw [decide_eq_decide]; omega
  generalize hx : P.getD j default = x at *
  have h1 : z0j (x.st + 1) (P.take j) = z0j x.st (P.take j) := by
    refine List.filter_congr fun e he => ?_
    obtain ⟨i, hi, rfl⟩ := List.mem_iff_getElem.1 he
    rw [List.length_take] at hi
    have := key i (by omega) (by omega)
    rw [List.getElem_take]
    rwa [show P.getD i default = P[i]'(by omega) by simp [List.getD_eq_getElem?_getD, show i < P.length by omega]] at this
  have h2 : z0j (x.st + 1) (P.drop (j + 1)) = z0j x.st (P.drop (j + 1)) := by
    refine List.filter_congr fun e he => ?_
    obtain ⟨i, hi, rfl⟩ := List.mem_iff_getElem.1 he
    rw [List.length_drop] at hi
    have := key (j + 1 + i) (by omega) (by omega)
    rw [List.getElem_drop]
    rwa [show P.getD (j + 1 + i) default = P[j + 1 + i]'(by omega) by simp [List.getD_eq_getElem?_getD, show j + 1 + i < P.length by omega]] at this
  constructor
  · conv => lhs; rw [hs]
    unfold z0j at *
    rw [List.filter_append, List.filter_cons, if_pos (decide_eq_true (by omega)), h1, h2]
  · conv => lhs; rw [hs]
    unfold z0j
    rw [List.filter_append, List.filter_cons, if_neg (by simp)]
theorem zq6 {P : List BE} {s : Nat} (h : occ P s = false) : z0j (s + 1) P = z0j s P := by
  refine List.filter_congr fun e he => ?_
  have : e.st ≠ s := fun hst => by
    have : occ P s = true := List.any_eq_true.2 ⟨e, he, decide_eq_true hst⟩
    rw [h] at this; cases this
  rw [decide_eq_decide]; omega
theorem zug {m : Mach} {s0 : Nat} {P : List BE} (hP : Rch m s0 P) : z0j m.rows.length P = P := by
  unfold z0j
  rw [List.filter_eq_self]
  intro e he
  obtain ⟨i, hi, rfl⟩ := List.mem_iff_getElem.1 he
  have := hP.rng i hi
  rw [show P.getD i default = P[i] by simp [List.getD_eq_getElem?_getD, hi]] at this
  exact decide_eq_true this
theorem zli {m : Mach} {s0 : Nat} {P : List BE} (hP : Rch m s0 P) (s : Nat) : (lu (z0j s P)).length ≤ P.length := by
  unfold lu z0j; rw [List.length_map]; exact List.length_filter_le _ _
theorem zhp (X Y : List BE) : lu (X ++ Y) = lu X ++ lu Y := by simp [lu]
theorem zwc {N : Nat} {m : Mach} (hN : 200 ≤ N) {s0 : Nat} {P : List BE} (hP : Rch m s0 P) (hr2 : m.rows.length ≤ 64) {j : Nat} (hj : j < P.length) :
    p8 N (z0g m.rows.length P, lq m.rows.length P) (lu (z0j (P.getD j default).st P)) ((P.getD j default).st : Int) N 0 = some ((z0j (P.getD j default).st (P.take j)).length : Int) := by
  obtain ⟨_, hsp⟩ := zhk hP hj
  have hle := hP.le
  have hst := hP.rng j hj
  have hA : ∀ e ∈ z0j (P.getD j default).st (P.take j), ∃ i, i < j ∧ e = P.getD i default := fun e he => by
    obtain ⟨i, hi, rfl⟩ := List.mem_iff_getElem.1 (List.mem_filter.1 he).1
    rw [List.length_take] at hi
    exact ⟨i, by omega, by rw [List.getElem_take]; simp [List.getD_eq_getElem?_getD, show i < P.length by omega]⟩
  have hB : ∀ e ∈ z0j (P.getD j default).st (P.drop (j + 1)), ∃ i, j < i ∧ i < P.length ∧ e = P.getD i default := fun e he => by
    obtain ⟨i, hi, rfl⟩ := List.mem_iff_getElem.1 (List.mem_filter.1 he).1
    rw [List.length_drop] at hi
    exact ⟨j + 1 + i, by omega, by omega, by rw [List.getElem_drop]; simp [List.getD_eq_getElem?_getD, show j + 1 + i < P.length by omega]⟩
  have hlen := zli hP (P.getD j default).st
  rw [hsp] at hlen ⊢
  generalize hx : z0j (P.getD j default).st (P.take j) = A at *
  generalize z0j (P.getD j default).st (P.drop (j + 1)) = B at *
  have hwj : ix (z0g m.rows.length P) ((P.getD j default).st : Int) = (P.getD j default).wd := by rw [r9, z7o hst, hP.wdOf hj]
  have okw : okI (z0g m.rows.length P) ((P.getD j default).st : Int) := qo (by rw [z2m]; exact hst)
  have hlen2 : (lu (A ++ B)).length = A.length + B.length := by simp [lu]
  have hget : ∀ k, k < A.length + B.length → ix (lu (A ++ B)) (k : Int) = (((A ++ B).getD k default).st : Int) := fun k hk => by
    have hk' : k < (A ++ B).length := by rw [List.length_append]; exact hk
    rw [r9]
    unfold lu
    rw [List.getD_eq_getElem?_getD, List.getElem?_map, List.getD_eq_getElem?_getD, List.getElem?_eq_getElem hk']; rfl
  refine ui (σ := Unit) (fun F k _ => p8 N (z0g m.rows.length P, lq m.rows.length P) (lu (A ++ B)) ((P.getD j default).st : Int) F (k : Int)) A.length (fun _ _ => True) _ (fun F k _ hk _ => ?_) (fun F _ _ => ?_) N 0 () (Nat.zero_le _) (by omega) trivial
  · right
    refine ⟨(), trivial, ?_⟩
    simp only [p8, hget k (by omega), hwj]
    have he : (A ++ B).getD k default ∈ A := by
      have : (A ++ B).getD k default = A[k] := by simp [List.getD_eq_getElem?_getD, List.getElem?_append_left hk, hk]
      rw [this]; exact List.getElem_mem hk
    obtain ⟨i, hij, hei⟩ := hA _ he
    rw [hei]
    have hsi := hP.rng i (by omega)
    have hwi : ix (z0g m.rows.length P) ((P.getD i default).st : Int) = (P.getD i default).wd := by rw [r9, z7o hsi, hP.wdOf (by omega)]
    have hwl := (hP.wok i (by omega)).2
    rw [hwi, zq (fun _ => qo (by omega)), zq (fun _ => qo (by rw [z2m]; exact hsi)), zq (fun _ => okw), zb1 (fun _ => q2s (N := N) (hP.inc i j hij hj) (by omega) (by omega))]
    have hd : decide ((k : Int) < ((lu (A ++ B)).length : Int)) = true := decide_eq_true (by omega)
    refine (ct (by rw [hd]; rfl)).trans ?_
    exact zq (qy (by omega))
  · simp only [p8]
    by_cases hb : 0 < B.length
    · have hd : decide ((A.length : Int) < ((lu (A ++ B)).length : Int)) = true := decide_eq_true (by omega)
      simp only [hget A.length (by omega), hwj]
      have he : (A ++ B).getD A.length default ∈ B := by
        have : (A ++ B).getD A.length default = B[0] := by simp [List.getD_eq_getElem?_getD, hb]
        rw [this]; exact List.getElem_mem hb
      obtain ⟨i, hij, hil, hei⟩ := hB _ he
      rw [hei]
      have hsi := hP.rng i (by omega)
      have hwi : ix (z0g m.rows.length P) ((P.getD i default).st : Int) = (P.getD i default).wd := by rw [r9, z7o hsi, hP.wdOf (by omega)]
      have hwl := (hP.wok i (by omega)).2
      rw [hwi, zq (fun _ => qo (by omega)), zq (fun _ => qo (by rw [z2m]; exact hsi)), zq (fun _ => okw), zb1 (fun _ => q2d (N := N) (hP.inc j i hij hil) (by omega) (by omega))]
      exact cf (by rw [hd]; rfl)
    · have hd : decide ((A.length : Int) < ((lu (A ++ B)).length : Int)) = false := decide_eq_false (by omega)
      rw [hd, zq (fun h => by simp at h), zq (fun h => by simp at h), zq (fun h => by simp at h), zt9 (by rfl)]
      rfl
theorem ztj {N : Nat} {m : Mach} (hm : MOk m) (hN : 400 ≤ N) (h6 : m.rows.length ≤ 6) (h3 : m.inputs ≤ 3) : z1y N m = some (lu (rch m 0)) := by
  have hP := z6r hm
  have hr2 := hm.r2
  unfold z1y
  rw [zy (zrj hm hN h6 h3)]
  generalize rch m 0 = P at *
  have hle := hP.le
  have hL : bz N (z0g m.rows.length P, lq m.rows.length P) N [] 0 = some (lu P) := by
    refine ui (σ := List Int) (fun F k st => bz N (z0g m.rows.length P, lq m.rows.length P) F st (k : Int)) m.rows.length (fun k st => st = lu (z0j k P)) _ (fun F k st hk hst => ?_) (fun F st hst => ?_) N 0 _ (Nat.zero_le _) (by omega) (by unfold z0j lu; simp)
    · subst hst
      right
      refine ⟨_, rfl, ?_⟩
      have hixs : ix (lq m.rows.length P) (k : Int) = occ P k := by rw [r9, z6d hk]
      simp only [bz, hixs]
      rw [wu (by rw [z2m]; omega)]
      refine (zy (x := lu (z0j (k + 1) P)) ?_).trans (zq (qy (by omega)))
      rw [zq (qo (by rw [z1n]; exact hk))]
      cases ho : occ P k
      · rw [ct (b := !false) rfl, zq6 ho]
      · rw [cf (b := !true) rfl]
        obtain ⟨j, hj, rfl⟩ := z15.1 ho
        obtain ⟨h1, h2⟩ := zhk hP hj
        have hlen := zli hP (P.getD j default).st
        rw [zy (zwc (by omega) hP hr2 hj), h1, h2]
        rw [h2] at hlen
        generalize z0j (P.getD j default).st (P.take j) = A at *
        generalize z0j (P.getD j default).st (P.drop (j + 1)) = B at *
        have hla : (lu A).length = A.length := by simp [lu]
        have hlb : (lu B).length = B.length := by simp [lu]
        rw [zhp] at hlen ⊢
        rw [List.length_append] at hlen
        have c1 : cut (lu A ++ lu B) 0 (A.length : Int) = lu A := by rw [zxs, ← hla, List.take_left]
        have c2 : cut (lu A ++ lu B) (A.length : Int) ((lu A ++ lu B).length : Int) = lu B := by
          unfold cut
          rw [Int.toNat_natCast, Int.toNat_natCast, ← hla, List.drop_left, List.take_of_length_le (by rw [List.length_append]; omega)]
        have f : ∀ {X Y : List Int}, X.length ≤ 1000 → Y.length ≤ 1000 → fits 8 X Y := fun h1 h2 => ⟨by omega, by omega⟩
        have la : (lu A ++ lu B).length = A.length + B.length := by rw [List.length_append]; omega
        rw [zq ⟨by omega, by omega, by omega⟩, c1, zq (f (by simp) (by omega)), List.nil_append, zq (f (by omega) (by simp)), zq ⟨by omega, by omega, by omega⟩, c2, zq (f (by rw [List.length_append]; simp; omega) (by omega))]
        rw [zhp, List.append_assoc]; rfl
    · subst hst
      simp only [bz]
      rw [uo (by rw [z2m]; omega), zug hP]
  rw [zy hL]
end GV
end Go.Proofs.YtkcccdcloealfaaGreat

namespace Go.Proofs.YtkcccdcloealfaaGreat
namespace GV
set_option maxRecDepth 100000
structure Num (n : Nat) (L : List Nat) : Prop where
  len : L.length = n
  rng : ∀ k, k < n → L.getD k 0 < n
  inj : ∀ i j, i < n → j < n → L.getD i 0 = L.getD j 0 → i = j
  sur : ∀ s, s < n → ∃ k, k < n ∧ L.getD k 0 = s
  zero : L.getD 0 0 = 0
def tr (a b k : Nat) : Nat := if k = b then a else if k = a then b else k
section
variable {m : Mach} {L : List Nat}
end
theorem z9r {α β : Type} {b : Bool} {e : Option α} {v : α} {k : Option α → Option β} (hb : b = true) (he : e = some v) : bd (gop b e) k = k (some v) := by
  rw [zb1 (fun _ => he), hb]; rfl
end GV
end Go.Proofs.YtkcccdcloealfaaGreat

namespace Go.Proofs.YtkcccdcloealfaaGreat
namespace GV
set_option maxRecDepth 100000
theorem zgn {N : Nat} (hN : 200 ≤ N) (e : Int) : z0b N [0, e] = some e := by
  unfold z0b
  obtain ⟨M, rfl⟩ : ∃ M, N = M + 3 := ⟨N - 3, by omega⟩
  by_cases h : e = 0
  · subst h
    have : bu (M + 3) [0, 0] (M + 3) 0 = some (Ex.go ()) := by
      simp only [bu]
      rw [wu (by simp), zq ⟨by simp, by simp⟩, uo (by simp [ix]), zq (qy (by simp)), wu (by simp), zq ⟨by simp, by simp⟩, uo (by simp [ix]), zq (qy (by simp)), uo (by simp)]
    rw [zy this]; rfl
  · have : bu (M + 3) [0, e] (M + 3) 0 = some (Ex.rt e) := by
      simp only [bu]
      rw [wu (by simp), zq ⟨by simp, by simp⟩, uo (by simp [ix]), zq (qy (by simp)), wu (by simp), zq ⟨by simp, by simp⟩, wu (by simpa [ix] using h)]
      simp [ix]
    rw [zy this]; rfl
theorem wrap_u64 {n : Int} (h0 : 0 ≤ n) (h : n < 18446744073709551616) : IntKind.u64.wrap n = n := by
  simp only [IntKind.wrap, IntKind.signed, IntKind.bits, Bool.false_and]
  exact Int.emod_eq_of_lt h0 h
def ziv (n k : Nat) : List Int := List.replicate k (-1) ++ List.replicate (n - k) 0
theorem zxz {n k j : Nat} (hk : k ≤ n) (hj : j ≤ k) (hjn : j ≤ n - k) : z7d (ziv n k) k (List.replicate j (-1)) = ziv n (k + j) := by
  unfold z7d ziv
  rw [List.length_replicate, List.take_left' (by simp), ← List.drop_drop, List.drop_left' (by simp), List.drop_replicate, List.replicate_append_replicate, Nat.sub_sub]
theorem zwh {n k j : Nat} (hj : j ≤ k) : (ziv n k).take j = List.replicate j (-1) := by
  unfold ziv
  rw [List.take_append_of_le_length (by simpa using hj), List.take_replicate, Nat.min_eq_left hj]
theorem zmx {n k : Nat} (hk : k ≤ n) : (ziv n k).length = n := by unfold ziv; simp; omega
theorem zvq {N : Nat} {n : Nat} (hn : n ≤ 1000) : ∀ (F k : Nat), 1 ≤ k → k ≤ n → n - k < F → nz N F (k : Int) (ziv n k) = some (List.replicate n (-1))
  | 0, k, _, _, h => by omega
  | F + 1, k, h1, h2, h => by
    simp only [nz, zmx h2]
    by_cases hk : k < n
    · rw [wu (by omega), zq ⟨by omega, by omega, by rw [zmx h2]; omega⟩, zq ⟨by omega, by omega, by rw [zmx h2]; omega⟩]
      simp only [Int.toNat_natCast, Nat.sub_zero, List.drop_zero]
      rw [zq (qy (by omega)), zwh (Nat.min_le_left _ _), zxz h2 (Nat.min_le_left _ _) (Nat.min_le_right _ _)]
      have : (k : Int) + ((min k (n - k) : Nat) : Int) = ((k + min k (n - k) : Nat) : Int) := by omega
      rw [this]
      exact zvq hn F _ (by omega) (by omega) (by omega)
    · rw [uo (by omega)]
      have : k = n := by omega
      subst this
      unfold ziv
      rw [Nat.sub_self, List.replicate_zero, List.append_nil]
theorem zl2 {N : Nat} (hN : 200 ≤ N) {n : Nat} (h1 : 1 ≤ n) (h2 : n ≤ 100) : z0l N [-1] (n : Int) = some (List.replicate n (-1)) := by
  unfold z0l
  have hm : z5n N (IntKind.u64.wrap (([-1] : List Int).length : Int)) (IntKind.u64.wrap (n : Int)) = some (0, (n : Int)) := by
    rw [wrap_u64 (by simp) (by simp), wrap_u64 (by omega) (by omega)]
    unfold z5n
    rw [zq ⟨⟨by simp, by simp⟩, by omega, by omega⟩]
    congr 1
    have : (([-1] : List Int).length : Int) = 1 := rfl
    rw [this, Int.one_mul, Int.ediv_eq_zero_of_lt (by omega) (by omega), Int.emod_eq_of_lt (by omega) (by omega)]
  rw [uo (by omega), zy hm]
  refine (cf ?_).trans ?_
  · show (decide ((0 : Int) < 0) || decide ((9223372036854775807 : Int) < (n : Int))) = false
    rw [decide_eq_false (show ¬ (9223372036854775807 : Int) < (n : Int) by omega)]; rfl
  have hl : (mk (n : Int) (0 : Int)).length = n := by rw [z7n, List.length_replicate]
  have hmin : min ([-1] : List Int).length (mk (n : Int) (0 : Int)).length = 1 := by rw [hl]; simp; omega
  show gd (in64 (n : Int)) (gd (okM 8 (n : Int)) (bd (nz N N _ _) fun o37 => some o37)) = _
  rw [zq (qy (by omega)), zq ⟨by omega, by omega, by omega⟩, hmin]
  have e : z7d (mk (n : Int) (0 : Int)) 0 (([-1] : List Int).take 1) = ziv n 1 := by
    unfold z7d ziv
    rw [z7n, List.take_zero, List.nil_append]
    simp [List.drop_replicate]
  rw [e, zy (zvq (by omega) N 1 (by omega) h1 (by omega))]
def q0k (P Q : List BE) (s : Nat) : Int := if occ P s = true then ((Q.getD ((z2y P).idxOf s) default).st : Int) else -1
def zkr (n : Nat) (P Q : List BE) : List Int := (List.range n).map (q0k P Q)
theorem zya (n : Nat) (P Q : List BE) : (zkr n P Q).length = n := by simp [zkr]
theorem zwv {n s : Nat} {P Q : List BE} (h : s < n) : (zkr n P Q).getD s default = q0k P Q s := by simp [zkr, List.getD_eq_getElem?_getD, h]
theorem zdr {P : List BE} {k : Nat} (hk : k < P.length) : ix (lu P) (k : Int) = ((P.getD k default).st : Int) := by
  rw [r9]; unfold lu
  rw [List.getD_eq_getElem?_getD, List.getElem?_map, List.getD_eq_getElem?_getD, List.getElem?_eq_getElem hk]; rfl
theorem zdj (P : List BE) : (lu P).length = P.length := by simp [lu]
theorem zn7 {m : Mach} {s0 : Nat} {P : List BE} (hP : Rch m s0 P) {j : Nat} (hj : j < P.length) : (z2y P).idxOf (P.getD j default).st = j := by
  have := z4p (zmy hP) (show j < (z2y P).length by rw [z5k]; exact hj)
  rwa [z8m P hj] at this
theorem q25 {N : Nat} {a b : Mach} (hN : 200 ≤ N) {P Q : List BE} (hP : Rch a 0 P) (hQ : Rch b 0 Q) (hr : a.rows.length ≤ 64) (hl : P.length = Q.length) :
    o8 N (lu P) (lu Q) N 0 (List.replicate a.rows.length (-1)) = some (zkr a.rows.length P Q) := by
  have hle := hP.le
  refine ui (σ := List Int) (fun F k st => o8 N (lu P) (lu Q) F (k : Int) st) P.length
    (fun k st => st = (List.range a.rows.length).map fun s => if occ (P.take k) s = true then ((Q.getD ((z2y P).idxOf s) default).st : Int) else -1) _ (fun F k st hk hst => ?_) (fun F st hst => ?_) N 0 _ (Nat.zero_le _) (by omega) ?_
  · subst hst
    right
    refine ⟨_, rfl, ?_⟩
    have hrng := hP.rng k hk
    simp only [o8, zdr hk, zdr (show k < Q.length by omega)]
    rw [wu (by rw [zdj]; omega), zq (qo (by rw [zdj]; omega)), zq (qo (by rw [zdj]; omega)), zq (qo (by simpa using hrng)), zq (qy (by omega))]
    rw [z5u]
    congr 1
    refine l6 (by simp) fun s hs => ?_
    rw [List.length_set, List.length_map, List.length_range] at hs
    rw [fe _ hs, List.getD_eq_getElem?_getD, List.getElem?_set]
    rw [z9k P k hk, zor]
    by_cases e : (P.getD k default).st = s
    · subst e
      rw [if_pos rfl, if_pos (by simpa using hs), decide_eq_true (rfl), Bool.or_true, if_pos rfl, zn7 hP hk]; rfl
    · rw [if_neg e, ← List.getD_eq_getElem?_getD, fe _ hs, decide_eq_false e, Bool.or_false]
  · subst hst
    simp only [o8]
    rw [uo (by rw [zdj]; omega), List.take_length]; rfl
  · refine l6 (by simp) fun s hs => ?_
    rw [List.length_replicate] at hs
    rw [fe _ hs]
    simp [List.getD_eq_getElem?_getD, hs, occ]
theorem zks {a b : Mach} (ha : MOk a) (hb : MOk b) (h : z7i a = z7i b) : a.inputs = b.inputs ∧ (rch a 0).length = (rch b 0).length ∧ ∀ j, j < (rch a 0).length → l9 b 0 ((rch a 0).getD j default).wd = (((rch b 0).getD j default).st : Int) := by
  have hi : a.inputs = b.inputs := (zi9.1 h).1
  have hP := z6r ha
  have hQ := z6r hb
  have hl : (rch a 0).length = (rch b 0).length := by
    have := congrArg (fun m : Mach => m.rows.length) h
    simp only [z7i, zh5, z5k] at this
    exact this
  refine ⟨hi, hl, fun j hj => ?_⟩
  have hw := (hP.wok j hj).1
  have hwb : WOk b.inputs ((rch a 0).getD j default).wd := hi ▸ hw
  have h1 := zpy ha hw
  have haft : l9 a 0 ((rch a 0).getD j default).wd = (((rch a 0).getD j default).st : Int) := hP.aft j hj
  rw [haft, z4v, zn7 hP hj, h, zpy hb hwb] at h1
  have hne : l9 b 0 ((rch a 0).getD j default).wd ≠ -1 := fun e => by
    rw [e] at h1
    have : pos (z2y (rch b 0)) (-1) = -1 := rfl
    omega
  obtain ⟨i, hi', hst, _⟩ := hQ.least hb _ _ rfl hwb hne
  rw [show ((0 : Nat) : Int) = 0 from rfl] at hst
  rw [← hst, z4v, zn7 hQ hi'] at h1
  have : i = j := by omega
  subst this
  exact hst.symm
theorem q1r {N : Nat} {a b : Mach} (ha : MOk a) (hb : MOk b) (hN : 200 ≤ N) : z2i N a b = some (if z7i a = z7i b then (zkr a.rows.length (rch a 0) (rch b 0), true, 0) else ([], false, 0)) := by
  have hr1 := ha.r1
  have hr2 := ha.r2
  have hP := z6r ha
  have hQ := z6r hb
  unfold z2i
  rw [zy (zb0 ha hN), zy (zb0 hb hN), zy (zgn hN 0), uo (by simp), zy (zah ha hN), zy (zah hb hN)]
  rw [zy (show z3h N a (lu (rch a 0)) = some (z7i a) from by rw [← zjd]; exact znv ha (z1p hP) hN)]
  rw [zy (show z3h N b (lu (rch b 0)) = some (z7i b) from by rw [← zjd]; exact znv hb (z1p hQ) hN)]
  rw [zy (zwo (zij ha).small (zij hb).small hN), zxc (zij ha)]
  by_cases h : z7i a = z7i b
  · rw [if_pos h]
    obtain ⟨_, hl, _⟩ := zks ha hb h
    refine (cf (by rw [decide_eq_true h]; rfl)).trans ?_
    rw [zy (zl2 hN hr1 (by omega)), zy (q25 hN hP hQ hr2 hl), zy zmu]
  · rw [if_neg h]
    exact ct (by rw [decide_eq_false h]; rfl)
end GV
end Go.Proofs.YtkcccdcloealfaaGreat

namespace Go.Proofs.YtkcccdcloealfaaGreat
namespace GV
set_option maxRecDepth 100000
end GV
end Go.Proofs.YtkcccdcloealfaaGreat

namespace Go.Proofs.YtkcccdcloealfaaGreat
namespace GV
set_option maxRecDepth 100000
section
variable {N : Nat} {m : Mach}
end
end GV
end Go.Proofs.YtkcccdcloealfaaGreat
