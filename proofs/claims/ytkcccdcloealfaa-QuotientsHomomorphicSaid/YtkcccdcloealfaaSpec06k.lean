
import Derived.Test.YtkcccdcloealfaaPart06
set_option linter.unusedVariables false
set_option linter.unusedSimpArgs false
namespace Go.Proofs.Ytkcccdcloealfaa
namespace GV
set_option maxRecDepth 100000
end GV
end Go.Proofs.Ytkcccdcloealfaa

namespace Go.Proofs.Ytkcccdcloealfaa
namespace GV
set_option maxRecDepth 100000
theorem zj0 {m : Mach} (hm : MOk m) {s0 : Nat} : ∀ (g h p : Nat) (All : List BE), Inv m s0 p 0 All → m.rows.length ≤ p + g → m.rows.length ≤ p + h → bfs m g p All = bfs m h p All
  | 0, h, p, All, hi, hg, _ => by
    have := z92 hi
    rw [z8q (g := 0) (by omega), z8q (g := h) (by omega)]
  | g + 1, 0, p, All, hi, _, hh => by
    have := z92 hi
    rw [z8q (g := g + 1) (by omega), z8q (g := 0) (by omega)]
  | g + 1, h + 1, p, All, hi, hg, hh => by
    show (if p < All.length then _ else _) = (if p < All.length then _ else _)
    by_cases hp : p < All.length
    · rw [if_pos hp, if_pos hp]
      have hpre := (z0o m (All.getD p default) All m.inputs.toNat).length_le
      exact zj0 hm g h (p + 1) _ (zf4 (zbh hm hi hp _ (Nat.le_refl _)) (by omega)) (by omega) (by omega)
    · rw [if_neg hp, if_neg hp]
def ren (L : List Nat) (e : BE) : BE := ⟨L.idxOf e.st, pos L e.par, e.inp, e.wd⟩
theorem zmj {L : List Nat} {a b : Nat} (ha : a ∈ L) (hb : b ∈ L) (h : L.idxOf a = L.idxOf b) : a = b := by
  have h1 := (z3x ha).2
  have h2 := (z3x hb).2
  rw [← h1, h, h2]
theorem z5k (L : List Nat) (t : Nat) : pos L (t : Int) = (L.idxOf t : Int) := by
  unfold pos; rw [if_neg (by omega), Int.toNat_natCast]
theorem zcw {f : Nat → Nat} : ∀ {K : List Nat} {a : Nat}, (∀ b ∈ K, f b = f a → b = a) → (K.map f).idxOf (f a) = K.idxOf a
  | [], a, _ => rfl
  | b :: K, a, h => by
    rw [List.map_cons, List.idxOf_cons, List.idxOf_cons]
    by_cases e : b = a
    · subst e; simp
    · have : f b ≠ f a := fun he => e (h b (by simp) he)
      rw [beq_false_of_ne this, beq_false_of_ne e, zcw (K := K) (a := a) (fun c hc => h c (by simp [hc]))]
section
variable {m : Mach} {L : List Nat}
theorem zrq (hm : MOk m) (hc : ClosedP m L) {s i : Nat} (hs : s ∈ L) (hi : i < m.inputs.toNat) : ed (nk m L) (L.idxOf s) i = pos L (ed m s i) := by
  obtain ⟨h1, h2⟩ := z3x hs
  show (((nk m L).rows.getD (L.idxOf s) default).getD i default).to = _
  rw [z6r h1, h2, z6b hm (hc.rng s hs) hi]
theorem zs4 {All : List BE} (hA : ∀ e ∈ All, e.st ∈ L) {t : Nat} (ht : t ∈ L) : occ (All.map (ren L)) (L.idxOf t) = occ All t := by
  unfold occ
  rw [Bool.eq_iff_iff, List.any_eq_true, List.any_eq_true]
  constructor
  · rintro ⟨e, he, h⟩
    obtain ⟨x, hx, rfl⟩ := List.mem_map.1 he
    exact ⟨x, hx, decide_eq_true (zmj (hA x hx) ht (of_decide_eq_true h))⟩
  · rintro ⟨e, he, h⟩
    exact ⟨ren L e, List.mem_map.2 ⟨e, he, rfl⟩, decide_eq_true (congrArg L.idxOf (of_decide_eq_true h))⟩
theorem zrh (hm : MOk m) (hc : ClosedP m L) {x : BE} {All : List BE} (hA : ∀ e ∈ All, e.st ∈ L) (hx : x.st ∈ L) {i : Nat} (hi : i < m.inputs.toNat) :
    push (nk m L) (ren L x) (All.map (ren L)) i = (push m x All i).map (ren L) ∧ ∀ e ∈ push m x All i, e.st ∈ L := by
  have he : ed (nk m L) (ren L x).st i = pos L (ed m x.st i) := zrq hm hc hx hi
  unfold push
  rw [he]
  rcases z14 hm (hc.rng _ hx) hi with h | ⟨h1, h2⟩
  · rw [h, if_pos (show pos L (-1) = -1 from rfl), if_pos (show (-1 : Int) = -1 from rfl)]
    exact ⟨rfl, hA⟩
  · have hne : ed m x.st i ≠ -1 := by omega
    have hin := hc.cl _ hx i hi hne
    have hp : pos L (ed m x.st i) = ((L.idxOf (ed m x.st i).toNat : Nat) : Int) := by unfold pos; rw [if_neg hne]
    rw [hp, if_neg (show ¬ ((L.idxOf (ed m x.st i).toNat : Nat) : Int) = -1 by omega), if_neg hne, Int.toNat_natCast, zs4 hA hin]
    by_cases ho : occ All (ed m x.st i).toNat = true
    · rw [if_pos ho, if_pos ho]; exact ⟨rfl, hA⟩
    · rw [if_neg ho, if_neg ho]
      refine ⟨?_, fun e he => ?_⟩
      · rw [List.map_append]
        congr 1
      · rcases List.mem_append.1 he with he | he
        · exact hA e he
        · rw [List.mem_singleton.1 he]; exact hin
theorem zcy (hm : MOk m) (hc : ClosedP m L) {x : BE} {All : List BE} (hA : ∀ e ∈ All, e.st ∈ L) (hx : x.st ∈ L) : ∀ k, k ≤ m.inputs.toNat →
    gy (nk m L) (ren L x) (All.map (ren L)) k = (gy m x All k).map (ren L) ∧ ∀ e ∈ gy m x All k, e.st ∈ L
  | 0, _ => ⟨rfl, hA⟩
  | k + 1, hk => by
    obtain ⟨h1, h2⟩ := zcy hm hc hA hx k (by omega)
    show push (nk m L) (ren L x) (gy (nk m L) (ren L x) (All.map (ren L)) k) k = (push m x (gy m x All k) k).map (ren L) ∧ ∀ e ∈ push m x (gy m x All k) k, e.st ∈ L
    rw [h1]
    exact zrh hm hc h2 hx (by omega)
theorem zmy (hm : MOk m) (hc : ClosedP m L) : ∀ (g p : Nat) (All : List BE), (∀ e ∈ All, e.st ∈ L) → bfs (nk m L) g p (All.map (ren L)) = (bfs m g p All).map (ren L)
  | 0, p, All, _ => rfl
  | g + 1, p, All, hA => by
    show (if p < (All.map (ren L)).length then bfs (nk m L) g (p + 1) (gy (nk m L) ((All.map (ren L)).getD p default) (All.map (ren L)) (nk m L).inputs.toNat) else All.map (ren L)) = (if p < All.length then bfs m g (p + 1) (gy m (All.getD p default) All m.inputs.toNat) else All).map (ren L)
    rw [List.length_map]
    by_cases hp : p < All.length
    · rw [if_pos hp, if_pos hp]
      have e : (All.map (ren L)).getD p default = ren L (All.getD p default) := by simp [List.getD_eq_getElem?_getD, hp]
      have hx := hA _ (oh hp)
      obtain ⟨h1, h2⟩ := zcy hm hc hA hx m.inputs.toNat (Nat.le_refl _)
      rw [e, show (nk m L).inputs.toNat = m.inputs.toNat from rfl, h1]
      exact zmy hm hc g (p + 1) _ h2
    · rw [if_neg hp, if_neg hp]
theorem zcl : (nk m L).rows.length = L.length := by simp [nk]
theorem zmc (hm : MOk m) (hc : ClosedP m L) {s0 : Nat} (hs : s0 ∈ L) : rch (nk m L) (L.idxOf s0) = (rch m s0).map (ren L) := by
  have hl := zcl (m := m) (L := L)
  obtain ⟨h1, h2⟩ := z3x hs
  have hlen := hc.len
  have hroot := zdr (m := nk m L) (s0 := L.idxOf s0) (by rw [hl]; exact h1)
  unfold rch
  rw [zj0 (zjo hm hc) (nk m L).rows.length m.rows.length 0 _ hroot (by omega) (by omega)]
  exact zmy hm hc m.rows.length 0 [⟨s0, -1, -1, []⟩] (fun e he => by rw [List.mem_singleton.1 he]; exact hs)
theorem zj9 (hm : MOk m) {K : List Nat} (hk : ClosedP m K) (hKL : ∀ s ∈ K, s ∈ L) : nk (nk m L) (K.map fun s => L.idxOf s) = nk m K := by
  show Mach.mk m.inputs m.outputs ((K.map fun s => L.idxOf s).map (rowP (nk m L) (K.map fun s => L.idxOf s))) = Mach.mk m.inputs m.outputs (K.map (rowP m K))
  congr 1
  rw [List.map_map]
  refine List.map_congr_left fun s hs => ?_
  show rowP (nk m L) (K.map fun s => L.idxOf s) (L.idxOf s) = rowP m K s
  obtain ⟨h1, h2⟩ := z3x (hKL s hs)
  show ((nk m L).rows.getD (L.idxOf s) default).map (fun e => (⟨pos (K.map fun s => L.idxOf s) e.to, e.out⟩ : Edge)) = _
  rw [z6r h1, h2]
  unfold rowP
  rw [List.map_map]
  refine List.map_congr_left fun e he => ?_
  show Edge.mk (pos (K.map fun s => L.idxOf s) (pos L e.to)) e.out = Edge.mk (pos K e.to) e.out
  congr 1
  obtain ⟨i, hi, rfl⟩ := List.mem_iff_getElem.1 he
  have hrow := hm.row s (hk.rng s hs)
  have hed : ((m.rows.getD s default)[i]).to = ed m s i := by
    unfold ed
    rw [List.getD_eq_getElem?_getD (l := m.rows.getD s default), List.getElem?_eq_getElem hi]; rfl
  rw [hed]
  rcases z14 hm (hk.rng s hs) (show i < m.inputs.toNat by omega) with h | ⟨h3, h4⟩
  · rw [h]; rfl
  · have hin := hk.cl s hs i (by omega) (by omega)
    generalize ed m s i = t at *
    obtain ⟨t, rfl⟩ := Int.eq_ofNat_of_zero_le h3
    rw [Int.toNat_natCast] at hin
    rw [z5k, z5k, z5k, zcw (f := fun s => L.idxOf s) (fun b hb h => zmj (hKL b hb) (hKL _ hin) h)]
end
/-! ### The states in their order -/
def fq (P : List BE) : List Nat := P.map (·.st)
theorem zf3 (P : List BE) : fo (fq P) = z3c P := by unfold fo fq z3c; rw [List.map_map]; rfl
theorem z2f (P : List BE) : (fq P).length = P.length := by simp [fq]
theorem z4k (P : List BE) {k : Nat} (hk : k < P.length) : (fq P).getD k 0 = (P.getD k default).st := by
  simp [fq, List.getD_eq_getElem?_getD, hk]
theorem z8z {P : List BE} {s : Nat} : s ∈ fq P ↔ ∃ j, j < P.length ∧ (P.getD j default).st = s := by
  unfold fq; rw [List.mem_map]
  constructor
  · rintro ⟨e, he, rfl⟩
    obtain ⟨j, hj, rfl⟩ := List.mem_iff_getElem.1 he
    exact ⟨j, hj, by simp [List.getD_eq_getElem?_getD, hj]⟩
  · rintro ⟨j, hj, rfl⟩; exact ⟨_, oh hj, rfl⟩
section
variable {m : Mach} {s0 : Nat} {P : List BE}
theorem zh6 (hP : Rch m s0 P) : (fq P).Nodup := by
  unfold fq
  rw [List.nodup_iff_pairwise_ne, List.pairwise_iff_getElem]
  intro i j hi hj hij e
  rw [List.length_map] at hi hj
  rw [List.getElem_map, List.getElem_map] at e
  have := hP.dis i j hi hj (by simpa [List.getD_eq_getElem?_getD, hj, hi] using e)
  omega
theorem l7 (hP : Rch m s0 P) : ClosedP m (fq P) := by
  refine ⟨fun s hs => ?_, zh6 hP, fun s hs i hi hne => ?_, fun e => ?_⟩
  · obtain ⟨j, hj, rfl⟩ := z8z.1 hs
    exact hP.rng j hj
  · obtain ⟨q, hq, rfl⟩ := z8z.1 hs
    obtain ⟨j, hj, hst, _⟩ := hP.cls q i hq hi hne
    exact z8z.2 ⟨j, hj, by omega⟩
  · have h1 := z2f P
    rw [e] at h1
    have := hP.pos
    simp at h1; omega
theorem zez (hP : Rch m s0 P) : s0 ∈ fq P ∧ (fq P).idxOf s0 = 0 := by
  have h0 : (fq P).getD 0 0 = s0 := by rw [z4k P hP.pos, hP.root]
  have := z3a (zh6 hP) (show 0 < (fq P).length by rw [z2f]; exact hP.pos)
  rw [h0] at this
  exact ⟨z8z.2 ⟨0, hP.pos, by rw [hP.root]⟩, this⟩
end
def z3p (m : Mach) : Mach := nk m (fq (rch m 0))
section
variable {m : Mach} {L : List Nat}
theorem z3u (hm : MOk m) : Rch m 0 (rch m 0) := zar hm (by have := hm.r1; omega)
theorem zdk (hm : MOk m) : MOk (z3p m) := zjo hm (l7 (z3u hm))
theorem zok (hm : MOk m) (hc : ClosedP m L) (h0 : 0 ∈ L) (hz : L.idxOf 0 = 0) (hsub : ∀ s ∈ fq (rch m 0), s ∈ L) : z3p (nk m L) = z3p m := by
  have := zmc hm hc h0
  rw [hz] at this
  unfold z3p
  rw [this]
  have e : fq ((rch m 0).map (ren L)) = (fq (rch m 0)).map fun s => L.idxOf s := by unfold fq; rw [List.map_map, List.map_map]; rfl
  rw [e]
  exact zj9 hm (l7 (z3u hm)) hsub
theorem zn9 (hm : MOk m) : z3p (z3p m) = z3p m := by
  obtain ⟨h1, h2⟩ := zez (z3u hm)
  exact zok hm (l7 (z3u hm)) h1 h2 fun s hs => hs
theorem zio (hm : MOk m) {w : List Int} (hw : WOk m.inputs w) : nu (z3p m) 0 w = pos (fq (rch m 0)) (nu m 0 w) := by
  obtain ⟨h1, h2⟩ := zez (z3u hm)
  have := (zis hm (l7 (z3u hm)) w (s := 0) (.inr ⟨by decide, h1⟩) hw).2
  rw [show (0 : Int) = ((0 : Nat) : Int) from rfl, z5k, h2] at this
  exact this
theorem zp5 {N : Nat} (hm : MOk m) (hN : 200 ≤ N) : su N m = some (z3p m, 0) := by
  unfold su
  rw [qf (z5s hm hN), xw (by simp), qf (z5o hm hN), qf (show lc N m (z3c (rch m 0)) = some (z3p m) from by rw [← zf3]; exact zhe hm (l7 (z3u hm)) hN)]
theorem zot {a b : Mach} (ha : MOk a) : zji a b = decide (a = b) := by
  rw [Bool.eq_iff_iff, zo7, decide_eq_true_eq]
  exact ⟨fun h => h.2, fun h => ⟨ha, h⟩⟩
end
end GV
end Go.Proofs.Ytkcccdcloealfaa

namespace Go.Proofs.Ytkcccdcloealfaa
namespace GV
set_option maxRecDepth 100000
end GV
end Go.Proofs.Ytkcccdcloealfaa

namespace Go.Proofs.Ytkcccdcloealfaa
namespace GV
set_option maxRecDepth 100000
structure Num (n : Nat) (L : List Nat) : Prop where
  len : L.length = n
  rng : ∀ k, k < n → L.getD k 0 < n
  inj : ∀ i j, i < n → j < n → L.getD i 0 = L.getD j 0 → i = j
  sur : ∀ s, s < n → ∃ k, k < n ∧ L.getD k 0 = s
  zero : L.getD 0 0 = 0
section
variable {m : Mach} {L : List Nat}
end
theorem zsp {α β : Type} {b : Bool} {e : Option α} {v : α} {k : Option α → Option β} (hb : b = true) (he : e = some v) : bd (gop b e) k = k (some v) := by
  rw [zeq (fun _ => he), hb]; rfl
end GV
end Go.Proofs.Ytkcccdcloealfaa

namespace Go.Proofs.Ytkcccdcloealfaa
namespace GV
set_option maxRecDepth 100000
theorem zea {N : Nat} (hN : 200 ≤ N) (e : Int) : ax N [0, e] = some e := by
  unfold ax
  obtain ⟨M, rfl⟩ : ∃ M, N = M + 3 := ⟨N - 3, by omega⟩
  by_cases h : e = 0
  · subst h
    have : xk (M + 3) [0, 0] (M + 3) 0 = some (Ex.go ()) := by
      simp only [xk]
      rw [dn (by simp), zu ⟨by simp, by simp⟩, xw (by simp [ix]), zu (jg (by simp)), dn (by simp), zu ⟨by simp, by simp⟩, xw (by simp [ix]), zu (jg (by simp)), xw (by simp)]
    rw [qf this]; rfl
  · have : xk (M + 3) [0, e] (M + 3) 0 = some (Ex.rt e) := by
      simp only [xk]
      rw [dn (by simp), zu ⟨by simp, by simp⟩, xw (by simp [ix]), zu (jg (by simp)), dn (by simp), zu ⟨by simp, by simp⟩, dn (by simpa [ix] using h)]
      simp [ix]
    rw [qf this]; rfl
theorem wrap_u64 {n : Int} (h0 : 0 ≤ n) (h : n < 18446744073709551616) : IntKind.u64.wrap n = n := by
  simp only [IntKind.wrap, IntKind.signed, IntKind.bits, Bool.false_and]
  exact Int.emod_eq_of_lt h0 h
def ze7 (n k : Nat) : List Int := List.replicate k (-1) ++ List.replicate (n - k) 0
theorem zqc {n k j : Nat} (hk : k ≤ n) (hj : j ≤ k) (hjn : j ≤ n - k) : z2j (ze7 n k) k (List.replicate j (-1)) = ze7 n (k + j) := by
  unfold z2j ze7
  rw [List.length_replicate, List.take_left' (by simp), ← List.drop_drop, List.drop_left' (by simp), List.drop_replicate, List.replicate_append_replicate, Nat.sub_sub]
theorem zov {n k j : Nat} (hj : j ≤ k) : (ze7 n k).take j = List.replicate j (-1) := by
  unfold ze7
  rw [List.take_append_of_le_length (by simpa using hj), List.take_replicate, Nat.min_eq_left hj]
theorem zhq {n k : Nat} (hk : k ≤ n) : (ze7 n k).length = n := by unfold ze7; simp; omega
theorem zqj {N : Nat} {n : Nat} (hn : n ≤ 1000) : ∀ (F k : Nat), 1 ≤ k → k ≤ n → n - k < F → yz N F (k : Int) (ze7 n k) = some (List.replicate n (-1))
  | 0, k, _, _, h => by omega
  | F + 1, k, h1, h2, h => by
    simp only [yz, zhq h2]
    by_cases hk : k < n
    · rw [dn (by omega), zu ⟨by omega, by omega, by rw [zhq h2]; omega⟩, zu ⟨by omega, by omega, by rw [zhq h2]; omega⟩]
      simp only [Int.toNat_natCast, Nat.sub_zero, List.drop_zero]
      rw [zu (jg (by omega)), zov (Nat.min_le_left _ _), zqc h2 (Nat.min_le_left _ _) (Nat.min_le_right _ _)]
      have : (k : Int) + ((min k (n - k) : Nat) : Int) = ((k + min k (n - k) : Nat) : Int) := by omega
      rw [this]
      exact zqj hn F _ (by omega) (by omega) (by omega)
    · rw [xw (by omega)]
      have : k = n := by omega
      subst this
      unfold ze7
      rw [Nat.sub_self, List.replicate_zero, List.append_nil]
theorem zgj {N : Nat} (hN : 200 ≤ N) {n : Nat} (h1 : 1 ≤ n) (h2 : n ≤ 100) : nz N [-1] (n : Int) = some (List.replicate n (-1)) := by
  unfold nz
  have hm : z19 N (IntKind.u64.wrap (([-1] : List Int).length : Int)) (IntKind.u64.wrap (n : Int)) = some (0, (n : Int)) := by
    rw [wrap_u64 (by simp) (by simp), wrap_u64 (by omega) (by omega)]
    unfold z19
    rw [zu ⟨⟨by simp, by simp⟩, by omega, by omega⟩]
    congr 1
    have : (([-1] : List Int).length : Int) = 1 := rfl
    rw [this, Int.one_mul, Int.ediv_eq_zero_of_lt (by omega) (by omega), Int.emod_eq_of_lt (by omega) (by omega)]
  rw [xw (by omega), qf hm]
  refine (cf ?_).trans ?_
  · show (decide ((0 : Int) < 0) || decide ((9223372036854775807 : Int) < (n : Int))) = false
    rw [decide_eq_false (show ¬ (9223372036854775807 : Int) < (n : Int) by omega)]; rfl
  have hl : (mk (n : Int) (0 : Int)).length = n := by rw [z88, List.length_replicate]
  have hmin : min ([-1] : List Int).length (mk (n : Int) (0 : Int)).length = 1 := by rw [hl]; simp; omega
  show gd (in64 (n : Int)) (gd (okM 8 (n : Int)) (bd (yz N N _ _) fun o37 => some o37)) = _
  rw [zu (jg (by omega)), zu ⟨by omega, by omega, by omega⟩, hmin]
  have e : z2j (mk (n : Int) (0 : Int)) 0 (([-1] : List Int).take 1) = ze7 n 1 := by
    unfold z2j ze7
    rw [z88, List.take_zero, List.nil_append]
    simp [List.drop_replicate]
  rw [e, qf (zqj (by omega) N 1 (by omega) h1 (by omega))]
def zta (P Q : List BE) (s : Nat) : Int := if occ P s = true then ((Q.getD ((fq P).idxOf s) default).st : Int) else -1
def zfe (n : Nat) (P Q : List BE) : List Int := (List.range n).map (zta P Q)
theorem zr9 (n : Nat) (P Q : List BE) : (zfe n P Q).length = n := by simp [zfe]
theorem zqb {n s : Nat} {P Q : List BE} (h : s < n) : (zfe n P Q).getD s default = zta P Q s := by simp [zfe, List.getD_eq_getElem?_getD, h]
theorem zj1 {P : List BE} {k : Nat} (hk : k < P.length) : ix (z3c P) (k : Int) = ((P.getD k default).st : Int) := by
  rw [si]; unfold z3c
  rw [List.getD_eq_getElem?_getD, List.getElem?_map, List.getD_eq_getElem?_getD, List.getElem?_eq_getElem hk]; rfl
theorem zbd (P : List BE) : (z3c P).length = P.length := by simp [z3c]
theorem zh8 {m : Mach} {s0 : Nat} {P : List BE} (hP : Rch m s0 P) {j : Nat} (hj : j < P.length) : (fq P).idxOf (P.getD j default).st = j := by
  have := z3a (zh6 hP) (show j < (fq P).length by rw [z2f]; exact hj)
  rwa [z4k P hj] at this
theorem zuv {N : Nat} {a b : Mach} (hN : 200 ≤ N) {P Q : List BE} (hP : Rch a 0 P) (hQ : Rch b 0 Q) (hr : a.rows.length ≤ 64) (hl : P.length = Q.length) :
    xq N (z3c P) (z3c Q) N 0 (List.replicate a.rows.length (-1)) = some (zfe a.rows.length P Q) := by
  have hle := hP.le
  refine xc (σ := List Int) (fun F k st => xq N (z3c P) (z3c Q) F (k : Int) st) P.length
    (fun k st => st = (List.range a.rows.length).map fun s => if occ (P.take k) s = true then ((Q.getD ((fq P).idxOf s) default).st : Int) else -1) _ (fun F k st hk hst => ?_) (fun F st hst => ?_) N 0 _ (Nat.zero_le _) (by omega) ?_
  · subst hst
    right
    refine ⟨_, rfl, ?_⟩
    have hrng := hP.rng k hk
    simp only [xq, zj1 hk, zj1 (show k < Q.length by omega)]
    rw [dn (by rw [zbd]; omega), zu (j5 (by rw [zbd]; omega)), zu (j5 (by rw [zbd]; omega)), zu (j5 (by simpa using hrng)), zu (jg (by omega))]
    rw [z6v]
    congr 1
    refine rz (by simp) fun s hs => ?_
    rw [List.length_set, List.length_map, List.length_range] at hs
    rw [bq _ hs, List.getD_eq_getElem?_getD, List.getElem?_set]
    rw [z9z P k hk, zi6]
    by_cases e : (P.getD k default).st = s
    · subst e
      rw [if_pos rfl, if_pos (by simpa using hs), decide_eq_true (rfl), Bool.or_true, if_pos rfl, zh8 hP hk]; rfl
    · rw [if_neg e, ← List.getD_eq_getElem?_getD, bq _ hs, decide_eq_false e, Bool.or_false]
  · subst hst
    simp only [xq]
    rw [xw (by rw [zbd]; omega), List.take_length]; rfl
  · refine rz (by simp) fun s hs => ?_
    rw [List.length_replicate] at hs
    rw [bq _ hs]
    simp [List.getD_eq_getElem?_getD, hs, occ]
theorem zfg {a b : Mach} (ha : MOk a) (hb : MOk b) (h : z3p a = z3p b) : a.inputs = b.inputs ∧ (rch a 0).length = (rch b 0).length ∧ ∀ j, j < (rch a 0).length → nu b 0 ((rch a 0).getD j default).wd = (((rch b 0).getD j default).st : Int) := by
  have hi : a.inputs = b.inputs := (zdh.1 h).1
  have hP := z3u ha
  have hQ := z3u hb
  have hl : (rch a 0).length = (rch b 0).length := by
    have := congrArg (fun m : Mach => m.rows.length) h
    simp only [z3p, zcl, z2f] at this
    exact this
  refine ⟨hi, hl, fun j hj => ?_⟩
  have hw := (hP.wok j hj).1
  have hwb : WOk b.inputs ((rch a 0).getD j default).wd := hi ▸ hw
  have h1 := zio ha hw
  have haft : nu a 0 ((rch a 0).getD j default).wd = (((rch a 0).getD j default).st : Int) := hP.aft j hj
  rw [haft, z5k, zh8 hP hj, h, zio hb hwb] at h1
  have hne : nu b 0 ((rch a 0).getD j default).wd ≠ -1 := fun e => by
    rw [e] at h1
    have : pos (fq (rch b 0)) (-1) = -1 := rfl
    omega
  obtain ⟨i, hi', hst, _⟩ := hQ.least hb _ _ rfl hwb hne
  rw [show ((0 : Nat) : Int) = 0 from rfl] at hst
  rw [← hst, z5k, zh8 hQ hi'] at h1
  have : i = j := by omega
  subst this
  exact hst.symm
theorem zui {N : Nat} {a b : Mach} (ha : MOk a) (hb : MOk b) (hN : 200 ≤ N) : ay N a b = some (if z3p a = z3p b then (zfe a.rows.length (rch a 0) (rch b 0), true, 0) else ([], false, 0)) := by
  have hr1 := ha.r1
  have hr2 := ha.r2
  have hP := z3u ha
  have hQ := z3u hb
  unfold ay
  rw [qf (z5s ha hN), qf (z5s hb hN), qf (zea hN 0), xw (by simp), qf (z5o ha hN), qf (z5o hb hN)]
  rw [qf (show lc N a (z3c (rch a 0)) = some (z3p a) from by rw [← zf3]; exact zhe ha (l7 hP) hN)]
  rw [qf (show lc N b (z3c (rch b 0)) = some (z3p b) from by rw [← zf3]; exact zhe hb (l7 hQ) hN)]
  rw [qf (zpz (zdk ha).small (zdk hb).small hN), zot (zdk ha)]
  by_cases h : z3p a = z3p b
  · rw [if_pos h]
    obtain ⟨_, hl, _⟩ := zfg ha hb h
    refine (cf (by rw [decide_eq_true h]; rfl)).trans ?_
    rw [qf (zgj hN hr1 (by omega)), qf (zuv hN hP hQ hr2 hl), qf zgv]
  · rw [if_neg h]
    exact ct (by rw [decide_eq_false h]; rfl)
end GV
end Go.Proofs.Ytkcccdcloealfaa

namespace Go.Proofs.Ytkcccdcloealfaa
namespace GV
set_option maxRecDepth 100000
end GV
end Go.Proofs.Ytkcccdcloealfaa

namespace Go.Proofs.Ytkcccdcloealfaa
namespace GV
set_option maxRecDepth 100000
section
variable {N : Nat} {m : Mach}
end
end GV
end Go.Proofs.Ytkcccdcloealfaa
