/- Chapter 06: the canonical form: states renamed; it is the same however they are numbered. -/
import Derived.Test.YtncblcdhmcmkmaaSpec06f
namespace Go.Proofs.Ytncblcdhmcmkmaa
namespace GV
set_option linter.unusedVariables false
set_option maxRecDepth 100000

theorem bfs_fuel {m : Mach} (hm : MOk m) {s0 : Nat} : ∀ (g h p : Nat) (All : List BE), Inv m s0 p 0 All → m.rows.length ≤ p + g → m.rows.length ≤ p + h → bfs m g p All = bfs m h p All
  | 0, h, p, All, hi, hg, _ => by
    have := inv_len hi
    rw [bfs_stop (g := 0) (by omega), bfs_stop (g := h) (by omega)]
  | g + 1, 0, p, All, hi, _, hh => by
    have := inv_len hi
    rw [bfs_stop (g := g + 1) (by omega), bfs_stop (g := 0) (by omega)]
  | g + 1, h + 1, p, All, hi, hg, hh => by
    show (if p < All.length then _ else _) = (if p < All.length then _ else _)
    by_cases hp : p < All.length
    · rw [if_pos hp, if_pos hp]
      have hpre := (pushRow_pre m (All.getD p default) All m.inputs.toNat).length_le
      exact bfs_fuel hm g h (p + 1) _ (inv_next (inv_row hm hi hp _ (Nat.le_refl _)) (by omega)) (by omega) (by omega)
    · rw [if_neg hp, if_neg hp]
def ren (L : List Nat) (e : BE) : BE := ⟨L.idxOf e.st, pos L e.par, e.inp, e.wd⟩
theorem idx_inj {L : List Nat} {a b : Nat} (ha : a ∈ L) (hb : b ∈ L) (h : L.idxOf a = L.idxOf b) : a = b := by
  have h1 := (mem_idx ha).2
  have h2 := (mem_idx hb).2
  rw [← h1, h, h2]
theorem pos_nat (L : List Nat) (t : Nat) : pos L (t : Int) = (L.idxOf t : Int) := by
  unfold pos; rw [if_neg (by omega), Int.toNat_natCast]
theorem idxOf_mapOn {f : Nat → Nat} : ∀ {K : List Nat} {a : Nat}, (∀ b ∈ K, f b = f a → b = a) → (K.map f).idxOf (f a) = K.idxOf a
  | [], a, _ => rfl
  | b :: K, a, h => by
    rw [List.map_cons, List.idxOf_cons, List.idxOf_cons]
    by_cases e : b = a
    · subst e; simp
    · have : f b ≠ f a := fun he => e (h b (by simp) he)
      rw [beq_false_of_ne this, beq_false_of_ne e, idxOf_mapOn (K := K) (a := a) (fun c hc => h c (by simp [hc]))]
section
variable {m : Mach} {L : List Nat}
theorem ed_part (hm : MOk m) (hc : ClosedP m L) {s i : Nat} (hs : s ∈ L) (hi : i < m.inputs.toNat) : ed (partM m L) (L.idxOf s) i = pos L (ed m s i) := by
  obtain ⟨h1, h2⟩ := mem_idx hs
  show (((partM m L).rows.getD (L.idxOf s) default).getD i default).to = _
  rw [partM_row h1, h2, rowP_get hm (hc.rng s hs) hi]
theorem occ_ren {All : List BE} (hA : ∀ e ∈ All, e.st ∈ L) {t : Nat} (ht : t ∈ L) : occ (All.map (ren L)) (L.idxOf t) = occ All t := by
  unfold occ
  rw [Bool.eq_iff_iff, List.any_eq_true, List.any_eq_true]
  constructor
  · rintro ⟨e, he, h⟩
    obtain ⟨x, hx, rfl⟩ := List.mem_map.1 he
    exact ⟨x, hx, decide_eq_true (idx_inj (hA x hx) ht (of_decide_eq_true h))⟩
  · rintro ⟨e, he, h⟩
    exact ⟨ren L e, List.mem_map.2 ⟨e, he, rfl⟩, decide_eq_true (congrArg L.idxOf (of_decide_eq_true h))⟩
theorem push_ren (hm : MOk m) (hc : ClosedP m L) {x : BE} {All : List BE} (hA : ∀ e ∈ All, e.st ∈ L) (hx : x.st ∈ L) {i : Nat} (hi : i < m.inputs.toNat) :
    push (partM m L) (ren L x) (All.map (ren L)) i = (push m x All i).map (ren L) ∧ ∀ e ∈ push m x All i, e.st ∈ L := by
  have he : ed (partM m L) (ren L x).st i = pos L (ed m x.st i) := ed_part hm hc hx hi
  unfold push
  rw [he]
  rcases ed_ok hm (hc.rng _ hx) hi with h | ⟨h1, h2⟩
  · rw [h, if_pos (show pos L (-1) = -1 from rfl), if_pos (show (-1 : Int) = -1 from rfl)]
    exact ⟨rfl, hA⟩
  · have hne : ed m x.st i ≠ -1 := by omega
    have hin := hc.cl _ hx i hi hne
    have hp : pos L (ed m x.st i) = ((L.idxOf (ed m x.st i).toNat : Nat) : Int) := by unfold pos; rw [if_neg hne]
    rw [hp, if_neg (show ¬ ((L.idxOf (ed m x.st i).toNat : Nat) : Int) = -1 by omega), if_neg hne, Int.toNat_natCast, occ_ren hA hin]
    by_cases ho : occ All (ed m x.st i).toNat = true
    · rw [if_pos ho, if_pos ho]; exact ⟨rfl, hA⟩
    · rw [if_neg ho, if_neg ho]
      refine ⟨?_, fun e he => ?_⟩
      · rw [List.map_append]
        congr 1
      · rcases List.mem_append.1 he with he | he
        · exact hA e he
        · rw [List.mem_singleton.1 he]; exact hin
theorem pushRow_ren (hm : MOk m) (hc : ClosedP m L) {x : BE} {All : List BE} (hA : ∀ e ∈ All, e.st ∈ L) (hx : x.st ∈ L) : ∀ k, k ≤ m.inputs.toNat →
    pushRow (partM m L) (ren L x) (All.map (ren L)) k = (pushRow m x All k).map (ren L) ∧ ∀ e ∈ pushRow m x All k, e.st ∈ L
  | 0, _ => ⟨rfl, hA⟩
  | k + 1, hk => by
    obtain ⟨h1, h2⟩ := pushRow_ren hm hc hA hx k (by omega)
    show push (partM m L) (ren L x) (pushRow (partM m L) (ren L x) (All.map (ren L)) k) k = (push m x (pushRow m x All k) k).map (ren L) ∧ ∀ e ∈ push m x (pushRow m x All k) k, e.st ∈ L
    rw [h1]
    exact push_ren hm hc h2 hx (by omega)
theorem bfs_ren (hm : MOk m) (hc : ClosedP m L) : ∀ (g p : Nat) (All : List BE), (∀ e ∈ All, e.st ∈ L) → bfs (partM m L) g p (All.map (ren L)) = (bfs m g p All).map (ren L)
  | 0, p, All, _ => rfl
  | g + 1, p, All, hA => by
    show (if p < (All.map (ren L)).length then bfs (partM m L) g (p + 1) (pushRow (partM m L) ((All.map (ren L)).getD p default) (All.map (ren L)) (partM m L).inputs.toNat) else All.map (ren L)) = (if p < All.length then bfs m g (p + 1) (pushRow m (All.getD p default) All m.inputs.toNat) else All).map (ren L)
    rw [List.length_map]
    by_cases hp : p < All.length
    · rw [if_pos hp, if_pos hp]
      have e : (All.map (ren L)).getD p default = ren L (All.getD p default) := by simp [List.getD_eq_getElem?_getD, hp]
      have hx := hA _ (getD_mem hp)
      obtain ⟨h1, h2⟩ := pushRow_ren hm hc hA hx m.inputs.toNat (Nat.le_refl _)
      rw [e, show (partM m L).inputs.toNat = m.inputs.toNat from rfl, h1]
      exact bfs_ren hm hc g (p + 1) _ h2
    · rw [if_neg hp, if_neg hp]
theorem partM_len : (partM m L).rows.length = L.length := by simp [partM]
theorem rch_ren (hm : MOk m) (hc : ClosedP m L) {s0 : Nat} (hs : s0 ∈ L) : rch (partM m L) (L.idxOf s0) = (rch m s0).map (ren L) := by
  have hl := partM_len (m := m) (L := L)
  obtain ⟨h1, h2⟩ := mem_idx hs
  have hlen := hc.len
  have hroot := inv_root (m := partM m L) (s0 := L.idxOf s0) (by rw [hl]; exact h1)
  unfold rch
  rw [bfs_fuel (partM_ok hm hc) (partM m L).rows.length m.rows.length 0 _ hroot (by omega) (by omega)]
  exact bfs_ren hm hc m.rows.length 0 [⟨s0, -1, -1, []⟩] (fun e he => by rw [List.mem_singleton.1 he]; exact hs)
theorem partM_partM (hm : MOk m) {K : List Nat} (hk : ClosedP m K) (hKL : ∀ s ∈ K, s ∈ L) : partM (partM m L) (K.map fun s => L.idxOf s) = partM m K := by
  show Mach.mk m.inputs m.outputs ((K.map fun s => L.idxOf s).map (rowP (partM m L) (K.map fun s => L.idxOf s))) = Mach.mk m.inputs m.outputs (K.map (rowP m K))
  congr 1
  rw [List.map_map]
  refine List.map_congr_left fun s hs => ?_
  show rowP (partM m L) (K.map fun s => L.idxOf s) (L.idxOf s) = rowP m K s
  obtain ⟨h1, h2⟩ := mem_idx (hKL s hs)
  show ((partM m L).rows.getD (L.idxOf s) default).map (fun e => (⟨pos (K.map fun s => L.idxOf s) e.to, e.out⟩ : Edge)) = _
  rw [partM_row h1, h2]
  unfold rowP
  rw [List.map_map]
  refine List.map_congr_left fun e he => ?_
  show Edge.mk (pos (K.map fun s => L.idxOf s) (pos L e.to)) e.out = Edge.mk (pos K e.to) e.out
  congr 1
  obtain ⟨i, hi, rfl⟩ := List.mem_iff_getElem.1 he
  have hrow := hm.row s (hk.rng s hs)
  have hed : ((m.rows.getD s default)[i]).to = ed m s i := by
    unfold ed
    rw [List.getD_eq_getElem?_getD (l := m.rows.getD s default), List.getElem?_eq_getElem hi]; rfl
  rw [hed]
  rcases ed_ok hm (hk.rng s hs) (show i < m.inputs.toNat by omega) with h | ⟨h3, h4⟩
  · rw [h]; rfl
  · have hin := hk.cl s hs i (by omega) (by omega)
    generalize ed m s i = t at *
    obtain ⟨t, rfl⟩ := Int.eq_ofNat_of_zero_le h3
    rw [Int.toNat_natCast] at hin
    rw [pos_nat, pos_nat, pos_nat, idxOf_mapOn (f := fun s => L.idxOf s) (fun b hb h => idx_inj (hKL b hb) (hKL _ hin) h)]
end
/-! ### The states in their order -/
def ordN (P : List BE) : List Nat := P.map (·.st)
theorem cast_ord (P : List BE) : castL (ordN P) = stsL P := by unfold castL ordN stsL; rw [List.map_map]; rfl
theorem ordN_len (P : List BE) : (ordN P).length = P.length := by simp [ordN]
theorem ordN_get (P : List BE) {k : Nat} (hk : k < P.length) : (ordN P).getD k 0 = (P.getD k default).st := by
  simp [ordN, List.getD_eq_getElem?_getD, hk]
theorem ord_mem {P : List BE} {s : Nat} : s ∈ ordN P ↔ ∃ j, j < P.length ∧ (P.getD j default).st = s := by
  unfold ordN; rw [List.mem_map]
  constructor
  · rintro ⟨e, he, rfl⟩
    obtain ⟨j, hj, rfl⟩ := List.mem_iff_getElem.1 he
    exact ⟨j, hj, by simp [List.getD_eq_getElem?_getD, hj]⟩
  · rintro ⟨j, hj, rfl⟩; exact ⟨_, getD_mem hj, rfl⟩
section
variable {m : Mach} {s0 : Nat} {P : List BE}
theorem ord_nd (hP : Rch m s0 P) : (ordN P).Nodup := by
  unfold ordN
  rw [List.nodup_iff_pairwise_ne, List.pairwise_iff_getElem]
  intro i j hi hj hij e
  rw [List.length_map] at hi hj
  rw [List.getElem_map, List.getElem_map] at e
  have := hP.dis i j hi hj (by simpa [List.getD_eq_getElem?_getD, hj, hi] using e)
  omega
theorem ord_closed (hP : Rch m s0 P) : ClosedP m (ordN P) := by
  refine ⟨fun s hs => ?_, ord_nd hP, fun s hs i hi hne => ?_, fun e => ?_⟩
  · obtain ⟨j, hj, rfl⟩ := ord_mem.1 hs
    exact hP.rng j hj
  · obtain ⟨q, hq, rfl⟩ := ord_mem.1 hs
    obtain ⟨j, hj, hst, _⟩ := hP.cls q i hq hi hne
    exact ord_mem.2 ⟨j, hj, by omega⟩
  · have h1 := ordN_len P
    rw [e] at h1
    have := hP.pos
    simp at h1; omega
theorem ord_root (hP : Rch m s0 P) : s0 ∈ ordN P ∧ (ordN P).idxOf s0 = 0 := by
  have h0 : (ordN P).getD 0 0 = s0 := by rw [ordN_get P hP.pos, hP.root]
  have := idx_getD (ord_nd hP) (show 0 < (ordN P).length by rw [ordN_len]; exact hP.pos)
  rw [h0] at this
  exact ⟨ord_mem.2 ⟨0, hP.pos, by rw [hP.root]⟩, this⟩
end
def canM (m : Mach) : Mach := partM m (ordN (rch m 0))
section
variable {m : Mach} {L : List Nat}
theorem rch0 (hm : MOk m) : Rch m 0 (rch m 0) := rch_ok hm (by have := hm.r1; omega)
theorem canM_ok (hm : MOk m) : MOk (canM m) := partM_ok hm (ord_closed (rch0 hm))
theorem canM_part (hm : MOk m) (hc : ClosedP m L) (h0 : 0 ∈ L) (hz : L.idxOf 0 = 0) (hsub : ∀ s ∈ ordN (rch m 0), s ∈ L) : canM (partM m L) = canM m := by
  have := rch_ren hm hc h0
  rw [hz] at this
  unfold canM
  rw [this]
  have e : ordN ((rch m 0).map (ren L)) = (ordN (rch m 0)).map fun s => L.idxOf s := by unfold ordN; rw [List.map_map, List.map_map]; rfl
  rw [e]
  exact partM_partM hm (ord_closed (rch0 hm)) hsub
theorem canM_canM (hm : MOk m) : canM (canM m) = canM m := by
  obtain ⟨h1, h2⟩ := ord_root (rch0 hm)
  exact canM_part hm (ord_closed (rch0 hm)) h1 h2 fun s hs => hs
theorem canM_run (hm : MOk m) {w : List Int} (hw : WOk m.inputs w) : runL (canM m) 0 w = runL m 0 w := by
  obtain ⟨h1, h2⟩ := ord_root (rch0 hm)
  have := (part_run hm (ord_closed (rch0 hm)) w (s := 0) (.inr ⟨by decide, h1⟩) hw).1
  rw [show (0 : Int) = ((0 : Nat) : Int) from rfl, pos_nat, h2] at this
  exact this
theorem canon_eq {N : Nat} (hm : MOk m) (hN : 200 ≤ N) : walks_Canonical N m = some (canM m, 0) := by
  unfold walks_Canonical
  rw [bd_pos (check0 hm hN), cd_f (by simp), bd_pos (reached_eq' hm hN), bd_pos (show walks_part N m (stsL (rch m 0)) = some (canM m) from by rw [← cast_ord]; exact part_eq hm (ord_closed (rch0 hm)) hN)]
theorem sameR_ok {a b : Mach} (ha : MOk a) : sameR a b = decide (a = b) := by
  rw [Bool.eq_iff_iff, sameR_iff, decide_eq_true_eq]
  exact ⟨fun h => h.2, fun h => ⟨ha, h⟩⟩
theorem iscanon_eq {N : Nat} (hm : MOk m) (hN : 200 ≤ N) : walks_IsCanonical N m = some (decide (canM m = m), 0) := by
  have hc := canM_ok hm
  unfold walks_IsCanonical
  rw [bd_pos (canon_eq hm hN), bd_gop (fun _ => show machines_Same N (canM m) m = _ from msame_eq hc.small hm.small hN), sameR_ok hc]
  rfl
end
end GV
end Go.Proofs.Ytncblcdhmcmkmaa
