/- Chapter 06: the canonical form: states renamed; it is the same however they are numbered. -/
import Derived.Test.YtncblcdhmcmkmaaSpec06f
namespace Go.Proofs.Ytncblcdhmcmkmaa
namespace GV
set_option linter.unusedVariables false
set_option maxRecDepth 100000

theorem pos_nat (L : List Nat) (t : Nat) : pos L (t : Int) = (L.idxOf t : Int) := by
  unfold pos; rw [if_neg (by omega), Int.toNat_natCast]
section
variable {m : Mach} {L : List Nat}
theorem partM_len : (partM m L).rows.length = L.length := by simp [partM]
end
/-! ### The states in their order -/
def ordN (P : List BE) : List Nat := P.map (·.st)
theorem cast_ord (P : List BE) : castL (ordN P) = stsL P := by unfold castL ordN stsL; rw [List.map_map]; rfl
theorem ordN_len (P : List BE) : (ordN P).length = P.length := by simp [ordN]
theorem ordN_get (P : List BE) {k : Nat} (hk : k < P.length) : (ordN P).getD k 0 = (P.getD k default).st := by
  simp [ordN, List.getD_eq_getElem?_getD, hk]
theorem ord_mem {P : List BE} {s : Nat} : s ∈ ordN P ↔ ∃ j, j < P.length ∧ (P.getD j default).st = s := by
  unfold ordN; rw [List.mem_map]
  constructor
  · rintro ⟨e, he, rfl⟩
    obtain ⟨j, hj, rfl⟩ := List.mem_iff_getElem.1 he
    exact ⟨j, hj, by simp [List.getD_eq_getElem?_getD, hj]⟩
  · rintro ⟨j, hj, rfl⟩; exact ⟨_, getD_mem hj, rfl⟩
section
variable {m : Mach} {s0 : Nat} {P : List BE}
theorem ord_nd (hP : Rch m s0 P) : (ordN P).Nodup := by
  unfold ordN
  rw [List.nodup_iff_pairwise_ne, List.pairwise_iff_getElem]
  intro i j hi hj hij e
  rw [List.length_map] at hi hj
  rw [List.getElem_map, List.getElem_map] at e
  have := hP.dis i j hi hj (by simpa [List.getD_eq_getElem?_getD, hj, hi] using e)
  omega
theorem ord_closed (hP : Rch m s0 P) : ClosedP m (ordN P) := by
  refine ⟨fun s hs => ?_, ord_nd hP, fun s hs i hi hne => ?_, fun e => ?_⟩
  · obtain ⟨j, hj, rfl⟩ := ord_mem.1 hs
    exact hP.rng j hj
  · obtain ⟨q, hq, rfl⟩ := ord_mem.1 hs
    obtain ⟨j, hj, hst, _⟩ := hP.cls q i hq hi hne
    exact ord_mem.2 ⟨j, hj, by omega⟩
  · have h1 := ordN_len P
    rw [e] at h1
    have := hP.pos
    simp at h1; omega
theorem ord_root (hP : Rch m s0 P) : s0 ∈ ordN P ∧ (ordN P).idxOf s0 = 0 := by
  have h0 : (ordN P).getD 0 0 = s0 := by rw [ordN_get P hP.pos, hP.root]
  have := idx_getD (ord_nd hP) (show 0 < (ordN P).length by rw [ordN_len]; exact hP.pos)
  rw [h0] at this
  exact ⟨ord_mem.2 ⟨0, hP.pos, by rw [hP.root]⟩, this⟩
end
def canM (m : Mach) : Mach := partM m (ordN (rch m 0))
section
variable {m : Mach} {L : List Nat}
theorem rch0 (hm : MOk m) : Rch m 0 (rch m 0) := rch_ok hm (by have := hm.r1; omega)
theorem canM_ok (hm : MOk m) : MOk (canM m) := partM_ok hm (ord_closed (rch0 hm))
theorem canM_aft (hm : MOk m) {w : List Int} (hw : WOk m.inputs w) : aftL (canM m) 0 w = pos (ordN (rch m 0)) (aftL m 0 w) := by
  obtain ⟨h1, h2⟩ := ord_root (rch0 hm)
  have := (part_run hm (ord_closed (rch0 hm)) w (s := 0) (.inr ⟨by decide, h1⟩) hw).2
  rw [show (0 : Int) = ((0 : Nat) : Int) from rfl, pos_nat, h2] at this
  exact this
theorem sameR_ok {a b : Mach} (ha : MOk a) : sameR a b = decide (a = b) := by
  rw [Bool.eq_iff_iff, sameR_iff, decide_eq_true_eq]
  exact ⟨fun h => h.2, fun h => ⟨ha, h⟩⟩
end
end GV
end Go.Proofs.Ytncblcdhmcmkmaa
