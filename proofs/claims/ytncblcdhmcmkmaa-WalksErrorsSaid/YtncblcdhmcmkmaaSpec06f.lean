/- Chapter 06: the reference's part, Trim; the law Trim. -/
import Derived.Test.YtncblcdhmcmkmaaPart06
namespace Go.Proofs.Ytncblcdhmcmkmaa
namespace GV
set_option linter.unusedVariables false
set_option maxRecDepth 100000

def ascN (n : Nat) (P : List BE) : List Nat := (List.range n).filter fun s => occ P s
theorem ascN_mem {n : Nat} {P : List BE} {s : Nat} : s ∈ ascN n P ↔ s < n ∧ occ P s = true := by
  unfold ascN; rw [List.mem_filter, List.mem_range]
theorem ascN_closed {m : Mach} (hm : MOk m) {P : List BE} (hP : Rch m 0 P) : ClosedP m (ascN m.rows.length P) := by
  refine ⟨fun s hs => (ascN_mem.1 hs).1, List.Pairwise.filter _ List.nodup_range, fun s hs i hi hne => ?_, fun e => ?_⟩
  · obtain ⟨h1, h2⟩ := ascN_mem.1 hs
    obtain ⟨q, hq, rfl⟩ := occ_iff.1 h2
    obtain ⟨j, hj, hst, _⟩ := hP.cls q i hq hi hne
    exact ascN_mem.2 ⟨by have := hP.rng j hj; omega, occ_iff.2 ⟨j, hj, by omega⟩⟩
  · have : 0 ∈ ascN m.rows.length P := ascN_mem.2 ⟨by have := hm.r1; omega, occ_iff.2 ⟨0, hP.pos, by rw [hP.root]⟩⟩
    rw [e] at this; cases this
theorem trim_eq {N : Nat} {m : Mach} (hm : MOk m) (hN : 200 ≤ N) : walks_Trim N m = some (partM m (ascN m.rows.length (rch m 0)), castL (ascN m.rows.length (rch m 0)), 0) := by
  have hP := rch_ok hm (s0 := 0) (by have := hm.r1; omega)
  unfold walks_Trim
  rw [bd_pos (reach_eq hm hN), cd_f (by simp), sort_asc hP]
  rw [bd_pos (show walks_part N m (ascL m.rows.length (rch m 0)) = _ from part_eq hm (ascN_closed hm hP) hN)]
  rfl
end GV
end Go.Proofs.Ytncblcdhmcmkmaa
