/- The library's sort of integers, over the kit's contract; insertion sort as its plain form. -/
import Derived.Test.YtncblcdhmcmkmaaShMap
import Derived.Shelf.Sort.Plain
namespace Go.Proofs.Ytncblcdhmcmkmaa
namespace GV
set_option linter.unusedVariables false

/-! ### The plain form -/
def insI (x : Int) : List Int → List Int
  | [] => [x]
  | y :: l => if x ≤ y then x :: y :: l else y :: insI x l
def sortI : List Int → List Int
  | [] => []
  | x :: l => insI x (sortI l)
theorem insI_perm (x : Int) (l : List Int) : (insI x l).Perm (x :: l) := by
  induction l with
  | nil => exact .refl _
  | cons y l ih =>
    unfold insI
    split
    · exact .refl _
    · exact ((ih.cons y).trans (.swap x y l))
theorem sortI_perm (l : List Int) : (sortI l).Perm l := by
  induction l with
  | nil => exact .refl _
  | cons x l ih => exact (insI_perm x _).trans (ih.cons x)
theorem insI_sorted {x : Int} {l : List Int} (h : l.Pairwise (· ≤ ·)) : (insI x l).Pairwise (· ≤ ·) := by
  induction l with
  | nil => exact List.pairwise_singleton _ _
  | cons y l ih =>
    obtain ⟨h1, h2⟩ := List.pairwise_cons.1 h
    unfold insI
    split
    · rename_i hx
      refine List.pairwise_cons.2 ⟨fun z hz => ?_, h⟩
      rcases List.mem_cons.1 hz with rfl | hz
      · exact hx
      · exact Int.le_trans hx (h1 z hz)
    · rename_i hx
      refine List.pairwise_cons.2 ⟨fun z hz => ?_, ih h2⟩
      rcases List.mem_cons.1 ((insI_perm x l).mem_iff.1 hz) with rfl | hz
      · omega
      · exact h1 z hz
theorem sortI_sorted (l : List Int) : (sortI l).Pairwise (· ≤ ·) := by
  induction l with
  | nil => exact .nil
  | cons x l ih => exact insI_sorted ih
theorem perm_sorted_eq : ∀ {l l' : List Int}, l.Perm l' → l.Pairwise (· ≤ ·) → l'.Pairwise (· ≤ ·) → l = l'
  | [], l', hp, _, _ => (List.nil_perm.1 hp).symm
  | x :: l, l', hp, h, h' => by
    cases l' with
    | nil => exact absurd hp.symm (by simp)
    | cons y l' =>
      obtain ⟨h1, h2⟩ := List.pairwise_cons.1 h
      obtain ⟨k1, k2⟩ := List.pairwise_cons.1 h'
      have hxy : x = y := by
        have a : x ∈ y :: l' := hp.mem_iff.1 (List.mem_cons_self ..)
        have b : y ∈ x :: l := hp.mem_iff.2 (List.mem_cons_self ..)
        rcases List.mem_cons.1 a with e | a
        · exact e
        · rcases List.mem_cons.1 b with e | b
          · exact e.symm
          · have := k1 x a; have := h1 y b; omega
      subst hxy
      rw [perm_sorted_eq ((List.perm_cons x).1 hp) h2 k2]
theorem mergeSort_sortI (l : List Int) : (l.mergeSort fun x y => decide (x ≤ y)) = sortI l := by
  refine perm_sorted_eq ((List.mergeSort_perm l _).trans (sortI_perm l).symm) ?_ (sortI_sorted l)
  have := List.pairwise_mergeSort (le := fun (x y : Int) => decide (x ≤ y)) (fun a b c h1 h2 => by simp at *; omega) (fun a b => by simp; omega) l
  exact this.imp fun h => by simpa using h
theorem sortI_length (l : List Int) : (sortI l).length = l.length := (sortI_perm l).length_eq

/-! ### New blocks behind all -/
theorem holds_grow {R : RH} {O : List Frag} {w : World} {os : Array Obj} (h : Holds R O w) : Holds R O (Go.Sort.grow w os) := by
  have up : ∀ (k : Nat) (o : Obj), w.heap[k]? = some o → (Go.Sort.grow w os).heap[k]? = some o := by
    intro k o hk
    have hlt := (Array.getElem?_eq_some_iff.1 hk).1
    show (w.heap ++ os)[k]? = some o
    rw [Array.getElem?_append_left hlt]; exact hk
  exact ⟨fun k o hk => up k o (h.ro k o hk), fun f hf k o hk => ⟨up k o (h.own f hf k o hk).1, (h.own f hf k o hk).2⟩, h.sep, ⟨h.os.1, fun _ _ _ _ => trivial⟩, h.out⟩
theorem putCells_list (pre cs : List Value) (d : List Int) (h : d.length ≤ cs.length) :
    (Go.Sort.putCells (Value.int .i64) pre.length d.toArray (pre ++ cs).toArray).toList = pre ++ (d.map (Value.int .i64) ++ cs.drop d.length) := by
  apply List.ext_getElem?
  intro k
  unfold Go.Sort.putCells
  rw [Array.getElem?_toList, Array.getElem?_mapIdx]
  simp only [List.size_toArray, List.getElem?_toArray]
  by_cases h1 : k < pre.length
  · rw [List.getElem?_append_left h1, List.getElem?_append_left h1]
    rw [List.getElem?_eq_getElem h1]
    simp only [Option.map_some]
    rw [if_neg (by omega)]
  · rw [List.getElem?_append_right (by omega), List.getElem?_append_right (by omega)]
    by_cases h2 : k < pre.length + d.length
    · rw [List.getElem?_append_left (by rw [List.length_map]; omega), List.getElem?_map]
      have hk : k - pre.length < cs.length := by omega
      have hd : k - pre.length < d.length := by omega
      rw [List.getElem?_eq_getElem hk, List.getElem?_eq_getElem hd]
      simp only [Option.map_some]
      rw [if_pos (by omega)]
      simp [hd]
    · rw [List.getElem?_append_right (by rw [List.length_map]; omega), List.getElem?_drop, List.length_map]
      rw [show d.length + (k - pre.length - d.length) = k - pre.length by omega]
      cases cs[k - pre.length]? with
      | none => rfl
      | some v =>
        simp only [Option.map_some]
        rw [if_neg (by omega)]
theorem callG_sort {P : Program} {ρ : Shelf.Ren} (Ly : Go.Proofs.Lays.n189 P ρ) {R : RH} {f : Frag} {v : Value} {X : List Int} (h : ORep (tInt .i64) R f v X) (h0 : 0 < X.length ∧ X.length < 4611686018427387904) :
    CallG P (ρ.f 189) #[v] R [f] (fun u R' O' => ∃ g, u = .tuple #[] ∧ O' = [g] ∧ ORep (tInt .i64) R' g v (sortI X)) := by
  rcases h with ⟨rfl, rfl, rfl⟩ | ⟨b, pre, cs, cap, bt, rfl, rfl, hc, hcl, hcc, hel⟩
  · simp at h0
  intro A w hh
  have hcl' : cap ≤ cs.length := by simpa [tInt] using hcl
  have hblk : w.heap[b]? = some (.cells (pre ++ cs).toArray bt (0, 0)) := holds_at hh (i := 0) rfl (single_same _ _)
  have hlt : b < w.heap.size := (Array.getElem?_eq_some_iff.1 hblk).1
  have hcell : ∀ j (hj : j < X.length), cs[j]? = some (.int .i64 X[j]) := by
    intro j hj
    have := hel j X[j] (List.getElem?_eq_getElem hj)
    have hjc : j < cs.length := by omega
    simp only [tInt, Nat.mul_one] at this
    rw [List.getElem?_eq_getElem hjc]
    have e : (cs.drop j).take 1 = [cs[j]] := by rw [List.drop_eq_getElem_cons hjc]; rfl
    rw [e] at this
    simpa using this
  have hH : Go.Sort.Holds (Value.int .i64) w b pre.length X.toArray := by
    intro j hj
    have hj' : j < X.length := by simpa using hj
    refine ⟨?_, frozen_of_box hblk⟩
    rw [cell_of_block hblk]
    simp only [List.getElem?_toArray]
    rw [List.getElem?_append_right (by omega), Nat.add_sub_cancel_left, hcell j hj']
    simp [hj']
  refine Calls.mono (Any.slices_Sort_int Ly b pre.length cap X w hH hlt h0.2) ?_
  rintro e w' ⟨rfl, n, os, rfl⟩
  rw [mergeSort_sortI]
  have hle : (sortI X).length ≤ cs.length := by rw [sortI_length]; omega
  have hnew : (Go.Sort.putRow (Value.int .i64) (Go.Sort.ahead w n) b pre.length (sortI X).toArray).heap[b]? = some (.cells (pre ++ ((sortI X).map (Value.int .i64) ++ cs.drop (sortI X).length)).toArray bt (0, 0)) := by
    simp only [Go.Sort.putRow, Go.Sort.mapBlock, Go.Sort.ahead, Array.getElem?_modify, hblk, if_true, Option.map_some, Go.Sort.onCells]
    rw [← putCells_list pre cs (sortI X) hle, Array.toArray_toList]
  have hother : ∀ k, k ≠ b → (Go.Sort.putRow (Value.int .i64) (Go.Sort.ahead w n) b pre.length (sortI X).toArray).heap[k]? = w.heap[k]? := by
    intro k hk
    simp [Go.Sort.putRow, Go.Sort.mapBlock, Go.Sort.ahead, Array.getElem?_modify, Ne.symm hk]
  have hs := holds_set (i := 0) hh rfl hnew hother rfl rfl trivial
  refine ⟨_, rfl, R, [single b (.cells (pre ++ ((sortI X).map (Value.int .i64) ++ cs.drop (sortI X).length)).toArray bt (0, 0))], RH.le.refl _, holds_grow hs, _, rfl, rfl, .inr ⟨b, pre, (sortI X).map (Value.int .i64) ++ cs.drop (sortI X).length, cap, bt, by rw [sortI_length], rfl, by rw [sortI_length]; exact hc, ?_, ?_, ?_⟩⟩
  · simp only [tInt, Nat.mul_one, List.length_append, List.length_map, List.length_drop]; omega
  · intro x hx
    rcases List.mem_append.1 hx with hx | hx
    · exact hcc x (List.mem_append.2 (.inl hx))
    · rcases List.mem_append.1 hx with hx | hx
      · obtain ⟨y, _, rfl⟩ := List.mem_map.1 hx; rfl
      · exact hcc x (List.mem_append.2 (.inr (List.mem_of_mem_drop hx)))
  · intro i x hi
    have hil := (List.getElem?_eq_some_iff.1 hi).1
    simp only [tInt, Nat.mul_one]
    have : ((sortI X).map (Value.int .i64) ++ cs.drop (sortI X).length)[i]? = some (.int .i64 x) := by
      rw [List.getElem?_append_left (by rw [List.length_map]; exact hil), List.getElem?_map, hi]; rfl
    obtain ⟨hl, hg⟩ := List.getElem?_eq_some_iff.1 this
    rw [List.drop_eq_getElem_cons hl, hg]; rfl
end GV
end Go.Proofs.Ytncblcdhmcmkmaa
