/- copy: what is only read into what is owned; one part of what is owned into another part of it. Bits' product. -/
import Derived.Test.YtncblcdhmcmkmaaShSort
import Derived.Shelf.Bits.Mul64
import Derived.Laws.CopyRow
import Derived.Laws.IdiomCopy
namespace Go.Proofs.Ytncblcdhmcmkmaa
namespace GV
set_option linter.unusedVariables false

/-- A part of a slice's value. -/
def subV (sz : Nat) (v : Value) (lo hi : Nat) : Value :=
  match v with
  | .slice p _ c => .slice (if c = lo then p else p.map (·.add (lo * sz))) (hi - lo) (c - lo)
  | v => v
def copyL {α : Type} (X : List α) (lo : Nat) (Y : List α) : List α := X.take lo ++ Y ++ X.drop (lo + Y.length)
theorem copyL_len {α : Type} {X Y : List α} {lo : Nat} (h : lo + Y.length ≤ X.length) : (copyL X lo Y).length = X.length := by
  simp only [copyL, List.length_append, List.length_take, List.length_drop]; omega

section c
variable {P : Program} {ρ : Option Nat} {l : Nat → Value} {R : RH} {O : List Frag} {ty : TypeId} {pos : String} {after : Array Go.Edge} {dst : Option Tmp} {g : Option (Nat × Bool)}
variable {α : Type} {T : Ty α} {X Y : List α} {v u : Value} {x y : Operand} {f : Frag} {t e : TypeId}
theorem val_subV {lo hi : Nat} {xlo xhi : Option Operand} (ht : SlOk P t e T) (hx : ev l x = v) (hr : ORep T R f v X)
    (hlo : xlo.map (ev l) = none ∧ lo = 0 ∨ ∃ k, xlo.map (ev l) = some (.int k lo)) (hhi : xhi.map (ev l) = none ∧ hi = X.length ∧ (none : Option Operand) = none ∨ ∃ k, xhi.map (ev l) = some (.int k hi)) (h1 : lo ≤ hi) (h2 : hi ≤ X.length) :
    Val P ρ ⟨dst, .slice t x xlo xhi none, ty, pos, after, g⟩ l R O (subV T.size v lo hi) := by
  obtain ⟨p, hv, hc⟩ := orep_slice hr
  intro A w hh
  rw [sem_plain (by intro c h; cases h)]
  have := run_sliceOp (P := P) (dst := dst) (ty := ty) (pos := pos) (after := after) (g := g) (w := w) (xmx := none) (mx := capOf v) ht.u ht.e.size (hx.trans hv) hlo hhi (.inl ⟨rfl, rfl⟩) h1 (by omega) (Nat.le_refl _) (fun _ => by omega)
  rw [this, hv]
  rfl
theorem take1 {cs : List Value} {i : Nat} (h : i < cs.length) : (cs.drop i).take 1 = [cs[i]] := by rw [List.drop_eq_getElem_cons h]; rfl
theorem orep_over {b : Nat} {pre cs ys : List Value} {cap lo : Nat} {bt : TypeId} (hsz : T.size = 1) (hc : X.length ≤ cap) (hcl : cap ≤ cs.length) (hcc : ∀ v ∈ pre ++ cs, v.oneCell' = true) (hel : ∀ (i : Nat) (hi : i < cs.length) x, X[i]? = some x → T.rep R [cs[i]] x)
    (hfit : lo + Y.length ≤ X.length) (hl : ys.length = Y.length) (hy : ∀ (i : Nat) (hi : i < ys.length) y, Y[i]? = some y → T.rep R [ys[i]] y) (h1 : ∀ v ∈ ys, v.oneCell' = true) :
    ORep T R (box b (pre ++ over cs lo ys) bt) (.slice (some ⟨b, pre.length, none⟩) X.length cap) (copyL X lo Y) := by
  have hol : (over cs lo ys).length = cs.length := by
    simp only [over, List.length_append, List.length_take, List.length_drop]; omega
  refine .inr ⟨b, pre, over cs lo ys, cap, bt, by rw [copyL_len hfit], rfl, by rw [copyL_len hfit]; exact hc, by rw [hsz, hol]; omega, fun q hq => ?_, fun i x hx => ?_⟩
  · rcases List.mem_append.1 hq with hq | hq
    · exact hcc q (List.mem_append.2 (.inl hq))
    · simp only [over, List.mem_append] at hq
      rcases hq with (hq | hq) | hq
      · exact hcc q (List.mem_append.2 (.inr (List.mem_of_mem_take hq)))
      · exact h1 q hq
      · exact hcc q (List.mem_append.2 (.inr (List.mem_of_mem_drop hq)))
  · have hi : i < X.length := by have := (List.getElem?_eq_some_iff.1 hx).1; rwa [copyL_len hfit] at this
    have hio : i < (over cs lo ys).length := by omega
    rw [hsz, Nat.mul_one, take1 hio]
    unfold copyL at hx
    have key : ∀ (z : Value), (over cs lo ys)[i]? = some z → T.rep R [z] x → T.rep R [(over cs lo ys)[i]] x := fun z hz hr => by
      rw [List.getElem?_eq_getElem hio] at hz
      rw [Option.some.inj hz]; exact hr
    by_cases ha : i < lo
    · have hic : i < cs.length := by omega
      refine key cs[i] ?_ (hel i hic x ?_)
      · unfold over; rw [List.append_assoc, List.getElem?_append_left (by rw [List.length_take]; omega), List.getElem?_take, if_pos ha, List.getElem?_eq_getElem hic]
      · rw [List.append_assoc, List.getElem?_append_left (by rw [List.length_take]; omega), List.getElem?_take, if_pos ha] at hx; exact hx
    · by_cases hb : i < lo + Y.length
      · have hiy : i - lo < ys.length := by omega
        refine key ys[i - lo] ?_ (hy (i - lo) hiy x ?_)
        · unfold over
          rw [List.append_assoc, List.getElem?_append_right (by rw [List.length_take]; omega), List.length_take, Nat.min_eq_left (by omega), List.getElem?_append_left hiy, List.getElem?_eq_getElem hiy]
        · rw [List.append_assoc, List.getElem?_append_right (by rw [List.length_take]; omega), List.length_take, Nat.min_eq_left (by omega), List.getElem?_append_left (by omega)] at hx; exact hx
      · have hic : i < cs.length := by omega
        refine key cs[i] ?_ (hel i hic x ?_)
        · unfold over
          rw [List.getElem?_append_right (by rw [List.length_append, List.length_take]; omega), List.length_append, List.length_take, Nat.min_eq_left (by omega), List.getElem?_drop, hl, show lo + Y.length + (i - (lo + Y.length)) = i by omega, List.getElem?_eq_getElem hic]
        · rw [List.getElem?_append_right (by rw [List.length_append, List.length_take]; omega), List.length_append, List.length_take, Nat.min_eq_left (by omega), List.getElem?_drop, show lo + Y.length + (i - (lo + Y.length)) = i by omega] at hx; exact hx
theorem sem_copy {w w' : World} {r : Value} (hx : ev l x = v) (hy : ev l y = u) (h : (Builtin.copy_ #[t, t] ty #[v, u]).run P w = .ok r w') :
    ((⟨dst, .call ⟨.builtin .copy, #[x, y], #[t, t]⟩, ty, pos, after, g⟩ : Oper).semAt ρ (ev l)).run P w = .ok (.value r) w' := by
  rw [sem_plain (by intro c h; cases h)]
  simp [execOp, resolve, invoke, builtin, hx, hy, h]
/-- The store of a row of cells in what is owned. -/
theorem holds_row {A : List Frag} {w : World} {b : Nat} {cs : List Value} {bt : TypeId} (cs' : List Value) (h : Holds R (box b cs bt :: A) w) : Holds R (box b cs' bt :: A) (w.setRow b cs'.toArray) := by
  have hb : w.heap[b]? = some (.cells cs.toArray bt (0, 0)) := holds_at (i := 0) h rfl (single_same _ _)
  have := holds_set (i := 0) (w' := w.setRow b cs'.toArray) (o' := .cells cs'.toArray bt (0, 0)) h rfl (by simp [World.setRow, Array.getElem?_modify, hb]) (fun k hk => by simp [World.setRow, Array.getElem?_modify, Ne.symm hk]) rfl rfl trivial
  exact this
theorem eff_copyA {lo1 hi1 lo2 hi2 : Nat} (hsz : T.size = 1) (hu : P.underlying t = some (.slice e)) (hi : (P.info? e).map (·.size) = some 1) (h : ORep T R f v X) (a1 : lo1 ≤ hi1) (a2 : hi1 ≤ X.length) (b1 : lo2 ≤ hi2) (b2 : hi2 ≤ X.length) (hx : ev l x = subV 1 v lo1 hi1) (hy : ev l y = subV 1 v lo2 hi2) :
    Eff P ρ ⟨dst, .call ⟨.builtin .copy, #[x, y], #[t, t]⟩, ty, pos, after, g⟩ l R ([f] ++ O) (fun v' R' O' => ∃ Oc, O' = Oc ++ O ∧ R' = R ∧ ∃ f', Oc = [f'] ∧ v' = .int .i64 ((min (hi2 - lo2) (hi1 - lo1) : Nat) : Int) ∧ ORep T R f' v (copyL X lo1 ((X.drop lo2).take (min (hi2 - lo2) (hi1 - lo1))))) := by
  intro A w hh
  obtain ⟨p, hv, hcap⟩ := orep_slice h
  by_cases hm : min (hi2 - lo2) (hi1 - lo1) = 0
  · have hrun : (Builtin.copy_ #[t, t] ty #[subV 1 v lo1 hi1, subV 1 v lo2 hi2]).run P w = .ok (goInt 0) w := by
      rw [hv]; exact run_copy_none w t t ty e _ _ _ _ _ _ hu hi hm
    rw [sem_copy hx hy hrun]
    refine ⟨R, _, RH.le.refl _, hh, _, rfl, rfl, f, rfl, by rw [hm]; rfl, ?_⟩
    rw [hm, List.take_zero]
    simpa [copyL] using h
  · rcases h with ⟨rfl, rfl, rfl⟩ | ⟨b, pre, cs, cap, bt, rfl, rfl, hc, hcl, hcc, hel⟩
    · simp at a2 b2; omega
    rw [hsz, Nat.mul_one] at hcl
    have hblk : w.heap[b]? = some (.cells (pre ++ cs).toArray bt (0, 0)) := holds_at hh (i := 0) rfl (single_same _ _)
    have hys : ((cs.drop lo2).take (min (hi2 - lo2) (hi1 - lo1))).length = min (hi2 - lo2) (hi1 - lo1) := by rw [List.length_take, List.length_drop]; omega
    have s1 : subV 1 (.slice (some ⟨b, pre.length, none⟩) X.length cap) lo1 hi1 = .slice (some ⟨b, pre.length + lo1, none⟩) (hi1 - lo1) (cap - lo1) := by
      simp only [subV]; rw [if_neg (by omega)]; simp [addr_add]
    have s2 : subV 1 (.slice (some ⟨b, pre.length, none⟩) X.length cap) lo2 hi2 = .slice (some ⟨b, pre.length + lo2, none⟩) (hi2 - lo2) (cap - lo2) := by
      simp only [subV]; rw [if_neg (by omega)]; simp [addr_add]
    have hrun := run_copy_row (P := P) w t t ty e b (pre.length + lo1) (hi1 - lo1) (cap - lo1) ⟨b, pre.length + lo2, none⟩ (hi2 - lo2) (cap - lo2) (pre ++ cs).toArray bt ((cs.drop lo2).take (min (hi2 - lo2) (hi1 - lo1))) hu hi hblk hys
      (fun j q hq => by
        rw [addr_add, cell_of_block hblk]
        have hj := (List.getElem?_eq_some_iff.1 hq).1
        rw [List.getElem?_take, if_pos (by omega), List.getElem?_drop] at hq
        simp only [List.getElem?_toArray]
        rw [List.getElem?_append_right (by omega), show pre.length + lo2 + j - pre.length = lo2 + j by omega]; exact hq)
      (by simp only [List.size_toArray, List.length_append, hys]; omega)
      (fun q hq => hcc q (List.mem_append.2 (.inr (List.mem_of_mem_drop (List.mem_of_mem_take hq)))))
    rw [← s1, ← s2] at hrun
    rw [sem_copy hx hy hrun]
    have hlist : (pre ++ cs).take (pre.length + lo1) ++ (cs.drop lo2).take (min (hi2 - lo2) (hi1 - lo1)) ++ (pre ++ cs).drop (pre.length + lo1 + ((cs.drop lo2).take (min (hi2 - lo2) (hi1 - lo1))).length) = pre ++ over cs lo1 ((cs.drop lo2).take (min (hi2 - lo2) (hi1 - lo1))) := over_pre
    simp only at hlist ⊢
    rw [hlist]
    refine ⟨R, _, RH.le.refl _, holds_row _ hh, _, rfl, rfl, _, rfl, by rw [hys]; rfl, ?_⟩
    refine orep_over hsz hc hcl hcc (fun i hi x hx => ?_) ?_ ?_ (fun i hi y hy => ?_) (fun q hq => hcc q (List.mem_append.2 (.inr (List.mem_of_mem_drop (List.mem_of_mem_take hq)))))
    · have := hel i x hx
      rwa [hsz, Nat.mul_one, take1 hi] at this
    · rw [List.length_take, List.length_drop]; omega
    · rw [hys, List.length_take, List.length_drop]; omega
    · rw [hys] at hi
      rw [List.getElem?_take, if_pos hi, List.getElem?_drop] at hy
      have hic : lo2 + i < cs.length := by omega
      have := hel (lo2 + i) y hy
      rw [hsz, Nat.mul_one, take1 hic] at this
      simpa using this
theorem eff_copyR (hsz : T.size = 1) (hu : P.underlying t = some (.slice e)) (hi : (P.info? e).map (·.size) = some 1) (h : ORep T R f v X) (hY : VRep (tSlice T) R u Y) (hx : ev l x = v) (hy : ev l y = u) :
    Eff P ρ ⟨dst, .call ⟨.builtin .copy, #[x, y], #[t, t]⟩, ty, pos, after, g⟩ l R ([f] ++ O) (fun v' R' O' => ∃ Oc, O' = Oc ++ O ∧ R' = R ∧ ∃ f', Oc = [f'] ∧ v' = .int .i64 ((min Y.length X.length : Nat) : Int) ∧ ORep T R f' v (copyL X 0 (Y.take (min Y.length X.length)))) := by
  intro A w hh
  obtain ⟨p, hv, hcap⟩ := orep_slice h
  obtain ⟨q, n, rfl, hn, hq, hS⟩ := vrep_slice.1 hY
  by_cases hm : min Y.length X.length = 0
  · have hrun : (Builtin.copy_ #[t, t] ty #[v, .slice q Y.length n]).run P w = .ok (goInt 0) w := by
      rw [hv]; exact run_copy_none w t t ty e _ _ _ _ _ _ hu hi hm
    rw [sem_copy hx hy hrun]
    refine ⟨R, _, RH.le.refl _, hh, _, rfl, rfl, f, rfl, by rw [hm]; rfl, ?_⟩
    rw [hm, List.take_zero]
    simpa [copyL] using h
  · rcases hS with rfl | ⟨b', off, c, ty', fr, rfl, hb', hrep⟩
    · simp at hm
    rcases h with ⟨rfl, rfl, rfl⟩ | ⟨b, pre, cs, cap, bt, rfl, rfl, hc, hcl, hcc, hel⟩
    · simp at hm
    rw [hsz, Nat.mul_one] at hcl
    have hblk : w.heap[b]? = some (.cells (pre ++ cs).toArray bt (0, 0)) := holds_at hh (i := 0) rfl (single_same _ _)
    have hsrc : w.heap[b']? = some (.cells c ty' fr) := hh.ro _ _ hb'
    have hcell : ∀ i, i < Y.length → ∃ z, c[off + i]? = some z ∧ ∀ y, Y[i]? = some y → T.rep R [z] y := by
      intro i hi
      have := hrep i Y[i] (List.getElem?_eq_getElem hi)
      have hl := T.len this
      rw [hsz, Nat.mul_one] at this hl
      unfold cellsAt at this hl
      cases hcs : c[off + i]? with
      | none =>
        rw [List.drop_eq_nil_of_le (by simpa using Array.getElem?_eq_none_iff.1 hcs)] at hl
        simp at hl
      | some z =>
        obtain ⟨hlt, hz⟩ := Array.getElem?_eq_some_iff.1 hcs
        have hlt' : off + i < c.toList.length := by simpa using hlt
        rw [take1 hlt'] at this
        refine ⟨z, rfl, fun y hy => ?_⟩
        rw [List.getElem?_eq_getElem hi] at hy
        cases hy
        simpa [hz] using this
    have hys : ((c.toList.drop off).take (min Y.length X.length)).length = min Y.length X.length := by
      rw [List.length_take, List.length_drop]
      obtain ⟨z, hz, _⟩ := hcell (Y.length - 1) (by omega)
      have := (Array.getElem?_eq_some_iff.1 hz).1
      simp only [Array.length_toList]; omega
    have hysi : ∀ (i : Nat) (hi : i < ((c.toList.drop off).take (min Y.length X.length)).length), ∃ z, c[off + i]? = some z ∧ ((c.toList.drop off).take (min Y.length X.length))[i] = z ∧ ∀ y, Y[i]? = some y → T.rep R [z] y := by
      intro i hi
      rw [hys] at hi
      obtain ⟨z, hz, hr⟩ := hcell i (by omega)
      refine ⟨z, hz, ?_, hr⟩
      obtain ⟨_, hz'⟩ := Array.getElem?_eq_some_iff.1 hz
      simp [← hz']
    have h1 : ∀ z ∈ (c.toList.drop off).take (min Y.length X.length), z.oneCell' = true := by
      intro z hz
      obtain ⟨i, hi, rfl⟩ := List.mem_iff_getElem.1 hz
      obtain ⟨z', _, e, hr⟩ := hysi i hi
      rw [hys] at hi
      have := hr Y[i] (List.getElem?_eq_getElem (by omega))
      rw [e]
      exact T.cell this z' (by simp)
    have hrun := run_copy_row (P := P) w t t ty e b pre.length X.length cap ⟨b', off, none⟩ Y.length n (pre ++ cs).toArray bt ((c.toList.drop off).take (min Y.length X.length)) hu hi hblk hys
      (fun j z hz => by
        rw [addr_add, cell_of_block hsrc]
        obtain ⟨hj, e⟩ := List.getElem?_eq_some_iff.1 hz
        obtain ⟨z', h2, h3, _⟩ := hysi j hj
        rw [h2, ← h3, e])
      (by simp only [List.size_toArray, List.length_append, hys]; omega) h1
    rw [sem_copy hx hy hrun]
    have hlist : (pre ++ cs).take (pre.length + 0) ++ (c.toList.drop off).take (min Y.length X.length) ++ (pre ++ cs).drop (pre.length + 0 + ((c.toList.drop off).take (min Y.length X.length)).length) = pre ++ over cs 0 ((c.toList.drop off).take (min Y.length X.length)) := over_pre
    simp only [Nat.add_zero] at hlist ⊢
    rw [hlist]
    refine ⟨R, _, RH.le.refl _, holds_row _ hh, _, rfl, rfl, _, rfl, by rw [hys]; rfl, ?_⟩
    refine orep_over hsz hc hcl hcc (fun i hi x hx => ?_) ?_ ?_ (fun i hi y hy => ?_) h1
    · have := hel i x hx
      rwa [hsz, Nat.mul_one, take1 hi] at this
    · rw [List.length_take]; omega
    · rw [hys, List.length_take]; omega
    · obtain ⟨z, _, e, hr⟩ := hysi i hi
      rw [e]
      rw [List.getElem?_take] at hy
      split at hy
      · exact hr y hy
      · cases hy
end c
/-- The product of two numbers of 64 bits. -/
theorem callP_mul {P : Program} {ρ : Shelf.Ren} (Ly : Go.Proofs.Lays.n212 P ρ) {R : RH} {x y : Int} (h : (0 ≤ x ∧ x < 18446744073709551616) ∧ 0 ≤ y ∧ y < 18446744073709551616) :
    CallP P (ρ.f 212) #[.int .u64 x, .int .u64 y] R (fun v R' => v = .tuple #[.int .u64 (x * y / 18446744073709551616), .int .u64 (x * y % 18446744073709551616)]) := by
  intro A w hh
  obtain ⟨⟨h1, h2⟩, h3, h4⟩ := h
  obtain ⟨a, rfl⟩ := Int.eq_ofNat_of_zero_le h1
  obtain ⟨b, rfl⟩ := Int.eq_ofNat_of_zero_le h3
  refine Calls.mono (Any.bits_Mul Ly a b (by omega) (by omega) w) ?_
  rintro e w' ⟨rfl, rfl⟩
  refine ⟨_, rfl, R, RH.le.refl _, hh, ?_⟩
  rw [Int.natCast_ediv, Int.natCast_emod, Int.natCast_mul]
  rfl
end GV
end Go.Proofs.Ytncblcdhmcmkmaa
