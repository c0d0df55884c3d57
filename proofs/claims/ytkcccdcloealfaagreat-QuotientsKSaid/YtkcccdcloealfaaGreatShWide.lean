
import Derived.Test.YtkcccdcloealfaaGreatShMap
import Derived.Shelf.Sort.Plain
import Derived.Shelf.Bits.Mul64
import Derived.Laws.CopyRow
import Derived.Laws.IdiomCopy
import Derived.Laws.StructEq
import Derived.ChangeKeysEq
import Derived.WideKeyRuns
set_option linter.unusedVariables false
set_option linter.unusedSimpArgs false
namespace Go.Proofs.YtkcccdcloealfaaGreat
namespace GV
/-! ### The plain form -/
def ztl (x : Int) : List Int → List Int
  | [] => [x]
  | y :: l => if x ≤ y then x :: y :: l else y :: ztl x l
def z5d : List Int → List Int
  | [] => []
  | x :: l => ztl x (z5d l)
theorem zlc (x : Int) (l : List Int) : (ztl x l).Perm (x :: l) := by
  induction l with
  | nil => exact .refl _
  | cons y l ih =>
    unfold ztl
    split
    · exact .refl _
    · exact ((ih.cons y).trans (.swap x y l))
theorem zex (l : List Int) : (z5d l).Perm l := by
  induction l with
  | nil => exact .refl _
  | cons x l ih => exact (zlc x _).trans (ih.cons x)
theorem zox {x : Int} {l : List Int} (h : l.Pairwise (· ≤ ·)) : (ztl x l).Pairwise (· ≤ ·) := by
  induction l with
  | nil => exact List.pairwise_singleton _ _
  | cons y l ih =>
    obtain ⟨h1, h2⟩ := List.pairwise_cons.1 h
    unfold ztl
    split
    · rename_i hx
      refine List.pairwise_cons.2 ⟨fun z hz => ?_, h⟩
      rcases List.mem_cons.1 hz with rfl | hz
      · exact hx
      · exact Int.le_trans hx (h1 z hz)
    · rename_i hx
      refine List.pairwise_cons.2 ⟨fun z hz => ?_, ih h2⟩
      rcases List.mem_cons.1 ((zlc x l).mem_iff.1 hz) with rfl | hz
      · omega
      · exact h1 z hz
theorem zgf (l : List Int) : (z5d l).Pairwise (· ≤ ·) := by
  induction l with
  | nil => exact .nil
  | cons x l ih => exact zox ih
theorem za4 : ∀ {l l' : List Int}, l.Perm l' → l.Pairwise (· ≤ ·) → l'.Pairwise (· ≤ ·) → l = l'
  | [], l', hp, _, _ => (List.nil_perm.1 hp).symm
  | x :: l, l', hp, h, h' => by
    cases l' with
    | nil => exact absurd hp.symm (by simp)
    | cons y l' =>
      obtain ⟨h1, h2⟩ := List.pairwise_cons.1 h
      obtain ⟨k1, k2⟩ := List.pairwise_cons.1 h'
      have hxy : x = y := by
        have a : x ∈ y :: l' := hp.mem_iff.1 (List.mem_cons_self ..)
        have b : y ∈ x :: l := hp.mem_iff.2 (List.mem_cons_self ..)
        rcases List.mem_cons.1 a with e | a
        · exact e
        · rcases List.mem_cons.1 b with e | b
          · exact e.symm
          · have := k1 x a; have := h1 y b; omega
      subst hxy
      rw [za4 ((List.perm_cons x).1 hp) h2 k2]
theorem zi3 (l : List Int) : (l.mergeSort fun x y => decide (x ≤ y)) = z5d l := by
  refine za4 ((List.mergeSort_perm l _).trans (zex l).symm) ?_ (zgf l)
  have := List.pairwise_mergeSort (le := fun (x y : Int) => decide (x ≤ y)) (fun a b c h1 h2 => by simp at *; omega) (fun a b => by simp; omega) l
  exact this.imp fun h => by simpa using h
theorem zbt (l : List Int) : (z5d l).length = l.length := (zex l).length_eq
/-! ### New blocks behind all -/
theorem holds_grow {R : RH} {O : List Frag} {w : World} {os : Array Obj} (h : Holds R O w) : Holds R O (Go.Sort.grow w os) := by
  have up : ∀ (k : Nat) (o : Obj), w.heap[k]? = some o → (Go.Sort.grow w os).heap[k]? = some o := by
    intro k o hk
    have hlt := (Array.getElem?_eq_some_iff.1 hk).1
    show (w.heap ++ os)[k]? = some o
    rw [Array.getElem?_append_left hlt]; exact hk
  exact ⟨fun k o hk => up k o (h.ro k o hk), fun f hf k o hk => ⟨up k o (h.own f hf k o hk).1, (h.own f hf k o hk).2⟩, h.sep, ⟨h.os.1, fun _ _ _ _ => trivial⟩, h.out⟩
theorem zkm (pre cs : List Value) (d : List Int) (h : d.length ≤ cs.length) :
    (Go.Sort.putCells (Value.int .i64) pre.length d.toArray (pre ++ cs).toArray).toList = pre ++ (d.map (Value.int .i64) ++ cs.drop d.length) := by
  apply List.ext_getElem?
  intro k
  unfold Go.Sort.putCells
  rw [Array.getElem?_toList, Array.getElem?_mapIdx]
  simp only [List.size_toArray, List.getElem?_toArray]
  by_cases h1 : k < pre.length
  · rw [List.getElem?_append_left h1, List.getElem?_append_left h1]
    rw [List.getElem?_eq_getElem h1]
    simp only [Option.map_some]
    rw [if_neg (by omega)]
  · rw [List.getElem?_append_right (by omega), List.getElem?_append_right (by omega)]
    by_cases h2 : k < pre.length + d.length
    · rw [List.getElem?_append_left (by rw [List.length_map]; omega), List.getElem?_map]
      have hk : k - pre.length < cs.length := by omega
      have hd : k - pre.length < d.length := by omega
      rw [List.getElem?_eq_getElem hk, List.getElem?_eq_getElem hd]
      simp only [Option.map_some]
      rw [if_pos (by omega)]
      simp [hd]
    · rw [List.getElem?_append_right (by rw [List.length_map]; omega), List.getElem?_drop, List.length_map]
      rw [show d.length + (k - pre.length - d.length) = k - pre.length by omega]
      cases cs[k - pre.length]? with
      | none => rfl
      | some v =>
        simp only [Option.map_some]
        rw [if_neg (by omega)]
theorem zqx {P : Program} {ρ : Shelf.Ren} (Ly : Go.Proofs.Lays.n189 P ρ) {R : RH} {f : Frag} {v : Value} {X : List Int} (h : ORep (qf .i64) R f v X) (h0 : 0 < X.length ∧ X.length < 4611686018427387904) :
    CallG P (ρ.f 189) #[v] R [f] (fun u R' O' => ∃ g, u = .tuple #[] ∧ O' = [g] ∧ ORep (qf .i64) R' g v (z5d X)) := by
  rcases h with ⟨rfl, rfl, rfl⟩ | ⟨b, pre, cs, cap, bt, rfl, rfl, hc, hcl, hcc, hel⟩
  · simp at h0
  intro A w hh
  have hcl' : cap ≤ cs.length := by simpa [qf] using hcl
  have hblk : w.heap[b]? = some (.cells (pre ++ cs).toArray bt (0, 0)) := z1z hh (i := 0) rfl (uh _ _)
  have hlt : b < w.heap.size := (Array.getElem?_eq_some_iff.1 hblk).1
  have hcell : ∀ j (hj : j < X.length), cs[j]? = some (.int .i64 X[j]) := by
    intro j hj
    have := hel j X[j] (List.getElem?_eq_getElem hj)
    have hjc : j < cs.length := by omega
    simp only [qf, Nat.mul_one] at this
    rw [List.getElem?_eq_getElem hjc]
    have e : (cs.drop j).take 1 = [cs[j]] := by rw [List.drop_eq_getElem_cons hjc]; rfl
    rw [e] at this
    simpa using this
  have hH : Go.Sort.Holds (Value.int .i64) w b pre.length X.toArray := by
    intro j hj
    have hj' : j < X.length := by simpa using hj
    refine ⟨?_, zen hblk⟩
    rw [cell_of_block hblk]
    simp only [List.getElem?_toArray]
    rw [List.getElem?_append_right (by omega), Nat.add_sub_cancel_left, hcell j hj']
    simp [hj']
  refine Calls.mono (Any.slices_Sort_int Ly b pre.length cap X w hH hlt h0.2) ?_
  rintro e w' ⟨rfl, n, os, rfl⟩
  rw [zi3]
  have hle : (z5d X).length ≤ cs.length := by rw [zbt]; omega
  have hnew : (Go.Sort.putRow (Value.int .i64) (Go.Sort.ahead w n) b pre.length (z5d X).toArray).heap[b]? = some (.cells (pre ++ ((z5d X).map (Value.int .i64) ++ cs.drop (z5d X).length)).toArray bt (0, 0)) := by
    simp only [Go.Sort.putRow, Go.Sort.mapBlock, Go.Sort.ahead, Array.getElem?_modify, hblk, if_true, Option.map_some, Go.Sort.onCells]
    rw [← zkm pre cs (z5d X) hle, Array.toArray_toList]
  have hother : ∀ k, k ≠ b → (Go.Sort.putRow (Value.int .i64) (Go.Sort.ahead w n) b pre.length (z5d X).toArray).heap[k]? = w.heap[k]? := by
    intro k hk
    simp [Go.Sort.putRow, Go.Sort.mapBlock, Go.Sort.ahead, Array.getElem?_modify, Ne.symm hk]
  have hs := z9a (i := 0) hh rfl hnew hother rfl rfl trivial
  refine ⟨_, rfl, R, [single b (.cells (pre ++ ((z5d X).map (Value.int .i64) ++ cs.drop (z5d X).length)).toArray bt (0, 0))], RH.le.refl _, holds_grow hs, _, rfl, rfl, .inr ⟨b, pre, (z5d X).map (Value.int .i64) ++ cs.drop (z5d X).length, cap, bt, by rw [zbt], rfl, by rw [zbt]; exact hc, ?_, ?_, ?_⟩⟩
  · simp only [qf, Nat.mul_one, List.length_append, List.length_map, List.length_drop]; omega
  · intro x hx
    rcases List.mem_append.1 hx with hx | hx
    · exact hcc x (List.mem_append.2 (.inl hx))
    · rcases List.mem_append.1 hx with hx | hx
      · obtain ⟨y, _, rfl⟩ := List.mem_map.1 hx; rfl
      · exact hcc x (List.mem_append.2 (.inr (List.mem_of_mem_drop hx)))
  · intro i x hi
    have hil := (List.getElem?_eq_some_iff.1 hi).1
    simp only [qf, Nat.mul_one]
    have : ((z5d X).map (Value.int .i64) ++ cs.drop (z5d X).length)[i]? = some (.int .i64 x) := by
      rw [List.getElem?_append_left (by rw [List.length_map]; exact hil), List.getElem?_map, hi]; rfl
    obtain ⟨hl, hg⟩ := List.getElem?_eq_some_iff.1 this
    rw [List.drop_eq_getElem_cons hl, hg]; rfl
end GV
end Go.Proofs.YtkcccdcloealfaaGreat

namespace Go.Proofs.YtkcccdcloealfaaGreat
namespace GV
def ziy (sz : Nat) (v : Value) (lo hi : Nat) : Value :=
  match v with
  | .slice p _ c => .slice (if c = lo then p else p.map (·.add (lo * sz))) (hi - lo) (c - lo)
  | v => v
def z7d {α : Type} (X : List α) (lo : Nat) (Y : List α) : List α := X.take lo ++ Y ++ X.drop (lo + Y.length)
theorem zgy {α : Type} {X Y : List α} {lo : Nat} (h : lo + Y.length ≤ X.length) : (z7d X lo Y).length = X.length := by
  simp only [z7d, List.length_append, List.length_take, List.length_drop]; omega
section c
variable {P : Program} {ρ : Option Nat} {l : Nat → Value} {R : RH} {O : List Frag} {ty : TypeId} {pos : String} {after : Array Go.Edge} {dst : Option Tmp} {g : Option (Nat × Bool)}
variable {α : Type} {T : Ty α} {X Y : List α} {v u : Value} {x y : Operand} {f : Frag} {t e : TypeId}
theorem zp6 {lo hi : Nat} {xlo xhi : Option Operand} (ht : SlOk P t e T) (hx : ev l x = v) (hr : ORep T R f v X)
    (hlo : xlo.map (ev l) = none ∧ lo = 0 ∨ ∃ k, xlo.map (ev l) = some (.int k lo)) (hhi : xhi.map (ev l) = none ∧ hi = X.length ∧ (none : Option Operand) = none ∨ ∃ k, xhi.map (ev l) = some (.int k hi)) (h1 : lo ≤ hi) (h2 : hi ≤ X.length) :
    Val P ρ ⟨dst, .slice t x xlo xhi none, ty, pos, after, g⟩ l R O (ziy T.size v lo hi) := by
  obtain ⟨p, hv, hc⟩ := z7p hr
  intro A w hh
  rw [jm (by intro c h; cases h)]
  have := zd5 (P := P) (dst := dst) (ty := ty) (pos := pos) (after := after) (g := g) (w := w) (xmx := none) (mx := capOf v) ht.u ht.e.size (hx.trans hv) hlo hhi (.inl ⟨rfl, rfl⟩) h1 (by omega) (Nat.le_refl _) (fun _ => by omega)
  rw [this, hv]
  rfl
theorem take1 {cs : List Value} {i : Nat} (h : i < cs.length) : (cs.drop i).take 1 = [cs[i]] := by rw [List.drop_eq_getElem_cons h]; rfl
theorem zl6 {b : Nat} {pre cs ys : List Value} {cap lo : Nat} {bt : TypeId} (hsz : T.size = 1) (hc : X.length ≤ cap) (hcl : cap ≤ cs.length) (hcc : ∀ v ∈ pre ++ cs, v.oneCell' = true) (hel : ∀ (i : Nat) (hi : i < cs.length) x, X[i]? = some x → T.rep R [cs[i]] x)
    (hfit : lo + Y.length ≤ X.length) (hl : ys.length = Y.length) (hy : ∀ (i : Nat) (hi : i < ys.length) y, Y[i]? = some y → T.rep R [ys[i]] y) (h1 : ∀ v ∈ ys, v.oneCell' = true) :
    ORep T R (box b (pre ++ over cs lo ys) bt) (.slice (some ⟨b, pre.length, none⟩) X.length cap) (z7d X lo Y) := by
  have hol : (over cs lo ys).length = cs.length := by
    simp only [over, List.length_append, List.length_take, List.length_drop]; omega
  refine .inr ⟨b, pre, over cs lo ys, cap, bt, by rw [zgy hfit], rfl, by rw [zgy hfit]; exact hc, by rw [hsz, hol]; omega, fun q hq => ?_, fun i x hx => ?_⟩
  · rcases List.mem_append.1 hq with hq | hq
    · exact hcc q (List.mem_append.2 (.inl hq))
    · simp only [over, List.mem_append] at hq
      rcases hq with (hq | hq) | hq
      · exact hcc q (List.mem_append.2 (.inr (List.mem_of_mem_take hq)))
      · exact h1 q hq
      · exact hcc q (List.mem_append.2 (.inr (List.mem_of_mem_drop hq)))
  · have hi : i < X.length := by have := (List.getElem?_eq_some_iff.1 hx).1; rwa [zgy hfit] at this
    have hio : i < (over cs lo ys).length := by omega
    rw [hsz, Nat.mul_one, take1 hio]
    unfold z7d at hx
    have key : ∀ (z : Value), (over cs lo ys)[i]? = some z → T.rep R [z] x → T.rep R [(over cs lo ys)[i]] x := fun z hz hr => by
      rw [List.getElem?_eq_getElem hio] at hz
      rw [Option.some.inj hz]; exact hr
    by_cases ha : i < lo
    · have hic : i < cs.length := by omega
      refine key cs[i] ?_ (hel i hic x ?_)
      · unfold over; rw [List.append_assoc, List.getElem?_append_left (by rw [List.length_take]; omega), List.getElem?_take, if_pos ha, List.getElem?_eq_getElem hic]
      · rw [List.append_assoc, List.getElem?_append_left (by rw [List.length_take]; omega), List.getElem?_take, if_pos ha] at hx; exact hx
    · by_cases hb : i < lo + Y.length
      · have hiy : i - lo < ys.length := by omega
        refine key ys[i - lo] ?_ (hy (i - lo) hiy x ?_)
        · unfold over
          rw [List.append_assoc, List.getElem?_append_right (by rw [List.length_take]; omega), List.length_take, Nat.min_eq_left (by omega), List.getElem?_append_left hiy, List.getElem?_eq_getElem hiy]
        · rw [List.append_assoc, List.getElem?_append_right (by rw [List.length_take]; omega), List.length_take, Nat.min_eq_left (by omega), List.getElem?_append_left (by omega)] at hx; exact hx
      · have hic : i < cs.length := by omega
        refine key cs[i] ?_ (hel i hic x ?_)
        · unfold over
          rw [List.getElem?_append_right (by rw [List.length_append, List.length_take]; omega), List.length_append, List.length_take, Nat.min_eq_left (by omega), List.getElem?_drop, hl, show lo + Y.length + (i - (lo + Y.length)) = i by omega, List.getElem?_eq_getElem hic]
        · rw [List.getElem?_append_right (by rw [List.length_append, List.length_take]; omega), List.length_append, List.length_take, Nat.min_eq_left (by omega), List.getElem?_drop, show lo + Y.length + (i - (lo + Y.length)) = i by omega] at hx; exact hx
theorem zfn {w w' : World} {r : Value} (hx : ev l x = v) (hy : ev l y = u) (h : (Builtin.copy_ #[t, t] ty #[v, u]).run P w = .ok r w') :
    ((⟨dst, .call ⟨.builtin .copy, #[x, y], #[t, t]⟩, ty, pos, after, g⟩ : Oper).semAt ρ (ev l)).run P w = .ok (.value r) w' := by
  rw [jm (by intro c h; cases h)]
  simp [execOp, resolve, invoke, builtin, hx, hy, h]
theorem zla {A : List Frag} {w : World} {b : Nat} {cs : List Value} {bt : TypeId} (cs' : List Value) (h : Holds R (box b cs bt :: A) w) : Holds R (box b cs' bt :: A) (w.setRow b cs'.toArray) := by
  have hb : w.heap[b]? = some (.cells cs.toArray bt (0, 0)) := z1z (i := 0) h rfl (uh _ _)
  have := z9a (i := 0) (w' := w.setRow b cs'.toArray) (o' := .cells cs'.toArray bt (0, 0)) h rfl (by simp [World.setRow, Array.getElem?_modify, hb]) (fun k hk => by simp [World.setRow, Array.getElem?_modify, Ne.symm hk]) rfl rfl trivial
  exact this
theorem zu3 {lo1 hi1 lo2 hi2 : Nat} (hsz : T.size = 1) (hu : P.underlying t = some (.slice e)) (hi : (P.info? e).map (·.size) = some 1) (h : ORep T R f v X) (a1 : lo1 ≤ hi1) (a2 : hi1 ≤ X.length) (b1 : lo2 ≤ hi2) (b2 : hi2 ≤ X.length) (hx : ev l x = ziy 1 v lo1 hi1) (hy : ev l y = ziy 1 v lo2 hi2) :
    Eff P ρ ⟨dst, .call ⟨.builtin .copy, #[x, y], #[t, t]⟩, ty, pos, after, g⟩ l R ([f] ++ O) (fun v' R' O' => ∃ Oc, O' = Oc ++ O ∧ R' = R ∧ ∃ f', Oc = [f'] ∧ v' = .int .i64 ((min (hi2 - lo2) (hi1 - lo1) : Nat) : Int) ∧ ORep T R f' v (z7d X lo1 ((X.drop lo2).take (min (hi2 - lo2) (hi1 - lo1))))) := by
  intro A w hh
  obtain ⟨p, hv, hcap⟩ := z7p h
  by_cases hm : min (hi2 - lo2) (hi1 - lo1) = 0
  · have hrun : (Builtin.copy_ #[t, t] ty #[ziy 1 v lo1 hi1, ziy 1 v lo2 hi2]).run P w = .ok (goInt 0) w := by
      rw [hv]; exact run_copy_none w t t ty e _ _ _ _ _ _ hu hi hm
    rw [zfn hx hy hrun]
    refine ⟨R, _, RH.le.refl _, hh, _, rfl, rfl, f, rfl, by rw [hm]; rfl, ?_⟩
    rw [hm, List.take_zero]
    simpa [z7d] using h
  · rcases h with ⟨rfl, rfl, rfl⟩ | ⟨b, pre, cs, cap, bt, rfl, rfl, hc, hcl, hcc, hel⟩
    · simp at a2 b2; omega
    rw [hsz, Nat.mul_one] at hcl
    have hblk : w.heap[b]? = some (.cells (pre ++ cs).toArray bt (0, 0)) := z1z hh (i := 0) rfl (uh _ _)
    have hys : ((cs.drop lo2).take (min (hi2 - lo2) (hi1 - lo1))).length = min (hi2 - lo2) (hi1 - lo1) := by rw [List.length_take, List.length_drop]; omega
    have s1 : ziy 1 (.slice (some ⟨b, pre.length, none⟩) X.length cap) lo1 hi1 = .slice (some ⟨b, pre.length + lo1, none⟩) (hi1 - lo1) (cap - lo1) := by
      simp only [ziy]; rw [if_neg (by omega)]; simp [addr_add]
    have s2 : ziy 1 (.slice (some ⟨b, pre.length, none⟩) X.length cap) lo2 hi2 = .slice (some ⟨b, pre.length + lo2, none⟩) (hi2 - lo2) (cap - lo2) := by
      simp only [ziy]; rw [if_neg (by omega)]; simp [addr_add]
    have hrun := run_copy_row (P := P) w t t ty e b (pre.length + lo1) (hi1 - lo1) (cap - lo1) ⟨b, pre.length + lo2, none⟩ (hi2 - lo2) (cap - lo2) (pre ++ cs).toArray bt ((cs.drop lo2).take (min (hi2 - lo2) (hi1 - lo1))) hu hi hblk hys
      (fun j q hq => by
        rw [addr_add, cell_of_block hblk]
        have hj := (List.getElem?_eq_some_iff.1 hq).1
        rw [List.getElem?_take, if_pos (by omega), List.getElem?_drop] at hq
        simp only [List.getElem?_toArray]
        rw [List.getElem?_append_right (by omega), show pre.length + lo2 + j - pre.length = lo2 + j by omega]; exact hq)
      (by simp only [List.size_toArray, List.length_append, hys]; omega)
      (fun q hq => hcc q (List.mem_append.2 (.inr (List.mem_of_mem_drop (List.mem_of_mem_take hq)))))
    rw [← s1, ← s2] at hrun
    rw [zfn hx hy hrun]
    have hlist : (pre ++ cs).take (pre.length + lo1) ++ (cs.drop lo2).take (min (hi2 - lo2) (hi1 - lo1)) ++ (pre ++ cs).drop (pre.length + lo1 + ((cs.drop lo2).take (min (hi2 - lo2) (hi1 - lo1))).length) = pre ++ over cs lo1 ((cs.drop lo2).take (min (hi2 - lo2) (hi1 - lo1))) := zdl
    simp only at hlist ⊢
    rw [hlist]
    refine ⟨R, _, RH.le.refl _, zla _ hh, _, rfl, rfl, _, rfl, by rw [hys]; rfl, ?_⟩
    refine zl6 hsz hc hcl hcc (fun i hi x hx => ?_) ?_ ?_ (fun i hi y hy => ?_) (fun q hq => hcc q (List.mem_append.2 (.inr (List.mem_of_mem_drop (List.mem_of_mem_take hq)))))
    · have := hel i x hx
      rwa [hsz, Nat.mul_one, take1 hi] at this
    · rw [List.length_take, List.length_drop]; omega
    · rw [hys, List.length_take, List.length_drop]; omega
    · rw [hys] at hi
      rw [List.getElem?_take, if_pos hi, List.getElem?_drop] at hy
      have hic : lo2 + i < cs.length := by omega
      have := hel (lo2 + i) y hy
      rw [hsz, Nat.mul_one, take1 hic] at this
      simpa using this
theorem zv7 (hsz : T.size = 1) (hu : P.underlying t = some (.slice e)) (hi : (P.info? e).map (·.size) = some 1) (h : ORep T R f v X) (hY : VRep (yw T) R u Y) (hx : ev l x = v) (hy : ev l y = u) :
    Eff P ρ ⟨dst, .call ⟨.builtin .copy, #[x, y], #[t, t]⟩, ty, pos, after, g⟩ l R ([f] ++ O) (fun v' R' O' => ∃ Oc, O' = Oc ++ O ∧ R' = R ∧ ∃ f', Oc = [f'] ∧ v' = .int .i64 ((min Y.length X.length : Nat) : Int) ∧ ORep T R f' v (z7d X 0 (Y.take (min Y.length X.length)))) := by
  intro A w hh
  obtain ⟨p, hv, hcap⟩ := z7p h
  obtain ⟨q, n, rfl, hn, hq, hS⟩ := aj.1 hY
  by_cases hm : min Y.length X.length = 0
  · have hrun : (Builtin.copy_ #[t, t] ty #[v, .slice q Y.length n]).run P w = .ok (goInt 0) w := by
      rw [hv]; exact run_copy_none w t t ty e _ _ _ _ _ _ hu hi hm
    rw [zfn hx hy hrun]
    refine ⟨R, _, RH.le.refl _, hh, _, rfl, rfl, f, rfl, by rw [hm]; rfl, ?_⟩
    rw [hm, List.take_zero]
    simpa [z7d] using h
  · rcases hS with rfl | ⟨b', off, c, ty', fr, rfl, hb', hrep⟩
    · simp at hm
    rcases h with ⟨rfl, rfl, rfl⟩ | ⟨b, pre, cs, cap, bt, rfl, rfl, hc, hcl, hcc, hel⟩
    · simp at hm
    rw [hsz, Nat.mul_one] at hcl
    have hblk : w.heap[b]? = some (.cells (pre ++ cs).toArray bt (0, 0)) := z1z hh (i := 0) rfl (uh _ _)
    have hsrc : w.heap[b']? = some (.cells c ty' fr) := hh.ro _ _ hb'
    have hcell : ∀ i, i < Y.length → ∃ z, c[off + i]? = some z ∧ ∀ y, Y[i]? = some y → T.rep R [z] y := by
      intro i hi
      have := hrep i Y[i] (List.getElem?_eq_getElem hi)
      have hl := T.len this
      rw [hsz, Nat.mul_one] at this hl
      unfold ym at this hl
      cases hcs : c[off + i]? with
      | none =>
        rw [List.drop_eq_nil_of_le (by simpa using Array.getElem?_eq_none_iff.1 hcs)] at hl
        simp at hl
      | some z =>
        obtain ⟨hlt, hz⟩ := Array.getElem?_eq_some_iff.1 hcs
        have hlt' : off + i < c.toList.length := by simpa using hlt
        rw [take1 hlt'] at this
        refine ⟨z, rfl, fun y hy => ?_⟩
        rw [List.getElem?_eq_getElem hi] at hy
        cases hy
        simpa [hz] using this
    have hys : ((c.toList.drop off).take (min Y.length X.length)).length = min Y.length X.length := by
      rw [List.length_take, List.length_drop]
      obtain ⟨z, hz, _⟩ := hcell (Y.length - 1) (by omega)
      have := (Array.getElem?_eq_some_iff.1 hz).1
      simp only [Array.length_toList]; omega
    have hysi : ∀ (i : Nat) (hi : i < ((c.toList.drop off).take (min Y.length X.length)).length), ∃ z, c[off + i]? = some z ∧ ((c.toList.drop off).take (min Y.length X.length))[i] = z ∧ ∀ y, Y[i]? = some y → T.rep R [z] y := by
      intro i hi
      rw [hys] at hi
      obtain ⟨z, hz, hr⟩ := hcell i (by omega)
      refine ⟨z, hz, ?_, hr⟩
      obtain ⟨_, hz'⟩ := Array.getElem?_eq_some_iff.1 hz
      simp [← hz']
    have h1 : ∀ z ∈ (c.toList.drop off).take (min Y.length X.length), z.oneCell' = true := by
      intro z hz
      obtain ⟨i, hi, rfl⟩ := List.mem_iff_getElem.1 hz
      obtain ⟨z', _, e, hr⟩ := hysi i hi
      rw [hys] at hi
      have := hr Y[i] (List.getElem?_eq_getElem (by omega))
      rw [e]
      exact T.cell this z' (by simp)
    have hrun := run_copy_row (P := P) w t t ty e b pre.length X.length cap ⟨b', off, none⟩ Y.length n (pre ++ cs).toArray bt ((c.toList.drop off).take (min Y.length X.length)) hu hi hblk hys
      (fun j z hz => by
        rw [addr_add, cell_of_block hsrc]
        obtain ⟨hj, e⟩ := List.getElem?_eq_some_iff.1 hz
        obtain ⟨z', h2, h3, _⟩ := hysi j hj
        rw [h2, ← h3, e])
      (by simp only [List.size_toArray, List.length_append, hys]; omega) h1
    rw [zfn hx hy hrun]
    have hlist : (pre ++ cs).take (pre.length + 0) ++ (c.toList.drop off).take (min Y.length X.length) ++ (pre ++ cs).drop (pre.length + 0 + ((c.toList.drop off).take (min Y.length X.length)).length) = pre ++ over cs 0 ((c.toList.drop off).take (min Y.length X.length)) := zdl
    simp only [Nat.add_zero] at hlist ⊢
    rw [hlist]
    refine ⟨R, _, RH.le.refl _, zla _ hh, _, rfl, rfl, _, rfl, by rw [hys]; rfl, ?_⟩
    refine zl6 hsz hc hcl hcc (fun i hi x hx => ?_) ?_ ?_ (fun i hi y hy => ?_) h1
    · have := hel i x hx
      rwa [hsz, Nat.mul_one, take1 hi] at this
    · rw [List.length_take]; omega
    · rw [hys, List.length_take]; omega
    · obtain ⟨z, _, e, hr⟩ := hysi i hi
      rw [e]
      rw [List.getElem?_take] at hy
      split at hy
      · exact hr y hy
      · cases hy
end c
theorem zus {P : Program} {ρ : Shelf.Ren} (Ly : Go.Proofs.Lays.n212 P ρ) {R : RH} {x y : Int} (h : (0 ≤ x ∧ x < 18446744073709551616) ∧ 0 ≤ y ∧ y < 18446744073709551616) :
    CallP P (ρ.f 212) #[.int .u64 x, .int .u64 y] R (fun v R' => v = .tuple #[.int .u64 (x * y / 18446744073709551616), .int .u64 (x * y % 18446744073709551616)]) := by
  intro A w hh
  obtain ⟨⟨h1, h2⟩, h3, h4⟩ := h
  obtain ⟨a, rfl⟩ := Int.eq_ofNat_of_zero_le h1
  obtain ⟨b, rfl⟩ := Int.eq_ofNat_of_zero_le h3
  refine Calls.mono (Any.bits_Mul Ly a b (by omega) (by omega) w) ?_
  rintro e w' ⟨rfl, rfl⟩
  refine ⟨_, rfl, R, RH.le.refl _, hh, ?_⟩
  rw [Int.natCast_ediv, Int.natCast_emod, Int.natCast_mul]
  rfl
end GV
end Go.Proofs.YtkcccdcloealfaaGreat

namespace Go.Proofs.YtkcccdcloealfaaGreat
namespace GV
def mkV (ag : Bool) (cs : List Value) : Value := if ag then .agg cs.toArray else cs.headD undef
structure KTy (P : Program) (t : TypeId) (m sz : Nat) (ag : Bool) (K : List Value → Prop) : Prop where
  cells : P.cellsOf t = sz
  info : ∃ i, P.info? t = some i
  len : ∀ cs, K cs → cs.length = sz
  isAgg : ∀ w, (isAgg t).run P w = .ok ag w
  one : ag = false → sz = 1
  eq : ∀ d (w : World) cs cs', m ≤ d → K cs → K cs' → ∃ r : Bool, (Op.equalIn d t (mkV ag cs) (mkV ag cs')).run P w = .ok r w ∧ (r = true ↔ cs = cs')
  chk : ∀ d (w : World) em cs, m ≤ d → K cs → (Instr.checkKey em d t (mkV ag cs)).run P w = .ok () w
section
variable {P : Program} {t e : TypeId} {m m' sz n : Nat} {ag : Bool} {K : List Value → Prop}
theorem KTy.mono (h : KTy P t m sz ag K) (hm : m ≤ m') : KTy P t m' sz ag K :=
  { h with eq := fun d w cs cs' hd => h.eq d w cs cs' (by omega), chk := fun d w em cs hd => h.chk d w em cs (by omega) }
theorem KTy.part (h : KTy P t m sz ag K) (w : World) {pre cs post : List Value} (hk : K cs) : (part t (pre ++ cs ++ post).toArray pre.length).run P w = .ok (mkV ag cs) w := by
  obtain ⟨i, hi⟩ := h.info
  have hl := h.len cs hk
  unfold Go.part
  rw [Sem.run_bind, h.isAgg w, Result.andThen_ok]
  cases ag
  · have hs := h.one rfl
    match cs, hl with
    | [v], _ =>
      simp only [Bool.false_eq_true, if_false]
      have : (pre ++ [v] ++ post).toArray[pre.length]? = some v := by simp
      rw [this]; rfl
    | [], hl => simp at hl; omega
    | _ :: _ :: _, hl => simp at hl; omega
  · simp only [if_true, Sem.run_bind, run_sizeOf w hi, h.cells, Result.andThen_ok, Sem.run_pure]
    have : (pre ++ cs ++ post).toArray.extract pre.length (pre.length + sz) = cs.toArray := by
      apply Array.toList_inj.1
      rw [Array.toList_extract]
      simp only [List.extract_eq_take_drop, List.append_assoc, List.drop_left, List.take_append_of_le_length (Nat.le_of_eq (show pre.length + sz - pre.length = cs.length by omega)), List.take_of_length_le (show cs.length ≤ pre.length + sz - pre.length by omega)]
    rw [this]; rfl
theorem KTy.part' (h : KTy P t m sz ag K) (w : World) {xs : List Value} {off : Nat} {pre cs post : List Value} (hk : K cs) (hx : xs = pre ++ cs ++ post) (ho : off = pre.length) : (Go.part t xs.toArray off).run P w = .ok (mkV ag cs) w := by
  subst hx; subst ho; exact h.part w hk
theorem q0l {q : IntKind} (hu : P.underlying t = some (.int q)) (hs : P.cellsOf t = 1) : KTy P t 1 1 false (fun cs => ∃ x, cs = [.int q x]) where
  cells := hs
  info := info_of_underlying hu
  len := by rintro cs ⟨x, rfl⟩; rfl
  isAgg w := by simp [Go.isAgg, run_underlying hu]
  one _ := rfl
  eq := by
    rintro d w _ _ hd ⟨x, rfl⟩ ⟨y, rfl⟩
    obtain ⟨d, rfl⟩ : ∃ d', d = d' + 1 := ⟨d - 1, by omega⟩
    refine ⟨x == y, ?_, by simp⟩
    simp [mkV, Op.equalIn, run_underlying hu]
  chk := by
    rintro d w em _ hd ⟨x, rfl⟩
    obtain ⟨d, rfl⟩ : ∃ d', d = d' + 1 := ⟨d - 1, by omega⟩
    simp [mkV, Instr.checkKey, run_underlying hu]
/-! ### Arrays -/
def zku (n : Nat) (K : List Value → Prop) (cs : List Value) : Prop := ∃ L : List (List Value), L.length = n ∧ (∀ c ∈ L, K c) ∧ cs = L.flatten
theorem zos {L : List (List Value)} (h : ∀ c ∈ L, c.length = sz) : L.flatten.length = L.length * sz := by
  induction L with
  | nil => simp
  | cons c L ih =>
    rw [List.flatten_cons, List.length_append, ih (fun c hc => h c (by simp [hc])), h c (by simp), List.length_cons, Nat.succ_mul, Nat.add_comm]
theorem zlk (h : KTy P e m sz ag K) (d : Nat) (hd : m ≤ d) (w : World) : ∀ (L L' : List (List Value)) (pre pre' : List Value) (k : Nat), L.length = L'.length → (∀ c ∈ L, K c) → (∀ c ∈ L', K c) → pre.length = k * sz → pre'.length = k * sz →
    ∃ r : Bool, (Op.eqItems d e sz (pre ++ L.flatten).toArray (pre' ++ L'.flatten).toArray (List.range' k L.length)).run P w = .ok r w ∧ (r = true ↔ L.flatten = L'.flatten)
  | [], [], pre, pre', k, _, _, _, _, _ => ⟨true, by simp [Op.eqItems], by simp⟩
  | [], _ :: _, _, _, _, hl, _, _, _, _ => by simp at hl
  | _ :: _, [], _, _, _, hl, _, _, _, _ => by simp at hl
  | c :: L, c' :: L', pre, pre', k, hl, hK, hK', hp, hp' => by
    have k1 := hK c (by simp)
    have k2 := hK' c' (by simp)
    have l1 := h.len c k1
    have l2 := h.len c' k2
    obtain ⟨r, hr, hi⟩ := h.eq d w c c' hd k1 k2
    obtain ⟨r', hr', hi'⟩ := zlk h d hd w L L' (pre ++ c) (pre' ++ c') (k + 1) (by simpa using hl) (fun c hc => hK c (by simp [hc])) (fun c hc => hK' c (by simp [hc])) (by rw [List.length_append, hp, l1, Nat.succ_mul]) (by rw [List.length_append, hp', l2, Nat.succ_mul])
    rw [List.append_assoc, List.append_assoc] at hr'
    have p1 := h.part' (P := P) w (xs := pre ++ (c :: L).flatten) (off := k * sz) (pre := pre) (post := L.flatten) k1 (by simp) hp.symm
    have p2 := h.part' (P := P) w (xs := pre' ++ (c' :: L').flatten) (off := k * sz) (pre := pre') (post := L'.flatten) k2 (by simp) hp'.symm
    rw [List.length_cons, List.range'_succ]
    simp only [Op.eqItems, Sem.run_bind, p1, p2, hr, Result.andThen_ok]
    have happ : (c :: L).flatten = (c' :: L').flatten ↔ c = c' ∧ L.flatten = L'.flatten := by
      rw [List.flatten_cons, List.flatten_cons]
      exact ⟨fun e => List.append_inj e (by omega), fun ⟨e1, e2⟩ => by rw [e1, e2]⟩
    cases r
    · exact ⟨false, by simp, by rw [happ]; simp; intro e; exact absurd (hi.2 e) (by simp)⟩
    · refine ⟨r', by simpa [List.flatten_cons] using hr', ?_⟩
      rw [happ, hi']
      simp [hi.1 rfl]
theorem zsa (hu : P.underlying t = some (.array n e)) (hs : P.cellsOf t = n * sz) (h : KTy P e m sz ag K) : KTy P t (m + 1) (n * sz) true (zku n K) where
  cells := hs
  info := info_of_underlying hu
  len := by rintro cs ⟨L, hl, hK, rfl⟩; rw [zos fun c hc => h.len c (hK c hc), hl]
  isAgg w := by simp [Go.isAgg, run_underlying hu]
  one h := by cases h
  eq := by
    rintro d w _ _ hd ⟨L, hl, hK, rfl⟩ ⟨L', hl', hK', rfl⟩
    obtain ⟨d, rfl⟩ : ∃ d', d = d' + 1 := ⟨d - 1, by omega⟩
    obtain ⟨i, hi⟩ := h.info
    obtain ⟨r, hr, hiff⟩ := zlk h d (by omega) w L L' [] [] 0 (by omega) hK hK' (by simp) (by simp)
    refine ⟨r, ?_, hiff⟩
    show (Op.equalIn (d + 1) t (.agg L.flatten.toArray) (.agg L'.flatten.toArray)).run P w = _
    rw [run_equalIn_array w d _ _ hu hi, h.cells, List.range_eq_range', ← hl]
    exact hr
  chk := by
    rintro d w em _ hd ⟨L, hl, hK, rfl⟩
    obtain ⟨d, rfl⟩ : ∃ d', d = d' + 1 := ⟨d - 1, by omega⟩
    obtain ⟨i, hi⟩ := h.info
    show (Instr.checkKey em (d + 1) t (.agg L.flatten.toArray)).run P w = _
    rw [Instr.checkKey]
    simp only [Sem.run_bind, run_underlying hu, Result.andThen_ok]
    simp only [Std.Legacy.Range.forIn_eq_forIn_range', Std.Legacy.Range.size, Nat.sub_zero, Nat.add_one_sub_one, Nat.div_one]
    rw [← hl]
    have key : ∀ (L : List (List Value)) (pre : List Value) (k : Nat), (∀ c ∈ L, K c) → pre.length = k * sz →
        (forIn (List.range' k L.length) PUnit.unit fun i _ => do
          let a ← sizeOf e
          let a ← Go.part e (pre ++ L.flatten).toArray (i * a)
          Instr.checkKey em d e a
          pure (ForInStep.yield PUnit.unit) : Sem PUnit).run P w = .ok () w := by
      intro L
      induction L with
      | nil => intro pre k _ _; simp
      | cons c L ih =>
        intro pre k hK hp
        have k1 := hK c (by simp)
        have p1 := h.part' (P := P) w (xs := pre ++ (c :: L).flatten) (off := k * sz) (pre := pre) (post := L.flatten) k1 (by simp) hp.symm
        have p2 := h.chk d w em c (by omega) k1
        rw [List.length_cons, List.range'_succ]
        simp only [List.forIn_cons, Sem.run_bind, run_sizeOf w hi, h.cells, Result.andThen_ok, p1, p2, Sem.run_pure]
        have := ih (pre ++ c) (k + 1) (fun c hc => hK c (by simp [hc])) (by rw [List.length_append, hp, h.len c k1, Nat.succ_mul])
        rw [List.append_assoc] at this
        simpa [List.flatten_cons] using this
    have h0 := key L [] 0 hK (by simp)
    rw [List.nil_append] at h0
    rw [h0]; rfl
/-! ### Structs -/
inductive KFld (P : Program) (m : Nat) : Nat → List Field → (List Value → Prop) → Prop
  | nil {off : Nat} : KFld P m off [] (fun cs => cs = [])
  | cons {off sz : Nat} {f : Field} {fs : List Field} {ag : Bool} {K K' : List Value → Prop} : f.name ≠ "_" → f.offset = off → KTy P f.type m sz ag K → KFld P m (off + sz) fs K' → KFld P m off (f :: fs) (fun cs => ∃ a b, K a ∧ K' b ∧ cs = a ++ b)
theorem KFld.len {off : Nat} {fs : List Field} {K : List Value → Prop} (h : KFld P m off fs K) : ∃ k, ∀ cs, K cs → cs.length = k := by
  induction h with
  | nil => exact ⟨0, fun cs e => by subst e; rfl⟩
  | cons hn ho ht hf ih =>
    obtain ⟨k, hk⟩ := ih
    exact ⟨_, by rintro cs ⟨a, b, ha, hb, rfl⟩; rw [List.length_append, ht.len a ha, hk b hb]⟩
theorem q04 {off : Nat} {fs : List Field} {K : List Value → Prop} (h : KFld P m off fs K) (d : Nat) (hd : m ≤ d) (w : World) : ∀ (cs cs' pre pre' : List Value), K cs → K cs' → pre.length = off → pre'.length = off →
    ∃ r : Bool, (Op.eqFields d (pre ++ cs).toArray (pre' ++ cs').toArray fs).run P w = .ok r w ∧ (r = true ↔ cs = cs') := by
  induction h with
  | nil => rintro cs cs' pre pre' rfl rfl _ _; exact ⟨true, by simp [Op.eqFields], by simp⟩
  | @cons off sz f fs ag K K' hn ho ht hf ih =>
    rintro cs cs' pre pre' ⟨a, b, ha, hb, rfl⟩ ⟨a', b', ha', hb', rfl⟩ hp hp'
    have l1 := ht.len a ha
    have l2 := ht.len a' ha'
    obtain ⟨r, hr, hi⟩ := ht.eq d w a a' hd ha ha'
    obtain ⟨r', hr', hi'⟩ := ih b b' (pre ++ a) (pre' ++ a') hb hb' (by rw [List.length_append, hp, l1]) (by rw [List.length_append, hp', l2])
    have p1 := ht.part' (P := P) w (xs := pre ++ (a ++ b)) (off := f.offset) (pre := pre) (post := b) ha (by simp) (by omega)
    have p2 := ht.part' (P := P) w (xs := pre' ++ (a' ++ b')) (off := f.offset) (pre := pre') (post := b') ha' (by simp) (by omega)
    simp only [Op.eqFields, hn, ne_eq, not_false_eq_true, if_true, Sem.run_bind, p1, p2, hr, Result.andThen_ok]
    have happ : a ++ b = a' ++ b' ↔ a = a' ∧ b = b' := ⟨fun e => List.append_inj e (by omega), fun ⟨e1, e2⟩ => by rw [e1, e2]⟩
    cases r
    · exact ⟨false, by simp, by rw [happ]; simp; intro e; exact absurd (hi.2 e) (by simp)⟩
    · refine ⟨r', by simpa using hr', ?_⟩
      rw [happ, hi']
      simp [hi.1 rfl]
theorem zr7 {fs : Array Field} (hu : P.underlying t = some (.struct fs)) (hst : P.stoodInHeld t = false) (hs : P.cellsOf t = sz) (h : KFld P m 0 fs.toList K) (hl : ∀ cs, K cs → cs.length = sz) : KTy P t (m + 1) sz true K where
  cells := hs
  info := info_of_underlying hu
  len := hl
  isAgg w := by simp [Go.isAgg, run_underlying hu]
  one h := by cases h
  eq := by
    rintro d w cs cs' hd hk hk'
    obtain ⟨d, rfl⟩ : ∃ d', d = d' + 1 := ⟨d - 1, by omega⟩
    have hfs : P.fieldsOf t = fs := by simp [Program.fieldsOf, hu]
    obtain ⟨r, hr, hi⟩ := q04 h d (by omega) w cs cs' [] [] hk hk' rfl rfl
    refine ⟨r, ?_, hi⟩
    show (Op.equalIn (d + 1) t (.agg cs.toArray) (.agg cs'.toArray)).run P w = _
    rw [run_equalIn_struct w d t _ _ (by rw [hfs]; exact hu) hst, hfs]
    exact hr
  chk := by
    rintro d w em cs hd hk
    obtain ⟨d, rfl⟩ : ∃ d', d = d' + 1 := ⟨d - 1, by omega⟩
    show (Instr.checkKey em (d + 1) t (.agg cs.toArray)).run P w = _
    rw [Instr.checkKey]
    simp only [Sem.run_bind, run_underlying hu, Result.andThen_ok]
    rw [← Array.forIn_toList]
    have key : ∀ (off : Nat) (L : List Field) (K : List Value → Prop), KFld P m off L K → ∀ (cs pre : List Value), K cs → pre.length = off →
        (forIn L PUnit.unit fun f _ => do
          if f.name ≠ "_" then do
            let a ← Go.part f.type (pre ++ cs).toArray f.offset
            Instr.checkKey em d f.type a
            pure (ForInStep.yield PUnit.unit)
          else pure (ForInStep.yield PUnit.unit) : Sem PUnit).run P w = .ok () w := by
      intro off L K h
      induction h with
      | nil => rintro cs pre rfl _; simp
      | @cons off sz f fs ag K K' hn ho ht hf ih =>
        rintro cs pre ⟨a, b, ha, hb, rfl⟩ hp
        have p1 := ht.part' (P := P) w (xs := pre ++ (a ++ b)) (off := f.offset) (pre := pre) (post := b) ha (by simp) (by omega)
        have p2 := ht.chk d w em a (by omega) ha
        simp only [List.forIn_cons, Sem.run_bind, hn, ne_eq, not_false_eq_true, if_true, Result.andThen_ok, p1, p2, Sem.run_pure]
        have := ih b (pre ++ a) hb (by rw [List.length_append, hp, ht.len a ha])
        simpa using this
    have h0 := key 0 _ K h cs [] hk rfl
    rw [List.nil_append] at h0
    rw [h0]; rfl
end
/-! ### Finding -/
theorem zpm {α : Type} : ∀ {l : List α} {p : α × α}, p ∈ l.zip l → p.1 = p.2 ∧ p.1 ∈ l
  | [], p, h => by simp at h
  | a :: l, p, h => by
    rw [List.zip_cons_cons] at h
    rcases List.mem_cons.1 h with rfl | h
    · exact ⟨rfl, by simp⟩
    · obtain ⟨h1, h2⟩ := zpm h
      exact ⟨h1, by simp [h2]⟩
def zaw (v : Value) : Prop := (∃ q x, v = .int q x) ∨ ∃ b, v = .bool b
theorem zj3 {n : Nat} {v : Value} (h : zaw v) : Instr.sameBits n v v = true := by
  rcases h with ⟨q, x, rfl⟩ | ⟨b, rfl⟩
  · cases n <;> simp [Instr.sameBits]
  · cases n <;> simp [Instr.sameBits]
theorem zmk {n : Nat} {cs : List Value} (h : ∀ v ∈ cs, zaw v) : Instr.sameBits (n + 1) (.agg cs.toArray) (.agg cs.toArray) = true := by
  simp only [Instr.sameBits, beq_self_eq_true, Bool.true_and, List.all_eq_true]
  intro p hp
  obtain ⟨h1, h2⟩ := zpm hp
  obtain ⟨a, b⟩ := p
  simp only at h1 h2
  subst h1
  exact zj3 (h _ h2)
section
variable {P : Program} {kt : TypeId} {m sz : Nat} {K : List Value → Prop} {κ : Type} [DecidableEq κ] {ke : κ → Value} {cl : κ → List Value}
theorem zs4 (h : KTy P kt m sz true K) (hm : m ≤ Op.maxDepth) (he : ∀ k, ke k = .agg (cl k).toArray) (hK : ∀ k, K (cl k)) (hinj : ∀ a b, cl a = cl b → a = b) {β : Type} (k : κ) (ve : β → Value) (w : World) :
    ∀ (es : List MapEntry) (M : List (κ × β)) (i : Nat), es.map zel = M.map (fun p => (ke p.1, ve p.2)) → (Instr.findAsking kt (ke k) es i).run P w = .ok ((z8j M k i).map fun p => (p.1, ve p.2)) w
  | [], [], i, _ => by simp [Instr.findAsking, z8j]
  | [], _ :: _, _, h => by simp at h
  | _ :: _, [], _, h => by simp at h
  | e :: es, p :: M, i, hes => by
    simp only [List.map_cons, List.cons.injEq, zel, Prod.mk.injEq] at hes
    obtain ⟨⟨h1, h2⟩, h3⟩ := hes
    obtain ⟨r, hr, hi⟩ := h.eq Op.maxDepth w (cl k) (cl p.1) hm (hK k) (hK p.1)
    have hr' : (Op.equal kt (ke k) e.key).run P w = .ok r w := by
      rw [h1, he, he]; exact hr
    unfold Instr.findAsking z8j
    rw [Sem.run_bind, hr', Result.andThen_ok]
    have hrk : r = true ↔ k = p.1 := ⟨fun e => hinj _ _ (hi.1 e), fun e => hi.2 (by rw [e])⟩
    by_cases hk : k = p.1
    · rw [if_pos (hrk.2 hk), if_pos hk, h2]; rfl
    · rw [if_neg (fun e => hk (hrk.1 e)), if_neg hk]
      exact zs4 h hm he hK hinj k ve w es M (i + 1) h3
theorem q1n (h : KTy P kt m sz true K) (hm : m ≤ 10000) (hw : (match P.underlying kt with | some (.array _ _) | some (.struct _) => true | _ => false) = true) (he : ∀ k, ke k = .agg (cl k).toArray) (hK : ∀ k, K (cl k)) (hinj : ∀ a b, cl a = cl b → a = b)
    (hpl : ∀ k, ∀ v ∈ cl k, zaw v) : KOk P kt ke where
  check b k w := by rw [he]; exact h.chk 10000 w b (cl k) hm (hK k)
  find k es M ve w hes := by
    rw [run_findKey_eq w hw]
    exact zs4 h hm he hK hinj k ve w es M 0 hes
  same k := by rw [he]; exact zmk (hpl k)
end
end GV
end Go.Proofs.YtkcccdcloealfaaGreat

namespace Go.Proofs.YtkcccdcloealfaaGreat
namespace GV
abbrev Arr (n : Nat) (α : Type) := {l : List α // l.length = n}
instance {n : Nat} {α : Type} [Inhabited α] : Inhabited (Arr n α) := ⟨⟨List.replicate n default, List.length_replicate⟩⟩
def zar {α : Type} [Inhabited α] (n : Nat) (l : List α) : Arr n α := if h : l.length = n then ⟨l, h⟩ else default
theorem ze2 {α : Type} [Inhabited α] {n : Nat} {l : List α} (h : l.length = n) : (zar n l).1 = l := by unfold zar; rw [dif_pos h]
theorem zqd {α : Type} {cs : List α} {n k i : Nat} (h : cs.length = n * k) (hi : i < n) : ((cs.drop (i * k)).take k).length = k := by
  rw [List.length_take, List.length_drop, h]
  have : (i + 1) * k ≤ n * k := Nat.mul_le_mul_right k hi
  rw [Nat.succ_mul] at this
  omega
theorem zu8 {α : Type} {cs : List α} {n k : Nat} (h : cs.length = n * k) {v : α} (hv : v ∈ cs) : ∃ i, i < n ∧ v ∈ (cs.drop (i * k)).take k := by
  obtain ⟨j, hj, rfl⟩ := List.mem_iff_getElem.1 hv
  have hk : 0 < k := by
    rcases Nat.eq_zero_or_pos k with e | e
    · subst e; simp at h; subst h; simp at hj
    · exact e
  have h1 : j / k < n := Nat.div_lt_of_lt_mul (show j < k * n by rw [Nat.mul_comm, ← h]; exact hj)
  refine ⟨j / k, h1, ?_⟩
  have h2 := Nat.div_add_mod j k
  have h3 := Nat.mod_lt j hk
  have h4 := zqd h h1
  refine List.mem_iff_getElem.2 ⟨j % k, by omega, ?_⟩
  rw [List.getElem_take, List.getElem_drop]
  congr 1
  rw [Nat.mul_comm]; exact h2
def q54 {α : Type} (n : Nat) (T : Ty α) : Ty (Arr n α) where
  size := n * T.size
  agg := true
  rep R cs X := cs.length = n * T.size ∧ ∀ i x, X.1[i]? = some x → T.rep R ((cs.drop (i * T.size)).take T.size) x
  len h := h.1
  mono hle h := ⟨h.1, fun i x hx => T.mono hle (h.2 i x hx)⟩
  one h := by cases h
  cell := by
    rintro R cs X ⟨h1, h2⟩ v hv
    obtain ⟨i, hi, hm⟩ := zu8 h1 hv
    have hl : i < X.1.length := by rw [X.2]; exact hi
    exact T.cell (h2 i _ (List.getElem?_eq_getElem hl)) v hm
structure CellsOf {α : Type} (T : Ty α) (cl : α → List Value) : Prop where
  len : ∀ x, (cl x).length = T.size
  iff : ∀ R cs x, T.rep R cs x ↔ cs = cl x
theorem cells_int {q : IntKind} : CellsOf (qf q) (fun x => [Value.int q x]) := ⟨fun _ => rfl, fun R cs x => Iff.rfl⟩
def z5c {α : Type} {n : Nat} (cl : α → List Value) (X : Arr n α) : List Value := X.1.flatMap cl
theorem z81 {α : Type} {cl : α → List Value} {k : Nat} (h : ∀ x, (cl x).length = k) : ∀ (l : List α) (i : Nat) (x : α), l[i]? = some x → ((l.flatMap cl).drop (i * k)).take k = cl x
  | [], i, x, hx => by simp at hx
  | y :: l, 0, x, hx => by
    have : y = x := by simpa using hx
    subst this
    rw [Nat.zero_mul, List.drop_zero, List.flatMap_cons, List.take_left' (h y)]
  | y :: l, i + 1, x, hx => by
    rw [List.flatMap_cons, Nat.succ_mul, Nat.add_comm, ← List.drop_drop, List.drop_left' (h y)]
    exact z81 h l i x (by simpa using hx)
theorem z8p {α : Type} {cl : α → List Value} {k : Nat} (h : ∀ x, (cl x).length = k) : ∀ (l : List α), (l.flatMap cl).length = l.length * k
  | [] => by simp
  | y :: l => by rw [List.flatMap_cons, List.length_append, h y, z8p h l, List.length_cons, Nat.succ_mul, Nat.add_comm]
theorem zts {cs cs' : List Value} {n k : Nat} (h : cs.length = n * k) (h' : cs'.length = n * k) (hc : ∀ i, i < n → (cs.drop (i * k)).take k = (cs'.drop (i * k)).take k) : cs = cs' := by
  induction n generalizing cs cs' with
  | zero => simp at h h'; rw [h, h']
  | succ n ih =>
    rw [Nat.succ_mul] at h h'
    have h0 := hc 0 (by omega)
    rw [Nat.zero_mul, List.drop_zero, List.drop_zero] at h0
    have h1 : cs.drop k = cs'.drop k := ih (by rw [List.length_drop]; omega) (by rw [List.length_drop]; omega) fun i hi => by
      have := hc (i + 1) (by omega)
      rw [Nat.succ_mul, Nat.add_comm] at this
      rwa [List.drop_drop, List.drop_drop]
    rw [← List.take_append_drop k cs, ← List.take_append_drop k cs', h0, h1]
theorem zun {α : Type} {T : Ty α} {cl : α → List Value} {n : Nat} (h : CellsOf T cl) : CellsOf (q54 n T) (z5c cl : Arr n α → List Value) := by
  refine ⟨fun X => by show (X.1.flatMap cl).length = n * T.size; rw [z8p h.len, X.2], fun R cs X => ?_⟩
  show (cs.length = n * T.size ∧ _) ↔ cs = X.1.flatMap cl
  constructor
  · rintro ⟨h1, h2⟩
    refine zts h1 (by rw [z8p h.len, X.2]) fun i hi => ?_
    have hl : i < X.1.length := by rw [X.2]; exact hi
    have := (h.iff _ _ _).1 (h2 i _ (List.getElem?_eq_getElem hl))
    rw [this, z81 h.len _ _ _ (List.getElem?_eq_getElem hl)]
  · rintro rfl
    exact ⟨by rw [z8p h.len, X.2], fun i x hx => by rw [z81 h.len _ _ _ hx]; exact (h.iff _ _ _).2 rfl⟩
theorem zqm {α β : Type} {A : Ty α} {B : Ty β} {ca : α → List Value} {cb : β → List Value} (h : CellsOf A ca) (k : CellsOf B cb) : CellsOf (z0q A B) (fun x => ca x.1 ++ cb x.2) := by
  refine ⟨fun x => by show (ca x.1 ++ cb x.2).length = A.size + B.size; rw [List.length_append, h.len, k.len], fun R cs x => ?_⟩
  constructor
  · rintro ⟨c1, c2, rfl, h1, h2⟩
    rw [(h.iff _ _ _).1 h1, (k.iff _ _ _).1 h2]
  · rintro rfl
    exact ⟨_, _, rfl, (h.iff _ _ _).2 rfl, (k.iff _ _ _).2 rfl⟩
theorem zxh {α β : Type} {A : Ty α} {ca : α → List Value} {f : β → α} (h : CellsOf A ca) : CellsOf (A.as f) (fun x => ca (f x)) := ⟨fun x => h.len (f x), fun R cs x => h.iff R cs (f x)⟩
theorem zo0 {α : Type} {cl : α → List Value} {k : Nat} (h : ∀ x, (cl x).length = k) (hi : ∀ x y, cl x = cl y → x = y) : ∀ (l l' : List α), l.length = l'.length → l.flatMap cl = l'.flatMap cl → l = l'
  | [], [], _, _ => rfl
  | [], _ :: _, hl, _ => by simp at hl
  | _ :: _, [], hl, _ => by simp at hl
  | x :: l, y :: l', hl, e => by
    rw [List.flatMap_cons, List.flatMap_cons] at e
    obtain ⟨e1, e2⟩ := List.append_inj e (by rw [h, h])
    rw [hi _ _ e1, zo0 h hi l l' (by simpa using hl) e2]
theorem zui {α : Type} {n : Nat} {cl : α → List Value} {k : Nat} (h : ∀ x, (cl x).length = k) (hi : ∀ x y, cl x = cl y → x = y) {X Y : Arr n α} (e : z5c cl X = z5c cl Y) : X = Y :=
  Subtype.ext (zo0 h hi _ _ (by rw [X.2, Y.2]) e)
theorem q09 {α : Type} {n : Nat} {cl : α → List Value} {K : List Value → Prop} (h : ∀ x, K (cl x)) (X : Arr n α) : zku n K (z5c cl X) :=
  ⟨X.1.map cl, by rw [List.length_map, X.2], fun c hc => by obtain ⟨x, _, rfl⟩ := List.mem_map.1 hc; exact h x, by unfold z5c; rw [List.flatMap_def]⟩
theorem zw5 {α : Type} {n : Nat} {cl : α → List Value} (h : ∀ x, ∀ v ∈ cl x, zaw v) (X : Arr n α) : ∀ v ∈ z5c cl X, zaw v := fun v hv => by
  obtain ⟨x, _, hx⟩ := List.mem_flatMap.1 hv
  exact h x v hx
/-! ### A box that holds an array: as a slice that can't grow -/
section a
variable {P : Program} {ρ : Option Nat} {n : Nat} {ops : Array Oper} {Q : Po} {rest : List Oper} {l : Nat → Value} {D : List Nat} {R : RH} {O : List Frag} {ty : TypeId} {pos : String} {after : Array Go.Edge} {d : Nat} {dst : Option Tmp} {g : Option (Nat × Bool)}
variable {α β : Type} {T : Ty α} {B : Ty β} {X : List α} {v u w : Value} {x y ix' : Operand} {f F : Frag} {i j o b m sz : Nat} {t s e : TypeId} {k : IntKind}
end a
end GV
end Go.Proofs.YtkcccdcloealfaaGreat

namespace Go.Proofs.YtkcccdcloealfaaGreat
namespace GV
theorem pl_int {q : IntKind} (x : Int) : ∀ v ∈ [Value.int q x], zaw v := fun v hv => .inl ⟨_, _, List.mem_singleton.1 hv⟩
theorem q2h {q : IntKind} (x y : Int) (h : [Value.int q x] = [Value.int q y]) : x = y := by simpa using h
def z3u {α : Type} {n : Nat} (X : Arr n α) (i : Int) (z : α) : Arr n α := ⟨X.1.set i.toNat z, by rw [List.length_set]; exact X.2⟩
theorem q2k {α : Type} [Inhabited α] {n i sz : Nat} {cl : α → List Value} {X : Arr n α} (hl : ∀ x, (cl x).length = sz) (hi : i < n) : ((z5c cl X).drop (i * sz)).take sz = cl (X.1.getD i default) := by
  have h : i < X.1.length := by rw [X.2]; exact hi
  rw [show z5c cl X = X.1.flatMap cl from rfl, z81 hl _ _ _ (List.getElem?_eq_getElem h)]
  simp [List.getD_eq_getElem?_getD, h]
theorem zle {α : Type} {n sz : Nat} {cl : α → List Value} (hl : ∀ x, (cl x).length = sz) (X : Arr n α) : (z5c cl X).length = n * sz := by
  rw [show z5c cl X = X.1.flatMap cl from rfl, z8p hl, X.2]
theorem zps {α : Type} {cl : α → List Value} {k : Nat} (h : ∀ x, (cl x).length = k) (z : α) : ∀ (l : List α) (i : Nat), i < l.length → (l.set i z).flatMap cl = (l.flatMap cl).take (i * k) ++ cl z ++ (l.flatMap cl).drop ((i + 1) * k)
  | [], i, hi => by simp at hi
  | x :: l, 0, _ => by
    rw [List.set_cons_zero, List.flatMap_cons, List.flatMap_cons, Nat.zero_mul, List.take_zero, List.nil_append, Nat.zero_add, Nat.one_mul, List.drop_left' (h x)]
  | x :: l, i + 1, hi => by
    rw [List.set_cons_succ, List.flatMap_cons, List.flatMap_cons, zps h z l i (by simpa using hi)]
    have e1 : (i + 1) * k = k + i * k := by rw [Nat.succ_mul, Nat.add_comm]
    have e2 : (i + 1 + 1) * k = k + (i + 1) * k := by rw [Nat.succ_mul (i + 1), Nat.add_comm]
    rw [e1, e2, ← h x, List.take_length_add_append, List.drop_length_add_append, h x]
    simp only [List.append_assoc]
    rw [show k + i * k = (i + 1) * k from e1.symm]
theorem zqz {α : Type} [Inhabited α] {n i sz o : Nat} {cl : α → List Value} {X : Arr n α} {vs : List Value} {z : α} (hl : ∀ x, (cl x).length = sz) (hi : i < n) (hz : (cl (X.1.getD i default)).take o ++ vs ++ (cl (X.1.getD i default)).drop (o + vs.length) = cl z) (ho : o + vs.length ≤ sz) :
    over (z5c cl X) (i * sz + o) vs = z5c cl (z3u X (i : Int) z) := by
  have h : i < X.1.length := by rw [X.2]; exact hi
  have hlen := zle hl X
  have h1 : (i + 1) * sz ≤ n * sz := Nat.mul_le_mul_right sz hi
  have e1 : (i + 1) * sz = i * sz + sz := Nat.succ_mul i sz
  have hc := q2k (X := X) hl hi
  show _ = (X.1.set (i : Int).toNat z).flatMap cl
  rw [Int.toNat_natCast, zps hl z X.1 i h, ← hz, ← hc]
  unfold over
  show (z5c cl X).take (i * sz + o) ++ vs ++ (z5c cl X).drop (i * sz + o + vs.length) = (z5c cl X).take (i * sz) ++ _ ++ (z5c cl X).drop ((i + 1) * sz)
  rw [e1]
  generalize z5c cl X = cs at hlen
  have t1 : cs.take (i * sz + o) = cs.take (i * sz) ++ (((cs.drop (i * sz)).take sz).take o) := by
    rw [List.take_take, Nat.min_eq_left (by omega), List.take_add]
  have t2 : cs.drop (i * sz + o + vs.length) = (((cs.drop (i * sz)).take sz).drop (o + vs.length)) ++ cs.drop (i * sz + sz) := by
    rw [List.drop_take, List.drop_drop, ← Nat.add_assoc]
    have : cs.drop (i * sz + sz) = (cs.drop (i * sz + o + vs.length)).drop (sz - (o + vs.length)) := by rw [List.drop_drop]; congr 1; omega
    rw [this, List.take_append_drop]
  rw [t1, t2]
  simp only [List.append_assoc]
section w
variable {P : Program} {ρ : Option Nat} {n : Nat} {ops : Array Oper} {Q : Po} {rest : List Oper} {l : Nat → Value} {D : List Nat} {R : RH} {O : List Frag} {ty : TypeId} {pos : String} {after : Array Go.Edge} {d : Nat} {dst : Option Tmp} {g : Option (Nat × Bool)}
variable {α : Type} [Inhabited α] {x y : Operand} {i j o b m sz k off : Nat} {t e bt : TypeId} {X : Arr m α} {cl : α → List Value} {vs : List Value} {v : Value}
theorem zan {cs : List Value} (ha : ∀ w, (isAgg t).run P w = .ok true w) (hs : ∀ w, (sizeOf t).run P w = .ok k w) (hx : ev l x = .pointer (some ⟨b, 0, none⟩)) (hO : O[j]? = some (box b cs bt)) (hk : cs.length = k) (hw : Value.agg cs.toArray = v) :
    Val P ρ ⟨dst, .load t x, ty, pos, after, g⟩ l R O v := by
  subst hw
  exact j4 ha hs hx hO (by rw [List.drop_zero, ← hk, List.take_length]) hk
theorem zp1 {z : α} {w : Value} (hl : ∀ x, (cl x).length = sz) (hs : ∀ w, (sizeOf t).run P w = .ok k w) (hx : ev l x = .pointer (some ⟨b, off, none⟩)) (hoff : off = i * sz + o) (hO : O[j]? = some (box b (z5c cl X) bt)) (hi : i < m)
    (hy : ev l y = w) (hv : w.cells = vs.toArray) (hn : vs.length = k) (h1 : ∀ v ∈ vs, v.oneCell' = true) (ho : o + vs.length ≤ sz) (hz : (cl (X.1.getD i default)).take o ++ vs ++ (cl (X.1.getD i default)).drop (o + vs.length) = cl z) :
    Eff P ρ ⟨dst, .store t x y, ty, pos, after, g⟩ l R O (fun v' R' O' => v' = undef ∧ R' = R ∧ O' = O.set j (box b (z5c cl (z3u X (i : Int) z)) bt)) := by
  subst hoff
  have h2 := zqz (X := X) hl hi hz ho
  have h3 := zle hl X
  have h4 : (i + 1) * sz ≤ m * sz := Nat.mul_le_mul_right sz hi
  rw [Nat.succ_mul] at h4
  have := z3r (P := P) (ρ := ρ) (R := R) (dst := dst) (ty := ty) (pos := pos) (after := after) (g := g) hs hx hy hv hn hO (by rw [h3]; omega) h1
  rw [h2] at this
  exact this
theorem zl7 {z : α} {w : Value} {q : Int} (hl : ∀ x, (cl x).length = sz) (hs : ∀ w, (sizeOf t).run P w = .ok k w) (hx : ev l x = .pointer (some ⟨b, off, none⟩)) (hq : q.toNat = i) (hoff : off = i * sz + o) (hO : O[j]? = some (box b (z5c cl X) bt)) (hi : i < m)
    (hy : ev l y = w) (hv : w.cells = vs.toArray) (hn : vs.length = k) (h1 : ∀ v ∈ vs, v.oneCell' = true) (ho : Nat.ble (o + vs.length) sz = true) (hz : (cl (X.1.getD i default)).take o ++ vs ++ (cl (X.1.getD i default)).drop (o + vs.length) = cl z)
    (hk : wo P ρ n ops Q rest l D R (O.set j (box b (z5c cl (z3u X q z)) bt))) : wo P ρ n ops Q (⟨none, .store t x y, ty, pos, after, none⟩ :: rest) l D R O := by
  have e : z3u X q z = z3u X (i : Int) z := Subtype.ext (by show X.1.set q.toNat z = X.1.set ((i : Int).toNat) z; rw [hq, Int.toNat_natCast])
  rw [e] at hk
  exact zcf (zp1 hl hs hx hoff hO hi hy hv hn h1 (by simpa using ho) hz) fun v' R' O' _ ⟨_, hR, hO⟩ => by subst hR; subst hO; exact hk
theorem zhv {cs cs' : List Value} {w : Value} (hs : ∀ w, (sizeOf t).run P w = .ok k w) (hx : ev l x = .pointer (some ⟨b, 0, none⟩)) (hO : O[j]? = some (box b cs bt)) (hk : cs.length = k) (hk' : cs'.length = k) (hy : ev l y = w) (hv : w.cells = cs'.toArray) (h1 : ∀ v ∈ cs', v.oneCell' = true)
    (hc : wo P ρ n ops Q rest l D R (O.set j (box b cs' bt))) : wo P ρ n ops Q (⟨none, .store t x y, ty, pos, after, none⟩ :: rest) l D R O :=
  zcf (z3r hs hx hy hv hk' hO (by omega) h1) fun v' R' O' _ ⟨_, hR, hO⟩ => by
    subst hR; subst hO
    have : over cs 0 cs' = cs' := by unfold over; rw [List.take_zero, List.nil_append, Nat.zero_add, List.drop_eq_nil_of_le (by omega), List.append_nil]
    rw [this]; exact hc
theorem zm1 {cs : List Value} (h : ∀ v ∈ cs, zaw v) : ∀ v ∈ cs, v.oneCell' = true := fun v hv => by
  rcases h v hv with ⟨q, x, rfl⟩ | ⟨b, rfl⟩ <;> rfl
/-! ### Structs out of parts of any size -/
inductive FillOk (place : Nat → Option (Nat × Nat)) : Nat → List (Nat × Value) → List Value → Prop
  | nil {off : Nat} : FillOk place off [] []
  | last {off i : Nat} {v : Value} {c : List Value} : v.cells = c.toArray → place i = some (off, c.length) → FillOk place off [(i, v)] c
  | cons {off i : Nat} {v : Value} {ps : List (Nat × Value)} {c out : List Value} : v.cells = c.toArray → place i = some (off, c.length) → FillOk place (off + c.length) ps out → FillOk place off ((i, v) :: ps) (c ++ out)
theorem q0i {place : Nat → Option (Nat × Nat)} {off : Nat} {ps : List (Nat × Value)} {out : List Value} (h : FillOk place off ps out) : ∀ (done rest : List Value), done.length = off → rest.length = out.length → Instr.fill place (done ++ rest).toArray ps = some (done ++ out).toArray := by
  induction h with
  | nil =>
    intro done rest _ hr
    have : rest = [] := List.length_eq_zero_iff.1 (by simpa using hr)
    subst this; rfl
  | @last off i v c hc hp =>
    intro done rest hd hr
    simp only [Instr.fill, hp, hc, List.size_toArray]
    rw [if_neg (by simp; omega)]
    have hfold : Array.foldl (fun (cs : Array Value) (x : Value × Nat) => cs.setIfInBounds (off + x.2) x.1) (done ++ rest).toArray c.toArray.zipIdx = (done ++ c).toArray := by
      rw [← Array.foldl_toList]
      have : c.toArray.zipIdx.toList = c.zipIdx 0 := by simp
      rw [this, foldl_set, Nat.add_zero, zf0 _ _ _ (by simp; omega)]
      congr 1
      unfold over
      rw [← hd, List.take_left, List.drop_eq_nil_of_le (by simp; omega), List.append_nil]
    exact congrArg some hfold
  | @cons off i v ps c out hc hp hf ih =>
    intro done rest hd hr
    rw [List.length_append] at hr
    simp only [Instr.fill, hp, hc, List.size_toArray]
    rw [if_neg (by simp; omega)]
    have hfold : Array.foldl (fun (cs : Array Value) (x : Value × Nat) => cs.setIfInBounds (off + x.2) x.1) (done ++ rest).toArray c.toArray.zipIdx = ((done ++ c) ++ rest.drop c.length).toArray := by
      rw [← Array.foldl_toList]
      have : c.toArray.zipIdx.toList = c.zipIdx 0 := by simp
      rw [this, foldl_set, Nat.add_zero, zf0 _ _ _ (by simp; omega)]
      congr 1
      unfold over
      rw [← hd, List.take_left, List.drop_append, List.drop_eq_nil_of_le (by omega)]
      simp
    have h2 := ih (done ++ c) (rest.drop c.length) (by rw [List.length_append]; omega) (by rw [List.length_drop]; omega)
    rw [← List.append_assoc, ← h2]
    exact congrArg (fun c => Instr.fill place c ps) hfold
theorem zqn {parts : List (Nat × Operand)} {ps : List (Nat × Value)} {fs : Array Field} {pls : Array (Nat × Nat)} {out : List Value} (hp : (parts.map fun x => (x.1, ev l x.2)) = ps) (hu : P.underlying t = some (.struct fs)) (hz : ∀ w, ∃ z, (zeroValue t).run P w = .ok z w ∧ z.cells.size = k)
    (hpl : ∀ w, (fs.mapM fun f => do pure (f.offset, ← sizeOf f.type) : Sem (Array (Nat × Nat))).run P w = .ok pls w) (hf : FillOk (pls[·]?) 0 ps out) (hk : out.length = k) (hw : Value.agg out.toArray = v) : Val P ρ ⟨dst, .build t parts.toArray, ty, pos, after, g⟩ l R O v :=
  bn hp fun w => by
    subst hw
    obtain ⟨z, h1, h2⟩ := hz w
    have h3 := q0i hf [] z.cells.toList rfl (by rw [hk, Array.length_toList]; exact h2)
    simp only [List.nil_append, Array.toArray_toList] at h3
    simp only [Instr.build, Sem.run_bind, h1, Result.andThen_ok, run_underlying hu, hpl w, h3, Sem.run_pure]
theorem zzn {cs : List Value} (h : cs.length = k) (hz : ∀ w, ∃ z, (zeroValue t).run P w = .ok z w ∧ z.cells = cs.toArray) : ∀ w, ∃ z, (zeroValue t).run P w = .ok z w ∧ z.cells.size = k := fun w => by
  obtain ⟨z, h1, h2⟩ := hz w
  exact ⟨z, h1, by rw [h2, List.size_toArray, h]⟩
theorem zv0 {w : World} {cs : List Value} (hh : Holds R O w) (hO : O[i]? = some (box b cs bt)) (ht : ∀ w, (isAgg t).run P w = .ok true w) (hs : ∀ w, (sizeOf t).run P w = .ok k w) (hk : cs.length = k) : (loadVar t ⟨b, 0, none⟩).run P w = .ok (.agg cs.toArray) w :=
  si hh hO (by rw [List.drop_zero, ← hk, List.take_length]) ht hs hk (by simp [hk])
end w
/-! ### Loops that are gone through so many times -/
section u
variable {P : Program} {ρ : Option Nat} {n : Nat} {Q : Po} {l : Nat → Value} {D : List Nat} {R : RH} {O : List Frag} {c : Code}
def zg6 (P : Program) (ρ : Option Nat) (n : Nat) (c : Code) (Q : Po) : Nat → (Nat → Value) → List Nat → RH → List Frag → Prop
  | 0 => fun _ _ _ _ => False
  | k + 1 => fun l D R O => wg P ρ n c (thn (zg6 P ρ n c Q k) Q) l D R O
theorem zad {k : Nat} (h : wg P ρ n c (thn (zg6 P ρ n c Q k) Q) l D R O) : zg6 P ρ n c Q (k + 1) l D R O := h
theorem zvh (k : Nat) (h : zg6 P ρ n c Q k l D R O) : wg P ρ n (.loop c) Q l D R O := by
  refine zse (zg6 P ρ n c Q) k h ?_
  intro k l D R O hI
  cases k with
  | zero => exact hI.elim
  | succ k =>
    refine ze6 hI ?_
    intro e l' D' R' O' hq
    cases e with
    | normal => exact ⟨k, Nat.lt_succ_self k, hq⟩
    | _ => exact hq
end u
theorem zhf {P : Program} {ρ : Option Nat} {l : Nat → Value} {R : RH} {O : List Frag} {dst : Option Tmp} {ty : TypeId} {pos : String} {after : Array Go.Edge} {g : Option (Nat × Bool)} {t : TypeId} {x y : Operand} {v i u : Value} (hx : ev l x = v) (hy : ev l y = i) (h : ∀ w, (Instr.index t v i).run P w = .ok u w) :
    Val P ρ ⟨dst, .index t x y, ty, pos, after, g⟩ l R O u := by
  intro A w _; rw [jm (by intro c h; cases h)]
  simp only [execOp, hx, hy, Sem.run_bind, h, Result.andThen_ok]; rfl
section mm
variable {P : Program} {ρ : Option Nat} {l : Nat → Value} {R : RH} {O : List Frag} {ty : TypeId} {pos : String} {after : Array Go.Edge} {dst : Option Tmp} {g : Option (Nat × Bool)} {k : IntKind} {a b : Int} {x y : Operand} {at' : Array TypeId} {t : TypeId} {d : TypeDesc}
theorem zob (ht : at'[0]? = some t) (hu : P.underlying t = some d) (hx : ev l x = .int k a) (hy : ev l y = .int k b) : Val P ρ ⟨dst, .call ⟨.builtin .max, #[x, y], at'⟩, ty, pos, after, g⟩ l R O (.int k (max a b)) := by
  intro A w _; rw [jm (by intro c h; cases h)]
  have e : (if b > a then b else a) = max a b := by rw [Int.max_def]; split <;> split <;> omega
  simp [execOp, resolve, invoke, builtin, Builtin.max_, Builtin.max2, hx, hy, e]
end mm
section p
variable {P : Program} {ρ : Option Nat} {l : Nat → Value} {R : RH} {O : List Frag} {ty : TypeId} {pos : String} {after : Array Go.Edge} {dst : Option Tmp} {g : Option (Nat × Bool)}
variable {α β : Type} [Inhabited α] {T : Ty α} {B : Ty β} {X : List α} {v u w : Value} {x y : Operand} {F : Frag} {i o : Nat} {t : TypeId} {se : α → β → α}
theorem zns (hs : zc1 T o B se) (ht : TyOk P t B) (hv : ORep T R F v X) (hx : ev l x = u) (hp : z9t T o v X u i) (hi : i < X.length) (hy : ev l y = w) {z : β} (hz : VRep B R w z) :
    Eff P ρ ⟨dst, .store t x y, ty, pos, after, g⟩ l R ([F] ++ O) (fun v' R' O' => ∃ Oc, O' = Oc ++ O ∧ R' = R ∧ ∃ F', Oc = [F'] ∧ ORep T R F' v (X.set i (se (X.getD i default) z))) :=
  (zg1 (O := [F] ++ O) (j := 0) hs ht hv rfl hx hp hi hy hz).mono fun v' R' O' _ ⟨hR, f', hO, h⟩ => by
    subst hR; subst hO
    exact ⟨[f'], rfl, rfl, f', rfl, h⟩
end p
end GV
end Go.Proofs.YtkcccdcloealfaaGreat
