/- Laws of the program logic: new memory, stores, calls, results; what is owned becomes what is only read. -/
import Derived.Test.YtncblcdhmcmkmaaGvOps
namespace Go.Proofs.Ytncblcdhmcmkmaa
namespace GV
open Go.IntWalk
set_option linter.unusedVariables false
set_option linter.unusedSectionVars false

section effs
variable {P : Program} {ρ : Option Nat} {l : Nat → Value} {R : RH} {O : List Frag} {dst : Option Tmp} {ty : TypeId} {pos : String} {after : Array Edge} {g : Option (Nat × Bool)}

theorem holds_alloc' {A : List Frag} {w : World} (h : Holds R (O ++ A) w) (o : Obj) (ho : Unfr o := by first | exact rfl | exact trivial) : Holds R ((single w.heap.size o :: O) ++ A) (w.alloc o) := holds_alloc h o ho

theorem eff_alloc {e : TypeId} {zs : List Value} (hz : ∀ w, ∃ z, (zeroValue e).run P w = .ok z w ∧ z.cells = zs.toArray) :
    Eff P ρ ⟨dst, .alloc e, ty, pos, after, g⟩ l R O (fun v R' O' => R' = R ∧ ∃ b, v = .pointer (some ⟨b, 0, none⟩) ∧ O' = box b zs e :: O) := by
  intro A w hh; rw [sem_plain (by intro c h; cases h)]
  obtain ⟨z, h1, h2⟩ := hz w
  simp only [execOp, Instr.alloc, Sem.run_bind, h1, Result.andThen_ok, newVar, newRow, run_newObj, Sem.run_pure, h2]
  exact ⟨R, _, RH.le.refl _, holds_alloc' hh _, rfl, _, rfl, rfl⟩
theorem eff_box {e : TypeId} {x : Operand} {v : Value} {cs : List Value} (hx : ev l x = v) (hv : v.cells = cs.toArray) :
    Eff P ρ ⟨dst, .box e x, ty, pos, after, g⟩ l R O (fun v' R' O' => R' = R ∧ ∃ b, v' = .pointer (some ⟨b, 0, none⟩) ∧ O' = box b cs e :: O) := by
  intro A w hh; rw [sem_plain (by intro c h; cases h)]
  simp only [execOp, Instr.box, Sem.run_bind, Result.andThen_ok, newVar, newRow, run_newObj, Sem.run_pure, hx, hv]
  exact ⟨R, _, RH.le.refl _, holds_alloc' hh _, rfl, _, rfl, rfl⟩

theorem add_new {b : Nat} {o : Obj} (h : R.blk b = none) : (R.add (single b o)).blk b = some o := by simp [RH.add, h, single_same]
theorem holds_fresh {A : List Frag} {b : Nat} {o : Obj} {w : World} (h : Holds R (single b o :: A) w) : R.blk b = none := (h.own _ (List.mem_cons_self ..) b o (single_same b o)).2

/-- A struct variable that is never assigned: only read. -/
theorem eff_boxR {α : Type} {T : Ty α} {e : TypeId} {x : Operand} {v : Value} {y : α} (hx : ev l x = v) (hr : VRep T R v y) :
    Eff P ρ ⟨dst, .box e x, ty, pos, after, g⟩ l R O (fun v' R' O' => O' = O ∧ PRep T R' v' y) := by
  intro A w hh; rw [sem_plain (by intro c h; cases h)]
  obtain ⟨cs, hr, rfl⟩ := hr
  simp only [execOp, Instr.box, Sem.run_bind, Result.andThen_ok, newVar, newRow, run_newObj, Sem.run_pure, hx, cells_mk hr]
  have hn := holds_alloc' hh (.cells cs.toArray e (0, 0))
  refine ⟨_, O, RH.le_add _ _, holds_freeze hn, rfl, _, 0, _, e, (0, 0), rfl, add_new (holds_fresh hn), ?_⟩
  have : cellsAt cs.toArray 0 T.size = cs := by simp [cellsAt, ← T.len hr]
  rw [this]
  exact T.mono (RH.le_add _ _) hr

/-- The cells behind a store. -/
def over (cs : List Value) (off : Nat) (vs : List Value) : List Value := cs.take off ++ vs ++ cs.drop (off + vs.length)

theorem over_cons {cs vs : List Value} {o : Nat} {v : Value} (h : o < cs.length) : over (cs.set o v) (o + 1) vs = over cs o (v :: vs) := by
  unfold over
  have e1 : (cs.set o v).take (o + 1) = cs.take o ++ [v] := by
    apply List.ext_getElem?
    intro j
    simp only [List.getElem?_take, List.getElem?_set, List.getElem?_append, List.length_take, List.getElem?_singleton]
    by_cases h1 : j < o
    · rw [if_pos (by omega), if_neg (by omega), if_pos (by omega), if_pos h1]
    · by_cases h2 : j = o
      · subst h2
        rw [if_pos (by omega), if_pos rfl, if_pos h, if_neg (by omega), if_pos (by omega)]
      · rw [if_neg (by omega), if_neg (by omega), if_neg (by omega)]
  have e2 : (cs.set o v).drop (o + 1 + vs.length) = cs.drop (o + (v :: vs).length) := by
    rw [List.drop_set_of_lt (by omega), List.length_cons]
    congr 1
    omega
  rw [e1, e2]
  simp
theorem run_storeCells {b : Nat} {bt : TypeId} : ∀ (vs : List Value) (cs : List Value) (off i : Nat) (w : World), w.heap[b]? = some (.cells cs.toArray bt (0, 0)) → off + i + vs.length ≤ cs.length →
    (∀ v ∈ vs, v.oneCell' = true) → ∃ w', (storeCells ⟨b, off, none⟩ vs i).run P w = .ok () w' ∧ w'.heap[b]? = some (.cells (over cs (off + i) vs).toArray bt (0, 0)) ∧ (∀ k, k ≠ b → w'.heap[k]? = w.heap[k]?) ∧ w'.os = w.os ∧ w'.output = w.output
  | [], cs, off, i, w, hb, _, _ => ⟨w, rfl, by simpa [over] using hb, fun _ _ => rfl, rfl, rfl⟩
  | v :: vs, cs, off, i, w, hb, hl, hv => by
    have hlt : off + i < cs.length := by simp at hl; omega
    have hc : w.cell? ((⟨b, off, none⟩ : Addr).add i) = some cs[off + i] := by rw [addr_add, cell_of_block hb]; simp [hlt]
    have hfz : w.frozen? ((⟨b, off, none⟩ : Addr).add i) = false := by rw [addr_add]; exact frozen_of_box hb
    have hb1 : (w.setCell ((⟨b, off, none⟩ : Addr).add i) v).heap[b]? = some (.cells (cs.set (off + i) v).toArray bt (0, 0)) := by
      obtain ⟨h1, h2⟩ := Array.getElem?_eq_some_iff.1 hb
      rw [addr_add]
      show (w.heap.modify b _)[b]? = _
      rw [Array.getElem?_eq_getElem (by rw [Array.size_modify]; exact h1), Array.getElem_modify_self, h2]
      simp
    have hk1 : ∀ k, k ≠ b → (w.setCell ((⟨b, off, none⟩ : Addr).add i) v).heap[k]? = w.heap[k]? := fun k hk => by
      rw [addr_add]
      show (w.heap.modify b _)[k]? = _
      rw [Array.getElem?_modify, if_neg (fun e => hk e.symm)]
    obtain ⟨w', h1, h2, h3, h4, h5⟩ := run_storeCells vs (cs.set (off + i) v) off (i + 1) _ hb1 (by simp at hl ⊢; omega) (fun u hu => hv u (List.mem_cons_of_mem _ hu))
    refine ⟨w', ?_, ?_, fun k hk => (h3 k hk).trans (hk1 k hk), h4, h5⟩
    · simp only [storeCells, Sem.run_bind, run_store _ _ _ _ _ (hv v (List.mem_cons_self ..)), hc, hfz, Bool.false_eq_true, if_false, Result.andThen_ok]
      exact h1
    · rw [h2]
      rw [show off + (i + 1) = off + i + 1 from by omega, over_cons hlt]
/-- A store into an owned box. -/
theorem eff_store {t : TypeId} {x y : Operand} {b off i n : Nat} {cs vs : List Value} {bt : TypeId} {v : Value} (hs : ∀ w, (sizeOf t).run P w = .ok n w) (hx : ev l x = .pointer (some ⟨b, off, none⟩)) (hy : ev l y = v)
    (hv : v.cells = vs.toArray) (hn : vs.length = n) (hO : O[i]? = some (box b cs bt)) (hl : off + vs.length ≤ cs.length) (h1 : ∀ v ∈ vs, v.oneCell' = true) :
    Eff P ρ ⟨dst, .store t x y, ty, pos, after, g⟩ l R O (fun v' R' O' => v' = undef ∧ R' = R ∧ O' = O.set i (box b (over cs off vs) bt)) := by
  intro A w hh; rw [sem_plain (by intro c h; cases h)]
  have hlt : i < O.length := (List.getElem?_eq_some_iff.1 hO).1
  have hO' : (O ++ A)[i]? = some (box b cs bt) := by rw [List.getElem?_append_left hlt]; exact hO
  have hblk : w.heap[b]? = some (.cells cs.toArray bt (0, 0)) := holds_at hh hO' (single_same _ _)
  obtain ⟨w', h2, h3, h4, h5, h6⟩ := run_storeCells (P := P) vs cs off 0 w hblk (by omega) h1
  have hrun : (Instr.storeAt t (.pointer (some ⟨b, off, none⟩)) v).run P w = .ok () w' := by
    simp only [Instr.storeAt, Instr.sureAddr, Sem.run_bind, Sem.run_pure, Result.andThen_ok, storeVar, hs, hv]
    rw [if_neg (by simp [hn])]
    exact h2
  have hex : (execOp (ev l) (⟨dst, .store t x y, ty, pos, after, g⟩ : Oper)).run P w = .ok .skip w' := by
    simp only [execOp, hx, hy, Sem.run_bind, hrun, Result.andThen_ok]
    rfl
  rw [hex]
  refine ⟨R, _, RH.le.refl _, ?_, rfl, rfl, rfl⟩
  have := holds_set hh hO' h3 h4 h5 h6
  rwa [List.set_append_left _ _ hlt] at this

/-! ### Calls -/
def Enters (P : Program) (f : FuncId) : Prop := ∀ (args : Array Value) (w : World), (callFunc f args).run P w = .ok (.enter f args) w
theorem enters_of {f : FuncId} {fn : Func} (hf : P.funcs[f]? = some fn) (hb : fn.body.isNone = false) (hn : (fn.name == "runtime.NumGoroutine") = false) : Enters P f := by
  intro args w
  have hb' : fn.body.isNone = true → False := fun h => by rw [hb] at h; cases h
  simp only [callFunc, Sem.run_bind, run_program, Result.andThen_ok, hf, hn, Bool.false_eq_true, if_false, hb, Sem.run_pure]
theorem run_callv {c : Operand} {args : Array Operand} {at' : Array TypeId} {f : FuncId} {fs cs vs : Array Value} {w : World} (he : Enters P f) (hc : ev l c = .func (.func f) fs cs) (ha : args.map (ev l) = vs) :
    (execOp (ev l) (⟨dst, .call ⟨.value c, args, at'⟩, ty, pos, after, g⟩ : Oper)).run P w = .ok (.enter f (fs ++ vs ++ cs)) w := by
  simp only [execOp, resolve, hc, ha, Deferred.ofValue, Sem.run_bind, Sem.run_pure, Result.andThen_ok, invoke, he (fs ++ vs ++ cs) w]
theorem eff_callP {f : FuncId} {c : Operand} {args : Array Operand} {at' : Array TypeId} {fs cs vs as : Array Value} {post : Value → RH → Prop} (he : Enters P f) (hc : ev l c = .func (.func f) fs cs) (ha : args.map (ev l) = vs)
    (has : fs ++ vs ++ cs = as) (h : CallP P f as R post) :
    Eff P ρ ⟨dst, .call ⟨.value c, args, at'⟩, ty, pos, after, g⟩ l R O (fun v R' O' => O' = O ∧ post v R') := by
  intro A w hh; rw [sem_plain (by intro c h; cases h), run_callv he hc ha]
  subst has
  exact Calls.mono (h _ w hh) fun _ _ ⟨v, e, R', a, b, c⟩ => ⟨v, e, R', O, a, b, rfl, c⟩
theorem eff_callG {f : FuncId} {c : Operand} {args : Array Operand} {at' : Array TypeId} {fs cs vs as : Array Value} {Oc Or : List Frag} {post : Value → RH → List Frag → Prop} (he : Enters P f) (hc : ev l c = .func (.func f) fs cs)
    (ha : args.map (ev l) = vs) (has : fs ++ vs ++ cs = as) (hp : O.Perm (Oc ++ Or)) (h : CallG P f as R Oc post) :
    Eff P ρ ⟨dst, .call ⟨.value c, args, at'⟩, ty, pos, after, g⟩ l R O (fun v R' O' => ∃ Oc', O' = Oc' ++ Or ∧ post v R' Oc') := by
  intro A w hh; rw [sem_plain (by intro c h; cases h), run_callv he hc ha]
  subst has
  have hh' : Holds R (Oc ++ (Or ++ A)) w := holds_perm hh (by rw [← List.append_assoc]; exact hp.append_right A)
  exact Calls.mono (h _ w hh') fun _ _ ⟨v, e, R', O', a, b, c⟩ => ⟨v, e, R', O' ++ Or, a, by rw [List.append_assoc]; exact b, O', rfl, c⟩

/-! ### New arrays -/
theorem madeRep {α : Type} {T : Ty α} {z : α} {zs : List Value} (hz : T.rep R zs z) (n : Nat) :
    ∀ i x, (List.replicate n z)[i]? = some x → T.rep R (((madeCells zs.toArray (n * T.size)).toList.drop (i * T.size)).take T.size) x := by
  intro i x hx
  rw [List.getElem?_replicate] at hx
  split at hx
  · rename_i hi
    cases hx
    have hl := T.len hz
    have : ((madeCells zs.toArray (n * T.size)).toList.drop (i * T.size)).take T.size = zs := by
      apply List.ext_getElem?
      intro k
      rw [List.getElem?_take]
      split
      · rename_i hk
        have hlt : i * T.size + k < n * T.size := by
          have : (i + 1) * T.size ≤ n * T.size := Nat.mul_le_mul_right _ hi
          rw [Nat.add_mul] at this
          omega
        have hmod : (i * T.size + k) % T.size = k := by rw [Nat.add_comm, Nat.add_mul_mod_self_right, Nat.mod_eq_of_lt hk]
        rw [List.getElem?_drop, Array.getElem?_toList, madeCells, Array.getElem?_map, Array.getElem?_range]
        rw [if_pos hlt]
        simp only [Option.map_some, List.size_toArray, hl, hmod]
        rw [List.getElem?_eq_getElem (by omega)]
        simp [hl, hk]
      · rename_i hk
        rw [List.getElem?_eq_none (by omega)]
    rw [this]; exact hz
  · cases hx
theorem made_cell {α : Type} {T : Ty α} {z : α} {zs : List Value} (hz : T.rep R zs z) (n : Nat) : ∀ v ∈ (madeCells zs.toArray (n * T.size)).toList, v.oneCell' = true := by
  intro v hv
  obtain ⟨j, hj⟩ := List.getElem?_of_mem hv
  rw [Array.getElem?_toList, madeCells, Array.getElem?_map, Array.getElem?_range] at hj
  split at hj
  · rename_i hlt
    simp only [Option.map_some, Option.some.injEq] at hj
    have hl := T.len hz
    have hpos : 0 < T.size := by
      rcases Nat.eq_zero_or_pos T.size with h | h
      · rw [h] at hlt; omega
      · exact h
    have hm : j % zs.length < zs.length := Nat.mod_lt _ (by omega)
    have e : zs.toArray[j % zs.toArray.size]! = zs[j % zs.length] := by simp [hm]
    rw [e] at hj
    subst hj
    exact T.cell hz _ (List.getElem_mem _)
  · simp at hj

/-- Type e's size in bytes, and the cells of its zero. -/
structure ZeroOk (P : Program) (e : TypeId) {α : Type} (T : Ty α) (z : α) (bytes : Nat) : Prop where
  info : ∃ i zv, P.info? e = some i ∧ i.zero = some zv ∧ i.size = T.size ∧ i.bytes = bytes ∧ ∀ R, T.rep R zv.cells.toList z
theorem eff_make {α : Type} {T : Ty α} {z : α} {t e : TypeId} {bytes : Nat} {x y : Operand} {n c : Nat} {k k' : IntKind} (hu : P.underlying t = some (.slice e)) (hz : ZeroOk P e T z bytes) (hx : ev l x = .int k n) (hy : ev l y = .int k' c)
    (hnc : n ≤ c) (hb : bytes * c ≤ 281474976710656) (hc : c ≤ 9223372036854775807) :
    Eff P ρ ⟨dst, .makeSlice t x y, ty, pos, after, g⟩ l R O (fun v R' O' => R' = R ∧ capOf v = c ∧ ∃ f, O' = f :: O ∧ ORep T R f v (List.replicate n z)) := by
  intro A w hh; rw [sem_plain (by intro c h; cases h)]
  obtain ⟨i, zv, h1, h2, h3, h4, h5⟩ := hz.info
  have hrun := run_make (P := P) w t e i zv hu h1 h2 k k' (n : Int) (c : Int) (by omega) (by omega) (by rw [h4]; have := hb; omega) (by omega)
  rw [Int.toNat_natCast, Int.toNat_natCast] at hrun
  have hex : (execOp (ev l) (⟨dst, .makeSlice t x y, ty, pos, after, g⟩ : Oper)).run P w = .ok (.value (.slice (some ⟨w.heap.size, 0, none⟩) n c)) (w.alloc (.cells (madeCells zv.cells (c * i.size)) e)) := by
    simp only [execOp, hx, hy, Sem.run_bind, hrun, Result.andThen_ok]
    rfl
  rw [hex]
  refine ⟨R, _, RH.le.refl _, holds_alloc' hh _, rfl, rfl, _, rfl, .inr ⟨w.heap.size, [], (madeCells zv.cells (c * i.size)).toList, c, e, by rw [List.length_replicate]; rfl, by unfold box; rw [List.nil_append, Array.toArray_toList], by rw [List.length_replicate]; exact hnc, by rw [Array.length_toList, size_madeCells, h3]; exact Nat.le_refl _, ?_, ?_⟩⟩
  · have := made_cell (h5 R) c
    rw [h3]; simpa using this
  · intro j x hj
    have h6 : (List.replicate c z)[j]? = some x := by
      rw [List.getElem?_replicate] at hj ⊢
      split at hj
      · rw [if_pos (by omega)]; exact hj
      · cases hj
    have := madeRep (h5 R) c j x h6
    rw [h3]; simpa using this
end effs
end GV
end Go.Proofs.Ytncblcdhmcmkmaa
