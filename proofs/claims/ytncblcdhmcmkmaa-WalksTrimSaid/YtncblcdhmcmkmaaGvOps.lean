/- The operations' laws of the program logic: what each operation comes to. -/
import Derived.Test.YtncblcdhmcmkmaaGvRep
namespace Go.Proofs.Ytncblcdhmcmkmaa
namespace GV
open Go.IntWalk
set_option linter.unusedVariables false
set_option linter.unusedSectionVars false

section vals
variable {P : Program} {ρ : Option Nat} {l : Nat → Value} {R : RH} {O : List Frag} {dst : Option Tmp} {ty : TypeId} {pos : String} {after : Array Edge} {g : Option (Nat × Bool)}

theorem sem_plain {o : Oper} (h : ∀ c, o.op ≠ .defer c) (r : Operand → Value) : o.semAt ρ r = execOp r o := Oper.semAt_eq ρ r o h

theorem val_move {x : Operand} {v : Value} (hx : ev l x = v) : Val P ρ ⟨dst, .move x, ty, pos, after, g⟩ l R O v := by
  intro A w _; rw [sem_plain (by intro c h; cases h)]; subst hx; rfl
theorem val_assign {x : Operand} {v : Value} (hx : ev l x = v) : Val P ρ ⟨dst, .assign x, ty, pos, after, g⟩ l R O v := by
  intro A w _; rw [sem_plain (by intro c h; cases h)]; subst hx; rfl
theorem val_pick {c x y : Operand} {b : Bool} {v : Value} (hc : ev l c = .bool b) (hv : (bif b then ev l x else ev l y) = v) : Val P ρ ⟨dst, .pick c x y, ty, pos, after, g⟩ l R O v := by
  intro A w _; rw [sem_plain (by intro c h; cases h)]; subst hv
  simp only [execOp, hc]
  cases b <;> rfl
theorem val_not {t : TypeId} {x : Operand} {b : Bool} (hx : ev l x = .bool b) : Val P ρ ⟨dst, .unOp .not t x, ty, pos, after, g⟩ l R O (.bool (!b)) := by
  intro A w _; rw [sem_plain (by intro c h; cases h)]
  simp only [execOp, hx]; rfl
theorem run_binInt {w : World} {op : BinOp} {t t' : TypeId} {x y : Operand} {k : IntKind} {m n : Int} {v : Value} (hx : ev l x = .int k m) (hy : ev l y = .int k n)
    (hop : (binOp op t (.int k m) (.int k n)).run P w = .ok v w) :
    (execOp (ev l) (⟨dst, .binOp op t x y t', ty, pos, after, g⟩ : Oper)).run P w = .ok (.value v) w := by
  have he : (eqGuard op t x y (.int k m) (.int k n)).run P w = .ok () w := by
    cases op <;> rfl
  simp only [execOp, hx, hy, Sem.run_bind, he, Result.andThen_ok, hop]
  rfl
theorem val_add {t t' : TypeId} {x y : Operand} {m n : Int} (hx : ev l x = .int .i64 m) (hy : ev l y = .int .i64 n) (hb : -9223372036854775808 ≤ m + n ∧ m + n ≤ 9223372036854775807) :
    Val P ρ ⟨dst, .binOp .add t x y t', ty, pos, after, g⟩ l R O (.int .i64 (m + n)) := by
  intro A w _; rw [sem_plain (by intro c h; cases h)]
  refine run_binInt hx hy ?_
  show Result.ok (Value.int .i64 (IntKind.i64.wrap (m + n))) w = _
  rw [i64_in _ hb]
theorem val_sub {t t' : TypeId} {x y : Operand} {m n : Int} (hx : ev l x = .int .i64 m) (hy : ev l y = .int .i64 n) (hb : -9223372036854775808 ≤ m - n ∧ m - n ≤ 9223372036854775807) :
    Val P ρ ⟨dst, .binOp .sub t x y t', ty, pos, after, g⟩ l R O (.int .i64 (m - n)) := by
  intro A w _; rw [sem_plain (by intro c h; cases h)]
  refine run_binInt hx hy ?_
  show Result.ok (Value.int .i64 (IntKind.i64.wrap (m - n))) w = _
  rw [i64_in _ hb]
theorem val_mul {t t' : TypeId} {x y : Operand} {m n : Int} (hx : ev l x = .int .i64 m) (hy : ev l y = .int .i64 n) (hb : -9223372036854775808 ≤ m * n ∧ m * n ≤ 9223372036854775807) :
    Val P ρ ⟨dst, .binOp .mul t x y t', ty, pos, after, g⟩ l R O (.int .i64 (m * n)) := by
  intro A w _; rw [sem_plain (by intro c h; cases h)]
  refine run_binInt hx hy ?_
  show Result.ok (Value.int .i64 (IntKind.i64.wrap (m * n))) w = _
  rw [i64_in _ hb]
theorem val_quo {k : IntKind} {t t' : TypeId} {x y : Operand} {m n : Int} (hx : ev l x = .int k m) (hy : ev l y = .int k n) (hn : n ≠ 0) :
    Val P ρ ⟨dst, .binOp .quo t x y t', ty, pos, after, g⟩ l R O (.int k (k.wrap (m.tdiv n))) := by
  intro A w _; rw [sem_plain (by intro c h; cases h)]
  refine run_binInt hx hy ?_
  show (if k ≠ k then _ else _ : Sem Value).run P w = _
  rw [if_neg (by simp)]
  show (Op.intDiv .quo k m n).run P w = _
  simp only [Op.intDiv, if_neg hn]; rfl
theorem val_rem {k : IntKind} {t t' : TypeId} {x y : Operand} {m n : Int} (hx : ev l x = .int k m) (hy : ev l y = .int k n) (hn : n ≠ 0) :
    Val P ρ ⟨dst, .binOp .rem t x y t', ty, pos, after, g⟩ l R O (.int k (m.tmod n)) := by
  intro A w _; rw [sem_plain (by intro c h; cases h)]
  refine run_binInt hx hy ?_
  show (if k ≠ k then _ else _ : Sem Value).run P w = _
  rw [if_neg (by simp)]
  show (Op.intDiv .rem k m n).run P w = _
  simp only [Op.intDiv, if_neg hn]; rfl
/-- '/' and '%' of what is not below zero by what is above. -/
theorem val_quo0 {t t' : TypeId} {x y : Operand} {m n : Int} (hx : ev l x = .int .i64 m) (hy : ev l y = .int .i64 n) (hb : 0 ≤ m ∧ m ≤ 9223372036854775807 ∧ 1 ≤ n) :
    Val P ρ ⟨dst, .binOp .quo t x y t', ty, pos, after, g⟩ l R O (.int .i64 (m / n)) := by
  have := val_quo (P := P) (ρ := ρ) (R := R) (O := O) (dst := dst) (ty := ty) (pos := pos) (after := after) (g := g) (t := t) (t' := t') hx hy (by omega)
  rwa [i64_quo m n hb] at this
theorem val_rem0 {k : IntKind} {t t' : TypeId} {x y : Operand} {m n : Int} (hx : ev l x = .int k m) (hy : ev l y = .int k n) (hb : 0 ≤ m ∧ 1 ≤ n) :
    Val P ρ ⟨dst, .binOp .rem t x y t', ty, pos, after, g⟩ l R O (.int k (m % n)) := by
  have := val_rem (P := P) (ρ := ρ) (R := R) (O := O) (dst := dst) (ty := ty) (pos := pos) (after := after) (g := g) (t := t) (t' := t') hx hy (by omega)
  rwa [rem_in m n hb.1] at this

theorem val_lss {k : IntKind} {t t' : TypeId} {x y : Operand} {m n : Int} (hx : ev l x = .int k m) (hy : ev l y = .int k n) :
    Val P ρ ⟨dst, .binOp .lss t x y t', ty, pos, after, g⟩ l R O (.bool (decide (m < n))) := by
  intro A w _; rw [sem_plain (by intro c h; cases h)]
  refine run_binInt hx hy ?_
  show (if k ≠ k then _ else _ : Sem Value).run P w = _
  rw [if_neg (by simp)]; rfl
theorem val_gtr {k : IntKind} {t t' : TypeId} {x y : Operand} {m n : Int} (hx : ev l x = .int k m) (hy : ev l y = .int k n) :
    Val P ρ ⟨dst, .binOp .gtr t x y t', ty, pos, after, g⟩ l R O (.bool (decide (n < m))) := by
  intro A w _; rw [sem_plain (by intro c h; cases h)]
  refine run_binInt hx hy ?_
  show (if k ≠ k then _ else _ : Sem Value).run P w = _
  rw [if_neg (by simp)]; rfl
theorem val_geq {k : IntKind} {t t' : TypeId} {x y : Operand} {m n : Int} (hx : ev l x = .int k m) (hy : ev l y = .int k n) :
    Val P ρ ⟨dst, .binOp .geq t x y t', ty, pos, after, g⟩ l R O (.bool (decide (n ≤ m))) := by
  intro A w _; rw [sem_plain (by intro c h; cases h)]
  refine run_binInt hx hy ?_
  show (if k ≠ k then _ else _ : Sem Value).run P w = _
  rw [if_neg (by simp)]; rfl
theorem val_eql {k : IntKind} {t t' : TypeId} {x y : Operand} {m n : Int} (hx : ev l x = .int k m) (hy : ev l y = .int k n) :
    Val P ρ ⟨dst, .binOp .eql t x y t', ty, pos, after, g⟩ l R O (.bool (decide (m = n))) := by
  intro A w _; rw [sem_plain (by intro c h; cases h)]
  refine run_binInt hx hy ?_
  show (if k ≠ k then _ else _ : Sem Value).run P w = _
  rw [if_neg (by simp)]; rfl
theorem val_neq {k : IntKind} {t t' : TypeId} {x y : Operand} {m n : Int} (hx : ev l x = .int k m) (hy : ev l y = .int k n) :
    Val P ρ ⟨dst, .binOp .neq t x y t', ty, pos, after, g⟩ l R O (.bool (decide (m ≠ n))) := by
  intro A w _; rw [sem_plain (by intro c h; cases h)]
  refine run_binInt hx hy ?_
  show (if k ≠ k then _ else _ : Sem Value).run P w = _
  rw [if_neg (by simp)]
  show Result.ok (Value.bool (m != n)) w = _
  congr 2
  rw [Bool.eq_iff_iff]; simp

/-- == of structs or arrays of two integers. -/
def EqOk2 (P : Program) (t : TypeId) : Prop := ∀ (a b c d : Int) (x y : Operand) (w : World),
  ((do eqGuard .eql t x y (.agg #[.int .i64 a, .int .i64 b]) (.agg #[.int .i64 c, .int .i64 d]); binOp .eql t (.agg #[.int .i64 a, .int .i64 b]) (.agg #[.int .i64 c, .int .i64 d])) : Sem Value).run P w = .ok (.bool (a == c && b == d)) w
theorem val_eql2 {t t' : TypeId} {x y : Operand} {a b c d : Int} (hok : EqOk2 P t) (hx : ev l x = .agg #[.int .i64 a, .int .i64 b]) (hy : ev l y = .agg #[.int .i64 c, .int .i64 d]) :
    Val P ρ ⟨dst, .binOp .eql t x y t', ty, pos, after, g⟩ l R O (.bool (decide (a = c ∧ b = d))) := by
  intro A w _; rw [sem_plain (by intro c h; cases h)]
  have := hok a b c d x y w
  have e : (a == c && b == d) = decide (a = c ∧ b = d) := by rw [Bool.eq_iff_iff]; simp
  rw [e] at this
  simp only [execOp, hx, hy]
  rw [Sem.run_bind, this]
  rfl
theorem val_neq2 {t t' : TypeId} {x y : Operand} {a b c d : Int} (hok : EqOk2 P t) (hx : ev l x = .agg #[.int .i64 a, .int .i64 b]) (hy : ev l y = .agg #[.int .i64 c, .int .i64 d]) :
    Val P ρ ⟨dst, .binOp .neq t x y t', ty, pos, after, g⟩ l R O (.bool (decide (¬ (a = c ∧ b = d)))) := by
  intro A w _; rw [sem_plain (by intro c h; cases h)]
  have h0 := hok a b c d x y w
  have e : (a == c && b == d) = decide (a = c ∧ b = d) := by rw [Bool.eq_iff_iff]; simp
  rw [e] at h0
  simp only [execOp, hx, hy]
  rw [Sem.run_bind] at h0 ⊢
  have hg : ((eqGuard .neq t x y (.agg #[.int .i64 a, .int .i64 b]) (.agg #[.int .i64 c, .int .i64 d])).run P w) = ((eqGuard .eql t x y (.agg #[.int .i64 a, .int .i64 b]) (.agg #[.int .i64 c, .int .i64 d])).run P w) := rfl
  rw [Sem.run_bind, hg]
  cases hr : (eqGuard .eql t x y (.agg #[.int .i64 a, .int .i64 b]) (.agg #[.int .i64 c, .int .i64 d])).run P w with
  | halt x y => rw [hr] at h0; cases h0
  | ok u w1 =>
    rw [hr] at h0
    simp only [Result.andThen_ok] at h0 ⊢
    have h1 : ((Op.equal t (.agg #[.int .i64 a, .int .i64 b]) (.agg #[.int .i64 c, .int .i64 d])).run P w1).andThen (fun r w' => Result.ok (Value.bool r) w') = .ok (.bool (decide (a = c ∧ b = d))) w := by
      have : (binOp .eql t (.agg #[.int .i64 a, .int .i64 b]) (.agg #[.int .i64 c, .int .i64 d]) : Sem Value) = (do pure (.bool (← Op.equal t (.agg #[.int .i64 a, .int .i64 b]) (.agg #[.int .i64 c, .int .i64 d])))) := rfl
      rw [this, Sem.run_bind] at h0
      exact h0
    have h2 : (binOp .neq t (.agg #[.int .i64 a, .int .i64 b]) (.agg #[.int .i64 c, .int .i64 d]) : Sem Value) = (do pure (.bool (!(← Op.equal t (.agg #[.int .i64 a, .int .i64 b]) (.agg #[.int .i64 c, .int .i64 d]))))) := rfl
    rw [h2, Sem.run_bind]
    cases he : (Op.equal t (.agg #[.int .i64 a, .int .i64 b]) (.agg #[.int .i64 c, .int .i64 d])).run P w1 with
    | halt x y => rw [he] at h1; cases h1
    | ok r w2 =>
      rw [he] at h1
      simp only [Result.andThen_ok, Result.ok.injEq, Value.bool.injEq] at h1
      obtain ⟨rfl, rfl⟩ := h1
      simp [Result.andThen]

theorem val_len {t : TypeId} {at' : Array TypeId} {e : TypeId} {x : Operand} {p : Option Addr} {n c : Nat} (ht : at'[0]? = some t) (hu : P.underlying t = some (.slice e)) (hx : ev l x = .slice p n c) :
    Val P ρ ⟨dst, .call ⟨.builtin .len, #[x], at'⟩, ty, pos, after, g⟩ l R O (.int .i64 n) := by
  intro A w _; rw [sem_plain (by intro c h; cases h)]
  simp [execOp, resolve, invoke, builtin, Builtin.len_, ht, underlying, hu, hx, goInt]
theorem val_cap {t : TypeId} {at' : Array TypeId} {e : TypeId} {x : Operand} {p : Option Addr} {n c : Nat} (ht : at'[0]? = some t) (hu : P.underlying t = some (.slice e)) (hx : ev l x = .slice p n c) :
    Val P ρ ⟨dst, .call ⟨.builtin .cap, #[x], at'⟩, ty, pos, after, g⟩ l R O (.int .i64 c) := by
  intro A w _; rw [sem_plain (by intro c h; cases h)]
  simp [execOp, resolve, invoke, builtin, Builtin.cap_, ht, underlying, hu, hx, goInt]
theorem val_lenR {α : Type} {T : Ty α} {t : TypeId} {at' : Array TypeId} {e : TypeId} {x : Operand} {v : Value} {X : List α} (ht : at'[0]? = some t) (hu : P.underlying t = some (.slice e)) (hx : ev l x = v)
    (hr : VRep (tSlice T) R v X) : Val P ρ ⟨dst, .call ⟨.builtin .len, #[x], at'⟩, ty, pos, after, g⟩ l R O (.int .i64 X.length) := by
  obtain ⟨p, n, rfl, _⟩ := vrep_slice.1 hr
  exact val_len ht hu hx
theorem orep_slice {α : Type} {T : Ty α} {f : Frag} {v : Value} {X : List α} (h : ORep T R f v X) : ∃ p, v = .slice p X.length (capOf v) ∧ X.length ≤ capOf v := by
  rcases h with ⟨rfl, rfl, _⟩ | ⟨b, pre, cs, cap, ty, rfl, _, hc, _⟩
  · exact ⟨none, rfl, Nat.le_refl _⟩
  · exact ⟨_, rfl, hc⟩
theorem val_lenO {α : Type} {T : Ty α} {t : TypeId} {at' : Array TypeId} {e : TypeId} {x : Operand} {v : Value} {X : List α} {f : Frag} (ht : at'[0]? = some t) (hu : P.underlying t = some (.slice e)) (hx : ev l x = v)
    (hr : ORep T R f v X) : Val P ρ ⟨dst, .call ⟨.builtin .len, #[x], at'⟩, ty, pos, after, g⟩ l R O (.int .i64 X.length) := by
  obtain ⟨p, h, _⟩ := orep_slice hr
  exact val_len ht hu (hx.trans h)
theorem val_capR {α : Type} {T : Ty α} {t : TypeId} {at' : Array TypeId} {e : TypeId} {x : Operand} {v : Value} {X : List α} (ht : at'[0]? = some t) (hu : P.underlying t = some (.slice e)) (hx : ev l x = v)
    (hr : VRep (tSlice T) R v X) : Val P ρ ⟨dst, .call ⟨.builtin .cap, #[x], at'⟩, ty, pos, after, g⟩ l R O (.int .i64 (capOf v)) := by
  obtain ⟨p, n, rfl, _⟩ := vrep_slice.1 hr
  exact val_cap ht hu hx

theorem val_extract {x : Operand} {i : Nat} {vs : Array Value} {v : Value} (hx : ev l x = .tuple vs) (hv : vs[i]? = some v) : Val P ρ ⟨dst, .extract x i, ty, pos, after, g⟩ l R O v := by
  intro A w _; rw [sem_plain (by intro c h; cases h)]
  simp [execOp, hx, Instr.extract, hv]
theorem val_makeFunc {fn : Fn} {first captured : Array Operand} {fs cs : Array Value} (hf : first.map (ev l) = fs) (hc : captured.map (ev l) = cs) :
    Val P ρ ⟨dst, .makeFunc fn first captured, ty, pos, after, g⟩ l R O (.func fn fs cs) := by
  intro A w _; rw [sem_plain (by intro c h; cases h)]; subst hf; subst hc; rfl
/-- A struct or an array written out: by its run. -/
theorem val_build {t : TypeId} {parts : Array (Nat × Operand)} {ps : Array (Nat × Value)} {v : Value} (hp : (parts.map fun (i, x) => (i, ev l x)) = ps) (h : ∀ w, (Instr.build t ps).run P w = .ok v w) :
    Val P ρ ⟨dst, .build t parts, ty, pos, after, g⟩ l R O v := by
  intro A w _; rw [sem_plain (by intro c h; cases h)]; subst hp
  simp only [execOp, Sem.run_bind, h, Result.andThen_ok]; rfl
theorem val_convII {s d : TypeId} {x : Operand} {k k' : IntKind} {ds : TypeDesc} {m : Int} (hs : P.underlying s = some ds) (hd : P.underlying d = some (.int k')) (hx : ev l x = .int k m) :
    Val P ρ ⟨dst, .convert s d x, ty, pos, after, g⟩ l R O (.int k' (k'.wrap m)) := by
  intro A w _; rw [sem_plain (by intro c h; cases h)]
  simp [execOp, convert, underlying, hs, hd, hx, Conv.intToInt]

/-- Loads of what is only read. -/
theorem val_loadR {α : Type} {T : Ty α} {t : TypeId} {x : Operand} {v : Value} {y : α} (ht : TyOk P t T) (hx : ev l x = v) (hp : PRep T R v y) :
    ∃ u, VRep T R u y ∧ ∀ (dst : Option Tmp) (ty : TypeId) (pos : String) (after : Array Edge) (g : Option (Nat × Bool)), Val P ρ ⟨dst, .load t x, ty, pos, after, g⟩ l R O u := by
  obtain ⟨b, off, c, ty', fr, rfl, hb, hr⟩ := hp
  refine ⟨T.mk' (cellsAt c off T.size), ⟨_, hr, rfl⟩, fun dst ty pos after g A w hh => ?_⟩
  rw [sem_plain (by intro c h; cases h)]
  simp only [execOp, hx, Instr.loadAt, Instr.sureAddr, Sem.run_bind, Sem.run_pure, Result.andThen_ok, run_loadVar ht (hh.ro _ _ hb) hr]
/-- Loads out of an owned box: one cell. -/
theorem val_loadB {t : TypeId} {x : Operand} {b off i : Nat} {cs : List Value} {bt : TypeId} {v : Value} (ht : ∀ w, (isAgg t).run P w = .ok false w) (hx : ev l x = .pointer (some ⟨b, off, none⟩))
    (hO : O[i]? = some (box b cs bt)) (hv : cs[off]? = some v) : Val P ρ ⟨dst, .load t x, ty, pos, after, g⟩ l R O v := by
  intro A w hh; rw [sem_plain (by intro c h; cases h)]
  have hblk : w.heap[b]? = some (.cells cs.toArray bt (0, 0)) := holds_at hh (i := i) (by rw [List.getElem?_append_left (by exact (List.getElem?_eq_some_iff.1 hO).1)]; exact hO) (single_same _ _)
  simp [execOp, hx, Instr.loadAt, Instr.sureAddr, loadVar, ht, cell_of_block hblk, hv]
/-- A whole struct out of an owned box. -/
theorem val_loadBA {t : TypeId} {x : Operand} {b off i n : Nat} {cs vs : List Value} {bt : TypeId} (ht : ∀ w, (isAgg t).run P w = .ok true w) (hs : ∀ w, (sizeOf t).run P w = .ok n w) (hx : ev l x = .pointer (some ⟨b, off, none⟩))
    (hO : O[i]? = some (box b cs bt)) (hv : (cs.drop off).take n = vs) (hn : vs.length = n) : Val P ρ ⟨dst, .load t x, ty, pos, after, g⟩ l R O (.agg vs.toArray) := by
  intro A w hh; rw [sem_plain (by intro c h; cases h)]
  have hblk : w.heap[b]? = some (.cells cs.toArray bt (0, 0)) := holds_at hh (i := i) (by rw [List.getElem?_append_left (by exact (List.getElem?_eq_some_iff.1 hO).1)]; exact hO) (single_same _ _)
  have hle : off + n ≤ cs.toArray.size ∨ n = 0 := by
    subst hv
    simp only [List.length_take, List.length_drop] at hn
    simp only [List.size_toArray]
    omega
  have hload : (loadCells ⟨b, off, none⟩ n).run P w = .ok vs.toArray w := by
    rcases hle with hle | hle
    · rw [run_loadCells hblk hle]; simp [cellsAt, hv]
    · subst hle
      have : vs = [] := List.length_eq_zero_iff.1 hn
      subst this
      simp [loadCells, loadCellsFrom]
  simp [execOp, hx, Instr.loadAt, Instr.sureAddr, loadVar, ht, hs, hload]

/-- A field's place. -/
structure FieldOk (P : Program) (s : TypeId) (f o : Nat) : Prop where
  run : ∀ (b off : Nat) (w : World), (Instr.fieldAt s (.pointer (some ⟨b, off, none⟩)) f).run P w = .ok (.pointer (some ⟨b, off + o, none⟩)) w
theorem fieldOk_of {P : Program} {s : TypeId} {f o : Nat} {fs : Array Field} {fd : Field} {i : TypeInfo} (hu : P.underlying s = some (.struct fs)) (hf : fs[f]? = some fd) (ho : fd.offset = o) (hi : P.info? fd.type = some i)
    (h0 : (i.size == 0) = false) : FieldOk P s f o := by
  refine ⟨fun b off w => ?_⟩
  have h1 : i.size ≠ 0 := by simpa using h0
  simp [Instr.fieldAt, underlying, hu, hf, Instr.sureAddr, fieldPlace, sizeOf, typeInfo, hi, h1, addr_add, ho]
theorem val_fieldB {s : TypeId} {x : Operand} {f o b off : Nat} (hf : FieldOk P s f o) (hx : ev l x = .pointer (some ⟨b, off, none⟩)) :
    Val P ρ ⟨dst, .fieldAddr s x f, ty, pos, after, g⟩ l R O (.pointer (some ⟨b, off + o, none⟩)) := by
  intro A w _; rw [sem_plain (by intro c h; cases h)]
  simp [execOp, hx, hf.run]
theorem val_fieldR {α β : Type} {A : Ty α} {B : Ty β} {s : TypeId} {x : Operand} {f o : Nat} {v : Value} {y : α} {pr : α → β} (hf : FieldOk P s f o) (hpart : Part A o B pr) (hx : ev l x = v) (hp : PRep A R v y) :
    ∃ u, PRep B R u (pr y) ∧ ∀ (dst : Option Tmp) (ty : TypeId) (pos : String) (after : Array Edge) (g : Option (Nat × Bool)), Val P ρ ⟨dst, .fieldAddr s x f, ty, pos, after, g⟩ l R O u := by
  obtain ⟨b, off, c, ty', fr, rfl, hb, hr⟩ := hp
  refine ⟨_, ⟨b, off + o, c, ty', fr, rfl, hb, ?_⟩, fun dst ty pos after g => val_fieldB hf hx⟩
  have := hpart.2 R _ _ hr
  rwa [cellsAt_part hpart.1] at this

/-- Slices' element places. -/
structure SlOk (P : Program) (t e : TypeId) {α : Type} (T : Ty α) : Prop where
  u : P.underlying t = some (.slice e)
  e : TyOk P e T
theorem run_indexSlice {t e : TypeId} {b off n c i : Nat} {k : IntKind} {sz : Nat} {w : World} (hu : P.underlying t = some (.slice e)) (hs : ∀ w, (sizeOf e).run P w = .ok sz w) (hi : i < n) :
    (Instr.indexAt t (.slice (some ⟨b, off, none⟩) n c) (.int k i)).run P w = .ok (.pointer (some ⟨b, off + i * sz, none⟩)) w := by
  have h1 : (0 : Int) ≤ (i : Int) ∧ (i : Int) < (n : Int) := ⟨by omega, by omega⟩
  simp only [Instr.indexAt, asIntOf, Sem.run_bind, Sem.run_pure, Result.andThen_ok, underlying, run_program, hu]
  simp only [h1, and_self, if_true, Sem.run_bind, hs, Result.andThen_ok, Sem.run_pure, Int.toNat_natCast, addr_add]
theorem val_indexR {α : Type} {T : Ty α} {t e : TypeId} {x ix : Operand} {v : Value} {X : List α} {k : IntKind} {i : Nat} {y : α} (ht : SlOk P t e T) (hx : ev l x = v) (hr : VRep (tSlice T) R v X)
    (hi : ev l ix = .int k i) (hy : X[i]? = some y) :
    ∃ u, PRep T R u y ∧ ∀ (dst : Option Tmp) (ty : TypeId) (pos : String) (after : Array Edge) (g : Option (Nat × Bool)), Val P ρ ⟨dst, .indexAddr t x ix, ty, pos, after, g⟩ l R O u := by
  obtain ⟨p, n, rfl, _, _, hs⟩ := vrep_slice.1 hr
  have hlt : i < X.length := (List.getElem?_eq_some_iff.1 hy).1
  rcases hs with rfl | ⟨b, off, c, ty', fr, rfl, hb, hel⟩
  · simp at hlt
  refine ⟨_, ⟨b, off + i * T.size, c, ty', fr, rfl, hb, hel i y hy⟩, fun dst ty pos after g A w hh => ?_⟩
  rw [sem_plain (by intro c h; cases h)]
  simp [execOp, hx, hi, run_indexSlice ht.u ht.e.size hlt]
/-- An element's place in an owned array. -/
theorem val_indexO {α : Type} {T : Ty α} {t e : TypeId} {x ix : Operand} {v : Value} {X : List α} {k : IntKind} {i : Nat} {f : Frag} (ht : SlOk P t e T) (hx : ev l x = v) (hr : ORep T R f v X)
    (hi : ev l ix = .int k i) (hy : i < X.length) :
    ∃ b off, v = .slice (some ⟨b, off, none⟩) X.length (capOf v) ∧
      ∀ (dst : Option Tmp) (ty : TypeId) (pos : String) (after : Array Edge) (g : Option (Nat × Bool)), Val P ρ ⟨dst, .indexAddr t x ix, ty, pos, after, g⟩ l R O (.pointer (some ⟨b, off + i * T.size, none⟩)) := by
  rcases hr with ⟨rfl, rfl, _⟩ | ⟨b, pre, cs, cap, ty', rfl, rfl, hc, hlen, hcell, hel⟩
  · simp at hy
  refine ⟨b, pre.length, rfl, fun dst ty pos after g A w hh => ?_⟩
  rw [sem_plain (by intro c h; cases h)]
  have := run_indexSlice (P := P) (b := b) (off := pre.length) (c := cap) (k := k) (w := w) ht.u ht.e.size hy
  simp [execOp, hx, hi, this]
end vals
end GV
end Go.Proofs.Ytncblcdhmcmkmaa
