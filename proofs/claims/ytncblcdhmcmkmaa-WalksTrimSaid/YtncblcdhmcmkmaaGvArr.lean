/- Laws of the program logic: slices written out, append, slice expressions. -/
import Derived.Test.YtncblcdhmcmkmaaGvMem
namespace Go.Proofs.Ytncblcdhmcmkmaa
namespace GV
open Go.IntWalk
set_option linter.unusedVariables false
set_option linter.unusedSectionVars false

section arr
variable {P : Program} {ρ : Option Nat} {l : Nat → Value} {R : RH} {O : List Frag} {dst : Option Tmp} {ty : TypeId} {pos : String} {after : Array Edge} {g : Option (Nat × Bool)}

/-- Elements side by side. -/
def Seq {α : Type} (T : Ty α) (R : RH) (cs : List Value) (X : List α) : Prop :=
  ∃ css : List (List Value), cs = css.flatten ∧ css.length = X.length ∧ ∀ (i : Nat) (c : List Value) (x : α), css[i]? = some c → X[i]? = some x → T.rep R c x
theorem Seq.nil {α : Type} {T : Ty α} : Seq T R [] [] := ⟨[], rfl, rfl, fun i c x h => by simp at h⟩
theorem Seq.cons {α : Type} {T : Ty α} {c cs : List Value} {x : α} {X : List α} (h : T.rep R c x) (hs : Seq T R cs X) : Seq T R (c ++ cs) (x :: X) := by
  obtain ⟨css, rfl, hl, hr⟩ := hs
  refine ⟨c :: css, by simp, by simp [hl], fun i c' x' h1 h2 => ?_⟩
  cases i with
  | zero => simp at h1 h2; subst h1; subst h2; exact h
  | succ i => simp at h1 h2; exact hr i c' x' h1 h2
theorem Seq.append {α : Type} {T : Ty α} {cs ds : List Value} {X Y : List α} (h : Seq T R cs X) (k : Seq T R ds Y) : Seq T R (cs ++ ds) (X ++ Y) := by
  obtain ⟨css, rfl, hl, hr⟩ := h
  obtain ⟨dss, rfl, kl, kr⟩ := k
  refine ⟨css ++ dss, by simp, by simp [hl, kl], fun i c x h1 h2 => ?_⟩
  rw [List.getElem?_append] at h1 h2
  rw [← hl] at h2
  split at h1
  · rename_i hi; rw [if_pos hi] at h2; exact hr i c x h1 h2
  · rename_i hi; rw [if_neg hi] at h2; exact kr _ c x h1 h2
theorem Seq.len {α : Type} {T : Ty α} : ∀ {X : List α} {cs : List Value}, Seq T R cs X → cs.length = X.length * T.size
  | [], cs, ⟨css, e, hl, hr⟩ => by
    have : css = [] := List.length_eq_zero_iff.1 hl
    subst this; subst e; simp
  | x :: X, cs, ⟨css, e, hl, hr⟩ => by
    match css, hl with
    | c :: css, hl =>
      subst e
      have h0 := T.len (hr 0 c x rfl rfl)
      have ih := Seq.len (T := T) (X := X) (cs := css.flatten) ⟨css, rfl, by simpa using hl, fun i c' x' h1 h2 => hr (i + 1) c' x' (by simpa using h1) (by simpa using h2)⟩
      simp [h0, ih, Nat.add_mul]; omega
theorem Seq.cell {α : Type} {T : Ty α} {X : List α} {cs : List Value} (h : Seq T R cs X) : ∀ v ∈ cs, v.oneCell' = true := by
  obtain ⟨css, rfl, hl, hr⟩ := h
  intro v hv
  obtain ⟨c, hc, hv⟩ := List.mem_flatten.1 hv
  obtain ⟨i, hi⟩ := List.getElem?_of_mem hc
  have hlt : i < X.length := by rw [← hl]; exact (List.getElem?_eq_some_iff.1 hi).1
  exact T.cell (hr i c X[i] hi (List.getElem?_eq_getElem hlt)) v hv
theorem Seq.at {α : Type} {T : Ty α} : ∀ {X : List α} {cs rest : List Value} {i : Nat} {x : α}, Seq T R cs X → X[i]? = some x → T.rep R (((cs ++ rest).drop (i * T.size)).take T.size) x
  | [], cs, rest, i, x, h, hx => by simp at hx
  | y :: X, cs, rest, i, x, ⟨css, e, hl, hr⟩, hx => by
    match css, hl with
    | c :: css, hl =>
      subst e
      have h0 := T.len (hr 0 c y rfl rfl)
      cases i with
      | zero =>
        simp only [List.getElem?_cons_zero, Option.some.injEq] at hx
        subst hx
        rw [Nat.zero_mul, List.drop_zero, List.flatten_cons, List.append_assoc, ← h0, List.take_left]
        exact hr 0 c y rfl rfl
      | succ i =>
        have ih := Seq.at (T := T) (X := X) (cs := css.flatten) (rest := rest) (i := i) (x := x) ⟨css, rfl, by simpa using hl, fun i c' x' h1 h2 => hr (i + 1) c' x' (by simpa using h1) (by simpa using h2)⟩ (by simpa using hx)
        rw [List.flatten_cons, List.append_assoc, Nat.add_mul, Nat.one_mul, Nat.add_comm, ← List.drop_drop]
        rw [show List.drop T.size (c ++ (css.flatten ++ rest)) = css.flatten ++ rest from by rw [← h0, List.drop_left]]
        exact ih
/-- Cells that read element by element are side by side. -/
theorem Seq.of_at {α : Type} {T : Ty α} : ∀ {X : List α} {cs : List Value}, (∀ i x, X[i]? = some x → T.rep R ((cs.drop (i * T.size)).take T.size) x) → Seq T R (cs.take (X.length * T.size)) X
  | [], cs, _ => by simpa using (Seq.nil (T := T) (R := R))
  | x :: X, cs, h => by
    have h0 := h 0 x rfl
    rw [Nat.zero_mul, List.drop_zero] at h0
    have ih := Seq.of_at (T := T) (X := X) (cs := cs.drop T.size) (fun i y hy => by
      have := h (i + 1) y (by simpa using hy)
      rwa [Nat.add_mul, Nat.one_mul, Nat.add_comm, ← List.drop_drop] at this)
    have e : cs.take ((x :: X).length * T.size) = cs.take T.size ++ (cs.drop T.size).take (X.length * T.size) := by
      rw [List.length_cons, Nat.add_mul, Nat.one_mul, Nat.add_comm, List.take_add]
    rw [e]
    exact Seq.cons h0 ih
theorem over_pre {pre cs vs : List Value} {o : Nat} : over (pre ++ cs) (pre.length + o) vs = pre ++ over cs o vs := by
  simp [over, List.take_append, List.drop_append, Nat.add_assoc, List.take_of_length_le]
theorem orep_pre {α : Type} {T : Ty α} {b : Nat} {pre cs rest : List Value} {bt : TypeId} {X : List α} {cap : Nat} (h : Seq T R cs X) (hc : X.length ≤ cap) (hl : cap * T.size ≤ (cs ++ rest).length) (hr : ∀ v ∈ rest, v.oneCell' = true) (hp : ∀ v ∈ pre, v.oneCell' = true) :
    ORep T R (box b (pre ++ (cs ++ rest)) bt) (.slice (some ⟨b, pre.length, none⟩) X.length cap) X :=
  .inr ⟨b, pre, cs ++ rest, cap, bt, rfl, rfl, hc, hl, fun v hv => by
    rcases List.mem_append.1 hv with hv | hv
    · exact hp v hv
    rcases List.mem_append.1 hv with hv | hv
    · exact h.cell v hv
    · exact hr v hv, fun i x hx => h.at hx⟩
/-- An owned array, out of cells side by side and room behind them. -/
theorem orep_of_seq {α : Type} {T : Ty α} {b : Nat} {cs rest : List Value} {bt : TypeId} {X : List α} {cap : Nat} (h : Seq T R cs X) (hc : X.length ≤ cap) (hl : cap * T.size ≤ (cs ++ rest).length) (hr : ∀ v ∈ rest, v.oneCell' = true) :
    ORep T R (box b (cs ++ rest) bt) (.slice (some ⟨b, 0, none⟩) X.length cap) X := orep_pre (pre := []) h hc hl hr (fun v hv => by cases hv)
/-- A slice that is only read: its cells, and how they are loaded. -/
theorem load_slice {α : Type} {T : Ty α} {v : Value} {X : List α} (h : VRep (tSlice T) R v X) :
    ∃ cs p n, v = .slice p X.length n ∧ Seq T R cs X ∧ ∀ (w : World), (∀ k o, R.blk k = some o → w.heap[k]? = some o) → (Builtin.firstCells T.size X.length v).run P w = .ok cs.toArray w := by
  obtain ⟨p, n, rfl, hn, hp, hs⟩ := vrep_slice.1 h
  rcases hs with rfl | ⟨b, off, c, ty, fr, rfl, hb, hel⟩
  · refine ⟨[], p, n, rfl, Seq.nil, fun w hh => ?_⟩
    cases p with
    | none => rfl
    | some a => simp [Builtin.firstCells, loadCells, loadCellsFrom]
  · have hseq : Seq T R (cellsAt c off (X.length * T.size)) X := by
      have := Seq.of_at (T := T) (R := R) (X := X) (cs := c.toList.drop off) (fun i x hx => by
        have := hel i x hx
        rwa [cellsAt, ← List.drop_drop] at this)
      exact this
    refine ⟨_, _, n, rfl, hseq, fun w hh => ?_⟩
    simp only [Builtin.firstCells]
    by_cases h0 : X.length * T.size = 0
    · rw [h0]; simp [loadCells, loadCellsFrom, cellsAt]
    · exact run_loadCells (hh _ _ hb) (cellsAt_length hseq.len h0)

theorem foldl_set (vs : List Value) : ∀ (j : Nat) (cells : Array Value) (off : Nat), (vs.zipIdx j).foldl (fun (cs : Array Value) (x : Value × Nat) => cs.setIfInBounds (off + x.2) x.1) cells = (vs.zipIdx (off + j)).foldl (fun (cs : Array Value) (x : Value × Nat) => cs.setIfInBounds x.2 x.1) cells := by
  induction vs with
  | nil => intros; rfl
  | cons v vs ih =>
    intro j cells off
    simp only [List.zipIdx_cons, List.foldl_cons]
    rw [ih, Nat.add_assoc]
theorem foldl_over (vs : List Value) : ∀ (cells : List Value) (o : Nat), o + vs.length ≤ cells.length → (vs.zipIdx o).foldl (fun (cs : Array Value) (x : Value × Nat) => cs.setIfInBounds x.2 x.1) cells.toArray = (over cells o vs).toArray := by
  induction vs with
  | nil => intro cells o _; simp [over]
  | cons v vs ih =>
    intro cells o h
    simp only [List.zipIdx_cons, List.foldl_cons]
    rw [show cells.toArray.setIfInBounds o v = (cells.set o v).toArray from by simp]
    rw [ih _ _ (by simp at h ⊢; omega), over_cons (by simp at h; omega)]

/-- The parts of a slice that is written out, in their order. -/
theorem fill_seq {sz : Nat} : ∀ (vs : List (List Value)) (k : Nat) (done rest : List Value), (∀ v ∈ vs, v.length = sz) → done.length = k * sz → rest.length = vs.length * sz → ∀ (ps : List (Nat × Value)),
    ps.map (fun p => (p.1, p.2.cells)) = (vs.zipIdx k).map (fun x => (x.2, x.1.toArray)) → Instr.fill (fun i => some (i * sz, sz)) (done ++ rest).toArray ps = some (done ++ vs.flatten).toArray
  | [], k, done, rest, _, _, hr, ps, hp => by
    have : ps = [] := by simpa using hp
    subst this
    have : rest = [] := List.length_eq_zero_iff.1 (by simpa using hr)
    subst this
    rfl
  | v :: vs, k, done, rest, hv, hd, hr, ps, hp => by
    match ps, hp with
    | (i, p) :: ps, hp =>
      simp only [List.map_cons, List.zipIdx_cons, List.cons.injEq, Prod.mk.injEq] at hp
      obtain ⟨⟨rfl, hc⟩, hp⟩ := hp
      have hvl := hv v (List.mem_cons_self ..)
      simp only [List.length_cons, Nat.add_mul, Nat.one_mul] at hr
      simp only [Instr.fill, hc, List.size_toArray, hvl]
      rw [if_neg (by simp [hd, hr])]
      have hfold : Array.foldl (fun (cs : Array Value) (x : Value × Nat) => cs.setIfInBounds (i * sz + x.2) x.1) (done ++ rest).toArray v.toArray.zipIdx = ((done ++ v) ++ rest.drop sz).toArray := by
        rw [← Array.foldl_toList]
        have : v.toArray.zipIdx.toList = v.zipIdx 0 := by simp
        rw [this, foldl_set, Nat.add_zero, foldl_over _ _ _ (by simp [hd, hvl]; omega)]
        congr 1
        unfold over
        rw [← hd, List.take_left, hvl, List.drop_append, List.drop_eq_nil_of_le (by omega)]
        simp
      have := fill_seq vs (i + 1) (done ++ v) (rest.drop sz) (fun u hu => hv u (List.mem_cons_of_mem _ hu)) (by simp [hd, hvl, Nat.add_mul]) (by rw [List.length_drop]; omega) ps hp
      rw [List.flatten_cons, ← List.append_assoc, ← this]
      exact congrArg (fun c => Instr.fill (fun i => some (i * sz, sz)) c ps) hfold

theorem eff_buildSlice {α : Type} {T : Ty α} {t e : TypeId} {z : α} {bytes n : Nat} {parts : Array (Nat × Operand)} {ps : List (Nat × Value)} {css : List (List Value)} {X : List α} (hu : P.underlying t = some (.slice e)) (hz : ZeroOk P e T z bytes)
    (hp : (parts.map fun (i, x) => (i, ev l x)) = ps.toArray) (hps : ps.map (fun p => (p.1, p.2.cells)) = css.zipIdx.map (fun x => (x.2, x.1.toArray))) (hX : ∀ (i : Nat) (c : List Value) (x : α), css[i]? = some c → X[i]? = some x → T.rep R c x)
    (hl : css.length = X.length) (hn : X.length = n) (hbig : n * T.size ≤ 16777216) :
    Eff P ρ ⟨dst, .buildSlice t n parts, ty, pos, after, g⟩ l R O (fun v R' O' => R' = R ∧ capOf v = X.length ∧ ∃ f, O' = f :: O ∧ ORep T R f v X) := by
  intro A w hh; rw [sem_plain (by intro c h; cases h)]
  obtain ⟨i, zv, h1, h2, h3, h4, h5⟩ := hz.info
  have hseq : Seq T R css.flatten X := ⟨css, rfl, hl, hX⟩
  have hlen := hseq.len
  have hv : ∀ c ∈ css, c.length = T.size := fun c hc => by
    obtain ⟨j, hj⟩ := List.getElem?_of_mem hc
    have hlt : j < X.length := by rw [← hl]; exact (List.getElem?_eq_some_iff.1 hj).1
    exact T.len (hX j c X[j] hj (List.getElem?_eq_getElem hlt))
  have hfill : ∀ cells : Array Value, cells.size = n * T.size → Instr.fill (fun i => some (i * T.size, T.size)) cells ps = some css.flatten.toArray := fun cells hc => by
    have := fill_seq (sz := T.size) css 0 [] cells.toList hv (by simp) (by simp [hc, hl, hn]) ps hps
    simpa using this
  have hsize : (sizeOf e).run P w = .ok T.size w := by simp [sizeOf, typeInfo, h1, h3]
  have hrun : (Instr.buildSlice t n ps.toArray).run P w = .ok (.slice (some ⟨w.heap.size, 0, none⟩) n n) (w.alloc (.cells css.flatten.toArray e (0, 0))) := by
    have hbig' : ¬ (16777216 < n * T.size) := by omega
    simp only [Instr.buildSlice, Sem.run_bind, underlying, run_program, Result.andThen_ok, hu, hsize, Sem.run_pure]
    by_cases h0 : n * T.size = 0
    · simp [h0, hfill, newRow]
    · simp [h0, hbig', hfill, newRow, zeroValue, typeInfo, h1, h2]
  have hex : (execOp (ev l) (⟨dst, .buildSlice t n parts, ty, pos, after, g⟩ : Oper)).run P w = .ok (.value (.slice (some ⟨w.heap.size, 0, none⟩) n n)) (w.alloc (.cells css.flatten.toArray e (0, 0))) := by
    simp only [execOp, hp, Sem.run_bind, hrun, Result.andThen_ok]
    rfl
  rw [hex]
  refine ⟨R, _, RH.le.refl _, holds_alloc' hh _, rfl, hn.symm, _, rfl, ?_⟩
  have := orep_of_seq (b := w.heap.size) (rest := []) (bt := e) (cap := n) hseq (by omega) (by rw [List.append_nil, hlen, hn]; exact Nat.le_refl _) (by simp)
  rw [List.append_nil, hn] at this
  exact this

theorem nextcap_ok {need cap bytes : Nat} (h : cap < need) (hb : need * bytes ≤ 140737488355328) : ¬ (281474976710656 < Builtin.nextslicecap need cap * bytes) := by
  have := growslice_fits h hb
  omega

theorem holds_drew {A : List Frag} {w : World} (h : Holds R A w) : Holds R A w.drew := ⟨h.ro, h.own, h.sep, h.os, h.out⟩
theorem zeroCells_ok {α : Type} {T : Ty α} {z : α} {zv : Value} (hz : T.rep R zv.cells.toList z) (n : Nat) : (∀ v ∈ (Builtin.zeroCells zv.cells n).toList, v.oneCell' = true) ∧ (Builtin.zeroCells zv.cells n).toList.length = n * T.size := by
  have hl := T.len hz
  have e : Builtin.zeroCells zv.cells n = madeCells zv.cells.toList.toArray (n * T.size) := by
    rw [Array.toArray_toList]
    simp only [Builtin.zeroCells, madeCells, ← hl, Array.length_toList]
  refine ⟨fun v hv => made_cell hz n v (by rw [e] at hv; exact hv), by rw [Array.length_toList, size_zeroCells, ← hl, Array.length_toList]⟩

section app
variable {α : Type} {T : Ty α} {z : α} {bytes : Nat} {t e : TypeId} {i : TypeInfo} {zv : Value} {w : World}
/-- append beyond the room: a new array. -/
theorem run_app_grow (ht : P.underlying t = some (.slice e)) (hi : P.info? e = some i) (hzv : i.zero = some zv) (hs : i.size = T.size) (hby : i.bytes = bytes)
    {s : Value} {base : Option Addr} {n cap : Nat} {olds : List Value} (hs0 : s = .slice base n cap) (hold : ∀ w', w'.heap = w.heap → (Builtin.firstCells T.size n s).run P w' = .ok olds.toArray w')
    {u : Value} {p : Option Addr} {m c : Nat} {news : List Value} (hu0 : u = .slice p m c) (hnew : ∀ w', w'.heap = w.heap → (Builtin.firstCells T.size m u).run P w' = .ok news.toArray w')
    (hg : cap < n + m) (h63 : n + m ≤ 9223372036854775807) (hfit : (n + m) * bytes ≤ 140737488355328) :
    (Builtin.append_ #[t, t] ty #[s, u]).run P w = .ok (.slice (some ⟨w.heap.size, 0, none⟩) (n + m) (grownCap w (n + m) cap e))
        (w.drew.alloc (.cells (olds.toArray ++ news.toArray ++ Builtin.zeroCells zv.cells (grownCap w (n + m) cap e - (n + m))) e)) := by
  subst hs0; subst hu0
  have hn : ¬ (n + m ≤ cap) := by omega
  have h63' : ¬ (9223372036854775807 < ((n : Int) + (m : Int))) := by omega
  have h48' : ¬ (281474976710656 < Builtin.nextslicecap (n + m) cap * i.bytes) := by rw [hby]; exact nextcap_ok hg hfit
  have hf := hnew w.drew rfl
  have hfo := hold w.drew rfl
  simp [Builtin.append_, run_underlying ht, sizeOf, typeInfo, zeroValue, hi, hzv, hs, Builtin.lenOf, hn, h63', h48', Question.forced, hf, hfo, newRow, grownCap]
  congr 2
  apply Array.ext'
  simp [List.append_assoc]
/-- append within the room: stored behind. -/
theorem run_app_room (ht : P.underlying t = some (.slice e)) (hi : P.info? e = some i) (hs : i.size = T.size)
    {b off n cap : Nat} {u : Value} {p : Option Addr} {m c : Nat} {news : List Value} (hu0 : u = .slice p m c) (hnew : (Builtin.firstCells T.size m u).run P w = .ok news.toArray w)
    (hg : n + m ≤ cap) {w' : World} (hst : (storeCells ⟨b, off + n * T.size, none⟩ news 0).run P w = .ok () w') :
    (Builtin.append_ #[t, t] ty #[.slice (some ⟨b, off, none⟩) n cap, u]).run P w = .ok (.slice (some ⟨b, off, none⟩) (n + m) cap) w' := by
  subst hu0
  simp [Builtin.append_, run_underlying ht, sizeOf, typeInfo, hi, hs, Builtin.lenOf, hg, hnew, addr_add, hst]
theorem run_app_nil0 (ht : P.underlying t = some (.slice e)) (hi : P.info? e = some i) (hs : i.size = T.size) {u : Value} {p : Option Addr} {c : Nat} (hu0 : u = .slice p 0 c) (hnew : (Builtin.firstCells T.size 0 u).run P w = .ok #[] w) :
    (Builtin.append_ #[t, t] ty #[.slice none 0 0, u]).run P w = .ok (.slice none 0 0) w := by
  subst hu0
  simp [Builtin.append_, run_underlying ht, sizeOf, typeInfo, hi, hs, Builtin.lenOf, hnew]
end app

theorem run_appop {t : TypeId} {x y : Operand} {v u r : Value} {w w' : World} (hx : ev l x = v) (hy : ev l y = u) (h : (Builtin.append_ #[t, t] ty #[v, u]).run P w = .ok r w') :
    (execOp (ev l) (⟨dst, .call ⟨.builtin .append, #[x, y], #[t, t]⟩, ty, pos, after, g⟩ : Oper)).run P w = .ok (.value r) w' := by
  have ha : (#[x, y] : Array Operand).map (ev l) = #[v, u] := by simp [hx, hy]
  simp only [execOp, resolve, ha, Sem.run_bind, Sem.run_pure, Result.andThen_ok, invoke, builtin, h]

/-- append onto an owned array. -/
theorem eff_append {α : Type} {T : Ty α} {z : α} {bytes : Nat} {t e : TypeId} {x y : Operand} {v u : Value} {X Y : List α} {i : Nat} {f : Frag}
    (hu : P.underlying t = some (.slice e)) (hz : ZeroOk P e T z bytes) (hx : ev l x = v) (hy : ev l y = u) (hO : O[i]? = some f) (hv : ORep T R f v X) (hu' : VRep (tSlice T) R u Y)
    (hb : (X.length + Y.length) * bytes ≤ 140737488355328) (hm : X.length + Y.length ≤ 9223372036854775807) :
    Eff P ρ ⟨dst, .call ⟨.builtin .append, #[x, y], #[t, t]⟩, ty, pos, after, g⟩ l R O (fun v' R' O' => R' = R ∧ ∃ f', O' = O.set i f' ∧ ORep T R f' v' (X ++ Y)) := by
  intro A w hh; rw [sem_plain (by intro c h; cases h)]
  obtain ⟨inf, zv, k1, k2, k3, k4, k5⟩ := hz.info
  obtain ⟨cy, p, n, rfl, hsy, hload⟩ := load_slice hu'
  have hilt : i < O.length := (List.getElem?_eq_some_iff.1 hO).1
  have hO' : (O ++ A)[i]? = some f := by rw [List.getElem?_append_left hilt]; exact hO
  have hcy : cy.length = Y.length * T.size := hsy.len
  have hnew : ∀ w', w'.heap = w.heap → (Builtin.firstCells T.size Y.length (.slice p Y.length n)).run P w' = .ok cy.toArray w' := fun w' hw' =>
    hload w' fun k o hk => by rw [hw']; exact hh.ro k o hk
  have grow : ∀ {base : Option Addr} {cap : Nat} {olds : List Value}, v = .slice base X.length cap → (∀ w', w'.heap = w.heap → (Builtin.firstCells T.size X.length v).run P w' = .ok olds.toArray w') → Seq T R olds X → cap < X.length + Y.length →
      Out P (fun v' w' => ∃ R' O', R.le R' ∧ Holds R' (O' ++ A) w' ∧ R' = R ∧ ∃ f', O' = O.set i f' ∧ ORep T R f' v' (X ++ Y)) ((execOp (ev l) (⟨dst, .call ⟨.builtin .append, #[x, y], #[t, t]⟩, ty, pos, after, g⟩ : Oper)).run P w) := by
    intro base cap olds hv0 hold hso hg
    rw [run_appop hx hy (run_app_grow (T := T) hu k1 k2 k3 k4 hv0 hold rfl hnew hg hm hb)]
    have hcap := grownCap_ge w (X.length + Y.length) cap e
    obtain ⟨hzc, hzl⟩ := zeroCells_ok (k5 R) (grownCap w (X.length + Y.length) cap e - (X.length + Y.length))
    have hal := holds_alloc (holds_drew hh) (.cells ((olds ++ cy) ++ (Builtin.zeroCells zv.cells (grownCap w (X.length + Y.length) cap e - (X.length + Y.length))).toList).toArray e (0, 0))
    have hor := orep_of_seq (b := w.heap.size) (bt := e) (cap := grownCap w (X.length + Y.length) cap e) (hso.append hsy) (rest := (Builtin.zeroCells zv.cells (grownCap w (X.length + Y.length) cap e - (X.length + Y.length))).toList)
      (by rw [List.length_append]; exact hcap) (by rw [List.length_append, List.length_append, hso.len, hcy, hzl, ← Nat.add_mul, ← Nat.add_mul]; exact Nat.mul_le_mul_right _ (by omega)) hzc
    refine ⟨R, O.set i _, RH.le.refl _, ?_, rfl, _, rfl, by rw [List.length_append] at hor; exact hor⟩
    -- the elder block is dropped
    have h1 : Holds R (single w.heap.size (.cells ((olds ++ cy) ++ (Builtin.zeroCells zv.cells (grownCap w (X.length + Y.length) cap e - (X.length + Y.length))).toList).toArray e (0, 0)) :: (O ++ A)) (w.drew.alloc (.cells (olds.toArray ++ cy.toArray ++ Builtin.zeroCells zv.cells (grownCap w (X.length + Y.length) cap e - (X.length + Y.length))) e (0, 0))) := by
      have e1 : (olds.toArray ++ cy.toArray ++ Builtin.zeroCells zv.cells (grownCap w (X.length + Y.length) cap e - (X.length + Y.length))) = ((olds ++ cy) ++ (Builtin.zeroCells zv.cells (grownCap w (X.length + Y.length) cap e - (X.length + Y.length))).toList).toArray := by
        apply Array.ext'; simp
      rw [e1]
      exact hal
    have hp1 : (single w.heap.size (.cells ((olds ++ cy) ++ (Builtin.zeroCells zv.cells (grownCap w (X.length + Y.length) cap e - (X.length + Y.length))).toList).toArray e (0, 0)) :: (O ++ A)).Perm
        (f :: (O.set i (box w.heap.size ((olds ++ cy) ++ (Builtin.zeroCells zv.cells (grownCap w (X.length + Y.length) cap e - (X.length + Y.length))).toList) e) ++ A)) := by
      have q1 := (perm_erase O i f hO).append_right A
      have q2 := (perm_erase (O.set i (box w.heap.size ((olds ++ cy) ++ (Builtin.zeroCells zv.cells (grownCap w (X.length + Y.length) cap e - (X.length + Y.length))).toList) e)) i _ (by rw [List.getElem?_set_self hilt])).append_right A
      rw [List.eraseIdx_set_eq] at q2
      exact (q1.cons _).trans ((List.Perm.swap f _ _).trans (q2.symm.cons f))
    exact holds_drop (holds_perm h1 hp1)
  rcases hv with ⟨rfl, rfl, rfl⟩ | ⟨b, pre, cs, cap, bt, rfl, rfl, hc, hcl, hcc, hel⟩
  · -- onto nil
    by_cases hY : Y = []
    · subst hY
      have h0 := hnew w rfl
      have : cy = [] := List.length_eq_zero_iff.1 (by simpa using hcy)
      subst this
      rw [run_appop hx hy (run_app_nil0 hu k1 k3 rfl h0)]
      refine ⟨R, O, RH.le.refl _, hh, rfl, emp, ?_, .inl ⟨rfl, rfl, rfl⟩⟩
      apply List.ext_getElem?
      intro j
      rw [List.getElem?_set]
      split
      · rename_i e; subst e; exact hO
      · rfl
    · have hpos : 0 < Y.length := List.length_pos_iff.2 hY
      exact grow (base := none) (cap := 0) (olds := []) rfl (fun w' _ => rfl) Seq.nil (by simpa using hpos)
  · have hblk : w.heap[b]? = some (.cells (pre ++ cs).toArray bt (0, 0)) := holds_at hh hO' (single_same _ _)
    by_cases hroom : X.length + Y.length ≤ cap
    · have hle0 : X.length * T.size + cy.length ≤ cs.length := by
        rw [hcy, ← Nat.add_mul]; exact Nat.le_trans (Nat.mul_le_mul_right _ hroom) hcl
      have hle : pre.length + X.length * T.size + 0 + cy.length ≤ (pre ++ cs).length := by rw [List.length_append]; omega
      obtain ⟨w', h2, h3, h4, h5, h6⟩ := run_storeCells (P := P) cy (pre ++ cs) (pre.length + X.length * T.size) 0 w hblk hle hsy.cell
      rw [run_appop hx hy (run_app_room (T := T) hu k1 k3 rfl (hnew w rfl) hroom h2)]
      have hset := holds_set hh hO' h3 h4 h5 h6
      rw [List.set_append_left _ _ hilt] at hset
      refine ⟨R, _, RH.le.refl _, hset, rfl, _, rfl, ?_⟩
      have hsx := Seq.of_at hel
      have e1 : over (pre ++ cs) (pre.length + X.length * T.size + 0) cy = pre ++ ((cs.take (X.length * T.size) ++ cy) ++ cs.drop (X.length * T.size + cy.length)) := by
        rw [Nat.add_zero, over_pre]; simp [over]
      have hor := orep_pre (pre := pre) (b := b) (bt := bt) (cap := cap) (hsx.append hsy) (rest := cs.drop (X.length * T.size + cy.length)) (by rw [List.length_append]; exact hroom)
        (by simp only [List.length_append, List.length_take, List.length_drop]; omega) (fun v hv => hcc v (List.mem_append.2 (.inr (List.mem_of_mem_drop hv)))) (fun v hv => hcc v (List.mem_append.2 (.inl hv)))
      rw [← e1, List.length_append] at hor
      exact hor
    · refine grow (base := some ⟨b, pre.length, none⟩) (cap := cap) (olds := cs.take (X.length * T.size)) rfl (fun w' hw' => ?_) (Seq.of_at hel) (by omega)
      simp only [Builtin.firstCells]
      have hb' : w'.heap[b]? = some (.cells (pre ++ cs).toArray bt (0, 0)) := by rw [hw']; exact hblk
      rw [run_loadCells hb' (by rw [List.size_toArray, List.length_append]; exact Nat.add_le_add_left (Nat.le_trans (Nat.mul_le_mul_right _ hc) hcl) _)]
      have := cellsAt_pre (pre := pre) (cs := cs) (o := 0) (k := X.length * T.size)
      rw [Nat.add_zero] at this
      rw [this]; simp [cellsAt]
end arr
end GV
end Go.Proofs.Ytncblcdhmcmkmaa
