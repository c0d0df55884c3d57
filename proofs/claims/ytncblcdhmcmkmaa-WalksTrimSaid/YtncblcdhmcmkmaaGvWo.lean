/- The laws in the form in which a printed walk uses them. -/
import Derived.Test.YtncblcdhmcmkmaaGvIter
namespace Go.Proofs.Ytncblcdhmcmkmaa
namespace GV
open Go.IntWalk
set_option linter.unusedVariables false
set_option linter.unusedSectionVars false

section wo
variable {P : Program} {ρ : Option Nat} {n : Nat} {Q : Po} {l : Nat → Value} {D : List Nat} {R : RH} {O : List Frag} {ops : Array Oper} {rest : List Oper} {ty : TypeId} {pos : String} {after : Array Edge} {d : Nat}

theorem wo_eff1 {op : Op} {φ : Value → RH → List Frag → Prop} (hd : Nat.blt d n = true) (h : Eff P ρ ⟨some d, op, ty, pos, after, none⟩ l R O φ)
    (hk : ∀ v R' O', RH.le R R' → φ v R' O' → wo P ρ n ops Q rest (upd l d v) D R' O') : wo P ρ n ops Q (⟨some d, op, ty, pos, after, none⟩ :: rest) l D R O :=
  wo_eff rfl (fun t ht => by cases ht; simpa using hd) h hk
theorem wo_eff0 {op : Op} {φ : Value → RH → List Frag → Prop} (h : Eff P ρ ⟨none, op, ty, pos, after, none⟩ l R O φ)
    (hk : ∀ v R' O', RH.le R R' → φ v R' O' → wo P ρ n ops Q rest l D R' O') : wo P ρ n ops Q (⟨none, op, ty, pos, after, none⟩ :: rest) l D R O :=
  wo_eff rfl (fun t ht => by cases ht) h hk
theorem wo_v {op : Op} {v : Value} (hd : Nat.blt d n = true) (h : Val P ρ ⟨some d, op, ty, pos, after, none⟩ l R O v) (hk : wo P ρ n ops Q rest (upd l d v) D R O) : wo P ρ n ops Q (⟨some d, op, ty, pos, after, none⟩ :: rest) l D R O :=
  wo_val rfl rfl hd h hk

theorem wo_loadR {α : Type} {T : Ty α} {t : TypeId} {x : Operand} {v : Value} {y : α} (hd : Nat.blt d n = true) (ht : TyOk P t T) (hx : ev l x = v) (hp : PRep T R v y) (hk : ∀ u, VRep T R u y → wo P ρ n ops Q rest (upd l d u) D R O) :
    wo P ρ n ops Q (⟨some d, .load t x, ty, pos, after, none⟩ :: rest) l D R O :=
  let ⟨u, hu, hv⟩ := val_loadR (ρ := ρ) (O := O) ht hx hp
  wo_v hd (hv _ _ _ _ _) (hk u hu)
theorem wo_fieldR {α β : Type} {A : Ty α} {B : Ty β} {s : TypeId} {x : Operand} {f o : Nat} {v : Value} {y : α} {pr : α → β} (hd : Nat.blt d n = true) (hf : FieldOk P s f o) (hpart : Part A o B pr) (hx : ev l x = v) (hp : PRep A R v y)
    (hk : ∀ u, PRep B R u (pr y) → wo P ρ n ops Q rest (upd l d u) D R O) : wo P ρ n ops Q (⟨some d, .fieldAddr s x f, ty, pos, after, none⟩ :: rest) l D R O :=
  let ⟨u, hu, hv⟩ := val_fieldR (ρ := ρ) (O := O) hf hpart hx hp
  wo_v hd (hv _ _ _ _ _) (hk u hu)
theorem getD_some {α : Type} [Inhabited α] {X : List α} {i : Nat} (h : i < X.length) : X[i]? = some (X.getD i default) := by
  rw [List.getD_eq_getElem?_getD, List.getElem?_eq_getElem h]; rfl
theorem wo_indexR {α : Type} [Inhabited α] {T : Ty α} {t e : TypeId} {x ix : Operand} {v : Value} {X : List α} {k : IntKind} {i : Nat} (hd : Nat.blt d n = true) (ht : SlOk P t e T) (hx : ev l x = v) (hr : VRep (tSlice T) R v X)
    (hi : ev l ix = .int k i) (hy : i < X.length) (hk : ∀ u, PRep T R u (X.getD i default) → wo P ρ n ops Q rest (upd l d u) D R O) : wo P ρ n ops Q (⟨some d, .indexAddr t x ix, ty, pos, after, none⟩ :: rest) l D R O :=
  let ⟨u, hu, hv⟩ := val_indexR (ρ := ρ) (O := O) ht hx hr hi (getD_some hy)
  wo_v hd (hv _ _ _ _ _) (hk u hu)
/-- The element's place in an owned array is kept as 'its slice and the index'. -/
def OPtr {α : Type} (T : Ty α) (v : Value) (X : List α) (u : Value) (i : Nat) : Prop := ∃ b off, v = .slice (some ⟨b, off, none⟩) X.length (capOf v) ∧ u = .pointer (some ⟨b, off + i * T.size, none⟩)
theorem wo_indexO {α : Type} {T : Ty α} {t e : TypeId} {x ix : Operand} {v : Value} {X : List α} {k : IntKind} {i : Nat} {f : Frag} (hd : Nat.blt d n = true) (ht : SlOk P t e T) (hx : ev l x = v) (hr : ORep T R f v X)
    (hi : ev l ix = .int k i) (hy : i < X.length) (hk : ∀ u, OPtr T v X u i → wo P ρ n ops Q rest (upd l d u) D R O) : wo P ρ n ops Q (⟨some d, .indexAddr t x ix, ty, pos, after, none⟩ :: rest) l D R O :=
  let ⟨b, off, h1, hv⟩ := val_indexO (ρ := ρ) (O := O) ht hx hr hi hy
  wo_v hd (hv _ _ _ _ _) (hk _ ⟨b, off, h1, rfl⟩)
theorem wo_loadO {α : Type} [Inhabited α] {T : Ty α} {t : TypeId} {x : Operand} {f : Frag} {v u : Value} {X : List α} {i j : Nat} (hd : Nat.blt d n = true) (ht : TyOk P t T) (hv : ORep T R f v X) (hO : O[j]? = some f) (hx : ev l x = u) (hp : OPtr T v X u i) (hy : i < X.length)
    (hk : ∀ y, VRep T R y (X.getD i default) → wo P ρ n ops Q rest (upd l d y) D R O) : wo P ρ n ops Q (⟨some d, .load t x, ty, pos, after, none⟩ :: rest) l D R O := by
  obtain ⟨b, off, h1, rfl⟩ := hp
  obtain ⟨y, hy', hl⟩ := val_loadO (ρ := ρ) (P := P) ht hv h1 hO hx (getD_some hy)
  exact wo_v hd (hl _ _ _ _ _) (hk y hy')
theorem wo_storeO {α : Type} {T : Ty α} {t : TypeId} {x y : Operand} {f : Frag} {v u w : Value} {X : List α} {i j : Nat} {z : α} (ht : TyOk P t T) (hv : ORep T R f v X) (hO : O[j]? = some f) (hx : ev l x = u) (hp : OPtr T v X u i) (hi : i < X.length)
    (hy : ev l y = w) (hz : VRep T R w z) (hk : ∀ f', ORep T R f' v (X.set i z) → wo P ρ n ops Q rest l D R (O.set j f')) : wo P ρ n ops Q (⟨none, .store t x y, ty, pos, after, none⟩ :: rest) l D R O := by
  obtain ⟨b, off, h1, rfl⟩ := hp
  refine wo_eff0 (eff_storeO ht hv h1 hO hx hi hy hz) ?_
  rintro v' R' O' _ ⟨_, rfl, f', rfl, h⟩
  exact hk f' h
theorem wo_alloc {e : TypeId} {zs : List Value} (hd : Nat.blt d n = true) (hz : ∀ w, ∃ z, (zeroValue e).run P w = .ok z w ∧ z.cells = zs.toArray) (hk : ∀ b, wo P ρ n ops Q rest (upd l d (.pointer (some ⟨b, 0, none⟩))) D R (box b zs e :: O)) :
    wo P ρ n ops Q (⟨some d, .alloc e, ty, pos, after, none⟩ :: rest) l D R O :=
  wo_eff1 hd (eff_alloc hz) fun v R' O' _ ⟨hR, b, hv, hO⟩ => by subst hR; subst hv; subst hO; exact hk b
theorem wo_box {e : TypeId} {x : Operand} {v : Value} {cs : List Value} (hd : Nat.blt d n = true) (hx : ev l x = v) (hv : v.cells = cs.toArray) (hk : ∀ b, wo P ρ n ops Q rest (upd l d (.pointer (some ⟨b, 0, none⟩))) D R (box b cs e :: O)) :
    wo P ρ n ops Q (⟨some d, .box e x, ty, pos, after, none⟩ :: rest) l D R O :=
  wo_eff1 hd (eff_box hx hv) fun v R' O' _ ⟨hR, b, hv, hO⟩ => by subst hR; subst hv; subst hO; exact hk b
theorem wo_boxR {α : Type} {T : Ty α} {e : TypeId} {x : Operand} {v : Value} {y : α} (hd : Nat.blt d n = true) (hx : ev l x = v) (hr : VRep T R v y) (hk : ∀ u R', RH.le R R' → PRep T R' u y → wo P ρ n ops Q rest (upd l d u) D R' O) :
    wo P ρ n ops Q (⟨some d, .box e x, ty, pos, after, none⟩ :: rest) l D R O :=
  wo_eff1 hd (eff_boxR hx hr) fun u R' O' hle ⟨hO, hp⟩ => by subst hO; exact hk u R' hle hp
theorem wo_store {t : TypeId} {x y : Operand} {b off i k : Nat} {cs vs : List Value} {bt : TypeId} {v : Value} (hs : ∀ w, (sizeOf t).run P w = .ok k w) (hx : ev l x = .pointer (some ⟨b, off, none⟩)) (hy : ev l y = v)
    (hv : v.cells = vs.toArray) (hn : vs.length = k) (hO : O[i]? = some (box b cs bt)) (hl : Nat.ble (off + vs.length) cs.length = true) (h1 : ∀ v ∈ vs, v.oneCell' = true) (hk : wo P ρ n ops Q rest l D R (O.set i (box b (over cs off vs) bt))) :
    wo P ρ n ops Q (⟨none, .store t x y, ty, pos, after, none⟩ :: rest) l D R O :=
  wo_eff0 (eff_store hs hx hy hv hn hO (by simpa using hl) h1) fun v R' O' _ ⟨_, hR, hO⟩ => by subst hR; subst hO; exact hk
theorem wo_make {α : Type} {T : Ty α} {z : α} {t e : TypeId} {bytes : Nat} {x y : Operand} {m c : Nat} {k k' : IntKind} (hd : Nat.blt d n = true) (hu : P.underlying t = some (.slice e)) (hz : ZeroOk P e T z bytes) (hx : ev l x = .int k m) (hy : ev l y = .int k' c)
    (hnc : m ≤ c) (hb : bytes * c ≤ 281474976710656) (hc : c ≤ 9223372036854775807) (hk : ∀ v f, capOf v = c → ORep T R f v (List.replicate m z) → wo P ρ n ops Q rest (upd l d v) D R (f :: O)) :
    wo P ρ n ops Q (⟨some d, .makeSlice t x y, ty, pos, after, none⟩ :: rest) l D R O :=
  wo_eff1 hd (eff_make hu hz hx hy hnc hb hc) fun v R' O' _ ⟨hR, hcap, f, hO, h⟩ => by subst hR; subst hO; exact hk v f hcap h
theorem wo_lit {α : Type} {T : Ty α} {t e : TypeId} {z : α} {bytes m : Nat} {parts : List (Nat × Operand)} {ps : List (Nat × Value)} {css : List (List Value)} {X : List α} (hd : Nat.blt d n = true) (hu : P.underlying t = some (.slice e)) (hz : ZeroOk P e T z bytes)
    (hp : (parts.map fun x => (x.1, ev l x.2)) = ps) (hps : ps.map (fun p => (p.1, p.2.cells)) = css.zipIdx.map (fun x => (x.2, x.1.toArray))) (hX : ∀ (i : Nat) (c : List Value) (x : α), css[i]? = some c → X[i]? = some x → T.rep R c x)
    (hl : css.length = X.length) (hn : X.length = m) (hbig : m * T.size ≤ 16777216) (hk : ∀ v f, capOf v = X.length → ORep T R f v X → wo P ρ n ops Q rest (upd l d v) D R (f :: O)) :
    wo P ρ n ops Q (⟨some d, .buildSlice t m parts.toArray, ty, pos, after, none⟩ :: rest) l D R O :=
  wo_eff1 hd (eff_buildSlice hu hz (by rw [List.map_toArray]; exact congrArg List.toArray hp) hps hX hl hn hbig) fun v R' O' _ ⟨hR, hcap, f, hO, h⟩ => by subst hR; subst hO; exact hk v f hcap h
theorem wo_append {α : Type} {T : Ty α} {z : α} {bytes : Nat} {t e : TypeId} {x y : Operand} {v u : Value} {X Y : List α} {i : Nat} {f : Frag} (hd : Nat.blt d n = true)
    (hu : P.underlying t = some (.slice e)) (hz : ZeroOk P e T z bytes) (hx : ev l x = v) (hy : ev l y = u) (hO : O[i]? = some f) (hv : ORep T R f v X) (hu' : VRep (tSlice T) R u Y)
    (hb : (X.length + Y.length) * bytes ≤ 140737488355328) (hm : X.length + Y.length ≤ 9223372036854775807) (hk : ∀ v' f', ORep T R f' v' (X ++ Y) → wo P ρ n ops Q rest (upd l d v') D R (O.set i f')) :
    wo P ρ n ops Q (⟨some d, .call ⟨.builtin .append, #[x, y], #[t, t]⟩, ty, pos, after, none⟩ :: rest) l D R O :=
  wo_eff1 hd (eff_append hu hz hx hy hO hv hu' hb hm) fun v' R' O' _ ⟨hR, f', hO', h⟩ => by subst hR; subst hO'; exact hk v' f' h
theorem args_arr {args : List Operand} {vs : List Value} (ha : args.map (ev l) = vs) : args.toArray.map (ev l) = vs.toArray := by rw [List.map_toArray, ha]
theorem wo_callP {f : FuncId} {args : List Operand} {at' : Array TypeId} {vs : List Value} {post : Value → RH → Prop} (hd : Nat.blt d n = true) (he : Enters P f) (ha : args.map (ev l) = vs) (h : CallP P f vs.toArray R post)
    (hk : ∀ v R', RH.le R R' → post v R' → wo P ρ n ops Q rest (upd l d v) D R' O) : wo P ρ n ops Q (⟨some d, .call ⟨.value (.func f), args.toArray, at'⟩, ty, pos, after, none⟩ :: rest) l D R O :=
  wo_eff1 hd (eff_callP he rfl (args_arr ha) (by simp) h) fun v R' O' hle ⟨hO, hp⟩ => by subst hO; exact hk v R' hle hp
theorem wo_callV {c : Operand} {args : List Operand} {at' : Array TypeId} {fv : Value} {vs : List Value} {Oc Or : List Frag} {post : Value → RH → List Frag → Prop} (hd : Nat.blt d n = true) (hc : ev l c = fv) (ha : args.map (ev l) = vs) (hp : O.Perm (Oc ++ Or)) (h : CallV P fv vs.toArray R Oc post)
    (hk : ∀ v R' Oc', RH.le R R' → post v R' Oc' → wo P ρ n ops Q rest (upd l d v) D R' (Oc' ++ Or)) : wo P ρ n ops Q (⟨some d, .call ⟨.value c, args.toArray, at'⟩, ty, pos, after, none⟩ :: rest) l D R O :=
  wo_eff1 hd (eff_callV hc (args_arr ha) hp h) fun v R' O' hle ⟨Oc', hO, hpo⟩ => by subst hO; exact hk v R' Oc' hle hpo
theorem wo_sliceR {α : Type} {T : Ty α} {t e : TypeId} {lo hi mx : Nat} {x : Operand} {xlo xhi xmx : Option Operand} {v : Value} {X : List α} (hd : Nat.blt d n = true) (ht : SlOk P t e T) (hx : ev l x = v) (hr : VRep (tSlice T) R v X)
    (hlo : xlo.map (ev l) = none ∧ lo = 0 ∨ ∃ k, xlo.map (ev l) = some (.int k lo)) (hhi : xhi.map (ev l) = none ∧ hi = X.length ∧ xmx = none ∨ ∃ k, xhi.map (ev l) = some (.int k hi))
    (hmx : xmx.map (ev l) = none ∧ mx = capOf v ∨ ∃ k, xmx.map (ev l) = some (.int k mx)) (h1 : lo ≤ hi) (h2 : hi ≤ X.length) (h3 : hi ≤ mx) (h4 : mx ≤ capOf v)
    {X' : List α} (hX : (X.drop lo).take (hi - lo) = X') (hk : ∀ u, VRep (tSlice T) R u X' → capOf u = mx - lo → wo P ρ n ops Q rest (upd l d u) D R O) : wo P ρ n ops Q (⟨some d, .slice t x xlo xhi xmx, ty, pos, after, none⟩ :: rest) l D R O := by
  obtain ⟨u, hu, hc, hv⟩ := val_sliceR (P := P) (ρ := ρ) (O := O) ht hx hr hlo hhi hmx h1 h2 h3 h4
  rw [hX] at hu
  exact wo_v hd (hv _ _ _ _ _) (hk u hu hc)
theorem capR {α : Type} {T : Ty α} {v : Value} {X : List α} (h : VRep (tSlice T) R v X) : X.length ≤ capOf v := by
  obtain ⟨p, n, rfl, hn, _⟩ := vrep_slice.1 h
  exact hn
theorem val_buildL {ρ : Option Nat} {dst : Option Tmp} {g : Option (Nat × Bool)} {t : TypeId} {parts : List (Nat × Operand)} {ps : List (Nat × Value)} {v : Value} (hp : (parts.map fun x => (x.1, ev l x.2)) = ps) (h : ∀ w, (Instr.build t ps.toArray).run P w = .ok v w) :
    Val P ρ ⟨dst, .build t parts.toArray, ty, pos, after, g⟩ l R O v := val_build (by rw [List.map_toArray]; exact congrArg List.toArray hp) h
theorem val_makeFuncL {ρ : Option Nat} {dst : Option Tmp} {g : Option (Nat × Bool)} {fn : Fn} {first captured : List Operand} {fs cs : List Value} (hf : first.map (ev l) = fs) (hc : captured.map (ev l) = cs) :
    Val P ρ ⟨dst, .makeFunc fn first.toArray captured.toArray, ty, pos, after, g⟩ l R O (.func fn fs.toArray cs.toArray) := val_makeFunc (args_arr hf) (args_arr hc)
def LitReps {α : Type} (T : Ty α) (R : RH) : List (List Value) → List α → Prop
  | [], [] => True
  | c :: cs, x :: xs => T.rep R c x ∧ LitReps T R cs xs
  | _, _ => False
theorem lit_reps {α : Type} {T : Ty α} : ∀ {css : List (List Value)} {X : List α}, LitReps T R css X → ∀ (i : Nat) (c : List Value) (x : α), css[i]? = some c → X[i]? = some x → T.rep R c x
  | [], [], _, i, c, x, h, _ => by simp at h
  | c :: cs, y :: ys, h, i, c', x, h1, h2 => by
    cases i with
    | zero => simp at h1 h2; subst h1; subst h2; exact h.1
    | succ i => exact lit_reps h.2 i c' x (by simpa using h1) (by simpa using h2)
theorem info_size {t k : Nat} (h : (P.info? t).map (·.size) = some k) : ∃ i, P.info? t = some i ∧ i.size = k := by
  cases e : P.info? t with
  | none => rw [e] at h; cases h
  | some i => rw [e] at h; exact ⟨i, rfl, by simpa using h⟩
theorem info_zero {e k b : Nat} {zv : Value} (h : (P.info? e).map (fun i => (i.zero, i.size, i.bytes)) = some (some zv, k, b)) : ∃ i u, P.info? e = some i ∧ i.zero = some u ∧ i.size = k ∧ i.bytes = b ∧ u = zv := by
  cases h' : P.info? e with
  | none => rw [h'] at h; cases h
  | some i => rw [h'] at h; simp at h; exact ⟨i, zv, rfl, h.1, h.2.1, h.2.2, rfl⟩
theorem run_cellA {w : World} {i b off k : Nat} {cs vs : List Value} {bt t : TypeId} (hh : Holds R O w) (hO : O[i]? = some (box b cs bt)) (hv : (cs.drop off).take k = vs) (ht : ∀ w, (isAgg t).run P w = .ok true w) (hs : ∀ w, (sizeOf t).run P w = .ok k w) (hn : vs.length = k) (hl : Nat.ble (off + k) cs.length = true) :
    (loadVar t ⟨b, off, none⟩).run P w = .ok (.agg vs.toArray) w := by
  have hblk : w.heap[b]? = some (.cells cs.toArray bt (0, 0)) := holds_at hh hO (single_same _ _)
  have hle : off + k ≤ cs.toArray.size := by simpa using hl
  simp [loadVar, ht, hs, run_loadCells hblk hle, cellsAt, hv]
end wo

/-! ### Loops -/
def mask (W : List Nat) (j l : Nat → Value) : Nat → Value := fun i => bif W.elem i then j i else l i
def Off (W : List Nat) (l l0 : Nat → Value) : Prop := ∀ i, W.elem i = false → l i = l0 i
theorem off_mask {W : List Nat} {j l : Nat → Value} : Off W (mask W j l) l := fun i h => by unfold mask; rw [h]; rfl
theorem off_upd {W : List Nat} {l l0 : Nat → Value} {d : Nat} {v : Value} (hd : W.elem d = true) (h : Off W l l0) : Off W (upd l d v) l0 := fun i hi => by
  have hne : Nat.beq i d = false := by
    cases e : Nat.beq i d
    · rfl
    · rw [Nat.eq_of_beq_eq_true e, hd] at hi; cases hi
  simp only [upd, hne, cond_false]
  exact h i hi
theorem off_setl {W : List Nat} {l l0 : Nat → Value} : ∀ {L : List (Nat × Value)}, (L.all fun p => W.elem p.1) = true → Off W l l0 → Off W (setl l L) l0
  | [], _, h => h
  | (d, v) :: r, hL, h => by
    simp only [List.all_cons, Bool.and_eq_true] at hL
    exact off_upd hL.1 (off_setl hL.2 h)
theorem off_self {W : List Nat} {l : Nat → Value} : Off W l l := fun _ _ => rfl
theorem off_trans {W : List Nat} {l l' l0 : Nat → Value} (h : Off W l l') (k : Off W l' l0) : Off W l l0 := fun i hi => (h i hi).trans (k i hi)
theorem off_sub {W W' : List Nat} {l l0 : Nat → Value} (hs : (W'.all fun x => W.elem x) = true) (h : Off W' l l0) : Off W l l0 := fun i hi => h i (by
  cases e : W'.elem i
  · rfl
  · have := List.all_eq_true.1 hs i (List.elem_iff.1 e)
    rw [hi] at this; cases this)
theorem mask_of_off {W : List Nat} {l l0 : Nat → Value} (h : Off W l l0) : l = mask W l l0 := by
  funext i
  unfold mask
  cases e : W.elem i
  · exact h i e
  · rfl
def AllS (l : Nat → Value) : List (Nat × Value) → Prop
  | [] => True
  | (d, v) :: r => l d = v ∧ AllS l r
theorem allS_mem {l : Nat → Value} : ∀ {L : List (Nat × Value)}, AllS l L → ∀ p ∈ L, l p.1 = p.2
  | [], _, p, hp => by cases hp
  | (d, v) :: r, h, p, hp => by
    rcases List.mem_cons.1 hp with rfl | hp
    · exact h.1
    · exact allS_mem h.2 p hp

theorem val_or {P : Program} {ρ : Option Nat} {l : Nat → Value} {R : RH} {O : List Frag} {dst : Option Tmp} {ty : TypeId} {pos : String} {after : Array Edge} {g : Option (Nat × Bool)} {c x y : Operand} {b b' : Bool} (hc : ev l c = .bool b) (hx : ev l x = .bool true) (hy : b = false → ev l y = .bool b') :
    Val P ρ ⟨dst, .pick c x y, ty, pos, after, g⟩ l R O (.bool (b || b')) := by
  cases b
  · exact val_pick hc (by rw [hy rfl]; rfl)
  · exact val_pick hc (by rw [hx]; rfl)
theorem val_and {P : Program} {ρ : Option Nat} {l : Nat → Value} {R : RH} {O : List Frag} {dst : Option Tmp} {ty : TypeId} {pos : String} {after : Array Edge} {g : Option (Nat × Bool)} {c x y : Operand} {b b' : Bool} (hc : ev l c = .bool b) (hx : b = true → ev l x = .bool b') (hy : ev l y = .bool false) :
    Val P ρ ⟨dst, .pick c x y, ty, pos, after, g⟩ l R O (.bool (b && b')) := by
  cases b
  · exact val_pick hc (by rw [hy]; rfl)
  · exact val_pick hc (by rw [hx rfl]; rfl)
theorem off_mask_sub {W W' : List Nat} {j l l0 : Nat → Value} (hs : (W'.all fun x => W.elem x) = true) (h : Off W l l0) : Off W (mask W' j l) l0 := off_trans (off_sub hs off_mask) h
theorem idx_nonneg {l : Nat → Value} {x : Operand} {k : IntKind} {t : Int} (h : ev l x = .int k t) (h0 : 0 ≤ t) : ev l x = .int k (t.toNat : Int) := by rw [h, Int.toNat_of_nonneg h0]
theorem wo_emp {P : Program} {ρ : Option Nat} {n : Nat} {Q : Po} {l : Nat → Value} {D : List Nat} {R : RH} {O : List Frag} {ops : Array Oper} {os : List Oper} (k : wo P ρ n ops Q os l D R (emp :: O)) : wo P ρ n ops Q os l D R O :=
  wo_conv (fun A w h => ⟨h.ro, fun f hf i o ho => by
      rcases List.mem_cons.1 hf with rfl | hf
      · cases ho
      · exact h.own f hf i o ho, List.pairwise_cons.2 ⟨fun f _ i => .inl rfl, h.sep⟩, h.os, h.out⟩) k
theorem wg_emp {P : Program} {ρ : Option Nat} {n : Nat} {Q : Po} {l : Nat → Value} {D : List Nat} {R : RH} {O : List Frag} {c : Code} (k : wg P ρ n c Q l D R (emp :: O)) : wg P ρ n c Q l D R O :=
  wg_conv (fun A w h => ⟨h.ro, fun f hf i o ho => by
      rcases List.mem_cons.1 hf with rfl | hf
      · cases ho
      · exact h.own f hf i o ho, List.pairwise_cons.2 ⟨fun f _ i => .inl rfl, h.sep⟩, h.os, h.out⟩) k
theorem orep_emp {α : Type} {T : Ty α} {R : RH} : ORep T R emp (.slice none 0 0) [] := .inl ⟨rfl, rfl, rfl⟩

section phis
variable {P : Program} {ρ : Option Nat} {l : Nat → Value} {R : RH} {O : List Frag} {dst : Option Tmp} {ty : TypeId} {pos : String} {after : Array Edge} {g : Option (Nat × Bool)}
theorem ph_val {o : Oper} {v : Value} (h : Val P ρ o l R O v) : Eff P ρ o l R O (fun v' R' O' => O' = O ∧ phX v v' R') := h.eff.mono fun v' R' O' _ ⟨a, _, c⟩ => ⟨c, a⟩
theorem ph_loadR {α : Type} {T : Ty α} {t : TypeId} {x : Operand} {v : Value} {y : α} (ht : TyOk P t T) (hx : ev l x = v) (hp : PRep T R v y) : Eff P ρ ⟨dst, .load t x, ty, pos, after, g⟩ l R O (fun v' R' O' => O' = O ∧ phR T y v' R') :=
  let ⟨u, hu, hv⟩ := val_loadR (ρ := ρ) (O := O) ht hx hp
  (hv dst ty pos after g).eff.mono fun v' R' O' _ ⟨a, b, c⟩ => by subst a; subst b; exact ⟨c, hu⟩
theorem ph_fieldR {α β : Type} {A : Ty α} {B : Ty β} {s : TypeId} {x : Operand} {f o : Nat} {v : Value} {y : α} {pr : α → β} (hf : FieldOk P s f o) (hpart : Part A o B pr) (hx : ev l x = v) (hp : PRep A R v y) :
    Eff P ρ ⟨dst, .fieldAddr s x f, ty, pos, after, g⟩ l R O (fun v' R' O' => O' = O ∧ phP B (pr y) v' R') :=
  let ⟨u, hu, hv⟩ := val_fieldR (ρ := ρ) (O := O) hf hpart hx hp
  (hv dst ty pos after g).eff.mono fun v' R' O' _ ⟨a, b, c⟩ => by subst a; subst b; exact ⟨c, hu⟩
theorem ph_indexR {α : Type} [Inhabited α] {T : Ty α} {t e : TypeId} {x ix : Operand} {v : Value} {X : List α} {k : IntKind} {i : Nat} (ht : SlOk P t e T) (hx : ev l x = v) (hr : VRep (tSlice T) R v X) (hi : ev l ix = .int k i) (hy : i < X.length) :
    Eff P ρ ⟨dst, .indexAddr t x ix, ty, pos, after, g⟩ l R O (fun v' R' O' => O' = O ∧ phP T (X.getD i default) v' R') :=
  let ⟨u, hu, hv⟩ := val_indexR (ρ := ρ) (O := O) ht hx hr hi (getD_some hy)
  (hv dst ty pos after g).eff.mono fun v' R' O' _ ⟨a, b, c⟩ => by subst a; subst b; exact ⟨c, hu⟩
theorem ph_callP {f : FuncId} {args : List Operand} {at' : Array TypeId} {vs : List Value} {post φ : Value → RH → Prop} (he : Enters P f) (ha : args.map (ev l) = vs) (h : CallP P f vs.toArray R post) (hp : ∀ v R', post v R' → φ v R') :
    Eff P ρ ⟨dst, .call ⟨.value (.func f), args.toArray, at'⟩, ty, pos, after, g⟩ l R O (fun v' R' O' => O' = O ∧ φ v' R') :=
  (eff_callP he rfl (args_arr ha) (by simp) h).mono fun v R' O' _ ⟨a, b⟩ => ⟨a, hp _ _ b⟩
/-- From data whose value is fixed by it. -/
theorem ph_exact {o : Oper} {α : Type} {T : Ty α} {x : α} {v0 : Value} (h : Eff P ρ o l R O (fun v' R' O' => O' = O ∧ phR T x v' R')) (hv : ∀ R v, VRep T R v x → v = v0) : Eff P ρ o l R O (fun v' R' O' => O' = O ∧ phX v0 v' R') :=
  h.mono fun v R' O' _ ⟨a, b⟩ => ⟨a, hv _ _ b⟩
theorem ph_sliceR {α : Type} {T : Ty α} {t e : TypeId} {lo hi mx : Nat} {x : Operand} {xlo xhi xmx : Option Operand} {v : Value} {X X' : List α} (ht : SlOk P t e T) (hx : ev l x = v) (hr : VRep (tSlice T) R v X)
    (hlo : xlo.map (ev l) = none ∧ lo = 0 ∨ ∃ k, xlo.map (ev l) = some (.int k lo)) (hhi : xhi.map (ev l) = none ∧ hi = X.length ∧ xmx = none ∨ ∃ k, xhi.map (ev l) = some (.int k hi))
    (hmx : xmx.map (ev l) = none ∧ mx = capOf v ∨ ∃ k, xmx.map (ev l) = some (.int k mx)) (h1 : lo ≤ hi) (h2 : hi ≤ X.length) (h3 : X.length ≤ capOf v → hi ≤ mx) (h4 : X.length ≤ capOf v → mx ≤ capOf v) (hX : (X.drop lo).take (hi - lo) = X') :
    Eff P ρ ⟨dst, .slice t x xlo xhi xmx, ty, pos, after, g⟩ l R O (fun v' R' O' => O' = O ∧ phR (tSlice T) X' v' R') := by
  obtain ⟨u, hu, hc, hv⟩ := val_sliceR (P := P) (ρ := ρ) (O := O) ht hx hr hlo hhi hmx h1 h2 (h3 (capR hr)) (h4 (capR hr))
  rw [hX] at hu
  exact (hv dst ty pos after g).eff.mono fun v' R' O' _ ⟨a, b, c⟩ => by subst a; subst b; exact ⟨c, hu⟩
theorem ph_indexO {α : Type} {T : Ty α} {t e : TypeId} {x ix : Operand} {v : Value} {X : List α} {k : IntKind} {i : Nat} {f : Frag} (ht : SlOk P t e T) (hx : ev l x = v) (hr : ORep T R f v X) (hi : ev l ix = .int k i) (hy : i < X.length) :
    Eff P ρ ⟨dst, .indexAddr t x ix, ty, pos, after, g⟩ l R O (fun v' R' O' => O' = O ∧ (fun u _ => OPtr T v X u i) v' R') :=
  let ⟨b, off, h1, hv⟩ := val_indexO (ρ := ρ) (O := O) ht hx hr hi hy
  (hv dst ty pos after g).eff.mono fun v' R' O' _ ⟨a, _, c⟩ => by subst a; exact ⟨c, b, off, h1, rfl⟩
theorem ph_loadO {α : Type} [Inhabited α] {T : Ty α} {t : TypeId} {x : Operand} {f : Frag} {v u : Value} {X : List α} {i j : Nat} (ht : TyOk P t T) (hv : ORep T R f v X) (hO : O[j]? = some f) (hx : ev l x = u) (hp : OPtr T v X u i) (hy : i < X.length) :
    Eff P ρ ⟨dst, .load t x, ty, pos, after, g⟩ l R O (fun v' R' O' => O' = O ∧ phR T (X.getD i default) v' R') := by
  obtain ⟨b, off, h1, rfl⟩ := hp
  obtain ⟨y, hy', hl⟩ := val_loadO (ρ := ρ) (P := P) ht hv h1 hO hx (getD_some hy)
  exact (hl dst ty pos after g).eff.mono fun v' R' O' _ ⟨a, b, c⟩ => by subst a; subst b; exact ⟨c, hy'⟩
theorem ph_rep {α : Type} {T : Ty α} {o : Oper} {v : Value} {X : α} (h : Val P ρ o l R O v) (hr : VRep T R v X) : Eff P ρ o l R O (fun v' R' O' => O' = O ∧ phR T X v' R') :=
  h.eff.mono fun v' R' O' _ ⟨a, b, c⟩ => by subst a; subst b; exact ⟨c, hr⟩
end phis
theorem val_field {P : Program} {ρ : Option Nat} {l : Nat → Value} {R : RH} {O : List Frag} {dst : Option Tmp} {ty : TypeId} {pos : String} {after : Array Edge} {g : Option (Nat × Bool)} {t : TypeId} {x : Operand} {f : Nat} {v u : Value} (hx : ev l x = v) (h : ∀ w, (Instr.field t v f).run P w = .ok u w) :
    Val P ρ ⟨dst, .field t x f, ty, pos, after, g⟩ l R O u := by
  intro A w _; rw [sem_plain (by intro c h; cases h)]
  simp only [execOp, hx, Sem.run_bind, h, Result.andThen_ok]; rfl
theorem Val.phi {P : Program} {ρ : Option Nat} {o : Oper} {l : Nat → Value} {R : RH} {O : List Frag} {v : Value} {φ : Value → RH → Prop} (h : Val P ρ o l R O v) (hp : φ v R) : Eff P ρ o l R O (fun v' R' O' => O' = O ∧ φ v' R') :=
  h.eff.mono fun v' R' O' _ ⟨a, b, c⟩ => by subst a; subst b; exact ⟨c, hp⟩
end GV
end Go.Proofs.Ytncblcdhmcmkmaa
