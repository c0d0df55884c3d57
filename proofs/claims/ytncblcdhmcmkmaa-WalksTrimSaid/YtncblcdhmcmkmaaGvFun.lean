/- Laws of the program logic: what is owned becomes what is only read; results; slice expressions; elements of an owned array. -/
import Derived.Test.YtncblcdhmcmkmaaGvArr
namespace Go.Proofs.Ytncblcdhmcmkmaa
namespace GV
open Go.IntWalk
set_option linter.unusedVariables false
set_option linter.unusedSectionVars false

section conv
variable {P : Program} {ρ : Option Nat} {n : Nat} {Q : Po} {l : Nat → Value} {D : List Nat} {R : RH} {O : List Frag} {ops : Array Oper} {os : List Oper} {c : Code}

/-- The same memory, said otherwise. -/
theorem wg_conv {R' : RH} {O' : List Frag} (h : ∀ A w, Holds R (O ++ A) w → Holds R' (O' ++ A) w) (k : wg P ρ n c Q l D R' O') : wg P ρ n c Q l D R O := fun a w hf hh => k a w hf (h _ w hh)
theorem wo_conv {R' : RH} {O' : List Frag} (h : ∀ A w, Holds R (O ++ A) w → Holds R' (O' ++ A) w) (k : wo P ρ n ops Q os l D R' O') : wo P ρ n ops Q os l D R O := fun a w hf hh => k a w hf (h _ w hh)
theorem conv_freeze {i : Nat} {f : Frag} (hi : O[i]? = some f) (A : List Frag) (w : World) (h : Holds R (O ++ A) w) : Holds (R.add f) (O.eraseIdx i ++ A) w :=
  holds_freeze (holds_perm h ((perm_erase O i f hi).append_right A))

theorem vrep_freeze {α : Type} {T : Ty α} {f : Frag} {v : Value} {X : List α} {A : List Frag} {w : World} (h : ORep T R f v X) (hh : Holds R (f :: A) w) : VRep (tSlice T) (R.add f) v X := by
  rcases h with ⟨rfl, rfl, rfl⟩ | ⟨b, pre, cs, cap, bt, rfl, rfl, hc, hcl, hcc, hel⟩
  · exact vrep_nil
  · refine vrep_slice.2 ⟨_, cap, rfl, hc, fun e => by (cases e), .inr ⟨b, pre.length, (pre ++ cs).toArray, bt, (0, 0), rfl, add_new (holds_fresh hh), fun i x hx => ?_⟩⟩
    rw [cellsAt_pre]
    exact T.mono (RH.le_add _ _) (by simpa [cellsAt] using hel i x hx)
theorem holds_focus {i : Nat} {f : Frag} {A : List Frag} {w : World} (hi : O[i]? = some f) (h : Holds R (O ++ A) w) : Holds R (f :: (O.eraseIdx i ++ A)) w :=
  holds_perm h ((perm_erase O i f hi).append_right A)
/-- An owned array is from now on only read. -/
theorem wg_freeze {α : Type} {T : Ty α} {i : Nat} {f : Frag} {v : Value} {X : List α} (hi : O[i]? = some f) (h : ORep T R f v X)
    (k : ∀ R', RH.le R R' → VRep (tSlice T) R' v X → wg P ρ n c Q l D R' (O.eraseIdx i)) : wg P ρ n c Q l D R O := fun a w hf hh =>
  k (R.add f) (RH.le_add _ _) (vrep_freeze h (holds_focus hi hh)) a w hf (conv_freeze hi _ w hh)
theorem wo_freeze {α : Type} {T : Ty α} {i : Nat} {f : Frag} {v : Value} {X : List α} (hi : O[i]? = some f) (h : ORep T R f v X)
    (k : ∀ R', RH.le R R' → VRep (tSlice T) R' v X → wo P ρ n ops Q os l D R' (O.eraseIdx i)) : wo P ρ n ops Q os l D R O := fun a w hf hh =>
  k (R.add f) (RH.le_add _ _) (vrep_freeze h (holds_focus hi hh)) a w hf (conv_freeze hi _ w hh)
theorem prep_box {α : Type} {T : Ty α} {b : Nat} {cs : List Value} {bt : TypeId} {fr : Nat × Nat} {x : α} (hb : R.blk b = some (.cells cs.toArray bt fr)) (h : T.rep R cs x) : PRep T R (.pointer (some ⟨b, 0, none⟩)) x :=
  ⟨b, 0, _, bt, fr, rfl, hb, by
    have : cellsAt cs.toArray 0 T.size = cs := by simp [cellsAt, ← T.len h]
    rw [this]; exact h⟩
/-- The frame's slots that matter: their values; all else is forgotten. -/
def setl (l : Nat → Value) : List (Nat × Value) → Nat → Value
  | [] => l
  | (d, v) :: r => upd (setl l r) d v
theorem setl_self {l : Nat → Value} : ∀ {L : List (Nat × Value)}, (∀ p ∈ L, l p.1 = p.2) → l = setl l L
  | [], _ => rfl
  | (d, v) :: r, h => by
    have h1 : l d = v := h (d, v) (List.mem_cons_self ..)
    have h2 := setl_self (l := l) (L := r) (fun p hp => h p (List.mem_cons_of_mem _ hp))
    show l = upd (setl l r) d v
    rw [← h2, ← h1, upd_self]

/-! ### Results -/
def ResVal (P : Program) (l : Nat → Value) (R : RH) (O : List Frag) : ResultVar → Value → Prop
  | .tmp t, v => l t = v
  | .cell a t, v => ∃ p, l a = .pointer (some p) ∧ ∀ w, Holds R O w → (loadVar t p).run P w = .ok v w
def resV : List Value → Value
  | [v] => v
  | vs => .tuple vs.toArray
def ResAll (P : Program) (l : Nat → Value) (R : RH) (O : List Frag) : List ResultVar → List Value → Prop
  | [], [] => True
  | r :: rs, v :: vs => ResVal P l R O r v ∧ ResAll P l R O rs vs
  | _, _ => False
def resOne (tmps : Array Value) : ResultVar → Sem Value
  | .tmp t => pure (tmps.getD t undef)
  | .cell a t => do loadVar t (← asAddr (tmps.getD a undef))
theorem results_eq (fn : Func) (tmps : Array Value) : results fn tmps = (do let vs ← fn.results.mapM (resOne tmps); pure (if h : vs.size = 1 then vs[0] else .tuple vs)) := rfl
theorem results_ok {fn : Func} {rs : List ResultVar} {vs : List Value} (hfn : fn.results = rs.toArray) (h : ResAll P l R O rs vs) :
    ∀ (tmps : Array Value), (∀ i, tmps.getD i undef = l i) → ∀ w, Holds R O w → (results fn tmps).run P w = .ok (resV vs) w := by
  intro tmps ht w hh
  have key : ∀ (rs : List ResultVar) (vs : List Value), ResAll P l R O rs vs → (rs.mapM (resOne tmps)).run P w = .ok vs w := by
    intro rs
    induction rs with
    | nil => intro vs h; cases vs with
      | nil => rfl
      | cons v vs => exact h.elim
    | cons r rs ih => intro vs h; cases vs with
      | nil => exact h.elim
      | cons v vs =>
        obtain ⟨h1, h2⟩ := h
        have hr : (resOne tmps r).run P w = .ok v w := by
          cases r with
          | tmp t => simp only [ResVal] at h1; rw [← ht t] at h1; simp only [resOne, Sem.run_pure, h1]
          | cell a t =>
            obtain ⟨p, hp, hl⟩ := h1
            rw [← ht a] at hp
            simp only [resOne, Sem.run_bind, hp, asAddr, Sem.run_pure, Result.andThen_ok, hl w hh]
        simp only [List.mapM_cons, Sem.run_bind, hr, Result.andThen_ok, ih vs h2, Sem.run_pure]
  rw [results_eq, hfn, Sem.run_bind, List.mapM_toArray, Sem.run_map, key rs vs h]
  simp only [Result.andThen_ok, Sem.run_pure]
  congr 1
  match vs with
  | [] => rfl
  | [v] => rfl
  | v :: u :: vs => simp [resV]
/-- A function's end. -/
theorem body_end {fn : Func} {R0 : RH} {A J : List Frag} {post : Value → RH → List Frag → Prop} {rs : List ResultVar} {vs : List Value} (hle : RH.le R0 R) (hO : O = J ++ A) (hfn : fn.results = rs.toArray) (h : ResAll P l R O rs vs)
    (hp : post (resV vs) R []) : bodyQ P fn R0 A post .ret l D R O := by
  refine ⟨resV vs, R, [], hle, fun w hh => ?_, hp, results_ok hfn h⟩
  subst hO
  exact ⟨hh.ro, fun f hf => hh.own f (List.mem_append.2 (.inr hf)), (List.pairwise_append.1 hh.sep).2.1, hh.os, hh.out⟩
theorem body_endG {fn : Func} {R0 : RH} {A J O' : List Frag} {post : Value → RH → List Frag → Prop} {rs : List ResultVar} {vs : List Value} (hle : RH.le R0 R) (hO : O.Perm (J ++ (O' ++ A))) (hfn : fn.results = rs.toArray) (h : ResAll P l R O rs vs)
    (hp : post (resV vs) R O') : bodyQ P fn R0 A post .ret l D R O := by
  refine ⟨resV vs, R, O', hle, fun w hh => ?_, hp, results_ok hfn h⟩
  have hh := holds_perm hh hO
  exact ⟨hh.ro, fun f hf => hh.own f (List.mem_append.2 (.inr hf)), (List.pairwise_append.1 hh.sep).2.1, hh.os, hh.out⟩
end conv

section slices
variable {P : Program} {ρ : Option Nat} {l : Nat → Value} {R : RH} {O : List Frag} {dst : Option Tmp} {ty : TypeId} {pos : String} {after : Array Edge} {g : Option (Nat × Bool)}

theorem run_sliceOp {t e : TypeId} {p : Option Addr} {n c sz lo hi mx : Nat} {x : Operand} {xlo xhi xmx : Option Operand} {w : World} (hu : P.underlying t = some (.slice e)) (hs : ∀ w, (sizeOf e).run P w = .ok sz w) (hx : ev l x = .slice p n c)
    (hlo : xlo.map (ev l) = none ∧ lo = 0 ∨ ∃ k, xlo.map (ev l) = some (.int k lo)) (hhi : xhi.map (ev l) = none ∧ hi = n ∧ xmx = none ∨ ∃ k, xhi.map (ev l) = some (.int k hi))
    (hmx : xmx.map (ev l) = none ∧ mx = c ∨ ∃ k, xmx.map (ev l) = some (.int k mx)) (h1 : lo ≤ hi) (h2 : hi ≤ mx) (h3 : mx ≤ c) (h4 : xmx = none → hi ≤ c) :
    (execOp (ev l) (⟨dst, .slice t x xlo xhi xmx, ty, pos, after, g⟩ : Oper)).run P w = .ok (.value (.slice (if mx = lo then p else p.map (·.add (lo * sz))) (hi - lo) (mx - lo))) w := by
  have hb : ∀ (k : IntKind) (m y : Nat) (code : BoundsCode), m ≤ y → (Instr.sliceBound (.int k (m : Int)) y code).run P w = .ok m w := fun k m y code h => by
    have : (0 : Int) ≤ (m : Int) ∧ (m : Int) ≤ (y : Int) := ⟨by omega, by omega⟩
    simp only [Instr.sliceBound, asIntOf, Sem.run_bind, Sem.run_pure, Result.andThen_ok, this, and_self, if_true, Int.toNat_natCast]
  have hbs : (Instr.sliceBounds true n c (xlo.map (ev l)) (xhi.map (ev l)) (xmx.map (ev l))).run P w = .ok (lo, hi, mx) w := by
    unfold Instr.sliceBounds
    rcases hmx with ⟨em, rfl⟩ | ⟨km, em⟩
    · rw [em]
      rcases hhi with ⟨eh, rfl, _⟩ | ⟨kh, eh⟩
      · rw [eh]
        rcases hlo with ⟨el, rfl⟩ | ⟨kl, el⟩
        · rw [el]; simp
        · rw [el]; simp [hb _ _ _ _ h1]
      · rw [eh]
        rcases hlo with ⟨el, rfl⟩ | ⟨kl, el⟩
        · rw [el]; simp [hb _ _ _ _ h2]
        · rw [el]; simp [hb _ _ _ _ h1, hb _ _ _ _ h2]
    · rw [em]
      rcases hhi with ⟨eh, rfl, en⟩ | ⟨kh, eh⟩
      · rw [en] at em; cases em
      · rw [eh]
        rcases hlo with ⟨el, rfl⟩ | ⟨kl, el⟩
        · rw [el]; simp [hb _ _ _ _ h2, hb _ _ _ _ h3]
        · rw [el]; simp [hb _ _ _ _ h1, hb _ _ _ _ h2, hb _ _ _ _ h3]
  simp only [execOp, hx, Instr.sliceAt, Instr.slice, Sem.run_bind, underlying, run_program, hu, Result.andThen_ok, Sem.run_pure, hbs, hs]
/-- 's[lo:hi:mx]' of a slice that is only read. -/
theorem val_sliceR {α : Type} {T : Ty α} {t e : TypeId} {lo hi mx : Nat} {x : Operand} {xlo xhi xmx : Option Operand} {v : Value} {X : List α} (ht : SlOk P t e T) (hx : ev l x = v) (hr : VRep (tSlice T) R v X)
    (hlo : xlo.map (ev l) = none ∧ lo = 0 ∨ ∃ k, xlo.map (ev l) = some (.int k lo)) (hhi : xhi.map (ev l) = none ∧ hi = X.length ∧ xmx = none ∨ ∃ k, xhi.map (ev l) = some (.int k hi))
    (hmx : xmx.map (ev l) = none ∧ mx = capOf v ∨ ∃ k, xmx.map (ev l) = some (.int k mx)) (h1 : lo ≤ hi) (h2 : hi ≤ X.length) (h3 : hi ≤ mx) (h4 : mx ≤ capOf v) :
    ∃ u, VRep (tSlice T) R u ((X.drop lo).take (hi - lo)) ∧ capOf u = mx - lo ∧ ∀ (dst : Option Tmp) (ty : TypeId) (pos : String) (after : Array Edge) (g : Option (Nat × Bool)), Val P ρ ⟨dst, .slice t x xlo xhi xmx, ty, pos, after, g⟩ l R O u := by
  obtain ⟨p, n, rfl, hn, hp, hs⟩ := vrep_slice.1 hr
  simp only [capOf] at *
  refine ⟨.slice (if mx = lo then p else p.map (·.add (lo * T.size))) (hi - lo) (mx - lo), ?_, rfl, fun dst ty pos after g A w hh => ?_⟩
  · have hlen : ((X.drop lo).take (hi - lo)).length = hi - lo := by simp; omega
    refine vrep_slice.2 ⟨_, mx - lo, by rw [hlen], by rw [hlen]; omega, fun e => ?_, ?_⟩
    · have : X = [] := by
        split at e
        · exact hp e
        · cases p with
          | none => exact hp rfl
          | some a => cases e
      subst this; simp
    · rcases hs with rfl | ⟨b, off, c, bt, fr, rfl, hb, hel⟩
      · left; simp
      · by_cases hm : mx = lo
        · left
          have : hi - lo = 0 := by omega
          rw [this, List.take_zero]
        · right
          refine ⟨b, off + lo * T.size, c, bt, fr, by rw [if_neg hm]; simp [addr_add], hb, fun i x hx => ?_⟩
          rw [List.getElem?_take] at hx
          split at hx
          · rw [List.getElem?_drop] at hx
            have := hel (lo + i) x hx
            rwa [Nat.add_mul, ← Nat.add_assoc] at this
          · cases hx
  · rw [sem_plain (by intro c h; cases h)]
    exact run_sliceOp ht.u ht.e.size hx hlo hhi hmx h1 h3 h4 (fun _ => by omega)

/-- An element read out of an owned array. -/
theorem val_loadO {α : Type} {T : Ty α} {t : TypeId} {x : Operand} {f : Frag} {v : Value} {X : List α} {i j b off : Nat} {y : α} (ht : TyOk P t T) (hv : ORep T R f v X) (hb : v = .slice (some ⟨b, off, none⟩) X.length (capOf v)) (hO : O[j]? = some f)
    (hx : ev l x = .pointer (some ⟨b, off + i * T.size, none⟩)) (hy : X[i]? = some y) :
    ∃ u, VRep T R u y ∧ ∀ (dst : Option Tmp) (ty : TypeId) (pos : String) (after : Array Edge) (g : Option (Nat × Bool)), Val P ρ ⟨dst, .load t x, ty, pos, after, g⟩ l R O u := by
  rcases hv with ⟨rfl, rfl, _⟩ | ⟨b', pre, cs, cap, bt, rfl, rfl, hc, hcl, hcc, hel⟩
  · simp at hy
  · simp only [capOf, Value.slice.injEq, Option.some.injEq, Addr.mk.injEq, and_true] at hb
    obtain ⟨rfl, rfl⟩ := hb
    have hr : T.rep R (cellsAt (pre ++ cs).toArray (pre.length + i * T.size) T.size) y := by rw [cellsAt_pre]; simpa [cellsAt] using hel i y hy
    refine ⟨T.mk' (cellsAt (pre ++ cs).toArray (pre.length + i * T.size) T.size), ⟨_, hr, rfl⟩, fun dst ty pos after g A w hh => ?_⟩
    rw [sem_plain (by intro c h; cases h)]
    have hblk : w.heap[b']? = some (.cells (pre ++ cs).toArray bt (0, 0)) := holds_at hh (i := j) (by rw [List.getElem?_append_left (by exact (List.getElem?_eq_some_iff.1 hO).1)]; exact hO) (single_same _ _)
    simp only [execOp, hx, Instr.loadAt, Instr.sureAddr, Sem.run_bind, Sem.run_pure, Result.andThen_ok, run_loadVar ht hblk (R := R) (x := y) hr]
/-- An element written in an owned array. -/
theorem eff_storeO {α : Type} {T : Ty α} {t : TypeId} {x y : Operand} {f : Frag} {v u : Value} {X : List α} {i j b off : Nat} {z : α} (ht : TyOk P t T) (hv : ORep T R f v X) (hb : v = .slice (some ⟨b, off, none⟩) X.length (capOf v)) (hO : O[j]? = some f)
    (hx : ev l x = .pointer (some ⟨b, off + i * T.size, none⟩)) (hi : i < X.length) (hy : ev l y = u) (hz : VRep T R u z) :
    Eff P ρ ⟨dst, .store t x y, ty, pos, after, g⟩ l R O (fun v' R' O' => v' = undef ∧ R' = R ∧ ∃ f', O' = O.set j f' ∧ ORep T R f' v (X.set i z)) := by
  rcases hv with ⟨rfl, rfl, _⟩ | ⟨b', pre, cs, cap, bt, rfl, rfl, hc, hcl, hcc, hel⟩
  · simp at hi
  · simp only [capOf, Value.slice.injEq, Option.some.injEq, Addr.mk.injEq, and_true] at hb
    obtain ⟨rfl, rfl⟩ := hb
    obtain ⟨vs, hvs, rfl⟩ := hz
    have hlen := T.len hvs
    have hroom : i * T.size + T.size ≤ cs.length := by
      have : (i + 1) * T.size ≤ cap * T.size := Nat.mul_le_mul_right _ (by omega)
      rw [Nat.add_mul, Nat.one_mul] at this
      omega
    refine (eff_store (dst := dst) (ty := ty) (pos := pos) (after := after) (g := g) ht.size hx hy (cells_mk hvs) hlen hO (by rw [List.length_append]; omega) (T.cell hvs)).mono ?_
    rintro v' R' O' _ ⟨rfl, rfl, rfl⟩
    refine ⟨rfl, rfl, _, rfl, .inr ⟨b', pre, over cs (i * T.size) vs, cap, bt, by rw [List.length_set], by rw [over_pre], by rw [List.length_set]; exact hc, ?_, ?_, fun k x hk => ?_⟩⟩
    · simp only [over, List.length_append, List.length_take, List.length_drop]; omega
    · intro v hv
      simp only [over, List.mem_append] at hv
      rcases hv with hv | (hv | hv) | hv
      · exact hcc v (List.mem_append.2 (.inl hv))
      · exact hcc v (List.mem_append.2 (.inr (List.mem_of_mem_take hv)))
      · exact T.cell hvs v hv
      · exact hcc v (List.mem_append.2 (.inr (List.mem_of_mem_drop hv)))
    · rw [List.getElem?_set] at hk
      by_cases hik : i = k
      · subst hik
        rw [if_pos rfl, if_pos hi] at hk
        cases hk
        have : ((over cs (i * T.size) vs).drop (i * T.size)).take T.size = vs := by
          unfold over
          rw [List.append_assoc, List.drop_append, List.drop_eq_nil_of_le (by rw [List.length_take]; exact Nat.min_le_left _ _), List.length_take, Nat.min_eq_left (by omega), Nat.sub_self, List.drop_zero, List.nil_append, ← hlen, List.take_left]
        rw [this]; exact hvs
      · rw [if_neg hik] at hk
        have h1 := hel k x hk
        have : ((over cs (i * T.size) vs).drop (k * T.size)).take T.size = (cs.drop (k * T.size)).take T.size := by
          apply List.ext_getElem?
          intro j
          rw [List.getElem?_take, List.getElem?_take]
          split
          · rename_i hj
            rw [List.getElem?_drop, List.getElem?_drop]
            unfold over
            have hne : k * T.size + j < i * T.size ∨ i * T.size + T.size ≤ k * T.size + j := by
              rcases Nat.lt_or_ge k i with hlt | hge
              · left
                have : (k + 1) * T.size ≤ i * T.size := Nat.mul_le_mul_right _ hlt
                rw [Nat.add_mul, Nat.one_mul] at this; omega
              · right
                have : (i + 1) * T.size ≤ k * T.size := Nat.mul_le_mul_right _ (by omega)
                rw [Nat.add_mul, Nat.one_mul] at this; omega
            rw [List.append_assoc, List.getElem?_append, List.length_take, Nat.min_eq_left (by omega)]
            rcases hne with hlt | hge
            · rw [if_pos hlt, List.getElem?_take, if_pos hlt]
            · rw [if_neg (by omega), List.getElem?_append, hlen, if_neg (by omega), List.getElem?_drop]
              congr 1; omega
          · rfl
        rw [this]; exact h1
end slices
end GV
end Go.Proofs.Ytncblcdhmcmkmaa
