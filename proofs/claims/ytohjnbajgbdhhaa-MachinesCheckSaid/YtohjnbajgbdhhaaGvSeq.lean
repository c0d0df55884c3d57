/- Iterators: what a function that yields is known to do; a range over one. -/
import Derived.Test.YtohjnbajgbdhhaaGvMid
namespace Go.Proofs.Ytohjnbajgbdhhaa
namespace GV
set_option linter.unusedVariables false
set_option linter.unusedSectionVars false

theorem orep_one {α : Type} {T : Ty α} {R : RH} {f : Frag} {v : Value} {X : List α} (h : ORep T R f v X) : v.oneCell' = true := by
  rcases h with ⟨rfl, _, _⟩ | ⟨b, pre, cs, cap, ty, rfl, _⟩ <;> rfl
theorem orep_cells {α : Type} {T : Ty α} {R : RH} {f : Frag} {v : Value} {X : List α} (h : ORep T R f v X) : v.cells = ([v] : List Value).toArray := by
  rcases h with ⟨rfl, _, _⟩ | ⟨b, pre, cs, cap, ty, rfl, _⟩ <;> rfl
theorem vrep_one {α : Type} {T : Ty α} {R : RH} {v : Value} {X : List α} (h : VRep (tSlice T) R v X) : v.oneCell' = true := by
  obtain ⟨p, n, rfl, _⟩ := vrep_slice.1 h; rfl
theorem vrep_cells {α : Type} {T : Ty α} {R : RH} {v : Value} {X : List α} (h : VRep (tSlice T) R v X) : v.cells = ([v] : List Value).toArray := by
  obtain ⟨p, n, rfl, _⟩ := vrep_slice.1 h; rfl
theorem prep_one {α : Type} {T : Ty α} {R : RH} {v : Value} {x : α} (h : PRep T R v x) : v.oneCell' = true := by
  obtain ⟨b, off, c, ty, fr, rfl, _⟩ := h; rfl
theorem one_nil : ∀ v ∈ ([] : List Value), v.oneCell' = true := fun _ h => by cases h
theorem one_cons {v : Value} {vs : List Value} (h : v.oneCell' = true) (k : ∀ u ∈ vs, u.oneCell' = true) : ∀ u ∈ v :: vs, u.oneCell' = true := fun u hu => by
  rcases List.mem_cons.1 hu with rfl | hu
  · exact h
  · exact k u hu
section eqb
variable {P : Program} {ρ : Option Nat} {l : Nat → Value} {R : RH} {O : List Frag} {dst : Option Tmp} {ty : TypeId} {pos : String} {after : Array Go.Edge} {g : Option (Nat × Bool)}
theorem val_eqlB {t t' : TypeId} {x y : Operand} {a b : Bool} (hu : P.underlying t = some .bool) (hx : ev l x = .bool a) (hy : ev l y = .bool b) : Val P ρ ⟨dst, .binOp .eql t x y t', ty, pos, after, g⟩ l R O (.bool (decide (a = b))) := by
  intro A w _; rw [sem_plain (by intro c h; cases h)]
  have hg : (eqGuard .eql t x y (.bool a) (.bool b)).run P w = .ok () w := by simp [eqGuard]
  simp only [execOp, hx, hy, Sem.run_bind, hg, Result.andThen_ok, run_eql_bool w t a b hu]
  cases a <;> cases b <;> rfl
theorem val_neqB {t t' : TypeId} {x y : Operand} {a b : Bool} (hu : P.underlying t = some .bool) (hx : ev l x = .bool a) (hy : ev l y = .bool b) : Val P ρ ⟨dst, .binOp .neq t x y t', ty, pos, after, g⟩ l R O (.bool (decide (a ≠ b))) := by
  intro A w _; rw [sem_plain (by intro c h; cases h)]
  have hg : (eqGuard .neq t x y (.bool a) (.bool b)).run P w = .ok () w := by simp [eqGuard]
  simp only [execOp, hx, hy, Sem.run_bind, hg, Result.andThen_ok, run_neq_bool w t a b hu]
  cases a <;> cases b <;> rfl
end eqb
theorem Eff.frz {P : Program} {ρ : Option Nat} {o : Oper} {l : Nat → Value} {R : RH} {O : List Frag} {α : Type} {T : Ty α} {X : List α} (h : Eff P ρ o l R O fun v R' O' => ∃ f, O' = f :: O ∧ ORep T R' f v X) : Eff P ρ o l R O fun v R' O' => O' = O ∧ phR (tSlice T) X v R' := by
  intro A w hh
  refine out_mono (h A w hh) ?_
  rintro v w' ⟨R', O', hle, hh', f, rfl, ho⟩
  exact ⟨R'.add f, O, hle.trans (RH.le_add _ _), holds_freeze hh', rfl, vrep_freeze ho hh'⟩
theorem ph_litR {P : Program} {ρ : Option Nat} {l : Nat → Value} {R : RH} {O : List Frag} {dst : Option Tmp} {ty : TypeId} {pos : String} {after : Array Go.Edge} {g : Option (Nat × Bool)} {α : Type} {T : Ty α} {t e : TypeId} {z : α} {bytes m : Nat}
    {parts : List (Nat × Operand)} {ps : List (Nat × Value)} {css : List (List Value)} {X : List α} (hu : P.underlying t = some (.slice e)) (hz : ZeroOk P e T z bytes)
    (hp : (parts.map fun x => (x.1, ev l x.2)) = ps) (hps : ps.map (fun p => (p.1, p.2.cells)) = css.zipIdx.map (fun x => (x.2, x.1.toArray))) (hX : ∀ (i : Nat) (c : List Value) (x : α), css[i]? = some c → X[i]? = some x → T.rep R c x)
    (hl : css.length = X.length) (hn : X.length = m) (hbig : m * T.size ≤ 16777216) : Eff P ρ ⟨dst, .buildSlice t m parts.toArray, ty, pos, after, g⟩ l R O fun v R' O' => O' = O ∧ phR (tSlice T) X v R' :=
  Eff.frz ((eff_buildSlice hu hz (by rw [List.map_toArray]; exact congrArg List.toArray hp) hps hX hl hn hbig).mono fun v R' O' _ ⟨hR, _, f, hO, h⟩ => by subst hR; exact ⟨f, hO, h⟩)
/-- What a call of a yield leaves behind. -/
def YieldPost (I E : RH → List Frag → Prop) (v : Value) (R : RH) (O : List Frag) : Prop := ∃ b, v = .bool b ∧ (b = true → I R O) ∧ (b = false → E R O)
/-- A function that yields N times, the k-th time what A tells, until it is told to stop. -/
def IterOk (P : Program) (f : FuncId) (cs : List Value) (R : RH) (N : Nat) (A : Nat → RH → List Value → Prop) : Prop :=
  ∀ (yv : Value) (I : Nat → RH → List Frag → Prop) (E : RH → List Frag → Prop) (R1 : RH) (O : List Frag), RH.le R R1 →
    (∀ k R2 R3 O2, RH.le R2 R3 → I k R2 O2 → I k R3 O2) → (∀ R2 R3 O2, RH.le R2 R3 → E R2 O2 → E R3 O2) → I 0 R1 O →
    (∀ k R2 O2 vs, k < N → RH.le R1 R2 → A k R2 vs → I k R2 O2 → CallV P yv vs.toArray R2 O2 (YieldPost (I (k + 1)) E)) →
    CallG P f (yv :: cs).toArray R1 O (fun v R' O' => I N R' O' ∨ E R' O')
def LoopOk (L : Loop) (n : Nat) (l : Nat → Value) (ps : List Nat) (assign body : Code) : Prop := FrT n l L.tmps ∧ L.params = ps.toArray ∧ L.assign = assign ∧ L.body = body
theorem wg_iter {P : Program} {n : Nat} {Q : Po} {l : Nat → Value} {D : List Nat} {R : RH} {O : List Frag} {gv : Operand} {ps : List Nat} {assign body : Code} {f : FuncId} {cs : List Value} {Oc Or : List Frag} {N : Nat} {A : Nat → RH → List Value → Prop}
    (I : Nat → RH → List Frag → Prop) (Ex : Code → RH → List Frag → Prop) (hg : ev l gv = .func (.func f) #[] cs.toArray) (he : Enters P f) (hit : IterOk P f cs R N A) (hp : O.Perm (Oc ++ Or)) (hpn : (ps.all fun p => Nat.blt p n) = true)
    (hlen : ∀ k R vs, A k R vs → vs.length = ps.length)
    (hmI : ∀ k R2 R3 O2, RH.le R2 R3 → I k R2 O2 → I k R3 O2) (hmE : ∀ c R2 R3 O2, RH.le R2 R3 → Ex c R2 O2 → Ex c R3 O2) (h0 : I 0 R Oc)
    (hround : ∀ k lb R1 vs Oc1, k < N → RH.le R R1 → A k R1 vs → I k R1 Oc1 → ∀ X, wg P (some lb) n assign (fun e l1 D1 R2 O1 => e = .normal ∧ D1 = [] ∧ RH.le R1 R2 ∧ ∃ Oa, O1.Perm (Oa ++ X) ∧
      ∀ X', wg P (some lb) n body (roundQ R1 X' (fun p R3 O3 => match p with | none => I (k + 1) R3 O3 | some c => Ex c R3 O3)) l1 [] R2 (Oa ++ X')) (setArgs (ps.zip vs) l) [] R1 (Oc1 ++ X))
    (hend : ∀ dd R1 Oc1, RH.le R R1 → I N R1 Oc1 → Q .normal l (dd :: D) R1 (Oc1 ++ Or))
    (hexit : ∀ c dd R1 Oc1, RH.le R R1 → Ex c R1 Oc1 → wg P none n c Q l (dd :: D) R1 (Oc1 ++ Or)) : wg P none n (.rangeFunc gv ps.toArray assign body) Q l D R O := by
  refine wg_rangeFunc (f := f) (fs := #[]) (cs := cs.toArray) hg he hp fun lb dd fn t hft => ?_
  have hargs : (#[] ++ #[Value.func (Fn.yield lb) #[] #[]] ++ cs.toArray : Array Value) = (Value.func (Fn.yield lb) #[] #[] :: cs).toArray := by simp
  rw [hargs]
  have hpn' : ∀ p ∈ ps, p < n := fun p hp => by simpa [Nat.blt_eq] using List.all_eq_true.1 hpn p hp
  refine CallG.mono (hit (.func (.yield lb) #[] #[])
    (fun k R' O' => RH.le R R' ∧ ∃ L Oc', O' = lfrag lb L :: Oc' ∧ LoopOk L n l ps assign body ∧ L.state = .ready ∧ L.pending = none ∧ I k R' Oc')
    (fun R' O' => RH.le R R' ∧ ∃ L Oc' c, O' = lfrag lb L :: Oc' ∧ L.state = .done ∧ L.pending = some c ∧ Ex c R' Oc') R _ (RH.le.refl _) ?_ ?_ ⟨RH.le.refl _, _, _, rfl, ⟨hft, rfl, rfl, rfl⟩, rfl, rfl, h0⟩ ?_) ?_
  · rintro k R2 R3 O2 hle ⟨h1, L, Oc', h2, h3, h4, h5, h6⟩
    exact ⟨h1.trans hle, L, Oc', h2, h3, h4, h5, hmI _ _ _ _ hle h6⟩
  · rintro R2 R3 O2 hle ⟨h1, L, Oc', c, h2, h3, h4, h5⟩
    exact ⟨h1.trans hle, L, Oc', c, h2, h3, h4, hmE _ _ _ _ hle h5⟩
  · rintro k R2 O2 vs hk hle hA ⟨h1, L, Oc', rfl, ⟨hfr, hps, has, hbd⟩, hst, hpe, hI⟩
    refine CallV.mono (callV_yield (n := n) (l := l) (ps := ps) (RP := fun p R3 O3 => RH.le R R3 ∧ (match p with | none => I (k + 1) R3 O3 | some c => Ex c R3 O3)) hst hps (hlen k R2 vs hA).symm hpn' hfr ?_) ?_
    · intro X
      have := hround k lb R2 vs Oc' hk h1 hA hI X
      rw [has, hbd]
      refine wg_mono this ?_
      rintro e l1 D1 R3 O1 ⟨he', hD, hle3, Oa, hpa, hb⟩
      refine ⟨he', hD, hle3, Oa, hpa, fun X' => wg_mono (hb X') ?_⟩
      intro e l2 D2 R4 O4 hq
      cases e with
      | normal => obtain ⟨a, b, O', c, d⟩ := hq; exact ⟨a, b, O', c, h1.trans b, d⟩
      | ret => obtain ⟨a, b, O', c, d⟩ := hq; exact ⟨a, b, O', c, h1.trans b, d⟩
      | exit id => obtain ⟨a, b, O', c, d⟩ := hq; exact ⟨a, b, O', c, h1.trans b, d⟩
      | goto _ => exact hq
      | panic _ => exact hq
      | outgrown => exact hq
    · rintro v R' O' hle2 ⟨pend, O'', rfl, rfl, hle3, hrp⟩
      refine ⟨pend.isNone, rfl, fun hb => ?_, fun hb => ?_⟩
      · cases pend with
        | none => exact ⟨hle3, _, _, rfl, ⟨hfr, hps, has, hbd⟩, rfl, rfl, hrp⟩
        | some c => cases hb
      · cases pend with
        | none => cases hb
        | some c => exact ⟨hle3, _, _, c, rfl, rfl, rfl, hrp⟩
  · rintro v R' O' hle (⟨h1, L, Oc', rfl, hL, hst, hpe, hI⟩ | ⟨h1, L, Oc', c, rfl, hst, hpe, hE⟩)
    · refine ⟨L, Oc', rfl, by rw [hst]; exact fun h => (by cases h), ?_⟩
      rw [hpe]; exact hend dd R' Oc' h1 hI
    · refine ⟨L, Oc', rfl, by rw [hst]; exact fun h => (by cases h), ?_⟩
      rw [hpe]; exact hexit c dd R' Oc' h1 hE
theorem it_cast {I : Nat → RH → List Frag → Prop} {k k' : Nat} {R : RH} {O : List Frag} (h : I k R O) (e : k = k') : I k' R O := e ▸ h
theorem perm_tail {J Oc A : List Frag} : (J ++ (Oc ++ A)).Perm (Oc ++ (J ++ A)) := by
  rw [← List.append_assoc, ← List.append_assoc]; exact List.perm_append_comm.append_right A
theorem wo_perm {P : Program} {ρ : Option Nat} {n : Nat} {Q : Po} {l : Nat → Value} {D : List Nat} {R : RH} {O O' : List Frag} {ops : Array Oper} {rest : List Oper} (hp : O'.Perm O) (h : wo P ρ n ops Q rest l D R O') : wo P ρ n ops Q rest l D R O :=
  fun a w hf hh => h a w hf (holds_perm hh (hp.symm.append_right _))
theorem perm_front {O : List Frag} {i : Nat} {f : Frag} (h : O[i]? = some f) : (f :: O.eraseIdx i).Perm O := by
  induction O generalizing i with
  | nil => cases h
  | cons a O ih =>
    cases i with
    | zero => obtain rfl := Option.some.inj h; exact .refl _
    | succ i => exact (List.Perm.swap a f _).trans ((ih (by simpa using h)).cons a)
theorem wo_front {P : Program} {ρ : Option Nat} {n : Nat} {Q : Po} {l : Nat → Value} {D : List Nat} {R : RH} {O : List Frag} {ops : Array Oper} {rest : List Oper} (i : Nat) {f : Frag} (hi : O[i]? = some f) (h : wo P ρ n ops Q rest l D R (f :: O.eraseIdx i)) : wo P ρ n ops Q rest l D R O :=
  wo_perm (perm_front hi) h
theorem wo_callC {P : Program} {ρ : Option Nat} {n : Nat} {Q : Po} {l : Nat → Value} {D : List Nat} {R : RH} {O : List Frag} {ops : Array Oper} {rest : List Oper} {ty : TypeId} {pos : String} {after : Array Go.Edge} {d : Nat}
    {c : Operand} {args : List Operand} {at' : Array TypeId} {f : FuncId} {cs vs : List Value} {Oc Or : List Frag} {post : Value → RH → List Frag → Prop} (hd : Nat.blt d n = true) (he : Enters P f) (hc : ev l c = .func (.func f) #[] cs.toArray) (ha : args.map (ev l) = vs) (hO : O = Oc ++ Or)
    (h : CallG P f (vs ++ cs).toArray R Oc post) (hk : ∀ v R' Oc', RH.le R R' → post v R' Oc' → wo P ρ n ops Q rest (upd l d v) D R' (Oc' ++ Or)) : wo P ρ n ops Q (⟨some d, .call ⟨.value c, args.toArray, at'⟩, ty, pos, after, none⟩ :: rest) l D R O :=
  wo_callV hd hc ha (by subst hO; exact .refl _) (callV_func he (by simp) h) hk
theorem wo_yield {P : Program} {ρ : Option Nat} {n : Nat} {Q : Po} {l : Nat → Value} {D : List Nat} {R : RH} {O : List Frag} {ops : Array Oper} {rest : List Oper} {ty : TypeId} {pos : String} {after : Array Go.Edge} {d : Nat}
    {c : Operand} {args : List Operand} {at' : Array TypeId} {fv : Value} {vs : List Value} {J Oc A : List Frag} {I E : RH → List Frag → Prop} (hd : Nat.blt d n = true) (hc : ev l c = fv) (ha : args.map (ev l) = vs) (hO : O = J ++ (Oc ++ A)) (h : CallV P fv vs.toArray R Oc (YieldPost I E))
    (hk : ∀ b R' Oc', RH.le R R' → (b = true → I R' Oc') → (b = false → E R' Oc') → wo P ρ n ops Q rest (upd l d (.bool b)) D R' (J ++ (Oc' ++ A))) : wo P ρ n ops Q (⟨some d, .call ⟨.value c, args.toArray, at'⟩, ty, pos, after, none⟩ :: rest) l D R O :=
  wo_callV (Oc := Oc) (Or := J ++ A) hd hc ha (by subst hO; exact perm_tail) h fun v R' Oc' hle ⟨b, hv, hI, hE⟩ => by subst hv; exact wo_perm perm_tail (hk b R' Oc' hle hI hE)
end GV
end Go.Proofs.Ytohjnbajgbdhhaa
