/- Iterators told by plain programs; closures; further operations. -/
import Derived.Test.YtncblcdhmcmkmaaShNest
namespace Go.Proofs.Ytncblcdhmcmkmaa
namespace GV
open Go.IntWalk
set_option linter.unusedVariables false
set_option linter.unusedSectionVars false

/-- A function that yields as the plain program IT says. -/
def IterS (P : Program) (f : FuncId) (cs : List Value) (R : RH) {α : Type} (enc : α → List Value → RH → Prop) (IT : (σ : Type) → (α → σ → Option (Bool × σ)) → σ → Option σ) : Prop :=
  ∀ (yv : Value) (σ : Type) (B : α → σ → Option (Bool × σ)) (I : σ → RH → List Frag → Prop) (R1 : RH) (O : List Frag) (s0 s1 : σ), RH.le R R1 →
    (∀ s R2 R3 O2, RH.le R2 R3 → I s R2 O2 → I s R3 O2) → I s0 R1 O → IT σ B s0 = some s1 →
    (∀ x s b s' R2 O2 vs, RH.le R1 R2 → enc x vs R2 → I s R2 O2 → B x s = some (b, s') → CallV P yv vs.toArray R2 O2 (fun v R3 O3 => v = .bool b ∧ I s' R3 O3)) →
    CallG P f (yv :: cs).toArray R1 O (fun v R' O' => I s1 R' O')
theorem wo_yieldS {P : Program} {ρ : Option Nat} {n : Nat} {Q : Po} {l : Nat → Value} {D : List Nat} {R : RH} {O : List Frag} {ops : Array Oper} {rest : List Oper} {ty : TypeId} {pos : String} {after : Array Go.Edge} {d : Nat}
    {c : Operand} {args : List Operand} {at' : Array TypeId} {fv : Value} {vs : List Value} {J Oc A : List Frag} {b : Bool} {I : RH → List Frag → Prop} (hd : Nat.blt d n = true) (hc : ev l c = fv) (ha : args.map (ev l) = vs) (hO : O = J ++ (Oc ++ A))
    (h : CallV P fv vs.toArray R Oc (fun v R' O' => v = .bool b ∧ I R' O'))
    (hk : ∀ R' Oc', RH.le R R' → I R' Oc' → wo P ρ n ops Q rest (upd l d (.bool b)) D R' (J ++ (Oc' ++ A))) : wo P ρ n ops Q (⟨some d, .call ⟨.value c, args.toArray, at'⟩, ty, pos, after, none⟩ :: rest) l D R O :=
  wo_callV (Oc := Oc) (Or := J ++ A) hd hc ha (by subst hO; exact perm_tail) h fun v R' Oc' hle ⟨hv, hI⟩ => by subst hv; exact wo_perm perm_tail (hk R' Oc' hle hI)
/-- What is known between rounds: of the loop's record, and of the state. -/
def BetI {σ : Type} (R0 : RH) (lb n : Nat) (l : Nat → Value) (ps : List Nat) (assign body : Code) (I : σ → RH → List Frag → Prop) (E : σ → Code → RH → List Frag → Prop) (s : σ) (R : RH) (O : List Frag) : Prop :=
  RH.le R0 R ∧ ∃ L Oc', O = lfrag lb L :: Oc' ∧ ((LoopOk L n l ps assign body ∧ L.state = .ready ∧ L.pending = none ∧ I s R Oc') ∨ (∃ c, L.state = .done ∧ L.pending = some c ∧ E s c R Oc'))
theorem CallG.mono2 {P : Program} {f : FuncId} {args : Array Value} {R : RH} {O : List Frag} {post post' : Value → RH → List Frag → Prop} (h : CallG P f args R O post)
    (hp : ∀ v R' O', RH.le R R' → post v R' O' → ∃ J O'', O'.Perm (J ++ O'') ∧ post' v R' O'') : CallG P f args R O post' := fun A w hh =>
  Calls.mono (h A w hh) fun e w' ⟨v, he, R', O', a, b, c⟩ => let ⟨J, O'', hpm, hq⟩ := hp v R' O' a c; ⟨v, he, R', O'', a, holds_junk hpm b, hq⟩
theorem wg_iterS {P : Program} {n : Nat} {Q : Po} {l : Nat → Value} {D : List Nat} {R : RH} {O : List Frag} {gv : Operand} {ps : List Nat} {assign body : Code} {f : FuncId} {cs : List Value} {Oc Or : List Frag} {α σ : Type} {enc : α → List Value → RH → Prop}
    {IT : (σ : Type) → (α → σ → Option (Bool × σ)) → σ → Option σ} (B : α → σ → Option (Bool × σ)) (I : σ → RH → List Frag → Prop) (E : σ → Code → RH → List Frag → Prop) (s0 s1 : σ)
    (hg : ev l gv = .func (.func f) #[] cs.toArray) (he : Enters P f) (hit : IterS P f cs R enc IT) (hp : O.Perm (Oc ++ Or)) (hpn : (ps.all fun p => Nat.blt p n) = true)
    (hlen : ∀ x R vs, enc x vs R → vs.length = ps.length) (hmI : ∀ s R2 R3 O2, RH.le R2 R3 → I s R2 O2 → I s R3 O2) (hmE : ∀ s c R2 R3 O2, RH.le R2 R3 → E s c R2 O2 → E s c R3 O2)
    (hst : ∀ s c R O x, E s c R O → B x s = none) (h0 : I s0 R Oc) (hrun : IT σ B s0 = some s1)
    (hround : ∀ x s b s' lb R1 vs Oc1, RH.le R R1 → enc x vs R1 → I s R1 Oc1 → B x s = some (b, s') → ∀ X, wg P (some lb) n assign (fun e l1 D1 R2 O1 => e = .normal ∧ D1 = [] ∧ RH.le R1 R2 ∧ ∃ Oa, O1.Perm (Oa ++ X) ∧
      ∀ X', wg P (some lb) n body (roundQ R1 X' (fun p R3 O3 => match p with | none => b = true ∧ I s' R3 O3 | some c => b = false ∧ E s' c R3 O3)) l1 [] R2 (Oa ++ X')) (setArgs (ps.zip vs) l) [] R1 (Oc1 ++ X))
    (hend : ∀ dd R1 Oc1, RH.le R R1 → I s1 R1 Oc1 → ∃ J F, Oc1.Perm (J ++ F) ∧ Q .normal l (dd :: D) R1 (F ++ Or))
    (hexit : ∀ c dd R1 Oc1, RH.le R R1 → E s1 c R1 Oc1 → wg P none n c Q l (dd :: D) R1 (Oc1 ++ Or)) : wg P none n (.rangeFunc gv ps.toArray assign body) Q l D R O := by
  refine wg_rangeFunc (f := f) (fs := #[]) (cs := cs.toArray) hg he hp fun lb dd fn t hft => ?_
  have hargs : (#[] ++ #[Value.func (Fn.yield lb) #[] #[]] ++ cs.toArray : Array Value) = (Value.func (Fn.yield lb) #[] #[] :: cs).toArray := by simp
  rw [hargs]
  have hpn' : ∀ p ∈ ps, p < n := fun p hp => by simpa [Nat.blt_eq] using List.all_eq_true.1 hpn p hp
  refine CallG.mono2 (hit (.func (.yield lb) #[] #[]) σ B (BetI R lb n l ps assign body I E) R _ s0 s1 (RH.le.refl _) ?_ ⟨RH.le.refl _, _, _, rfl, .inl ⟨⟨hft, rfl, rfl, rfl⟩, rfl, rfl, h0⟩⟩ hrun ?_) ?_
  · rintro s R2 R3 O2 hle ⟨h1, L, Oc', h2, h3⟩
    refine ⟨h1.trans hle, L, Oc', h2, ?_⟩
    rcases h3 with ⟨a, b, c, d⟩ | ⟨c, a, b, d⟩
    · exact .inl ⟨a, b, c, hmI _ _ _ _ hle d⟩
    · exact .inr ⟨c, a, b, hmE _ _ _ _ _ hle d⟩
  · rintro x s b s' R2 O2 vs hle hA ⟨h1, L, Oc', rfl, h3⟩ hB
    rcases h3 with ⟨⟨hfr, hps, has, hbd⟩, hst', hpe, hI⟩ | ⟨c, _, _, hE⟩
    · refine CallV.mono (callV_yield (n := n) (l := l) (ps := ps) (RP := fun p R3 O3 => RH.le R R3 ∧ (match p with | none => b = true ∧ I s' R3 O3 | some c => b = false ∧ E s' c R3 O3)) hst' hps (hlen x R2 vs hA).symm hpn' hfr ?_) ?_
      · intro X
        have := hround x s b s' lb R2 vs Oc' h1 hA hI hB X
        rw [has, hbd]
        refine wg_mono this ?_
        rintro e l1 D1 R3 O1 ⟨he', hD, hle3, Oa, hpa, hb⟩
        refine ⟨he', hD, hle3, Oa, hpa, fun X' => wg_mono (hb X') ?_⟩
        intro e l2 D2 R4 O4 hq
        cases e with
        | normal => obtain ⟨a, b, O', c, d⟩ := hq; exact ⟨a, b, O', c, h1.trans b, d⟩
        | ret => obtain ⟨a, b, O', c, d⟩ := hq; exact ⟨a, b, O', c, h1.trans b, d⟩
        | exit id => obtain ⟨a, b, O', c, d⟩ := hq; exact ⟨a, b, O', c, h1.trans b, d⟩
        | goto _ => exact hq
        | panic _ => exact hq
        | outgrown => exact hq
      · rintro v R' O' hle2 ⟨pend, O'', rfl, rfl, hle3, hrp⟩
        cases pend with
        | none => obtain ⟨rfl, hI'⟩ := hrp; exact ⟨rfl, hle3, _, _, rfl, .inl ⟨⟨hfr, hps, has, hbd⟩, rfl, rfl, hI'⟩⟩
        | some c => obtain ⟨rfl, hE'⟩ := hrp; exact ⟨rfl, hle3, _, _, rfl, .inr ⟨c, rfl, rfl, hE'⟩⟩
    · rw [hst s c R2 Oc' x hE] at hB; cases hB
  · rintro v R' O' hle ⟨h1, L, Oc', rfl, h3⟩
    rcases h3 with ⟨hL, hst', hpe, hI⟩ | ⟨c, hst', hpe, hE⟩
    · obtain ⟨J, F, hp1, hq⟩ := hend dd R' Oc' h1 hI
      refine ⟨J, lfrag lb L :: F, (hp1.cons _).trans List.perm_middle.symm, L, F, rfl, by rw [hst']; exact fun h => (by cases h), ?_⟩
      rw [hpe]; exact hq
    · refine ⟨[], _, List.Perm.refl _, L, Oc', rfl, by rw [hst']; exact fun h => (by cases h), ?_⟩
      rw [hpe]; exact hexit c dd R' Oc' h1 hE

theorem perm_mid {O J F X : List Frag} (h : O.Perm (J ++ F)) : (O ++ X).Perm (J ++ (F ++ X)) := by rw [← List.append_assoc]; exact h.append_right X

section more
variable {P : Program} {ρ : Option Nat} {n : Nat} {Q : Po} {l : Nat → Value} {D : List Nat} {R : RH} {O : List Frag} {ops : Array Oper} {rest : List Oper} {dst : Option Tmp} {ty : TypeId} {pos : String} {after : Array Go.Edge} {g : Option (Nat × Bool)} {d : Nat}
theorem val_conv64 {s t : TypeId} {x : Operand} {k : IntKind} {ds : TypeDesc} {m : Int} (hs : P.underlying s = some ds) (hd : P.underlying t = some (.int .i64)) (hx : ev l x = .int k m) (hb : in64 m) :
    Val P ρ ⟨dst, .convert s t x, ty, pos, after, g⟩ l R O (.int .i64 m) := by
  have := val_convII (P := P) (ρ := ρ) (R := R) (O := O) (dst := dst) (ty := ty) (pos := pos) (after := after) (g := g) hs hd hx
  rwa [i64_in _ hb] at this
/-- Arrays behind a pointer. -/
structure ArrOk (P : Program) (t : TypeId) (m sz : Nat) : Prop where
  run : ∀ (b off i : Nat) (k : IntKind) (w : World), i < m → (Instr.indexAt t (.pointer (some ⟨b, off, none⟩)) (.int k i)).run P w = .ok (.pointer (some ⟨b, off + i * sz, none⟩)) w
/-- A call of a closure that takes what it captures. -/
theorem wo_callO {f : FuncId} {c : Operand} {args : List Operand} {at' : Array TypeId} {cs vs : List Value} {Oc Or : List Frag} {post : Value → RH → List Frag → Prop} (hd : Nat.blt d n = true) (he : Enters P f) (hc : ev l c = .func (.func f) #[] cs.toArray) (ha : args.map (ev l) = vs) (hp : O.Perm (Oc ++ Or))
    (h : CallG P f (vs ++ cs).toArray R Oc post) (hk : ∀ v R' Oc', RH.le R R' → post v R' Oc' → wo P ρ n ops Q rest (upd l d v) D R' (Oc' ++ Or)) : wo P ρ n ops Q (⟨some d, .call ⟨.value c, args.toArray, at'⟩, ty, pos, after, none⟩ :: rest) l D R O :=
  wo_callV hd hc ha hp (callV_func he (by simp) h) hk
theorem ph_lend {f : FuncId} {c : Operand} {args : List Operand} {at' : Array TypeId} {cs vs : List Value} {φ : Value → Prop} (he : Enters P f) (hc : ev l c = .func (.func f) #[] cs.toArray) (ha : args.map (ev l) = vs)
    (h : ∀ R1, RH.le R R1 → (∀ f ∈ O, ∀ k o, f k = some o → R1.blk k = some o) → CallP P f (vs ++ cs).toArray R1 fun v _ => φ v) :
    Eff P ρ ⟨dst, .call ⟨.value c, args.toArray, at'⟩, ty, pos, after, g⟩ l R O (fun v R' O' => O' = O ∧ φ v) :=
  (eff_lend he hc ha h).mono fun v R' O' _ ⟨a, _, b⟩ => ⟨a, b⟩
theorem val_capT {α : Type} {T : Ty α} {t : TypeId} {at' : Array TypeId} {e : TypeId} {x : Operand} {v : Value} {X : List α} (ht : at'[0]? = some t) (hu : P.underlying t = some (.slice e)) (hx : ev l x = v) (hr : VRep (tSl true T) R v X) :
    Val P ρ ⟨dst, .call ⟨.builtin .cap, #[x], at'⟩, ty, pos, after, g⟩ l R O (.int .i64 X.length) := by
  have := val_capR (P := P) (ρ := ρ) (O := O) (dst := dst) (ty := ty) (pos := pos) (after := after) (g := g) ht hu hx (sl_s hr)
  rwa [sl_c hr] at this
theorem cut_len {α : Type} {X : List α} {lo hi : Int} (h : okS X lo hi) : (cut X lo hi).length = hi.toNat - lo.toNat := by
  obtain ⟨h1, h2, h3⟩ := h
  simp only [cut, List.length_take, List.length_drop]; omega
theorem ph_sliceF {α : Type} {T : Ty α} {t e : TypeId} {lo hi mx : Nat} {x : Operand} {xlo xhi xmx : Option Operand} {v : Value} {X X' : List α} (ht : SlOk P t e T) (hx : ev l x = v) (hr : VRep (tSlice T) R v X)
    (hlo : xlo.map (ev l) = none ∧ lo = 0 ∨ ∃ k, xlo.map (ev l) = some (.int k lo)) (hhi : xhi.map (ev l) = none ∧ hi = X.length ∧ xmx = none ∨ ∃ k, xhi.map (ev l) = some (.int k hi))
    (hmx : xmx.map (ev l) = none ∧ mx = capOf v ∨ ∃ k, xmx.map (ev l) = some (.int k mx)) (h1 : lo ≤ hi) (h2 : hi ≤ X.length) (h3 : X.length ≤ capOf v → hi ≤ mx) (h4 : X.length ≤ capOf v → mx ≤ capOf v) (hX : (X.drop lo).take (hi - lo) = X') :
    Eff P ρ ⟨dst, .slice t x xlo xhi xmx, ty, pos, after, g⟩ l R O (fun v' R' O' => O' = O ∧ phR (tSl false T) X' v' R') :=
  (ph_sliceR ht hx hr hlo hhi hmx h1 h2 h3 h4 hX).mono fun _ _ _ _ ⟨a, b⟩ => ⟨a, sl_f b⟩
theorem Eff.frzT {o : Oper} {α : Type} {T : Ty α} {X : List α} (h : Eff P ρ o l R O fun v R' O' => capOf v = X.length ∧ ∃ f, O' = f :: O ∧ ORep T R' f v X) : Eff P ρ o l R O fun v R' O' => O' = O ∧ phR (tSl true T) X v R' := by
  intro A w hh
  refine out_mono (h A w hh) ?_
  rintro v w' ⟨R', O', hle, hh', hc, f, rfl, ho⟩
  exact ⟨R'.add f, O, hle.trans (RH.le_add _ _), holds_freeze hh', rfl, sl_t (vrep_freeze ho hh') hc⟩
theorem ph_litT {α : Type} {T : Ty α} {t e : TypeId} {z : α} {bytes m : Nat} {parts : List (Nat × Operand)} {ps : List (Nat × Value)} {css : List (List Value)} {X : List α} (hu : P.underlying t = some (.slice e)) (hz : ZeroOk P e T z bytes)
    (hp : (parts.map fun x => (x.1, ev l x.2)) = ps) (hps : ps.map (fun p => (p.1, p.2.cells)) = css.zipIdx.map (fun x => (x.2, x.1.toArray))) (hX : ∀ (i : Nat) (c : List Value) (x : α), css[i]? = some c → X[i]? = some x → T.rep R c x)
    (hl : css.length = X.length) (hn : X.length = m) (hbig : m * T.size ≤ 16777216) : Eff P ρ ⟨dst, .buildSlice t m parts.toArray, ty, pos, after, g⟩ l R O fun v R' O' => O' = O ∧ phR (tSl true T) X v R' :=
  Eff.frzT ((eff_buildSlice hu hz (by rw [List.map_toArray]; exact congrArg List.toArray hp) hps hX hl hn hbig).mono fun v R' O' _ ⟨hR, hc, f, hO, h⟩ => by subst hR; exact ⟨hc, f, hO, h⟩)
abbrev okQ (a b : Int) : Prop := 0 ≤ a ∧ a ≤ 9223372036854775807 ∧ 1 ≤ b
abbrev okR (a b : Int) : Prop := 0 ≤ a ∧ 1 ≤ b
end more
end GV
end Go.Proofs.Ytncblcdhmcmkmaa
