/- Calls of function values; ranges over functions. -/
import Derived.Test.YtncblcdhmcmkmaaGvDraw
namespace Go.Proofs.Ytncblcdhmcmkmaa
namespace GV
set_option linter.unusedVariables false
set_option linter.unusedSectionVars false

/-- A call of a function value: a closure, or a loop's yield. -/
def CallV (P : Program) (fv : Value) (args : Array Value) (R : RH) (O : List Frag) (post : Value → RH → List Frag → Prop) : Prop :=
  ∀ A w, Holds R (O ++ A) w → Out P (fun v w' => ∃ R' O', R.le R' ∧ Holds R' (O' ++ A) w' ∧ post v R' O') ((do let d ← Deferred.ofValue fv args; invoke d.target d.args : Sem Next).run P w)

theorem out_mono {P : Program} {K K' : Value → World → Prop} {r : Result Next} (h : Out P K r) (hk : ∀ v w, K v w → K' v w) : Out P K' r := by
  cases r with
  | halt x y => exact h
  | ok nx w1 =>
    cases nx with
    | value v => exact hk _ _ h
    | skip => exact hk _ _ h
    | enter f args => exact Calls.mono h fun e w' ⟨v, he, a⟩ => ⟨v, he, hk _ _ a⟩
    | round l f tmps as b => exact RoundIn.mono h fun e w' ⟨v, he, a⟩ => ⟨v, he, hk _ _ a⟩
    | _ => exact h
theorem CallV.mono {P : Program} {fv : Value} {args : Array Value} {R : RH} {O : List Frag} {post post' : Value → RH → List Frag → Prop} (h : CallV P fv args R O post)
    (hp : ∀ v R' O', RH.le R R' → post v R' O' → post' v R' O') : CallV P fv args R O post' :=
  fun A w hh => out_mono (h A w hh) fun v w' ⟨R', O', a, b, c⟩ => ⟨R', O', a, b, hp _ _ _ a c⟩

section iter
variable {P : Program} {ρ : Option Nat} {n : Nat} {Q : Po} {l : Nat → Value} {D : List Nat} {R : RH} {O : List Frag} {dst : Option Tmp} {ty : TypeId} {pos : String} {after : Array Edge} {g : Option (Nat × Bool)}

theorem eff_callV {c : Operand} {args : Array Operand} {at' : Array TypeId} {fv : Value} {vs : Array Value} {Oc Or : List Frag} {post : Value → RH → List Frag → Prop} (hc : ev l c = fv) (ha : args.map (ev l) = vs) (hp : O.Perm (Oc ++ Or))
    (h : CallV P fv vs R Oc post) : Eff P ρ ⟨dst, .call ⟨.value c, args, at'⟩, ty, pos, after, g⟩ l R O (fun v R' O' => ∃ Oc', O' = Oc' ++ Or ∧ post v R' Oc') := by
  intro A w hh; rw [sem_plain (by intro c h; cases h)]
  have hh' : Holds R (Oc ++ (Or ++ A)) w := holds_perm hh (by rw [← List.append_assoc]; exact hp.append_right A)
  have e : execOp (ev l) (⟨dst, .call ⟨.value c, args, at'⟩, ty, pos, after, g⟩ : Oper) = (do let d ← Deferred.ofValue fv vs; invoke d.target d.args : Sem Next) := by
    simp only [execOp, resolve, hc, ha]
  rw [e]
  exact out_mono (h _ w hh') fun v w' ⟨R', O', a, b, c⟩ => ⟨R', O' ++ Or, a, by rw [List.append_assoc]; exact b, O', rfl, c⟩
theorem callV_func {f : FuncId} {fs cs vs as : Array Value} {post : Value → RH → List Frag → Prop} (he : Enters P f) (has : fs ++ vs ++ cs = as) (h : CallG P f as R O post) : CallV P (.func (.func f) fs cs) vs R O post := by
  intro A w hh
  subst has
  have e : (do let d ← Deferred.ofValue (.func (.func f) fs cs) vs; invoke d.target d.args : Sem Next).run P w = .ok (.enter f (fs ++ vs ++ cs)) w := by
    simp only [Deferred.ofValue, Sem.run_bind, Sem.run_pure, Result.andThen_ok, invoke, he (fs ++ vs ++ cs) w]
  rw [e]
  exact Calls.mono (h A w hh) fun e w' ⟨v, he, R', O', a, b, c⟩ => ⟨v, he, R', O', a, b, c⟩

def lfrag (lb : Nat) (L : Loop) : Frag := single lb (.loop L)

/-- The frame of a loop's record: its temporaries. -/
def FrT (n : Nat) (l : Nat → Value) (t : Array Value) : Prop := t.size = n ∧ ∀ i, t.getD i undef = l i
def setArgs : List (Nat × Value) → (Nat → Value) → Nat → Value
  | [], l => l
  | (p, v) :: r, l => setArgs r (upd l p v)
theorem frT_set {t : Array Value} {p : Nat} (h : FrT n l t) (hp : p < n) (v : Value) : FrT n (upd l p v) (t.setIfInBounds p v) := by
  have hf : Fr n l [] { tmps := t, defers := [] } := ⟨h.1, h.2, rfl⟩
  have := hf.put (d := some p) (fun t ht => by cases ht; exact hp) v
  exact ⟨this.size, this.get⟩
theorem frT_args : ∀ (ps : List (Nat × Value)) (l : Nat → Value) (t : Array Value), FrT n l t → (∀ p ∈ ps, p.1 < n) → FrT n (setArgs ps l) (ps.foldl (fun (t : Array Value) (x : Nat × Value) => t.setIfInBounds x.1 x.2) t)
  | [], l, t, h, _ => h
  | (p, v) :: ps, l, t, h, hp => frT_args ps _ _ (frT_set h (hp (p, v) (List.mem_cons_self ..)) v) (fun q hq => hp q (List.mem_cons_of_mem _ hq))

/-- How a round ends. -/
def roundQ (R0 : RH) (X : List Frag) (RP : Option Code → RH → List Frag → Prop) : Po
  | .normal, _, D, R, O => D = [] ∧ RH.le R0 R ∧ ∃ O', O.Perm (O' ++ X) ∧ RP none R O'
  | .ret, _, D, R, O => D = [] ∧ RH.le R0 R ∧ ∃ O', O.Perm (O' ++ X) ∧ RP (some .ret) R O'
  | .exit id, _, D, R, O => D = [] ∧ RH.le R0 R ∧ ∃ O', O.Perm (O' ++ X) ∧ RP (some (.exit id)) R O'
  | _, _, _, _, _ => False

theorem putObj_other {w : World} {r k : Nat} {o : Obj} (h : k ≠ r) : (w.putObj r o).heap[k]? = w.heap[k]? := World.putObj_heap_other h

/-- One round, out of its body's walk. -/
theorem callV_yield {lb : Nat} {L : Loop} {ps : List Nat} {vs : List Value} {RP : Option Code → RH → List Frag → Prop} (hs : L.state = .ready) (hps : L.params = ps.toArray) (hlen : ps.length = vs.length) (hpn : ∀ p ∈ ps, p < n) (hfr : FrT n l L.tmps)
    (h : ∀ X, wg P (some lb) n L.assign (fun e l1 D1 R1 O1 => e = .normal ∧ D1 = [] ∧ RH.le R R1 ∧ ∃ Oa, O1.Perm (Oa ++ X) ∧ ∀ X', wg P (some lb) n L.body (roundQ R X' RP) l1 [] R1 (Oa ++ X')) (setArgs (ps.zip vs) l) [] R (O ++ X)) :
    CallV P (.func (.yield lb) #[] #[]) vs.toArray R (lfrag lb L :: O) (fun v R' O' => ∃ pend O'', v = .bool pend.isNone ∧ O' = lfrag lb { L with state := if pend.isNone then .ready else .done, pending := pend } :: O'' ∧ RP pend R' O'') := by
  intro A w hh
  have hblk : w.heap[lb]? = some (.loop L) := (hh.own _ (List.mem_cons_self ..) lb _ (single_same _ _)).1
  have e : (do let d ← Deferred.ofValue (.func (.yield lb) #[] #[]) vs.toArray; invoke d.target d.args : Sem Next).run P w =
      .ok (.round lb L.fn ((ps.zip vs).foldl (fun (t : Array Value) (x : Nat × Value) => t.setIfInBounds x.1 x.2) L.tmps) L.assign L.body) w := by
    simp only [Deferred.ofValue, Sem.run_bind, Sem.run_pure, Result.andThen_ok, invoke]
    have : (#[] ++ vs.toArray : Array Value) = vs.toArray := by simp
    rw [this, run_yield hblk (by rw [hps]; simp [hlen])]
    congr 2
    rw [hps]
    simp [List.zip_toArray]
  rw [e]
  have hfr' := frT_args (n := n) (ps.zip vs) l L.tmps hfr (fun p hp => hpn p.1 (List.of_mem_zip hp).1)
  refine roundIn_of_wpIn (F := Fence.wide) trivial ?_
  have hperm : ∀ (X : Frag) (Y : List Frag), ((X :: Y) ++ A).Perm ((Y ++ (X :: A)) ++ ([] : List Nat).map dfrag) := fun X Y => by
    simp only [List.map_nil, List.append_nil, List.cons_append]
    exact List.perm_middle.symm
  refine wpIn_mono (h (lfrag lb L :: A) _ w ⟨hfr'.1, hfr'.2, rfl⟩ (holds_perm hh (hperm _ _))) ?_
  rintro e1 a1 w1 ⟨l1, D1, R1, O1, hf1, hh1, rfl, rfl, hle1, Oa, hpa, hbody⟩
  simp only [List.map_nil, List.append_nil] at hh1
  have hh1' : Holds R1 (single lb (.loop L) :: (Oa ++ A)) w1 := holds_perm hh1 (hpa.trans List.perm_middle)
  have hb1 : w1.heap[lb]? = some (.loop L) := (hh1'.own _ (List.mem_cons_self ..) lb _ (single_same _ _)).1
  refine ⟨_, run_beginRound hb1 hs, ?_⟩
  have hh2 := holds_turn hh1' (putObj_heap_same (o' := .loop { L with state := .busy }) hb1) (fun k hk => putObj_other hk) rfl rfl
  refine wpIn_mono (hbody (lfrag lb { L with state := .busy } :: A) a1 _ hf1 (holds_perm hh2 (hperm _ _))) ?_
  have fin : ∀ (pend : Option Code) (a2 : Act) (w2 : World) (R2 : RH) (O2 : List Frag) (O' : List Frag), Holds R2 (O2 ++ ([] : List Nat).map dfrag) w2 → RH.le R R2 → O2.Perm (O' ++ (lfrag lb { L with state := .busy } :: A)) → RP pend R2 O' →
      ∃ v w', (Instr.endRound lb pend).run P w2 = .ok v w' ∧ ∃ v', Ending.returned v = .returned v' ∧ ∃ R' O'', RH.le R R' ∧ Holds R' (O'' ++ A) w' ∧
        ∃ pend O''', v' = .bool pend.isNone ∧ O'' = lfrag lb { L with state := if pend.isNone then .ready else .done, pending := pend } :: O''' ∧ RP pend R' O''' := by
    intro pend a2 w2 R2 O2 O' hh3 hle hp hrp
    simp only [List.map_nil, List.append_nil] at hh3
    have hh4 : Holds R2 (single lb (.loop { L with state := .busy }) :: (O' ++ A)) w2 := holds_perm hh3 (hp.trans List.perm_middle)
    have hb2 : w2.heap[lb]? = some (.loop { L with state := .busy }) := (hh4.own _ (List.mem_cons_self ..) lb _ (single_same _ _)).1
    refine ⟨_, _, run_endRound pend hb2, _, rfl, R2, _, hle, ?_, pend, O', rfl, rfl, hrp⟩
    exact holds_turn hh4 (putObj_heap_same hb2) (fun k hk => putObj_other hk) rfl rfl
  rintro e2 a2 w2 ⟨l2, D2, R2, O2, hf2, hh3, hq⟩
  cases e2 with
  | normal => obtain ⟨rfl, hle, O', hp, hrp⟩ := hq; exact fin none a2 w2 R2 O2 O' hh3 hle hp hrp
  | ret => obtain ⟨rfl, hle, O', hp, hrp⟩ := hq; exact fin _ a2 w2 R2 O2 O' hh3 hle hp hrp
  | exit id => obtain ⟨rfl, hle, O', hp, hrp⟩ := hq; exact fin _ a2 w2 R2 O2 O' hh3 hle hp hrp
  | goto _ => exact hq.elim
  | panic _ => exact hq.elim
  | outgrown => exact hq.elim

/-- 'for .. := range g { .. }' over a function. -/
theorem wg_rangeFunc {gv : Operand} {ps : Array Nat} {assign body : Code} {f : FuncId} {fs cs : Array Value} {Oc Or : List Frag} (hg : ev l gv = .func (.func f) fs cs) (he : Enters P f) (hp : O.Perm (Oc ++ Or))
    (h : ∀ (lb dd : Nat) (fn : FuncId) (t : Array Value), FrT n l t → CallG P f (fs ++ #[.func (.yield lb) #[] #[]] ++ cs) R (lfrag lb { state := .ready, pending := none, fn, tmps := t, params := ps, assign, body, defers := dd } :: Oc)
      (fun v R' O' => ∃ L' Oc', O' = lfrag lb L' :: Oc' ∧ L'.state ≠ .busy ∧ (match L'.pending with | none => Q .normal l (dd :: D) R' (Oc' ++ Or) | some c => wg P none n c Q l (dd :: D) R' (Oc' ++ Or)))) :
    wg P none n (.rangeFunc gv ps assign body) Q l D R O := by
  intro a w hf hh
  refine wpIn_rangeFunc (F := wide none) fun fn _ => ?_
  have hres : (resolve a.eval (rangeCall gv (w.heap.size + 1)) 0).run P ((w.alloc (.deferred (some []))).alloc (.loop { state := .ready, pending := none, fn, tmps := a.tmps, params := ps, assign, body, defers := w.heap.size })) =
      .ok { target := .fn (.func f) cs, args := fs ++ #[.func (.yield (w.heap.size + 1)) #[] #[]] } ((w.alloc (.deferred (some []))).alloc (.loop { state := .ready, pending := none, fn, tmps := a.tmps, params := ps, assign, body, defers := w.heap.size })) := by
    rw [hf.eval]
    have hm : (#[Operand.const (Value.func (Fn.yield (w.heap.size + 1)) #[] #[])] : Array Operand).map (ev l) = #[.func (.yield (w.heap.size + 1)) #[] #[]] := by simp [ev]
    simp only [resolve, hg, Deferred.ofValue, hm, Sem.run_pure]
  have hinv : ∀ (u : World), (invoke ({ target := .fn (.func f) cs, args := fs ++ #[.func (.yield (w.heap.size + 1)) #[] #[]] } : Deferred).target ({ target := .fn (.func f) cs, args := fs ++ #[.func (.yield (w.heap.size + 1)) #[] #[]] } : Deferred).args).run P u =
      .ok (.enter f (fs ++ #[.func (.yield (w.heap.size + 1)) #[] #[]] ++ cs)) u := fun u => by
    simp only [invoke]; exact he _ _
  refine ⟨_, _, _, _, _, f, fs ++ #[.func (.yield (w.heap.size + 1)) #[] #[]] ++ cs, _, run_enterLoop_outer _ _ _ _ _, hres, fun _ _ => trivial, hinv _, fun h => (by cases h), ?_⟩
  · refine Calls.callsIn none ?_
    have h1 := holds_alloc hh (.deferred (some []))
    have h2 := holds_alloc h1 (.loop { state := .ready, pending := none, fn, tmps := a.tmps, params := ps, assign, body, defers := w.heap.size })
    rw [World.size_alloc] at h2
    have hperm : (single (w.heap.size + 1) (.loop { state := .ready, pending := none, fn, tmps := a.tmps, params := ps, assign, body, defers := w.heap.size }) :: single w.heap.size (.deferred (some [])) :: (O ++ D.map dfrag)).Perm
        ((lfrag (w.heap.size + 1) { state := .ready, pending := none, fn, tmps := a.tmps, params := ps, assign, body, defers := w.heap.size } :: Oc) ++ (Or ++ (w.heap.size :: D).map dfrag)) := by
      rw [List.cons_append]
      refine List.Perm.cons _ ?_
      rw [List.map_cons, ← List.append_assoc]
      refine List.Perm.trans ?_ List.perm_middle.symm
      exact List.Perm.cons _ (hp.append_right _)
    refine Calls.mono (h (w.heap.size + 1) w.heap.size fn a.tmps ⟨hf.size, hf.get⟩ _ _ (holds_perm h2 hperm)) ?_
    rintro e w3 ⟨v, rfl, R', O', hle, hh3, L', Oc', rfl, hnb, hq⟩
    have hb3 : w3.heap[w.heap.size + 1]? = some (.loop L') := (hh3.own _ (List.mem_cons_self ..) _ _ (single_same _ _)).1
    refine ⟨_, _, run_endLoop hb3 hnb, ?_⟩
    have hh4 := holds_turn hh3 (putObj_heap_same (o' := .loop { L' with state := .exhausted }) hb3) (fun k hk => putObj_other hk) rfl rfl
    have hh5 : Holds R' ((Oc' ++ Or) ++ (w.heap.size :: D).map dfrag) (w3.putObj (w.heap.size + 1) (.loop { L' with state := .exhausted })) := by
      have := holds_drop hh4
      rw [List.append_assoc]; exact this
    have hf' : Fr n l (w.heap.size :: D) { a with defers := [{ target := .collected w.heap.size, args := #[] }] ++ a.defers } := ⟨hf.size, hf.get, by rw [hf.defers]; rfl⟩
    obtain ⟨st, pend, lfn, lt, lps, las, lbd, ldf⟩ := L'
    cases pend with
    | none => exact ⟨l, _, R', _, hf', hh5, hq⟩
    | some c => exact hq _ _ hf' hh5
end iter
end GV
end Go.Proofs.Ytncblcdhmcmkmaa
