/- Maps that are owned, or only read: made, changed, looked up. -/
import Derived.Test.YtncblcdhmcmkmaaShPart
import Derived.MapKept
namespace Go.Proofs.Ytncblcdhmcmkmaa
namespace GV
set_option linter.unusedVariables false

/-! ### A map's entries as a list of pairs, in the order in which the keys came -/
def mget {κ β : Type} [DecidableEq κ] (z : β) : List (κ × β) → κ → β
  | [], _ => z
  | p :: l, k => if k = p.1 then p.2 else mget z l k
def mhas {κ β : Type} [DecidableEq κ] : List (κ × β) → κ → Bool
  | [], _ => false
  | p :: l, k => if k = p.1 then true else mhas l k
def mput {κ β : Type} [DecidableEq κ] : List (κ × β) → κ → β → List (κ × β)
  | [], k, v => [(k, v)]
  | p :: l, k, v => if k = p.1 then (k, v) :: l else p :: mput l k v
def mfind {κ β : Type} [DecidableEq κ] : List (κ × β) → κ → Nat → Option (Nat × β)
  | [], _, _ => none
  | p :: l, k, i => if k = p.1 then some (i, p.2) else mfind l k (i + 1)

def encMe (e : MapEntry) : Value × Value := (e.key, e.val)
def MSame {κ β : Type} (ke : κ → Value) (ve : β → Value) (es : Array MapEntry) (M : List (κ × β)) : Prop := es.toList.map encMe = M.map fun p => (ke p.1, ve p.2)

/-- A kind of key: the model finds it among the entries. -/
structure KOk (P : Program) (kt : TypeId) {κ : Type} [DecidableEq κ] (ke : κ → Value) : Prop where
  check : ∀ (b : Bool) (k : κ) (w : World), (Instr.checkKey b 10000 kt (ke k)).run P w = .ok () w
  find : ∀ {β : Type} (k : κ) (es : List MapEntry) (M : List (κ × β)) (ve : β → Value) (w : World), es.map encMe = M.map (fun p => (ke p.1, ve p.2)) →
    (Instr.findKey kt (ke k) es).run P w = .ok ((mfind M k 0).map fun p => (p.1, ve p.2)) w
  same : ∀ k : κ, Instr.sameBits 10000 (ke k) (ke k) = true

theorem findNow_int {β : Type} {q q' : IntKind} {k : Int} {ve : β → Value} : ∀ (es : List MapEntry) (M : List (Int × β)) (i : Nat), es.map encMe = M.map (fun p => (Value.int q p.1, ve p.2)) →
    Instr.findNow (.int q') (.int q k) es i = some ((mfind M k i).map fun p => (p.1, ve p.2))
  | [], [], i, _ => rfl
  | [], _ :: _, _, h => by simp at h
  | _ :: _, [], _, h => by simp at h
  | e :: es, p :: M, i, h => by
    simp only [List.map_cons, List.cons.injEq, encMe, Prod.mk.injEq] at h
    obtain ⟨⟨h1, h2⟩, h3⟩ := h
    unfold Instr.findNow
    rw [h1]
    simp only [Instr.sameNow, if_pos]
    unfold mfind
    by_cases hk : k = p.1
    · simp [hk, h2]
    · have : (k == p.1) = false := by simpa using hk
      rw [this]
      simp only [if_neg hk]
      exact findNow_int es M (i + 1) h3
theorem kok_int {P : Program} {kt : TypeId} {q : IntKind} (hu : P.underlying kt = some (.int q)) : KOk P kt (Value.int q) where
  check b k w := MapKept.run_checkKey hu (by simp [MapKept.IsKey]) b 9999
  find k es M ve w h := MapKept.run_findKey hu (findNow_int es M 0 h)
  same k := by simp [Instr.sameBits]

section m
variable {κ β : Type} [DecidableEq κ] {ke : κ → Value} {ve : β → Value} {M : List (κ × β)} {k : κ} {z : β}
theorem mfind_get (i : Nat) : ((mfind M k i).map (·.2)).getD z = mget z M k := by
  induction M generalizing i with
  | nil => rfl
  | cons p l ih =>
    unfold mfind mget
    by_cases h : k = p.1
    · simp [h]
    · simp only [if_neg h]; exact ih (i + 1)
theorem mfind_has (i : Nat) : (mfind M k i).isSome = mhas M k := by
  induction M generalizing i with
  | nil => rfl
  | cons p l ih =>
    unfold mfind mhas
    by_cases h : k = p.1
    · simp [h]
    · simp only [if_neg h]; exact ih (i + 1)
theorem mfind_none {i : Nat} {v : β} (h : mfind M k i = none) : mput M k v = M ++ [(k, v)] := by
  induction M generalizing i with
  | nil => rfl
  | cons p l ih =>
    unfold mfind at h
    by_cases hk : k = p.1
    · simp [hk] at h
    · rw [if_neg hk] at h
      simp only [mput, if_neg hk, ih h, List.cons_append]
theorem mfind_some {i j : Nat} {u v : β} (h : mfind M k i = some (j, u)) : i ≤ j ∧ M[j - i]? = some (k, u) ∧ mput M k v = M.set (j - i) (k, v) := by
  induction M generalizing i with
  | nil => cases h
  | cons p l ih =>
    unfold mfind at h
    by_cases hk : k = p.1
    · rw [if_pos hk] at h
      simp only [Option.some.injEq, Prod.mk.injEq] at h
      obtain ⟨rfl, rfl⟩ := h
      refine ⟨Nat.le_refl _, ?_, ?_⟩
      · simp [hk]
      · simp [mput, hk]
    · rw [if_neg hk] at h
      obtain ⟨h1, h2, h3⟩ := ih h
      have e : j - i = (j - (i + 1)) + 1 := by omega
      refine ⟨by omega, ?_, ?_⟩
      · rw [e, List.getElem?_cons_succ]; exact h2
      · rw [e, List.set_cons_succ, ← h3]; simp [mput, hk]
end m

/-- A map that is only read. -/
def tMap {κ β : Type} (ke : κ → Value) (ve : β → Value) : Ty (List (κ × β)) where
  size := 1
  agg := false
  rep R cs M := ∃ b es c, cs = [.map (some b)] ∧ R.blk b = some (.map es c) ∧ MSame ke ve es M
  len := by rintro R cs X ⟨b, es, c, rfl, _⟩; rfl
  mono := by rintro R R' cs X hle ⟨b, es, c, rfl, h1, h2⟩; exact ⟨b, es, c, rfl, hle.blk _ _ h1, h2⟩
  one _ := rfl
  cell := by rintro R cs X ⟨b, es, c, rfl, _⟩ v hv; simp at hv; subst hv; rfl
theorem vrep_map {κ β : Type} {ke : κ → Value} {ve : β → Value} {R : RH} {v : Value} {M : List (κ × β)} : VRep (tMap ke ve) R v M ↔ ∃ b es c, v = .map (some b) ∧ R.blk b = some (.map es c) ∧ MSame ke ve es M :=
  ⟨fun ⟨_, ⟨b, es, c, h, a⟩, e⟩ => by subst h; exact ⟨b, es, c, e, a⟩, fun ⟨b, es, c, h, a⟩ => ⟨_, ⟨b, es, c, rfl, a⟩, h⟩⟩
/-- A map that is owned. -/
def MRep {κ β : Type} (ke : κ → Value) (ve : β → Value) (R : RH) (f : Frag) (v : Value) (M : List (κ × β)) : Prop :=
  ∃ b es c, v = .map (some b) ∧ f = single b (.map es c) ∧ MSame ke ve es M
theorem MRep.mono {κ β : Type} {ke : κ → Value} {ve : β → Value} {R R' : RH} {f : Frag} {v : Value} {M : List (κ × β)} (h : MRep ke ve R f v M) (hle : RH.le R R') : MRep ke ve R' f v M := h

section e
variable {P : Program} {ρ : Option Nat} {n : Nat} {ops : Array Oper} {Q : Po} {rest : List Oper} {l : Nat → Value} {D : List Nat} {R : RH} {O : List Frag} {ty : TypeId} {pos : String} {after : Array Go.Edge} {d : Nat} {dst : Option Tmp} {g : Option (Nat × Bool)}
variable {κ β : Type} {ke : κ → Value} {ve : β → Value} {M : List (κ × β)} {k : κ} {z : β} {t kt et : TypeId} {x y s : Operand} {v : Value} {f : Frag}
theorem orep_mone (h : MRep ke ve R f v M) : v.oneCell' = true := by
  obtain ⟨b, es, c, rfl, _⟩ := h; rfl
theorem orep_mcells (h : MRep ke ve R f v M) : v.cells = [v].toArray := by
  obtain ⟨b, es, c, rfl, _⟩ := h; rfl
theorem eff_makeMap : Eff P ρ ⟨dst, .makeMap t none, ty, pos, after, g⟩ l R O (fun v R' O' => R' = R ∧ ∃ f, O' = f :: O ∧ MRep ke ve R f v ([] : List (κ × β))) := by
  intro A w hh; rw [sem_plain (by intro c h; cases h)]
  simp only [execOp, Option.map, Instr.makeMap, Sem.run_bind, run_newObj, Sem.run_pure, Result.andThen_ok]
  exact ⟨R, _, RH.le.refl _, holds_alloc' hh _, rfl, _, rfl, _, #[], 0, rfl, rfl, rfl⟩
theorem wo_makeMap (hd : Nat.blt d n = true) (hk : ∀ v f, MRep ke ve R f v ([] : List (κ × β)) → wo P ρ n ops Q rest (upd l d v) D R (f :: O)) : wo P ρ n ops Q (⟨some d, .makeMap t none, ty, pos, after, none⟩ :: rest) l D R O :=
  wo_eff1 hd (eff_makeMap (ke := ke) (ve := ve)) fun v R' O' _ ⟨hR, f, hO, h⟩ => by subst hR; subst hO; exact hk v f h
variable [DecidableEq κ]
theorem run_mapUpdate {b : Nat} {es : Array MapEntry} {c : Nat} {w : World} {u : β} (hu : P.underlying t = some (.map kt et)) (hK : KOk P kt ke) (hb : w.heap[b]? = some (.map es c)) (hs : MSame ke ve es M) :
    ∃ es' c', (Instr.mapUpdate t (.map (some b)) (ke k) (ve u)).run P w = .ok () { w with heap := w.heap.setIfInBounds b (.map es' c') } ∧ MSame ke ve es' (mput M k u) := by
  have hf := hK.find k es.toList M ve w hs
  unfold Instr.mapUpdate
  simp only [Sem.run_bind, run_underlying hu, Result.andThen_ok, MapKept.run_getObj_map hb, hK.check, hf]
  cases hm : mfind M k 0 with
  | none =>
    simp only [Option.map_none, MapKept.run_setObj_map _ hb]
    refine ⟨_, _, rfl, ?_⟩
    unfold MSame at hs ⊢
    rw [Array.toList_push, List.map_append, hs, mfind_none hm, List.map_append]
    rfl
  | some p =>
    obtain ⟨j, u0⟩ := p
    obtain ⟨_, h2, h3⟩ := mfind_some (v := u) hm
    simp only [Option.map_some]
    have hkey : ((es[j]?).map (·.key)).getD (ke k) = ke k := by
      have h4 : (es.toList.map encMe)[j]? = some (ke k, ve u0) := by rw [hs, List.getElem?_map, show M[j]? = some (k, u0) from h2]; rfl
      rw [List.getElem?_map, Array.getElem?_toList] at h4
      cases he : es[j]? with
      | none => rfl
      | some e => rw [he] at h4; simp only [Option.map_some, encMe, Option.some.injEq, Prod.mk.injEq] at h4; simp [h4.1]
    rw [hkey]
    simp only [Instr.keyThatStays, hK.same, if_true, Sem.run_pure, Sem.run_bind, Result.andThen_ok, MapKept.run_setObj_map _ hb]
    refine ⟨_, _, rfl, ?_⟩
    unfold MSame at hs ⊢
    rw [h3, Array.toList_modify]
    apply List.ext_getElem?
    intro i
    have hi : (es.toList.map encMe)[i]? = (M.map fun p => (ke p.1, ve p.2))[i]? := by rw [hs]
    rw [List.getElem?_map, List.getElem?_modify, List.getElem?_map, List.getElem?_set]
    rw [List.getElem?_map, List.getElem?_map] at hi
    by_cases hij : j = i
    · subst hij
      have hj : j < M.length := (List.getElem?_eq_some_iff.1 h2).1
      simp only [Nat.sub_zero, if_true, hj]
      rw [show M[j]? = some (k, u0) from h2] at hi
      cases he : es.toList[j]? with
      | none => rw [he] at hi; simp at hi
      | some e => simp [encMe]
    · simp only [Nat.sub_zero, if_neg hij]
      simpa using hi
theorem eff_mapUpdate {u : β} {w0 q : Value} {i : Nat} (hu : P.underlying t = some (.map kt et)) (hK : KOk P kt ke) (hO : O[i]? = some f) (h : MRep ke ve R f v M) (hx : ev l x = v) (hy : ev l y = ke k) (hz : ev l s = ve u) :
    Eff P ρ ⟨dst, .mapUpdate t x y s, ty, pos, after, g⟩ l R O (fun v' R' O' => v' = undef ∧ R' = R ∧ ∃ f', O' = O.set i f' ∧ MRep ke ve R f' v (mput M k u)) := by
  intro A w hh; rw [sem_plain (by intro c h; cases h)]
  obtain ⟨b, es, c, rfl, rfl, hs⟩ := h
  have hlt : i < O.length := (List.getElem?_eq_some_iff.1 hO).1
  have hO' : (O ++ A)[i]? = some (single b (.map es c)) := by rw [List.getElem?_append_left hlt]; exact hO
  have hb : w.heap[b]? = some (.map es c) := holds_at hh hO' (single_same _ _)
  obtain ⟨es', c', h1, h2⟩ := run_mapUpdate (k := k) (u := u) hu hK hb hs
  have hex : (execOp (ev l) (⟨dst, .mapUpdate t x y s, ty, pos, after, g⟩ : Oper)).run P w = .ok .skip { w with heap := w.heap.setIfInBounds b (.map es' c') } := by
    simp only [execOp, hx, hy, hz, Sem.run_bind, h1, Result.andThen_ok]
    rfl
  rw [hex]
  have hbs : b < w.heap.size := (Array.getElem?_eq_some_iff.1 hb).1
  refine ⟨R, _, RH.le.refl _, ?_, rfl, rfl, _, rfl, _, es', c', rfl, rfl, h2⟩
  have := holds_set (w' := { w with heap := w.heap.setIfInBounds b (.map es' c') }) hh hO' (o' := .map es' c') (by simp [hbs]) (fun j hj => by simp [Ne.symm hj]) rfl rfl trivial
  rwa [List.set_append_left _ _ hlt] at this
theorem wo_mapUpdate {u : β} {i : Nat} (hu : P.underlying t = some (.map kt et)) (hK : KOk P kt ke) (hO : O[i]? = some f) (h : MRep ke ve R f v M) (hx : ev l x = v) (hy : ev l y = ke k) (hz : ev l s = ve u)
    (hk : ∀ f', MRep ke ve R f' v (mput M k u) → wo P ρ n ops Q rest l D R (O.set i f')) : wo P ρ n ops Q (⟨none, .mapUpdate t x y s, ty, pos, after, none⟩ :: rest) l D R O :=
  wo_eff0 (eff_mapUpdate (w0 := undef) (q := undef) hu hK hO h hx hy hz) fun v' R' O' _ ⟨_, hR, f', hO', h⟩ => by subst hR; subst hO'; exact hk f' h
theorem eff_mapInsert {u : β} {w0 q : Value} {i : Nat} (hu : P.underlying t = some (.map kt et)) (hK : KOk P kt ke) (hO : O[i]? = some f) (h : MRep ke ve R f v M) (hx : ev l x = v) (hy : ev l y = ke k) (hz : ev l s = ve u) :
    Eff P ρ ⟨dst, .insert t x y s, ty, pos, after, g⟩ l R O (fun v' R' O' => v' = undef ∧ R' = R ∧ ∃ f', O' = O.set i f' ∧ MRep ke ve R f' v (mput M k u)) := by
  intro A w hh; rw [sem_plain (by intro c h; cases h)]
  obtain ⟨b, es, c, rfl, rfl, hs⟩ := h
  have hlt : i < O.length := (List.getElem?_eq_some_iff.1 hO).1
  have hO' : (O ++ A)[i]? = some (single b (.map es c)) := by rw [List.getElem?_append_left hlt]; exact hO
  have hb : w.heap[b]? = some (.map es c) := holds_at hh hO' (single_same _ _)
  obtain ⟨es', c', h1, h2⟩ := run_mapUpdate (k := k) (u := u) hu hK hb hs
  have hex : (execOp (ev l) (⟨dst, .insert t x y s, ty, pos, after, g⟩ : Oper)).run P w = .ok .skip { w with heap := w.heap.setIfInBounds b (.map es' c') } := by
    simp only [execOp, hx, hy, hz, Sem.run_bind, h1, Result.andThen_ok]
    rfl
  rw [hex]
  have hbs : b < w.heap.size := (Array.getElem?_eq_some_iff.1 hb).1
  refine ⟨R, _, RH.le.refl _, ?_, rfl, rfl, _, rfl, _, es', c', rfl, rfl, h2⟩
  have := holds_set (w' := { w with heap := w.heap.setIfInBounds b (.map es' c') }) hh hO' (o' := .map es' c') (by simp [hbs]) (fun j hj => by simp [Ne.symm hj]) rfl rfl trivial
  rwa [List.set_append_left _ _ hlt] at this
theorem wo_mapInsert {u : β} {i : Nat} (hu : P.underlying t = some (.map kt et)) (hK : KOk P kt ke) (hO : O[i]? = some f) (h : MRep ke ve R f v M) (hx : ev l x = v) (hy : ev l y = ke k) (hz : ev l s = ve u)
    (hk : ∀ f', MRep ke ve R f' v (mput M k u) → wo P ρ n ops Q rest l D R (O.set i f')) : wo P ρ n ops Q (⟨none, .insert t x y s, ty, pos, after, none⟩ :: rest) l D R O :=
  wo_eff0 (eff_mapInsert (w0 := undef) (q := undef) hu hK hO h hx hy hz) fun v' R' O' _ ⟨_, hR, f', hO', h⟩ => by subst hR; subst hO'; exact hk f' h
/-- What a look-up reads. -/
def MAt (ke : κ → Value) (ve : β → Value) (R : RH) (O : List Frag) (v : Value) (M : List (κ × β)) : Prop :=
  ∀ A w, Holds R (O ++ A) w → ∃ b es c, v = .map (some b) ∧ w.heap[b]? = some (.map es c) ∧ MSame ke ve es M
omit [DecidableEq κ] in
theorem mat_read (h : VRep (tMap ke ve) R v M) : MAt ke ve R O v M := by
  intro A w hh
  obtain ⟨b, es, c, rfl, hb, hs⟩ := vrep_map.1 h
  exact ⟨b, es, c, rfl, hh.ro _ _ hb, hs⟩
theorem run_lookup {b : Nat} {es : Array MapEntry} {c : Nat} {w : World} (hu : P.underlying t = some (.map kt et)) (hK : KOk P kt ke) (hz : ∀ w, (zeroValue et).run P w = .ok (ve z) w) (hb : w.heap[b]? = some (.map es c)) (hs : MSame ke ve es M) (ok : Bool) :
    (Instr.lookup t (.map (some b)) (ke k) ok).run P w = .ok (if ok then .tuple #[ve (mget z M k), .bool (mhas M k)] else ve (mget z M k)) w := by
  have hf := hK.find k es.toList M ve w hs
  unfold Instr.lookup
  simp only [Sem.run_bind, run_underlying hu, Result.andThen_ok, MapKept.run_getObj_map hb, hK.check, hf, Sem.run_pure]
  rw [← mfind_get 0, ← mfind_has 0]
  cases hm : mfind M k 0 with
  | none => simp [hz]
  | some p => simp
theorem val_lookup (hu : P.underlying t = some (.map kt et)) (hK : KOk P kt ke) (hz : ∀ w, (zeroValue et).run P w = .ok (ve z) w) (h : MAt ke ve R O v M) (hx : ev l x = v) (hy : ev l y = ke k) : Val P ρ ⟨dst, .lookup t x y false, ty, pos, after, g⟩ l R O (ve (mget z M k)) := by
  intro A w hh; rw [sem_plain (by intro c h; cases h)]
  obtain ⟨b, es, c, rfl, hb, hs⟩ := h A w hh
  simp only [execOp, hx, hy, Sem.run_bind, run_lookup (k := k) hu hK hz hb hs, Result.andThen_ok]
  rfl
end e
theorem lent_m {κ β : Type} {ke : κ → Value} {ve : β → Value} {R R1 : RH} {O : List Frag} {f : Frag} {v : Value} {M : List (κ × β)} (i : Nat) (hi : O[i]? = some f) (h : MRep ke ve R f v M) (hle : RH.le R R1) (hl : ∀ f ∈ O, ∀ k o, f k = some o → R1.blk k = some o) : VRep (tMap ke ve) R1 v M := by
  obtain ⟨b, es, c, rfl, rfl, hs⟩ := h
  exact vrep_map.2 ⟨b, es, c, rfl, hl _ (List.mem_of_getElem? hi) b _ (single_same _ _), hs⟩
end GV
end Go.Proofs.Ytncblcdhmcmkmaa
