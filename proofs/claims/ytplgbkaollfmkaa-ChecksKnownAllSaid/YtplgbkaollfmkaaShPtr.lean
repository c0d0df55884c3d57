
import Derived.Test.YtplgbkaollfmkaaShMap
import Derived.Shelf.Sort.Plain
import Derived.Shelf.Bits.Mul64
import Derived.Laws.CopyRow
import Derived.Laws.IdiomCopy
import Derived.Laws.StructEq
import Derived.ChangeKeysEq
import Derived.WideKeyRuns
set_option linter.unusedVariables false
set_option linter.unusedSimpArgs false
namespace Go.Proofs.Ytplgbkaollfmkaa
namespace GV
/-! ### The plain form -/
/-! ### New blocks behind all -/
end GV
end Go.Proofs.Ytplgbkaollfmkaa

namespace Go.Proofs.Ytplgbkaollfmkaa
namespace GV
section c
variable {P : Program} {ρ : Option Nat} {l : Nat → Value} {R : RH} {O : List Frag} {ty : TypeId} {pos : String} {after : Array Go.Edge} {dst : Option Tmp} {g : Option (Nat × Bool)}
variable {α : Type} {T : Ty α} {X Y : List α} {v u : Value} {x y : Operand} {f : Frag} {t e : TypeId}
end c
end GV
end Go.Proofs.Ytplgbkaollfmkaa

namespace Go.Proofs.Ytplgbkaollfmkaa
namespace GV
def mkV (ag : Bool) (cs : List Value) : Value := if ag then .agg cs.toArray else cs.headD undef
structure KTy (P : Program) (t : TypeId) (m sz : Nat) (ag : Bool) (K : List Value → Prop) : Prop where
  cells : P.cellsOf t = sz
  info : ∃ i, P.info? t = some i
  len : ∀ cs, K cs → cs.length = sz
  isAgg : ∀ w, (isAgg t).run P w = .ok ag w
  one : ag = false → sz = 1
  eq : ∀ d (w : World) cs cs', m ≤ d → K cs → K cs' → ∃ r : Bool, (Op.equalIn d t (mkV ag cs) (mkV ag cs')).run P w = .ok r w ∧ (r = true ↔ cs = cs')
  chk : ∀ d (w : World) em cs, m ≤ d → K cs → (Instr.checkKey em d t (mkV ag cs)).run P w = .ok () w
section
variable {P : Program} {t e : TypeId} {m m' sz n : Nat} {ag : Bool} {K : List Value → Prop}
theorem KTy.mono (h : KTy P t m sz ag K) (hm : m ≤ m') : KTy P t m' sz ag K :=
  { h with eq := fun d w cs cs' hd => h.eq d w cs cs' (by omega), chk := fun d w em cs hd => h.chk d w em cs (by omega) }
theorem KTy.part (h : KTy P t m sz ag K) (w : World) {pre cs post : List Value} (hk : K cs) : (part t (pre ++ cs ++ post).toArray pre.length).run P w = .ok (mkV ag cs) w := by
  obtain ⟨i, hi⟩ := h.info
  have hl := h.len cs hk
  unfold Go.part
  rw [Sem.run_bind, h.isAgg w, Result.andThen_ok]
  cases ag
  · have hs := h.one rfl
    match cs, hl with
    | [v], _ =>
      simp only [Bool.false_eq_true, if_false]
      have : (pre ++ [v] ++ post).toArray[pre.length]? = some v := by simp
      rw [this]; rfl
    | [], hl => simp at hl; omega
    | _ :: _ :: _, hl => simp at hl; omega
  · simp only [if_true, Sem.run_bind, run_sizeOf w hi, h.cells, Result.andThen_ok, Sem.run_pure]
    have : (pre ++ cs ++ post).toArray.extract pre.length (pre.length + sz) = cs.toArray := by
      apply Array.toList_inj.1
      rw [Array.toList_extract]
      simp only [List.extract_eq_take_drop, List.append_assoc, List.drop_left, List.take_append_of_le_length (Nat.le_of_eq (show pre.length + sz - pre.length = cs.length by omega)), List.take_of_length_le (show cs.length ≤ pre.length + sz - pre.length by omega)]
    rw [this]; rfl
theorem KTy.part' (h : KTy P t m sz ag K) (w : World) {xs : List Value} {off : Nat} {pre cs post : List Value} (hk : K cs) (hx : xs = pre ++ cs ++ post) (ho : off = pre.length) : (Go.part t xs.toArray off).run P w = .ok (mkV ag cs) w := by
  subst hx; subst ho; exact h.part w hk
theorem zqr {q : IntKind} (hu : P.underlying t = some (.int q)) (hs : P.cellsOf t = 1) : KTy P t 1 1 false (fun cs => ∃ x, cs = [.int q x]) where
  cells := hs
  info := info_of_underlying hu
  len := by rintro cs ⟨x, rfl⟩; rfl
  isAgg w := by simp [Go.isAgg, run_underlying hu]
  one _ := rfl
  eq := by
    rintro d w _ _ hd ⟨x, rfl⟩ ⟨y, rfl⟩
    obtain ⟨d, rfl⟩ : ∃ d', d = d' + 1 := ⟨d - 1, by omega⟩
    refine ⟨x == y, ?_, by simp⟩
    simp [mkV, Op.equalIn, run_underlying hu]
  chk := by
    rintro d w em _ hd ⟨x, rfl⟩
    obtain ⟨d, rfl⟩ : ∃ d', d = d' + 1 := ⟨d - 1, by omega⟩
    simp [mkV, Instr.checkKey, run_underlying hu]
/-! ### Arrays -/
def zdo (n : Nat) (K : List Value → Prop) (cs : List Value) : Prop := ∃ L : List (List Value), L.length = n ∧ (∀ c ∈ L, K c) ∧ cs = L.flatten
theorem zh1 {L : List (List Value)} (h : ∀ c ∈ L, c.length = sz) : L.flatten.length = L.length * sz := by
  induction L with
  | nil => simp
  | cons c L ih =>
    rw [List.flatten_cons, List.length_append, ih (fun c hc => h c (by simp [hc])), h c (by simp), List.length_cons, Nat.succ_mul, Nat.add_comm]
theorem zeg (h : KTy P e m sz ag K) (d : Nat) (hd : m ≤ d) (w : World) : ∀ (L L' : List (List Value)) (pre pre' : List Value) (k : Nat), L.length = L'.length → (∀ c ∈ L, K c) → (∀ c ∈ L', K c) → pre.length = k * sz → pre'.length = k * sz →
    ∃ r : Bool, (Op.eqItems d e sz (pre ++ L.flatten).toArray (pre' ++ L'.flatten).toArray (List.range' k L.length)).run P w = .ok r w ∧ (r = true ↔ L.flatten = L'.flatten)
  | [], [], pre, pre', k, _, _, _, _, _ => ⟨true, by simp [Op.eqItems], by simp⟩
  | [], _ :: _, _, _, _, hl, _, _, _, _ => by simp at hl
  | _ :: _, [], _, _, _, hl, _, _, _, _ => by simp at hl
  | c :: L, c' :: L', pre, pre', k, hl, hK, hK', hp, hp' => by
    have k1 := hK c (by simp)
    have k2 := hK' c' (by simp)
    have l1 := h.len c k1
    have l2 := h.len c' k2
    obtain ⟨r, hr, hi⟩ := h.eq d w c c' hd k1 k2
    obtain ⟨r', hr', hi'⟩ := zeg h d hd w L L' (pre ++ c) (pre' ++ c') (k + 1) (by simpa using hl) (fun c hc => hK c (by simp [hc])) (fun c hc => hK' c (by simp [hc])) (by rw [List.length_append, hp, l1, Nat.succ_mul]) (by rw [List.length_append, hp', l2, Nat.succ_mul])
    rw [List.append_assoc, List.append_assoc] at hr'
    have p1 := h.part' (P := P) w (xs := pre ++ (c :: L).flatten) (off := k * sz) (pre := pre) (post := L.flatten) k1 (by simp) hp.symm
    have p2 := h.part' (P := P) w (xs := pre' ++ (c' :: L').flatten) (off := k * sz) (pre := pre') (post := L'.flatten) k2 (by simp) hp'.symm
    rw [List.length_cons, List.range'_succ]
    simp only [Op.eqItems, Sem.run_bind, p1, p2, hr, Result.andThen_ok]
    have happ : (c :: L).flatten = (c' :: L').flatten ↔ c = c' ∧ L.flatten = L'.flatten := by
      rw [List.flatten_cons, List.flatten_cons]
      exact ⟨fun e => List.append_inj e (by omega), fun ⟨e1, e2⟩ => by rw [e1, e2]⟩
    cases r
    · exact ⟨false, by simp, by rw [happ]; simp; intro e; exact absurd (hi.2 e) (by simp)⟩
    · refine ⟨r', by simpa [List.flatten_cons] using hr', ?_⟩
      rw [happ, hi']
      simp [hi.1 rfl]
theorem zjn (hu : P.underlying t = some (.array n e)) (hs : P.cellsOf t = n * sz) (h : KTy P e m sz ag K) : KTy P t (m + 1) (n * sz) true (zdo n K) where
  cells := hs
  info := info_of_underlying hu
  len := by rintro cs ⟨L, hl, hK, rfl⟩; rw [zh1 fun c hc => h.len c (hK c hc), hl]
  isAgg w := by simp [Go.isAgg, run_underlying hu]
  one h := by cases h
  eq := by
    rintro d w _ _ hd ⟨L, hl, hK, rfl⟩ ⟨L', hl', hK', rfl⟩
    obtain ⟨d, rfl⟩ : ∃ d', d = d' + 1 := ⟨d - 1, by omega⟩
    obtain ⟨i, hi⟩ := h.info
    obtain ⟨r, hr, hiff⟩ := zeg h d (by omega) w L L' [] [] 0 (by omega) hK hK' (by simp) (by simp)
    refine ⟨r, ?_, hiff⟩
    show (Op.equalIn (d + 1) t (.agg L.flatten.toArray) (.agg L'.flatten.toArray)).run P w = _
    rw [run_equalIn_array w d _ _ hu hi, h.cells, List.range_eq_range', ← hl]
    exact hr
  chk := by
    rintro d w em _ hd ⟨L, hl, hK, rfl⟩
    obtain ⟨d, rfl⟩ : ∃ d', d = d' + 1 := ⟨d - 1, by omega⟩
    obtain ⟨i, hi⟩ := h.info
    show (Instr.checkKey em (d + 1) t (.agg L.flatten.toArray)).run P w = _
    rw [Instr.checkKey]
    simp only [Sem.run_bind, run_underlying hu, Result.andThen_ok]
    simp only [Std.Legacy.Range.forIn_eq_forIn_range', Std.Legacy.Range.size, Nat.sub_zero, Nat.add_one_sub_one, Nat.div_one]
    rw [← hl]
    have key : ∀ (L : List (List Value)) (pre : List Value) (k : Nat), (∀ c ∈ L, K c) → pre.length = k * sz →
        (forIn (List.range' k L.length) PUnit.unit fun i _ => do
          let a ← sizeOf e
          let a ← Go.part e (pre ++ L.flatten).toArray (i * a)
          Instr.checkKey em d e a
          pure (ForInStep.yield PUnit.unit) : Sem PUnit).run P w = .ok () w := by
      intro L
      induction L with
      | nil => intro pre k _ _; simp
      | cons c L ih =>
        intro pre k hK hp
        have k1 := hK c (by simp)
        have p1 := h.part' (P := P) w (xs := pre ++ (c :: L).flatten) (off := k * sz) (pre := pre) (post := L.flatten) k1 (by simp) hp.symm
        have p2 := h.chk d w em c (by omega) k1
        rw [List.length_cons, List.range'_succ]
        simp only [List.forIn_cons, Sem.run_bind, run_sizeOf w hi, h.cells, Result.andThen_ok, p1, p2, Sem.run_pure]
        have := ih (pre ++ c) (k + 1) (fun c hc => hK c (by simp [hc])) (by rw [List.length_append, hp, h.len c k1, Nat.succ_mul])
        rw [List.append_assoc] at this
        simpa [List.flatten_cons] using this
    have h0 := key L [] 0 hK (by simp)
    rw [List.nil_append] at h0
    rw [h0]; rfl
/-! ### Structs -/
inductive KFld (P : Program) (m : Nat) : Nat → List Field → (List Value → Prop) → Prop
  | nil {off : Nat} : KFld P m off [] (fun cs => cs = [])
  | cons {off sz : Nat} {f : Field} {fs : List Field} {ag : Bool} {K K' : List Value → Prop} : f.name ≠ "_" → f.offset = off → KTy P f.type m sz ag K → KFld P m (off + sz) fs K' → KFld P m off (f :: fs) (fun cs => ∃ a b, K a ∧ K' b ∧ cs = a ++ b)
theorem KFld.len {off : Nat} {fs : List Field} {K : List Value → Prop} (h : KFld P m off fs K) : ∃ k, ∀ cs, K cs → cs.length = k := by
  induction h with
  | nil => exact ⟨0, fun cs e => by subst e; rfl⟩
  | cons hn ho ht hf ih =>
    obtain ⟨k, hk⟩ := ih
    exact ⟨_, by rintro cs ⟨a, b, ha, hb, rfl⟩; rw [List.length_append, ht.len a ha, hk b hb]⟩
theorem zqa {off : Nat} {fs : List Field} {K : List Value → Prop} (h : KFld P m off fs K) (d : Nat) (hd : m ≤ d) (w : World) : ∀ (cs cs' pre pre' : List Value), K cs → K cs' → pre.length = off → pre'.length = off →
    ∃ r : Bool, (Op.eqFields d (pre ++ cs).toArray (pre' ++ cs').toArray fs).run P w = .ok r w ∧ (r = true ↔ cs = cs') := by
  induction h with
  | nil => rintro cs cs' pre pre' rfl rfl _ _; exact ⟨true, by simp [Op.eqFields], by simp⟩
  | @cons off sz f fs ag K K' hn ho ht hf ih =>
    rintro cs cs' pre pre' ⟨a, b, ha, hb, rfl⟩ ⟨a', b', ha', hb', rfl⟩ hp hp'
    have l1 := ht.len a ha
    have l2 := ht.len a' ha'
    obtain ⟨r, hr, hi⟩ := ht.eq d w a a' hd ha ha'
    obtain ⟨r', hr', hi'⟩ := ih b b' (pre ++ a) (pre' ++ a') hb hb' (by rw [List.length_append, hp, l1]) (by rw [List.length_append, hp', l2])
    have p1 := ht.part' (P := P) w (xs := pre ++ (a ++ b)) (off := f.offset) (pre := pre) (post := b) ha (by simp) (by omega)
    have p2 := ht.part' (P := P) w (xs := pre' ++ (a' ++ b')) (off := f.offset) (pre := pre') (post := b') ha' (by simp) (by omega)
    simp only [Op.eqFields, hn, ne_eq, not_false_eq_true, if_true, Sem.run_bind, p1, p2, hr, Result.andThen_ok]
    have happ : a ++ b = a' ++ b' ↔ a = a' ∧ b = b' := ⟨fun e => List.append_inj e (by omega), fun ⟨e1, e2⟩ => by rw [e1, e2]⟩
    cases r
    · exact ⟨false, by simp, by rw [happ]; simp; intro e; exact absurd (hi.2 e) (by simp)⟩
    · refine ⟨r', by simpa using hr', ?_⟩
      rw [happ, hi']
      simp [hi.1 rfl]
theorem zie {fs : Array Field} (hu : P.underlying t = some (.struct fs)) (hst : P.stoodInHeld t = false) (hs : P.cellsOf t = sz) (h : KFld P m 0 fs.toList K) (hl : ∀ cs, K cs → cs.length = sz) : KTy P t (m + 1) sz true K where
  cells := hs
  info := info_of_underlying hu
  len := hl
  isAgg w := by simp [Go.isAgg, run_underlying hu]
  one h := by cases h
  eq := by
    rintro d w cs cs' hd hk hk'
    obtain ⟨d, rfl⟩ : ∃ d', d = d' + 1 := ⟨d - 1, by omega⟩
    have hfs : P.fieldsOf t = fs := by simp [Program.fieldsOf, hu]
    obtain ⟨r, hr, hi⟩ := zqa h d (by omega) w cs cs' [] [] hk hk' rfl rfl
    refine ⟨r, ?_, hi⟩
    show (Op.equalIn (d + 1) t (.agg cs.toArray) (.agg cs'.toArray)).run P w = _
    rw [run_equalIn_struct w d t _ _ (by rw [hfs]; exact hu) hst, hfs]
    exact hr
  chk := by
    rintro d w em cs hd hk
    obtain ⟨d, rfl⟩ : ∃ d', d = d' + 1 := ⟨d - 1, by omega⟩
    show (Instr.checkKey em (d + 1) t (.agg cs.toArray)).run P w = _
    rw [Instr.checkKey]
    simp only [Sem.run_bind, run_underlying hu, Result.andThen_ok]
    rw [← Array.forIn_toList]
    have key : ∀ (off : Nat) (L : List Field) (K : List Value → Prop), KFld P m off L K → ∀ (cs pre : List Value), K cs → pre.length = off →
        (forIn L PUnit.unit fun f _ => do
          if f.name ≠ "_" then do
            let a ← Go.part f.type (pre ++ cs).toArray f.offset
            Instr.checkKey em d f.type a
            pure (ForInStep.yield PUnit.unit)
          else pure (ForInStep.yield PUnit.unit) : Sem PUnit).run P w = .ok () w := by
      intro off L K h
      induction h with
      | nil => rintro cs pre rfl _; simp
      | @cons off sz f fs ag K K' hn ho ht hf ih =>
        rintro cs pre ⟨a, b, ha, hb, rfl⟩ hp
        have p1 := ht.part' (P := P) w (xs := pre ++ (a ++ b)) (off := f.offset) (pre := pre) (post := b) ha (by simp) (by omega)
        have p2 := ht.chk d w em a (by omega) ha
        simp only [List.forIn_cons, Sem.run_bind, hn, ne_eq, not_false_eq_true, if_true, Result.andThen_ok, p1, p2, Sem.run_pure]
        have := ih b (pre ++ a) hb (by rw [List.length_append, hp, ht.len a ha])
        simpa using this
    have h0 := key 0 _ K h cs [] hk rfl
    rw [List.nil_append] at h0
    rw [h0]; rfl
end
/-! ### Finding -/
theorem zhn {α : Type} : ∀ {l : List α} {p : α × α}, p ∈ l.zip l → p.1 = p.2 ∧ p.1 ∈ l
  | [], p, h => by simp at h
  | a :: l, p, h => by
    rw [List.zip_cons_cons] at h
    rcases List.mem_cons.1 h with rfl | h
    · exact ⟨rfl, by simp⟩
    · obtain ⟨h1, h2⟩ := zhn h
      exact ⟨h1, by simp [h2]⟩
def z4j (v : Value) : Prop := (∃ q x, v = .int q x) ∨ ∃ b, v = .bool b
theorem zco {n : Nat} {v : Value} (h : z4j v) : Instr.sameBits n v v = true := by
  rcases h with ⟨q, x, rfl⟩ | ⟨b, rfl⟩
  · cases n <;> simp [Instr.sameBits]
  · cases n <;> simp [Instr.sameBits]
theorem zfx {n : Nat} {cs : List Value} (h : ∀ v ∈ cs, z4j v) : Instr.sameBits (n + 1) (.agg cs.toArray) (.agg cs.toArray) = true := by
  simp only [Instr.sameBits, beq_self_eq_true, Bool.true_and, List.all_eq_true]
  intro p hp
  obtain ⟨h1, h2⟩ := zhn hp
  obtain ⟨a, b⟩ := p
  simp only at h1 h2
  subst h1
  exact zco (h _ h2)
section
variable {P : Program} {kt : TypeId} {m sz : Nat} {K : List Value → Prop} {κ : Type} [DecidableEq κ] {ke : κ → Value} {cl : κ → List Value}
theorem zji (h : KTy P kt m sz true K) (hm : m ≤ Op.maxDepth) (he : ∀ k, ke k = .agg (cl k).toArray) (hK : ∀ k, K (cl k)) (hinj : ∀ a b, cl a = cl b → a = b) {β : Type} (k : κ) (ve : β → Value) (w : World) :
    ∀ (es : List MapEntry) (M : List (κ × β)) (i : Nat), es.map zat = M.map (fun p => (ke p.1, ve p.2)) → (Instr.findAsking kt (ke k) es i).run P w = .ok ((z3o M k i).map fun p => (p.1, ve p.2)) w
  | [], [], i, _ => by simp [Instr.findAsking, z3o]
  | [], _ :: _, _, h => by simp at h
  | _ :: _, [], _, h => by simp at h
  | e :: es, p :: M, i, hes => by
    simp only [List.map_cons, List.cons.injEq, zat, Prod.mk.injEq] at hes
    obtain ⟨⟨h1, h2⟩, h3⟩ := hes
    obtain ⟨r, hr, hi⟩ := h.eq Op.maxDepth w (cl k) (cl p.1) hm (hK k) (hK p.1)
    have hr' : (Op.equal kt (ke k) e.key).run P w = .ok r w := by
      rw [h1, he, he]; exact hr
    unfold Instr.findAsking z3o
    rw [Sem.run_bind, hr', Result.andThen_ok]
    have hrk : r = true ↔ k = p.1 := ⟨fun e => hinj _ _ (hi.1 e), fun e => hi.2 (by rw [e])⟩
    by_cases hk : k = p.1
    · rw [if_pos (hrk.2 hk), if_pos hk, h2]; rfl
    · rw [if_neg (fun e => hk (hrk.1 e)), if_neg hk]
      exact zji h hm he hK hinj k ve w es M (i + 1) h3
theorem znc (h : KTy P kt m sz true K) (hm : m ≤ 10000) (hw : (match P.underlying kt with | some (.array _ _) | some (.struct _) => true | _ => false) = true) (he : ∀ k, ke k = .agg (cl k).toArray) (hK : ∀ k, K (cl k)) (hinj : ∀ a b, cl a = cl b → a = b)
    (hpl : ∀ k, ∀ v ∈ cl k, z4j v) : KOk P kt ke where
  check b k w := by rw [he]; exact h.chk 10000 w b (cl k) hm (hK k)
  find k es M ve w hes := by
    rw [run_findKey_eq w hw]
    exact zji h hm he hK hinj k ve w es M 0 hes
  same k := by rw [he]; exact zfx (hpl k)
end
end GV
end Go.Proofs.Ytplgbkaollfmkaa

namespace Go.Proofs.Ytplgbkaollfmkaa
namespace GV
abbrev Arr (n : Nat) (α : Type) := {l : List α // l.length = n}
instance {n : Nat} {α : Type} [Inhabited α] : Inhabited (Arr n α) := ⟨⟨List.replicate n default, List.length_replicate⟩⟩
def z3y {α : Type} [Inhabited α] (n : Nat) (l : List α) : Arr n α := if h : l.length = n then ⟨l, h⟩ else default
theorem z7c {α : Type} [Inhabited α] {n : Nat} {l : List α} (h : l.length = n) : (z3y n l).1 = l := by unfold z3y; rw [dif_pos h]
theorem zik {α : Type} {cs : List α} {n k i : Nat} (h : cs.length = n * k) (hi : i < n) : ((cs.drop (i * k)).take k).length = k := by
  rw [List.length_take, List.length_drop, h]
  have : (i + 1) * k ≤ n * k := Nat.mul_le_mul_right k hi
  rw [Nat.succ_mul] at this
  omega
theorem zkd {α : Type} {cs : List α} {n k : Nat} (h : cs.length = n * k) {v : α} (hv : v ∈ cs) : ∃ i, i < n ∧ v ∈ (cs.drop (i * k)).take k := by
  obtain ⟨j, hj, rfl⟩ := List.mem_iff_getElem.1 hv
  have hk : 0 < k := by
    rcases Nat.eq_zero_or_pos k with e | e
    · subst e; simp at h; subst h; simp at hj
    · exact e
  have h1 : j / k < n := Nat.div_lt_of_lt_mul (show j < k * n by rw [Nat.mul_comm, ← h]; exact hj)
  refine ⟨j / k, h1, ?_⟩
  have h2 := Nat.div_add_mod j k
  have h3 := Nat.mod_lt j hk
  have h4 := zik h h1
  refine List.mem_iff_getElem.2 ⟨j % k, by omega, ?_⟩
  rw [List.getElem_take, List.getElem_drop]
  congr 1
  rw [Nat.mul_comm]; exact h2
def zsh {α : Type} (n : Nat) (T : Ty α) : Ty (Arr n α) where
  size := n * T.size
  agg := true
  rep R cs X := cs.length = n * T.size ∧ ∀ i x, X.1[i]? = some x → T.rep R ((cs.drop (i * T.size)).take T.size) x
  len h := h.1
  mono hle h := ⟨h.1, fun i x hx => T.mono hle (h.2 i x hx)⟩
  one h := by cases h
  cell := by
    rintro R cs X ⟨h1, h2⟩ v hv
    obtain ⟨i, hi, hm⟩ := zkd h1 hv
    have hl : i < X.1.length := by rw [X.2]; exact hi
    exact T.cell (h2 i _ (List.getElem?_eq_getElem hl)) v hm
structure CellsOf {α : Type} (T : Ty α) (cl : α → List Value) : Prop where
  len : ∀ x, (cl x).length = T.size
  iff : ∀ R cs x, T.rep R cs x ↔ cs = cl x
theorem cells_int {q : IntKind} : CellsOf (zw q) (fun x => [Value.int q x]) := ⟨fun _ => rfl, fun R cs x => Iff.rfl⟩
def z0m {α : Type} {n : Nat} (cl : α → List Value) (X : Arr n α) : List Value := X.1.flatMap cl
theorem z2c {α : Type} {cl : α → List Value} {k : Nat} (h : ∀ x, (cl x).length = k) : ∀ (l : List α) (i : Nat) (x : α), l[i]? = some x → ((l.flatMap cl).drop (i * k)).take k = cl x
  | [], i, x, hx => by simp at hx
  | y :: l, 0, x, hx => by
    have : y = x := by simpa using hx
    subst this
    rw [Nat.zero_mul, List.drop_zero, List.flatMap_cons, List.take_left' (h y)]
  | y :: l, i + 1, x, hx => by
    rw [List.flatMap_cons, Nat.succ_mul, Nat.add_comm, ← List.drop_drop, List.drop_left' (h y)]
    exact z2c h l i x (by simpa using hx)
theorem z2r {α : Type} {cl : α → List Value} {k : Nat} (h : ∀ x, (cl x).length = k) : ∀ (l : List α), (l.flatMap cl).length = l.length * k
  | [] => by simp
  | y :: l => by rw [List.flatMap_cons, List.length_append, h y, z2r h l, List.length_cons, Nat.succ_mul, Nat.add_comm]
theorem zlp {cs cs' : List Value} {n k : Nat} (h : cs.length = n * k) (h' : cs'.length = n * k) (hc : ∀ i, i < n → (cs.drop (i * k)).take k = (cs'.drop (i * k)).take k) : cs = cs' := by
  induction n generalizing cs cs' with
  | zero => simp at h h'; rw [h, h']
  | succ n ih =>
    rw [Nat.succ_mul] at h h'
    have h0 := hc 0 (by omega)
    rw [Nat.zero_mul, List.drop_zero, List.drop_zero] at h0
    have h1 : cs.drop k = cs'.drop k := ih (by rw [List.length_drop]; omega) (by rw [List.length_drop]; omega) fun i hi => by
      have := hc (i + 1) (by omega)
      rw [Nat.succ_mul, Nat.add_comm] at this
      rwa [List.drop_drop, List.drop_drop]
    rw [← List.take_append_drop k cs, ← List.take_append_drop k cs', h0, h1]
theorem zjz {α : Type} {T : Ty α} {cl : α → List Value} {n : Nat} (h : CellsOf T cl) : CellsOf (zsh n T) (z0m cl : Arr n α → List Value) := by
  refine ⟨fun X => by show (X.1.flatMap cl).length = n * T.size; rw [z2r h.len, X.2], fun R cs X => ?_⟩
  show (cs.length = n * T.size ∧ _) ↔ cs = X.1.flatMap cl
  constructor
  · rintro ⟨h1, h2⟩
    refine zlp h1 (by rw [z2r h.len, X.2]) fun i hi => ?_
    have hl : i < X.1.length := by rw [X.2]; exact hi
    have := (h.iff _ _ _).1 (h2 i _ (List.getElem?_eq_getElem hl))
    rw [this, z2c h.len _ _ _ (List.getElem?_eq_getElem hl)]
  · rintro rfl
    exact ⟨by rw [z2r h.len, X.2], fun i x hx => by rw [z2c h.len _ _ _ hx]; exact (h.iff _ _ _).2 rfl⟩
theorem zj2 {α β : Type} {A : Ty α} {B : Ty β} {ca : α → List Value} {cb : β → List Value} (h : CellsOf A ca) (k : CellsOf B cb) : CellsOf (z0k A B) (fun x => ca x.1 ++ cb x.2) := by
  refine ⟨fun x => by show (ca x.1 ++ cb x.2).length = A.size + B.size; rw [List.length_append, h.len, k.len], fun R cs x => ?_⟩
  constructor
  · rintro ⟨c1, c2, rfl, h1, h2⟩
    rw [(h.iff _ _ _).1 h1, (k.iff _ _ _).1 h2]
  · rintro rfl
    exact ⟨_, _, rfl, (h.iff _ _ _).2 rfl, (k.iff _ _ _).2 rfl⟩
theorem zok {α β : Type} {A : Ty α} {ca : α → List Value} {f : β → α} (h : CellsOf A ca) : CellsOf (A.as f) (fun x => ca (f x)) := ⟨fun x => h.len (f x), fun R cs x => h.iff R cs (f x)⟩
theorem zgg {α : Type} {cl : α → List Value} {k : Nat} (h : ∀ x, (cl x).length = k) (hi : ∀ x y, cl x = cl y → x = y) : ∀ (l l' : List α), l.length = l'.length → l.flatMap cl = l'.flatMap cl → l = l'
  | [], [], _, _ => rfl
  | [], _ :: _, hl, _ => by simp at hl
  | _ :: _, [], hl, _ => by simp at hl
  | x :: l, y :: l', hl, e => by
    rw [List.flatMap_cons, List.flatMap_cons] at e
    obtain ⟨e1, e2⟩ := List.append_inj e (by rw [h, h])
    rw [hi _ _ e1, zgg h hi l l' (by simpa using hl) e2]
theorem zly {α : Type} {n : Nat} {cl : α → List Value} {k : Nat} (h : ∀ x, (cl x).length = k) (hi : ∀ x y, cl x = cl y → x = y) {X Y : Arr n α} (e : z0m cl X = z0m cl Y) : X = Y :=
  Subtype.ext (zgg h hi _ _ (by rw [X.2, Y.2]) e)
theorem zqm {α : Type} {n : Nat} {cl : α → List Value} {K : List Value → Prop} (h : ∀ x, K (cl x)) (X : Arr n α) : zdo n K (z0m cl X) :=
  ⟨X.1.map cl, by rw [List.length_map, X.2], fun c hc => by obtain ⟨x, _, rfl⟩ := List.mem_map.1 hc; exact h x, by unfold z0m; rw [List.flatMap_def]⟩
theorem zmd {α : Type} {n : Nat} {cl : α → List Value} (h : ∀ x, ∀ v ∈ cl x, z4j v) (X : Arr n α) : ∀ v ∈ z0m cl X, z4j v := fun v hv => by
  obtain ⟨x, _, hx⟩ := List.mem_flatMap.1 hv
  exact h x v hx
/-! ### A box that holds an array: as a slice that can't grow -/
section a
variable {P : Program} {ρ : Option Nat} {n : Nat} {ops : Array Oper} {Q : Po} {rest : List Oper} {l : Nat → Value} {D : List Nat} {R : RH} {O : List Frag} {ty : TypeId} {pos : String} {after : Array Go.Edge} {d : Nat} {dst : Option Tmp} {g : Option (Nat × Bool)}
variable {α β : Type} {T : Ty α} {B : Ty β} {X : List α} {v u w : Value} {x y ix' : Operand} {f F : Frag} {i j o b m sz : Nat} {t s e : TypeId} {k : IntKind}
end a
end GV
end Go.Proofs.Ytplgbkaollfmkaa

namespace Go.Proofs.Ytplgbkaollfmkaa
namespace GV
theorem pl_int {q : IntKind} (x : Int) : ∀ v ∈ [Value.int q x], z4j v := fun v hv => .inl ⟨_, _, List.mem_singleton.1 hv⟩
theorem zsd {q : IntKind} (x y : Int) (h : [Value.int q x] = [Value.int q y]) : x = y := by simpa using h
def l7 {α : Type} {n : Nat} (X : Arr n α) (i : Int) (z : α) : Arr n α := ⟨X.1.set i.toNat z, by rw [List.length_set]; exact X.2⟩
theorem zs9 {α : Type} [Inhabited α] {n i sz : Nat} {cl : α → List Value} {X : Arr n α} (hl : ∀ x, (cl x).length = sz) (hi : i < n) : ((z0m cl X).drop (i * sz)).take sz = cl (X.1.getD i default) := by
  have h : i < X.1.length := by rw [X.2]; exact hi
  rw [show z0m cl X = X.1.flatMap cl from rfl, z2c hl _ _ _ (List.getElem?_eq_getElem h)]
  simp [List.getD_eq_getElem?_getD, h]
theorem zey {α : Type} {n sz : Nat} {cl : α → List Value} (hl : ∀ x, (cl x).length = sz) (X : Arr n α) : (z0m cl X).length = n * sz := by
  rw [show z0m cl X = X.1.flatMap cl from rfl, z2r hl, X.2]
theorem zhp {α : Type} {cl : α → List Value} {k : Nat} (h : ∀ x, (cl x).length = k) (z : α) : ∀ (l : List α) (i : Nat), i < l.length → (l.set i z).flatMap cl = (l.flatMap cl).take (i * k) ++ cl z ++ (l.flatMap cl).drop ((i + 1) * k)
  | [], i, hi => by simp at hi
  | x :: l, 0, _ => by
    rw [List.set_cons_zero, List.flatMap_cons, List.flatMap_cons, Nat.zero_mul, List.take_zero, List.nil_append, Nat.zero_add, Nat.one_mul, List.drop_left' (h x)]
  | x :: l, i + 1, hi => by
    rw [List.set_cons_succ, List.flatMap_cons, List.flatMap_cons, zhp h z l i (by simpa using hi)]
    have e1 : (i + 1) * k = k + i * k := by rw [Nat.succ_mul, Nat.add_comm]
    have e2 : (i + 1 + 1) * k = k + (i + 1) * k := by rw [Nat.succ_mul (i + 1), Nat.add_comm]
    rw [e1, e2, ← h x, List.take_length_add_append, List.drop_length_add_append, h x]
    simp only [List.append_assoc]
    rw [show k + i * k = (i + 1) * k from e1.symm]
theorem zhy {α : Type} [Inhabited α] {n i sz o : Nat} {cl : α → List Value} {X : Arr n α} {vs : List Value} {z : α} (hl : ∀ x, (cl x).length = sz) (hi : i < n) (hz : (cl (X.1.getD i default)).take o ++ vs ++ (cl (X.1.getD i default)).drop (o + vs.length) = cl z) (ho : o + vs.length ≤ sz) :
    over (z0m cl X) (i * sz + o) vs = z0m cl (l7 X (i : Int) z) := by
  have h : i < X.1.length := by rw [X.2]; exact hi
  have hlen := zey hl X
  have h1 : (i + 1) * sz ≤ n * sz := Nat.mul_le_mul_right sz hi
  have e1 : (i + 1) * sz = i * sz + sz := Nat.succ_mul i sz
  have hc := zs9 (X := X) hl hi
  show _ = (X.1.set (i : Int).toNat z).flatMap cl
  rw [Int.toNat_natCast, zhp hl z X.1 i h, ← hz, ← hc]
  unfold over
  show (z0m cl X).take (i * sz + o) ++ vs ++ (z0m cl X).drop (i * sz + o + vs.length) = (z0m cl X).take (i * sz) ++ _ ++ (z0m cl X).drop ((i + 1) * sz)
  rw [e1]
  generalize z0m cl X = cs at hlen
  have t1 : cs.take (i * sz + o) = cs.take (i * sz) ++ (((cs.drop (i * sz)).take sz).take o) := by
    rw [List.take_take, Nat.min_eq_left (by omega), List.take_add]
  have t2 : cs.drop (i * sz + o + vs.length) = (((cs.drop (i * sz)).take sz).drop (o + vs.length)) ++ cs.drop (i * sz + sz) := by
    rw [List.drop_take, List.drop_drop, ← Nat.add_assoc]
    have : cs.drop (i * sz + sz) = (cs.drop (i * sz + o + vs.length)).drop (sz - (o + vs.length)) := by rw [List.drop_drop]; congr 1; omega
    rw [this, List.take_append_drop]
  rw [t1, t2]
  simp only [List.append_assoc]
section w
variable {P : Program} {ρ : Option Nat} {n : Nat} {ops : Array Oper} {Q : Po} {rest : List Oper} {l : Nat → Value} {D : List Nat} {R : RH} {O : List Frag} {ty : TypeId} {pos : String} {after : Array Go.Edge} {d : Nat} {dst : Option Tmp} {g : Option (Nat × Bool)}
variable {α : Type} [Inhabited α] {x y : Operand} {i j o b m sz k off : Nat} {t e bt : TypeId} {X : Arr m α} {cl : α → List Value} {vs : List Value} {v : Value}
theorem z4c {cs : List Value} (ha : ∀ w, (isAgg t).run P w = .ok true w) (hs : ∀ w, (sizeOf t).run P w = .ok k w) (hx : ev l x = .pointer (some ⟨b, 0, none⟩)) (hO : O[j]? = some (box b cs bt)) (hk : cs.length = k) (hw : Value.agg cs.toArray = v) :
    Val P ρ ⟨dst, .load t x, ty, pos, after, g⟩ l R O v := by
  subst hw
  exact yl ha hs hx hO (by rw [List.drop_zero, ← hk, List.take_length]) hk
theorem zgj {z : α} {w : Value} (hl : ∀ x, (cl x).length = sz) (hs : ∀ w, (sizeOf t).run P w = .ok k w) (hx : ev l x = .pointer (some ⟨b, off, none⟩)) (hoff : off = i * sz + o) (hO : O[j]? = some (box b (z0m cl X) bt)) (hi : i < m)
    (hy : ev l y = w) (hv : w.cells = vs.toArray) (hn : vs.length = k) (h1 : ∀ v ∈ vs, v.oneCell' = true) (ho : o + vs.length ≤ sz) (hz : (cl (X.1.getD i default)).take o ++ vs ++ (cl (X.1.getD i default)).drop (o + vs.length) = cl z) :
    Eff P ρ ⟨dst, .store t x y, ty, pos, after, g⟩ l R O (fun v' R' O' => v' = undef ∧ R' = R ∧ O' = O.set j (box b (z0m cl (l7 X (i : Int) z)) bt)) := by
  subst hoff
  have h2 := zhy (X := X) hl hi hz ho
  have h3 := zey hl X
  have h4 : (i + 1) * sz ≤ m * sz := Nat.mul_le_mul_right sz hi
  rw [Nat.succ_mul] at h4
  have := z1a (P := P) (ρ := ρ) (R := R) (dst := dst) (ty := ty) (pos := pos) (after := after) (g := g) hs hx hy hv hn hO (by rw [h3]; omega) h1
  rw [h2] at this
  exact this
theorem ze5 {z : α} {w : Value} {q : Int} (hl : ∀ x, (cl x).length = sz) (hs : ∀ w, (sizeOf t).run P w = .ok k w) (hx : ev l x = .pointer (some ⟨b, off, none⟩)) (hq : q.toNat = i) (hoff : off = i * sz + o) (hO : O[j]? = some (box b (z0m cl X) bt)) (hi : i < m)
    (hy : ev l y = w) (hv : w.cells = vs.toArray) (hn : vs.length = k) (h1 : ∀ v ∈ vs, v.oneCell' = true) (ho : Nat.ble (o + vs.length) sz = true) (hz : (cl (X.1.getD i default)).take o ++ vs ++ (cl (X.1.getD i default)).drop (o + vs.length) = cl z)
    (hk : wo P ρ n ops Q rest l D R (O.set j (box b (z0m cl (l7 X q z)) bt))) : wo P ρ n ops Q (⟨none, .store t x y, ty, pos, after, none⟩ :: rest) l D R O := by
  have e : l7 X q z = l7 X (i : Int) z := Subtype.ext (by show X.1.set q.toNat z = X.1.set ((i : Int).toNat) z; rw [hq, Int.toNat_natCast])
  rw [e] at hk
  exact z9v (zgj hl hs hx hoff hO hi hy hv hn h1 (by simpa using ho) hz) fun v' R' O' _ ⟨_, hR, hO⟩ => by subst hR; subst hO; exact hk
theorem zav {cs cs' : List Value} {w : Value} (hs : ∀ w, (sizeOf t).run P w = .ok k w) (hx : ev l x = .pointer (some ⟨b, 0, none⟩)) (hO : O[j]? = some (box b cs bt)) (hk : cs.length = k) (hk' : cs'.length = k) (hy : ev l y = w) (hv : w.cells = cs'.toArray) (h1 : ∀ v ∈ cs', v.oneCell' = true)
    (hc : wo P ρ n ops Q rest l D R (O.set j (box b cs' bt))) : wo P ρ n ops Q (⟨none, .store t x y, ty, pos, after, none⟩ :: rest) l D R O :=
  z9v (z1a hs hx hy hv hk' hO (by omega) h1) fun v' R' O' _ ⟨_, hR, hO⟩ => by
    subst hR; subst hO
    have : over cs 0 cs' = cs' := by unfold over; rw [List.take_zero, List.nil_append, Nat.zero_add, List.drop_eq_nil_of_le (by omega), List.append_nil]
    rw [this]; exact hc
theorem ze6 {cs : List Value} (h : ∀ v ∈ cs, z4j v) : ∀ v ∈ cs, v.oneCell' = true := fun v hv => by
  rcases h v hv with ⟨q, x, rfl⟩ | ⟨b, rfl⟩ <;> rfl
/-! ### Structs out of parts of any size -/
inductive FillOk (place : Nat → Option (Nat × Nat)) : Nat → List (Nat × Value) → List Value → Prop
  | nil {off : Nat} : FillOk place off [] []
  | last {off i : Nat} {v : Value} {c : List Value} : v.cells = c.toArray → place i = some (off, c.length) → FillOk place off [(i, v)] c
  | cons {off i : Nat} {v : Value} {ps : List (Nat × Value)} {c out : List Value} : v.cells = c.toArray → place i = some (off, c.length) → FillOk place (off + c.length) ps out → FillOk place off ((i, v) :: ps) (c ++ out)
theorem zps {place : Nat → Option (Nat × Nat)} {off : Nat} {ps : List (Nat × Value)} {out : List Value} (h : FillOk place off ps out) : ∀ (done rest : List Value), done.length = off → rest.length = out.length → Instr.fill place (done ++ rest).toArray ps = some (done ++ out).toArray := by
  induction h with
  | nil =>
    intro done rest _ hr
    have : rest = [] := List.length_eq_zero_iff.1 (by simpa using hr)
    subst this; rfl
  | @last off i v c hc hp =>
    intro done rest hd hr
    simp only [Instr.fill, hp, hc, List.size_toArray]
    rw [if_neg (by simp; omega)]
    have hfold : Array.foldl (fun (cs : Array Value) (x : Value × Nat) => cs.setIfInBounds (off + x.2) x.1) (done ++ rest).toArray c.toArray.zipIdx = (done ++ c).toArray := by
      rw [← Array.foldl_toList]
      have : c.toArray.zipIdx.toList = c.zipIdx 0 := by simp
      rw [this, foldl_set, Nat.add_zero, z8v _ _ _ (by simp; omega)]
      congr 1
      unfold over
      rw [← hd, List.take_left, List.drop_eq_nil_of_le (by simp; omega), List.append_nil]
    exact congrArg some hfold
  | @cons off i v ps c out hc hp hf ih =>
    intro done rest hd hr
    rw [List.length_append] at hr
    simp only [Instr.fill, hp, hc, List.size_toArray]
    rw [if_neg (by simp; omega)]
    have hfold : Array.foldl (fun (cs : Array Value) (x : Value × Nat) => cs.setIfInBounds (off + x.2) x.1) (done ++ rest).toArray c.toArray.zipIdx = ((done ++ c) ++ rest.drop c.length).toArray := by
      rw [← Array.foldl_toList]
      have : c.toArray.zipIdx.toList = c.zipIdx 0 := by simp
      rw [this, foldl_set, Nat.add_zero, z8v _ _ _ (by simp; omega)]
      congr 1
      unfold over
      rw [← hd, List.take_left, List.drop_append, List.drop_eq_nil_of_le (by omega)]
      simp
    have h2 := ih (done ++ c) (rest.drop c.length) (by rw [List.length_append]; omega) (by rw [List.length_drop]; omega)
    rw [← List.append_assoc, ← h2]
    exact congrArg (fun c => Instr.fill place c ps) hfold
theorem zi5 {parts : List (Nat × Operand)} {ps : List (Nat × Value)} {fs : Array Field} {pls : Array (Nat × Nat)} {out : List Value} (hp : (parts.map fun x => (x.1, ev l x.2)) = ps) (hu : P.underlying t = some (.struct fs)) (hz : ∀ w, ∃ z, (zeroValue t).run P w = .ok z w ∧ z.cells.size = k)
    (hpl : ∀ w, (fs.mapM fun f => do pure (f.offset, ← sizeOf f.type) : Sem (Array (Nat × Nat))).run P w = .ok pls w) (hf : FillOk (pls[·]?) 0 ps out) (hk : out.length = k) (hw : Value.agg out.toArray = v) : Val P ρ ⟨dst, .build t parts.toArray, ty, pos, after, g⟩ l R O v :=
  uh hp fun w => by
    subst hw
    obtain ⟨z, h1, h2⟩ := hz w
    have h3 := zps hf [] z.cells.toList rfl (by rw [hk, Array.length_toList]; exact h2)
    simp only [List.nil_append, Array.toArray_toList] at h3
    simp only [Instr.build, Sem.run_bind, h1, Result.andThen_ok, run_underlying hu, hpl w, h3, Sem.run_pure]
theorem zpv {cs : List Value} (h : cs.length = k) (hz : ∀ w, ∃ z, (zeroValue t).run P w = .ok z w ∧ z.cells = cs.toArray) : ∀ w, ∃ z, (zeroValue t).run P w = .ok z w ∧ z.cells.size = k := fun w => by
  obtain ⟨z, h1, h2⟩ := hz w
  exact ⟨z, h1, by rw [h2, List.size_toArray, h]⟩
theorem zl5 {w : World} {cs : List Value} (hh : Holds R O w) (hO : O[i]? = some (box b cs bt)) (ht : ∀ w, (isAgg t).run P w = .ok true w) (hs : ∀ w, (sizeOf t).run P w = .ok k w) (hk : cs.length = k) : (loadVar t ⟨b, 0, none⟩).run P w = .ok (.agg cs.toArray) w :=
  z2a hh hO (by rw [List.drop_zero, ← hk, List.take_length]) ht hs hk (by simp [hk])
end w
/-! ### Loops that are gone through so many times -/
section u
variable {P : Program} {ρ : Option Nat} {n : Nat} {Q : Po} {l : Nat → Value} {D : List Nat} {R : RH} {O : List Frag} {c : Code}
def z94 (P : Program) (ρ : Option Nat) (n : Nat) (c : Code) (Q : Po) : Nat → (Nat → Value) → List Nat → RH → List Frag → Prop
  | 0 => fun _ _ _ _ => False
  | k + 1 => fun l D R O => wg P ρ n c (thn (z94 P ρ n c Q k) Q) l D R O
theorem z4d {k : Nat} (h : wg P ρ n c (thn (z94 P ρ n c Q k) Q) l D R O) : z94 P ρ n c Q (k + 1) l D R O := h
theorem zli (k : Nat) (h : z94 P ρ n c Q k l D R O) : wg P ρ n (.loop c) Q l D R O := by
  refine zju (z94 P ρ n c Q) k h ?_
  intro k l D R O hI
  cases k with
  | zero => exact hI.elim
  | succ k =>
    refine za4 hI ?_
    intro e l' D' R' O' hq
    cases e with
    | normal => exact ⟨k, Nat.lt_succ_self k, hq⟩
    | _ => exact hq
end u
theorem zaq {P : Program} {ρ : Option Nat} {l : Nat → Value} {R : RH} {O : List Frag} {dst : Option Tmp} {ty : TypeId} {pos : String} {after : Array Go.Edge} {g : Option (Nat × Bool)} {t : TypeId} {x y : Operand} {v i u : Value} (hx : ev l x = v) (hy : ev l y = i) (h : ∀ w, (Instr.index t v i).run P w = .ok u w) :
    Val P ρ ⟨dst, .index t x y, ty, pos, after, g⟩ l R O u := by
  intro A w _; rw [qw (by intro c h; cases h)]
  simp only [execOp, hx, hy, Sem.run_bind, h, Result.andThen_ok]; rfl
section mm
variable {P : Program} {ρ : Option Nat} {l : Nat → Value} {R : RH} {O : List Frag} {ty : TypeId} {pos : String} {after : Array Go.Edge} {dst : Option Tmp} {g : Option (Nat × Bool)} {k : IntKind} {a b : Int} {x y : Operand} {at' : Array TypeId} {t : TypeId} {d : TypeDesc}
theorem zhr (ht : at'[0]? = some t) (hu : P.underlying t = some d) (hx : ev l x = .int k a) (hy : ev l y = .int k b) : Val P ρ ⟨dst, .call ⟨.builtin .max, #[x, y], at'⟩, ty, pos, after, g⟩ l R O (.int k (max a b)) := by
  intro A w _; rw [qw (by intro c h; cases h)]
  have e : (if b > a then b else a) = max a b := by rw [Int.max_def]; split <;> split <;> omega
  simp [execOp, resolve, invoke, builtin, Builtin.max_, Builtin.max2, hx, hy, e]
end mm
section p
variable {P : Program} {ρ : Option Nat} {l : Nat → Value} {R : RH} {O : List Frag} {ty : TypeId} {pos : String} {after : Array Go.Edge} {dst : Option Tmp} {g : Option (Nat × Bool)}
variable {α β : Type} [Inhabited α] {T : Ty α} {B : Ty β} {X : List α} {v u w : Value} {x y : Operand} {F : Frag} {i o : Nat} {t : TypeId} {se : α → β → α}
end p
end GV
end Go.Proofs.Ytplgbkaollfmkaa

namespace Go.Proofs.Ytplgbkaollfmkaa
namespace GV
def zti {α : Type} (T : Ty α) : Ty α where
  size := 1
  agg := false
  rep R cs x := ∃ v, cs = [v] ∧ PRep T R v x
  len := by rintro R cs x ⟨v, rfl, _⟩; rfl
  mono := by rintro R R' cs x hle ⟨v, rfl, h⟩; exact ⟨v, rfl, h.mono hle⟩
  one _ := rfl
  cell := by
    rintro R cs x ⟨v, rfl, b, off, c, ty, fr, rfl, _⟩ u hu
    rw [List.mem_singleton.1 hu]; rfl
theorem z9h {α : Type} {T : Ty α} {R : RH} {v : Value} {x : α} : VRep (zti T) R v x ↔ PRep T R v x := by
  constructor
  · rintro ⟨cs, ⟨u, rfl, h⟩, rfl⟩
    exact h
  · exact fun h => ⟨[v], ⟨v, rfl, h⟩, rfl⟩
def zjc {α : Type} (T : Ty α) : Ty (Option α) where
  size := 1
  agg := false
  rep R cs x := ∃ v, cs = [v] ∧ match x with
    | none => v = .pointer none
    | some y => PRep T R v y
  len := by rintro R cs x ⟨v, rfl, _⟩; rfl
  mono := by
    rintro R R' cs x hle ⟨v, rfl, h⟩
    refine ⟨v, rfl, ?_⟩
    cases x with
    | none => exact h
    | some y => exact PRep.mono h hle
  one _ := rfl
  cell := by
    rintro R cs x ⟨v, rfl, h⟩ u hu
    rw [List.mem_singleton.1 hu]
    cases x with
    | none => subst h; rfl
    | some y => obtain ⟨b, off, c, ty, fr, rfl, _⟩ := h; rfl
theorem zg0 {α : Type} {T : Ty α} {R : RH} : VRep (zjc T) R (.pointer none) none := ⟨[.pointer none], ⟨_, rfl, rfl⟩, rfl⟩
theorem zl3 {α : Type} {T : Ty α} {R : RH} {v : Value} {x : α} (h : PRep T R v x) : VRep (zjc T) R v (some x) := ⟨[v], ⟨v, rfl, h⟩, rfl⟩
theorem zd0 {α : Type} [Inhabited α] {T : Ty α} {R : RH} {v : Value} {x : Option α} (hx : x.isSome = true) (h : VRep (zjc T) R v x) : PRep T R v (x.getD default) := by
  cases x with
  | none => cases hx
  | some y => obtain ⟨cs, ⟨u, rfl, h⟩, rfl⟩ := h; exact h
/-! ### A box that only is read, of which the value is known -/
def zdm (v : Value) : Ty Unit where
  size := v.cells.size
  agg := true
  rep _ cs _ := v = .agg cs.toArray ∧ ∀ c ∈ cs, c.oneCell' = true
  len := by rintro R cs x ⟨rfl, _⟩; simp [Value.cells]
  mono _ h := h
  one h := by cases h
  cell h := h.2
theorem zoh {R : RH} {v w : Value} {x : Unit} (h : VRep (zdm v) R w x) : w = v := by
  obtain ⟨cs, ⟨rfl, _⟩, rfl⟩ := h; rfl
theorem zu3 {α : Type} {T : Ty α} {R : RH} {v : Value} {y : α} (ha : T.agg = true) (hv : VRep T R v y) : VRep (zdm v) R v () := by
  obtain ⟨cs, hr, rfl⟩ := hv
  have e : T.mk' cs = .agg cs.toArray := by unfold Ty.mk'; rw [ha]; rfl
  exact ⟨cs, ⟨e, T.cell hr⟩, e⟩
theorem zns {α : Type} {T : Ty α} {R : RH} {v u : Value} {y : α} (ha : T.agg = true) (hp : PRep (zdm v) R u ()) (hv : VRep T R v y) : PRep T R u y := by
  obtain ⟨cs, hr, rfl⟩ := hv
  have e : T.mk' cs = .agg cs.toArray := by unfold Ty.mk'; rw [ha]; rfl
  obtain ⟨b, off, c, ty, fr, h1, h2, h3, _⟩ := hp
  have hs : (zdm (T.mk' cs)).size = T.size := by rw [← T.len hr, e]; simp [zdm, Value.cells]
  refine ⟨b, off, c, ty, fr, h1, h2, ?_⟩
  rw [hs, e] at h3
  have : cs = wu c off T.size := by simpa using h3
  rw [← this]; exact hr
theorem ul {α : Type} {P : Program} {ρ : Option Nat} {l : Nat → Value} {R : RH} {O : List Frag} {dst : Option Tmp} {ty : TypeId} {pos : String} {after : Array Go.Edge} {g : Option (Nat × Bool)} {T : Ty α} {t : TypeId} {x : Operand} {u v : Value} {y : α}
    (ht : TyOk P t T) (ha : T.agg = true) (hx : ev l x = u) (hp : PRep (zdm v) R u ()) (hv : VRep T R v y) : Val P ρ ⟨dst, .load t x, ty, pos, after, g⟩ l R O v := by
  have hs : (zdm v).size = T.size := by
    obtain ⟨cs, hr, rfl⟩ := hv
    have e : T.mk' cs = .agg cs.toArray := by unfold Ty.mk'; rw [ha]; rfl
    rw [← T.len hr, e]; simp [zdm, Value.cells]
  have ht' : TyOk P t (zdm v) := ⟨fun w => by rw [ht.agg w, ha]; rfl, fun w => by rw [ht.size w, hs]⟩
  obtain ⟨w, hw, h⟩ := zad (ρ := ρ) (O := O) ht' hx hp
  obtain rfl := zoh hw
  exact h _ _ _ _ _
theorem uy {α : Type} {P : Program} {ρ : Option Nat} {n : Nat} {ops : Array Oper} {Q : Po} {rest : List Oper} {l : Nat → Value} {D : List Nat} {R : RH} {O : List Frag} {ty : TypeId} {pos : String} {after : Array Go.Edge} {d : Nat} {T : Ty α} {e : TypeId} {x : Operand} {v : Value} {y : α} (hd : Nat.blt d n = true) (hx : ev l x = v) (ha : T.agg = true) (hr : VRep T R v y)
    (hk : ∀ u R', RH.le R R' → PRep (zdm v) R' u () → PRep T R' u y → wo P ρ n ops Q rest (upd l d u) D R' O) : wo P ρ n ops Q (⟨some d, .box e x, ty, pos, after, none⟩ :: rest) l D R O :=
  z9j hd hx (zu3 ha hr) fun u R' hle hp => hk u R' hle hp (zns ha hp (hr.mono hle))
/-! ### A part of a box that is an array of values of one cell -/
def oh (n : Nat) (g : Nat → Value) : List Value := (List.range n).map g
def AG {α : Type} [Inhabited α] (T : Ty α) (R : RH) (n : Nat) (g : Nat → Value) (X : List α) : Prop := X.length = n ∧ ∀ k, k < n → VRep T R (g k) (X.getD k default) ∧ (g k).oneCell' = true
theorem AG.mono {α : Type} [Inhabited α] {T : Ty α} {R R' : RH} {n : Nat} {g : Nat → Value} {X : List α} (h : AG T R n g X) (hle : RH.le R R') : AG T R' n g X := ⟨h.1, fun k hk => ⟨(h.2 k hk).1.mono hle, (h.2 k hk).2⟩⟩
theorem zrm {β : Type} {T : Ty β} {b : Bool} {R : RH} {n : Nat} : AG (tSl b T) R n (fun _ => .slice none 0 0) (List.replicate n []) := by
  refine ⟨List.length_replicate, fun k hk => ⟨?_, rfl⟩⟩
  rw [List.getD_eq_getElem?_getD, List.getElem?_replicate, if_pos hk]
  exact ic
theorem znd {g : Nat → Value} {k : Nat} {v : Value} : upd g k v k = v := by simp [upd]
theorem upd_ne {g : Nat → Value} {k i : Nat} {v : Value} (h : i ≠ k) : upd g k v i = g i := by
  have : i.beq k = false := by
    cases e : i.beq k
    · rfl
    · exact absurd (Nat.eq_of_beq_eq_true e) h
  simp [upd, this]
theorem z9z (n : Nat) (g : Nat → Value) : (oh n g).length = n := by simp [oh]
theorem zmr {n k : Nat} {g : Nat → Value} {pre post : List Value} (hk : k < n) : (pre ++ (oh n g ++ post))[pre.length + k * 1]? = some (g k) := by
  rw [Nat.mul_one, List.getElem?_append_right (by omega), Nat.add_sub_cancel_left, List.getElem?_append_left (by rw [z9z]; exact hk)]
  simp [oh, hk]
theorem znh {n k : Nat} {g : Nat → Value} (v : Value) (hk : k < n) : (oh n g).set k v = oh n (upd g k v) := by
  apply List.ext_getElem?
  intro i
  rw [List.getElem?_set]
  by_cases hi : k = i
  · subst hi
    simp only [if_true, z9z, hk, oh, List.getElem?_map, List.getElem?_range hk, Option.map_some, znd]
    simp [hk]
  · rw [if_neg hi]
    by_cases h2 : i < n
    · simp only [oh, List.getElem?_map, List.getElem?_range h2, Option.map_some, upd_ne (fun e => hi e.symm)]
    · simp [oh, h2]
theorem zld {n k : Nat} {g : Nat → Value} {pre post : List Value} {v : Value} (hk : k < n) : over (pre ++ (oh n g ++ post)) (pre.length + k * 1) [v] = pre ++ (oh n (upd g k v) ++ post) := by
  rw [← znh v hk]
  have hl : (oh n g).length = n := z9z n g
  unfold over
  rw [Nat.mul_one]
  have e1 : (pre ++ (oh n g ++ post)).take (pre.length + k) = pre ++ (oh n g).take k := by
    rw [List.take_append, List.take_of_length_le (by omega), Nat.add_sub_cancel_left, List.take_append_of_le_length (by omega)]
  have e2 : (pre ++ (oh n g ++ post)).drop (pre.length + k + [v].length) = (oh n g).drop (k + 1) ++ post := by
    rw [List.drop_append, List.drop_eq_nil_of_le (by simp only [List.length_singleton]; omega), List.nil_append, show pre.length + k + [v].length - pre.length = k + 1 by simp only [List.length_singleton]; omega, List.drop_append_of_le_length (by omega)]
  rw [e1, e2, List.set_eq_take_append_cons_drop, if_pos (by omega)]
  simp
theorem zs3 {α : Type} [Inhabited α] {T : Ty α} {R : RH} {n k : Nat} {g : Nat → Value} {X : List α} {v : Value} {x : α} (h : AG T R n g X) (hv : VRep T R v x) (h1 : v.oneCell' = true) : AG T R n (upd g k v) (X.set k x) := by
  refine ⟨by rw [List.length_set]; exact h.1, fun i hi => ?_⟩
  by_cases e : i = k
  · subst e
    rw [znd, List.getD_eq_getElem?_getD, List.getElem?_set_self (by rw [h.1]; exact hi)]
    exact ⟨hv, h1⟩
  · rw [upd_ne e, List.getD_eq_getElem?_getD, List.getElem?_set_ne (fun q => e q.symm), ← List.getD_eq_getElem?_getD]
    exact h.2 i hi
section g
variable {P : Program} {ρ : Option Nat} {n : Nat} {ops : Array Oper} {Q : Po} {rest : List Oper} {l : Nat → Value} {D : List Nat} {R : RH} {O : List Frag} {ty : TypeId} {pos : String} {after : Array Go.Edge} {dst : Option Tmp} {g0 : Option (Nat × Bool)}
theorem zdx {t : TypeId} {x : Operand} {b i m k o : Nat} {bt : TypeId} {g : Nat → Value} (pre post : List Value) (ht : ∀ w, (isAgg t).run P w = .ok false w) (hx : ev l x = .pointer (some ⟨b, o + k * 1, none⟩)) (ho : pre.length = o)
    (hO : O[i]? = some (box b (pre ++ (oh m g ++ post)) bt)) (hk : k < m) : Val P ρ ⟨dst, .load t x, ty, pos, after, g0⟩ l R O (g k) := by
  subst ho
  exact qc ht hx hO (zmr hk)
theorem zkg {t : TypeId} {x y : Operand} {b i m k o : Nat} {bt : TypeId} {g : Nat → Value} {v : Value} (pre post : List Value) (hs : ∀ w, (sizeOf t).run P w = .ok 1 w) (hx : ev l x = .pointer (some ⟨b, o + k * 1, none⟩)) (ho : pre.length = o) (hy : ev l y = v) (hv : v.cells = #[v])
    (hO : O[i]? = some (box b (pre ++ (oh m g ++ post)) bt)) (hk' : k < m) (h1 : v.oneCell' = true) (hk : wo P ρ n ops Q rest l D R (O.set i (box b (pre ++ (oh m (upd g k v) ++ post)) bt))) :
    wo P ρ n ops Q (⟨none, .store t x y, ty, pos, after, none⟩ :: rest) l D R O := by
  subst ho
  refine jf (vs := [v]) hs hx hy hv rfl hO (by rw [Nat.ble_eq]; simp only [List.length_append, z9z, List.length_singleton]; omega) (fun u hu => by rw [List.mem_singleton.1 hu]; exact h1) ?_
  rw [zld hk']
  exact hk
theorem oz {α : Type} {T : Ty α} {x : Operand} {v : Value} {y : α} (hx : ev l x = v) (hp : PRep T R v y) : Val P ρ ⟨dst, .nilCheck x, ty, pos, after, g0⟩ l R O v := by
  obtain ⟨b, off, c, ty', fr, rfl, _⟩ := hp
  intro A w hh; rw [qw (by intro c h; cases h)]
  simp [execOp, hx]
theorem zlh {d : Nat} {f : FuncId} {c : Operand} {args : List Operand} {at' : Array TypeId} {fs vs : List Value} {Oc Or : List Frag} {post : Value → RH → List Frag → Prop} (hd : Nat.blt d n = true) (he : Enters P f) (hc : ev l c = .func (.func f) fs.toArray #[]) (ha : args.map (ev l) = vs) (hp : O.Perm (Oc ++ Or))
    (h : CallG P f (fs ++ vs).toArray R Oc post) (hk : ∀ v R' Oc', RH.le R R' → post v R' Oc' → wo P ρ n ops Q rest (upd l d v) D R' (Oc' ++ Or)) : wo P ρ n ops Q (⟨some d, .call ⟨.value c, args.toArray, at'⟩, ty, pos, after, none⟩ :: rest) l D R O :=
  z9a hd hc ha hp (z8w he (by simp) h) hk
theorem z6f {i : Int} {n : Nat} (h : 0 ≤ i ∧ i < (n : Int)) : i.toNat < n := by omega
theorem qm {x : Operand} {b o : Nat} (hx : ev l x = .pointer (some ⟨b, o, none⟩)) : Val P ρ ⟨dst, .nilCheck x, ty, pos, after, g0⟩ l R O (.pointer (some ⟨b, o, none⟩)) := by
  intro A w hh; rw [qw (by intro c h; cases h)]
  simp [execOp, hx]
end g
/-! ### A slice that keeps its capacity; a new slice that only is read -/
section c
variable {P : Program} {ρ : Option Nat} {n : Nat} {ops : Array Oper} {Q : Po} {rest : List Oper} {l : Nat → Value} {D : List Nat} {R : RH} {O : List Frag} {ty : TypeId} {pos : String} {after : Array Go.Edge} {dst : Option Tmp} {g : Option (Nat × Bool)}
theorem zhq {α : Type} {T : Ty α} {z : α} {bytes : Nat} {t e : TypeId} {x y : Operand} {v u : Value} {X Y : List α} {i c : Nat} {f : Frag}
    (hu : P.underlying t = some (.slice e)) (hz : ZeroOk P e T z bytes) (hx : ev l x = v) (hy : ev l y = u) (hO : O[i]? = some f) (hv : ORep T R f v X) (hu' : VRep (yj T) R u Y)
    (hc : capOf v = c) (hroom : X.length + Y.length ≤ c) :
    Eff P ρ ⟨dst, .call ⟨.builtin .append, #[x, y], #[t, t]⟩, ty, pos, after, g⟩ l R O (fun v' R' O' => R' = R ∧ capOf v' = c ∧ ∃ f', O' = O.set i f' ∧ ORep T R f' v' (X ++ Y)) := by
  intro A w hh; rw [qw (by intro c h; cases h)]
  obtain ⟨inf, zv, k1, k2, k3, k4, k5⟩ := hz.info
  obtain ⟨cy, p, n, rfl, hsy, hload⟩ := z5e hu'
  have hilt : i < O.length := (List.getElem?_eq_some_iff.1 hO).1
  have hO' : (O ++ A)[i]? = some f := by rw [List.getElem?_append_left hilt]; exact hO
  have hcy : cy.length = Y.length * T.size := hsy.len
  have hnew : ∀ w', w'.heap = w.heap → (Builtin.firstCells T.size Y.length (.slice p Y.length n)).run P w' = .ok cy.toArray w' := fun w' hw' =>
    hload w' fun k o hk => by rw [hw']; exact hh.ro k o hk
  rcases hv with ⟨rfl, rfl, rfl⟩ | ⟨b, pre, cs, cap, bt, rfl, rfl, hc', hcl, hcc, hel⟩
  · have hc0 : c = 0 := by rw [← hc]; rfl
    have hY : Y = [] := List.length_eq_zero_iff.1 (by omega)
    subst hY
    have h0 := hnew w rfl
    have : cy = [] := List.length_eq_zero_iff.1 (by simpa using hcy)
    subst this
    rw [z15 hx hy (z5c hu k1 k3 rfl h0)]
    refine ⟨R, O, RH.le.refl _, hh, rfl, hc, emp, ?_, .inl ⟨rfl, rfl, rfl⟩⟩
    apply List.ext_getElem?
    intro j
    rw [List.getElem?_set]
    split
    · rename_i e; subst e; exact hO
    · rfl
  · obtain rfl : cap = c := hc
    have hblk : w.heap[b]? = some (.cells (pre ++ cs).toArray bt (0, 0)) := z0c hh hO' (uj _ _)
    have hle0 : X.length * T.size + cy.length ≤ cs.length := by
      rw [hcy, ← Nat.add_mul]; exact Nat.le_trans (Nat.mul_le_mul_right _ hroom) hcl
    have hle : pre.length + X.length * T.size + 0 + cy.length ≤ (pre ++ cs).length := by rw [List.length_append]; omega
    obtain ⟨w', h2, h3, h4, h5, h6⟩ := z1p (P := P) cy (pre ++ cs) (pre.length + X.length * T.size) 0 w hblk hle hsy.cell
    rw [z15 hx hy (z9c (T := T) hu k1 k3 rfl (hnew w rfl) hroom h2)]
    have hset := z6y hh hO' h3 h4 h5 h6
    rw [List.set_append_left _ _ hilt] at hset
    refine ⟨R, _, RH.le.refl _, hset, rfl, ?_, _, rfl, ?_⟩
    · rfl
    · have hsx := Seq.of_at hel
      have e1 : over (pre ++ cs) (pre.length + X.length * T.size + 0) cy = pre ++ ((cs.take (X.length * T.size) ++ cy) ++ cs.drop (X.length * T.size + cy.length)) := by
        rw [Nat.add_zero, zda]; simp [over]
      have hor := zc6 (pre := pre) (b := b) (bt := bt) (cap := cap) (hsx.append hsy) (rest := cs.drop (X.length * T.size + cy.length)) (by rw [List.length_append]; exact hroom)
        (by simp only [List.length_append, List.length_take, List.length_drop]; omega) (fun v hv => hcc v (List.mem_append.2 (.inr (List.mem_of_mem_drop hv)))) (fun v hv => hcc v (List.mem_append.2 (.inl hv)))
      rw [← e1, List.length_append] at hor
      exact hor
theorem zj0 {α : Type} {T : Ty α} {z : α} {bytes d : Nat} {t e : TypeId} {x y : Operand} {v u : Value} {X Y : List α} {i c : Nat} {f : Frag} (hd : Nat.blt d n = true)
    (hu : P.underlying t = some (.slice e)) (hz : ZeroOk P e T z bytes) (hx : ev l x = v) (hy : ev l y = u) (hO : O[i]? = some f) (hv : ORep T R f v X) (hu' : VRep (yj T) R u Y)
    (hc : capOf v = c) (hroom : X.length + Y.length ≤ c) (hk : ∀ v' f', capOf v' = c → ORep T R f' v' (X ++ Y) → wo P ρ n ops Q rest (upd l d v') D R (O.set i f')) :
    wo P ρ n ops Q (⟨some d, .call ⟨.builtin .append, #[x, y], #[t, t]⟩, ty, pos, after, none⟩ :: rest) l D R O :=
  z0t hd (zhq hu hz hx hy hO hv hu' hc hroom) fun v' R' O' _ ⟨hR, hc', f', hO', h⟩ => by subst hR; subst hO'; exact hk v' f' hc' h
theorem zgw {α : Type} {T : Ty α} {z : α} {t e : TypeId} {bytes : Nat} {x y : Operand} {m : Nat} {k k' : IntKind} (hu : P.underlying t = some (.slice e)) (hz : ZeroOk P e T z bytes) (hx : ev l x = .int k m) (hy : ev l y = .int k' m)
    (hb : bytes * m ≤ 281474976710656) (hc : m ≤ 9223372036854775807) : Eff P ρ ⟨dst, .makeSlice t x y, ty, pos, after, g⟩ l R O fun v R' O' => O' = O ∧ phR (tSl true T) (List.replicate m z) v R' :=
  Eff.frzT ((iw hu hz hx hy (Nat.le_refl _) hb hc).mono fun v R' O' _ ⟨hR, hcap, f, hO, h⟩ => by subst hR; exact ⟨by rw [hcap, List.length_replicate], f, hO, h⟩)
end c
end GV
end Go.Proofs.Ytplgbkaollfmkaa
