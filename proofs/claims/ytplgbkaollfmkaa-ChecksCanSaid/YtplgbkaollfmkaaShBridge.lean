import Derived.Test.YtplgbkaollfmkaaShMap
import Derived.Test.YtplgbkaollfmkaaRows
import Derived.ProofKit
import Derived.OpenShut
import Derived.JoinedCond
import Derived.Carry
set_option linter.unusedVariables false
set_option linter.unusedSimpArgs false
namespace Go.Proofs.Ytplgbkaollfmkaa
namespace GV
open Go.ChangeShapes Go.WideShapes Go.ChangeAt Go.RowKit
def rh0 (W : World) : RH := ⟨fun k => W.heap[k]?, (W.os, W.heap.size), W.output⟩
theorem holds0 (W : World) : Holds (rh0 W) [] W := ⟨fun k o h => h, fun f hf => (by cases hf), .nil, ⟨rfl, fun k o hk ho => by
  have := (Array.getElem?_eq_some_iff.1 ho).1
  simp only [rh0] at hk; omega⟩, rfl⟩
structure Same (W w' : World) : Prop where
  heap : ∀ k, k < W.heap.size → w'.heap[k]? = W.heap[k]?
  os : w'.os = W.os
  out : w'.output = W.output
  nf : NF W.heap.size w'
theorem zt8 {W w' : World} {R' : RH} (hle : RH.le (rh0 W) R') (h : Holds R' [] w') : Same W w' := by
  have e := hle.os
  refine ⟨fun k hk => ?_, ?_, h.out.trans hle.out, ?_⟩
  · have ho : W.heap[k]? = some (W.heap[k]'hk) := Array.getElem?_eq_getElem hk
    exact (h.ro k _ (hle.blk k _ ho)).trans ho.symm
  · have := h.os.1; rw [e] at this; exact this
  · have := h.os.2; rw [e] at this; exact this
theorem Same.keptBut {W w' : World} (h : Same W w') (may : MemPlace → Prop) : W.keptBut w' may := by
  refine ⟨h.os, h.out, fun i hi => ?_⟩
  rw [h.heap i hi]
  split <;> simp_all
theorem Same.frozen {W w' : World} (h : Same W w') (a : Addr) (hk : a.block < W.heap.size) : w'.frozen? a = W.frozen? a := by
  simp only [World.frozen?, h.heap _ hk]
theorem zgz {P : Program} {H : Type} {enc : TypeId × Value → H} {f : Func} {s : ChangeSpec} {apart fresh handsOn again : Bool} {W W' : World} {args : Array Value} {v : Value} {ds gs : List (DataW H)} {before pa pv : List MemPlace}
    (hW : DataW.Whole enc P f.params.toList s.vars apart W args.toList ds gs before)
    (hres : ∀ (b : Nat) (sp : Nat → Bool) (hd : Bool), DataW.TrodAll enc P W' b sp hd f.resultTypes.toList (v.resultList f.resultTypes.size) (s.fn H (ds ++ gs)).results [])
    (hargs : ∀ sp : Nat → Bool, (∀ p ∈ before, sp p.block = true) → DataW.TrodAll enc P W' 0 sp true f.params.toList args.toList (s.fn H (ds ++ gs)).args pa)
    (hvars : ∀ sp : Nat → Bool, (∀ p ∈ before, sp p.block = true) → DataW.TrodVars enc P W' sp s.vars (s.fn H (ds ++ gs)).vars pv)
    (hps : before = pa ++ pv) (hk : W.keptBut W' (· ∈ before)) (hfz : ∀ a : Addr, a.block < W.heap.size → W'.frozen? a = W.frozen? a)
    (hok : ∀ (j : Nat) (t : TypeId) (r : Value), f.resultTypes[j]? = some t → (v.resultList f.resultTypes.size)[j]? = some r → Value.okWide P W' .any 0 t r) :
    s.post enc P f apart fresh handsOn again W args v W' := by
  have hold : ∀ p ∈ before, (fun b => decide (b < W.heap.size)) p.block = true := fun p hp => by simpa using hW.lt p hp
  have hlt := fun p hp => hW.lt p hp
  refine ⟨ds, gs, before, [], pa, pv, hW, hres _ _ _, hargs _ hold, hvars _ hold, World.keptBut_mono (fun p hp => ⟨hp, ?_⟩) hk, fun _ => ?_⟩
  · rw [hps, List.mem_append] at hp
    exact Or.inr hp
  · obtain ⟨_, _, _, _, _, hz, hn⟩ := hW
    refine ⟨hok, _, _, ([] ++ pa) ++ pv, ⟨[] ++ pa, pv, trodAll_append (hargs _ (fun _ _ => rfl)) (hres _ _ _), hvars _ (fun _ _ => rfl), rfl, ?_, ?_⟩, ?_⟩
    · intro b off hp
      have hp' : MemPlace.cell b off ∈ before := by rw [hps]; simpa using hp
      rw [hfz _ (hlt _ hp')]
      exact hz b off hp'
    · intro ha
      have := hn ha
      rw [hps] at this
      simpa using this
    · intro p hp _
      rw [hps]
      simpa using hp
theorem Same.sameAt {W w' : World} (h : Same W w') {p : MemPlace} (hp : p.block < W.heap.size) : W.sameAt w' p := by
  cases p with
  | cell b o => exact World.cell?_of_block (w := W) (h.heap b hp)
  | map b => exact h.heap b hp
theorem zbb {H : Type} {enc : TypeId × Value → H} {P : Program} {W W' : World} {sp : Nat → Bool} (hl : laidOutB P = true) (hs : Same W W') : ∀ {ts : List TypeId} {vs : List Value} {ds : List (DataW H)} {ps : List MemPlace},
    (ts.all fun t => P.readableRec t && decide (t < P.types.size)) = true → DataW.TrodAll enc P W 0 (fun _ => true) true ts vs ds ps → (∀ p ∈ ps, p.block < W.heap.size) → (∀ p ∈ ps, sp p.block = true) → DataW.TrodAll enc P W' 0 sp true ts vs ds ps
  | [], [], [], _, _, h, _, _ => h
  | [], _ :: _, _, _, _, h, _, _ => by simp [DataW.TrodAll] at h
  | [], [], _ :: _, _, _, h, _, _ => by simp [DataW.TrodAll] at h
  | _ :: _, [], _, _, _, h, _, _ => by simp [DataW.TrodAll] at h
  | _ :: _, _ :: _, [], _, _, h, _, _ => by simp [DataW.TrodAll] at h
  | t :: ts, v :: vs, d :: ds, ps, hok, ⟨p, q, h1, h2, e⟩, hlt, hsp => by
    subst e
    simp only [List.all_cons, Bool.and_eq_true, decide_eq_true_eq] at hok
    refine ⟨p, q, WideElems.Trod_stays hl hok.1.1 hok.1.2 h1 (fun x hx => hs.sameAt (hlt x (List.mem_append_left _ hx))) (fun x hx => hsp x (List.mem_append_left _ hx)), ?_, rfl⟩
    exact zbb hl hs (by rw [List.all_eq_true]; intro t' ht'; have := List.all_eq_true.1 hok.2 t' ht'; exact this) h2 (fun x hx => hlt x (List.mem_append_right _ hx)) (fun x hx => hsp x (List.mem_append_right _ hx))
/-! ### Arguments -/
section args
variable {P : Program}
def z3g (P : Program) (t : TypeId) {α : Type} (T : Ty α) (ok : α → Prop) : Prop :=
  P.cellsOf t = T.size ∧ ∀ {H : Type} {enc : TypeId × Value → H} {w : World} {base : Nat} {sp : Nat → Bool} {held : Bool} {fuel : Nat} {cs : List Value} {x : DataW H × List MemPlace}, DataW.trod enc P w base sp held fuel t cs = some x → ∃ a, T.rep (rh0 w) cs a ∧ ok a
theorem zdw {t : TypeId} {k : IntKind} (ht : P.underlying t = some (.int k)) (hc : P.cellsOf t = 1) : z3g P t (zw k) (fun n => (Lit.int k n).wf = true) :=
  ⟨hc, fun h => let ⟨n, hcs, _, hw⟩ := DataW.trod_int ht h; ⟨n, hcs, hw⟩⟩
theorem zeg {α : Type} {Q : Nat → α → Prop} : ∀ (n : Nat), (∀ i, i < n → ∃ a, Q i a) → ∃ X : List α, X.length = n ∧ ∀ i a, X[i]? = some a → Q i a
  | 0, _ => ⟨[], rfl, fun i a h => by simp at h⟩
  | n + 1, h => by
    obtain ⟨X, hl, hX⟩ := zeg n (fun i hi => h i (by omega))
    obtain ⟨a, ha⟩ := h n (by omega)
    refine ⟨X ++ [a], by simp [hl], fun i b hb => ?_⟩
    rw [List.getElem?_append] at hb
    split at hb
    · exact hX i b hb
    · rename_i hi
      have : i - X.length = 0 := by
        have := (List.getElem?_eq_some_iff.1 hb).1
        simp at this; omega
      rw [this] at hb
      simp at hb
      subst hb
      rw [show i = n by omega]; exact ha
theorem z5i {t e : TypeId} {α : Type} {T : Ty α} {ok : α → Prop} (ht : P.underlying t = some (.slice e)) (hc : P.cellsOf t = 1) (he : z3g P e T ok) (hz : 0 < T.size) :
    z3g P t (tSl false T) (fun X => (∀ x ∈ X, ok x) ∧ X.length ≤ maxLen) := by
  refine ⟨hc, fun {H enc w base sp held fuel cs x} h => ?_⟩
  rcases DataW.trod_slice ht h with ⟨rfl, _⟩ | ⟨a, len, cap, elems, rest, n, _, rfl, rfl, hb, hl, hm, hlen, hel, hsp, hns⟩
  · exact ⟨[], u7 rfl au, ⟨fun x hx => (by cases hx), Nat.zero_le _⟩⟩
  · have each : ∀ i, i < len → ∃ y, ∃ cs', w.cells? base (a.add (i * T.size)) T.size = some cs' ∧ T.rep (rh0 w) cs' y ∧ ok y := by
      intro i hi
      have h1 := hel i hi
      rw [List.getElem?_eq_getElem (by omega : i < elems.length), Option.bind_eq_some_iff, he.1] at h1
      obtain ⟨cs', hcs, hy⟩ := h1
      obtain ⟨y, hy1, hy2⟩ := he.2 hy
      exact ⟨y, cs', hcs, hy1, hy2⟩
    obtain ⟨X, hX, hq⟩ := zeg len each
    refine ⟨X, u7 rfl (z6q (dm.2 ⟨some a, cap, by rw [hX], by omega, fun e => (by cases e), ?_⟩)), ⟨fun x hx => ?_, by omega⟩⟩
    · by_cases h0 : len = 0
      · left; exact List.eq_nil_of_length_eq_zero (by omega)
      · right
        have block : ∃ c ty fr, w.heap[a.block]? = some (.cells c ty fr) ∧ a.spot = none := by
          obtain ⟨y, cs', hcs, _, _⟩ := each 0 (by omega)
          have hk := (World.cells?_some hcs).2.2 0 hz
          have hlt : 0 < cs'.length := by have := (World.cells?_some hcs).2.1; omega
          rw [List.getElem?_eq_getElem hlt] at hk
          simp only [World.cell?, block_add] at hk
          cases hb' : w.heap[a.block]? with
          | none => rw [hb'] at hk; simp at hk
          | some o =>
            rw [hb'] at hk
            cases o with
            | cells c ty fr =>
              refine ⟨c, ty, fr, rfl, ?_⟩
              simp only [Addr.add] at hk
              cases hs : a.spot with
              | none => rfl
              | some s => simp [hs] at hk
            | _ => simp at hk
        obtain ⟨c, ty, fr, hbl, hsn⟩ := block
        refine ⟨a.block, a.off, c, ty, fr, by cases a; simp at hsn; subst hsn; rfl, hbl, fun i y hy => ?_⟩
        obtain ⟨cs', hcs, hr, _⟩ := hq i y hy
        have hs := World.cells?_some hcs
        have e : wm c (a.off + i * T.size) T.size = cs' := by
          apply List.ext_getElem?
          intro j
          simp only [wm, List.getElem?_take, List.getElem?_drop]
          by_cases hj : j < T.size
          · rw [if_pos hj]
            have := hs.2.2 j hj
            rw [← this]
            have ea : a = ⟨a.block, a.off, none⟩ := by cases a; simp at hsn; subst hsn; rfl
            rw [ea, addr_add, addr_add]
            simp [World.cell?, hbl, Nat.add_assoc]
          · rw [if_neg hj]
            rw [List.getElem?_eq_none (by rw [hs.2.1]; omega)]
        rw [e]; exact hr
    · obtain ⟨i, hi⟩ := List.getElem?_of_mem hx
      obtain ⟨_, _, _, h⟩ := hq i x hi
      exact h
def Parts (P : Program) (fs : List (TypeId × Nat)) (off : Nat) {α : Type} (T : Ty α) (ok : α → Prop) : Prop :=
  ∀ {H : Type} {enc : TypeId × Value → H} {w : World} {base : Nat} {sp : Nat → Bool} {held : Bool} {fuel : Nat} {cs : List Value},
    (∀ f ∈ fs, ∃ x, DataW.trod enc P w base sp held fuel f.1 ((cs.drop f.2).take (P.cellsOf f.1)) = some x) → cs.length = off + T.size → ∃ a, T.rep (rh0 w) (cs.drop off) a ∧ ok a
theorem zc0 {t : TypeId} {off : Nat} {α : Type} {T : Ty α} {ok : α → Prop} (h : z3g P t T ok) : Parts P [(t, off)] off T ok := by
  intro H enc w base sp held fuel cs hf hl
  obtain ⟨x, hx⟩ := hf (t, off) (by simp)
  obtain ⟨a, h1, h2⟩ := h.2 hx
  rw [h.1, List.take_of_length_le (by rw [List.length_drop]; omega)] at h1
  exact ⟨a, h1, h2⟩
theorem z3m {t : TypeId} {off o2 : Nat} {fs : List (TypeId × Nat)} {α β : Type} {A : Ty α} {B : Ty β} {ok1 : α → Prop} {ok2 : β → Prop} (h : z3g P t A ok1) (ho : o2 = off + A.size) (hr : Parts P fs o2 B ok2) : Parts P ((t, off) :: fs) off (l8 A B) (fun x => ok1 x.1 ∧ ok2 x.2) := by
  intro H enc w base sp held fuel cs hf hl
  obtain ⟨x, hx⟩ := hf (t, off) (by simp)
  obtain ⟨a, h1, h2⟩ := h.2 hx
  rw [h.1] at h1
  have hl' : cs.length = off + (A.size + B.size) := hl
  obtain ⟨b, h3, h4⟩ := hr (fun f hf' => hf f (List.mem_cons_of_mem _ hf')) (by omega)
  refine ⟨(a, b), ⟨_, _, ?_, h1, h3⟩, h2, h4⟩
  rw [ho, ← List.drop_drop, List.take_append_drop]
theorem zgc {t : TypeId} {α β : Type} {T : Ty α} {ok : α → Prop} (f : β → α) (g : α → β) (hg : ∀ a, f (g a) = a) (h : z3g P t T ok) : z3g P t (T.as f) (fun b => ok (f b)) :=
  ⟨h.1, fun hx => let ⟨a, h1, h2⟩ := h.2 hx; ⟨g a, by show T.rep _ _ (f (g a)); rw [hg]; exact h1, by show ok (f (g a)); rw [hg]; exact h2⟩⟩
theorem z9j {t : TypeId} {fs : Array Field} {α : Type} {T : Ty α} {ok : α → Prop} (l : List (TypeId × Nat)) (ht : P.underlying t = some (.struct fs)) (hl : fs.toList.map (fun f => (f.type, f.offset)) = l) (hc : P.cellsOf t = T.size) (h : Parts P l 0 T ok) : z3g P t T ok := by
  refine ⟨hc, fun {H enc w base sp held fuel cs x} hx => ?_⟩
  obtain ⟨xs, n, _, _, h2, h3, h4⟩ := DataW.trod_struct ht hx
  have := h (H := H) (enc := enc) (w := w) (base := base) (sp := sp) (held := held) (fuel := n) (cs := cs) (fun f hf => by
    rw [← hl] at hf
    obtain ⟨f', hf', rfl⟩ := List.mem_map.1 hf
    obtain ⟨i, hi⟩ := List.getElem?_of_mem hf'
    have hi' : fs[i]? = some f' := by simpa using hi
    have hlt : i < xs.length := by rw [h3]; exact (Array.getElem?_eq_some_iff.1 hi').1
    exact ⟨xs[i], by rw [h4 i f' hi', List.getElem?_eq_getElem hlt]⟩) (by rw [h2, hc]; omega)
  simpa using this
theorem zkf {H : Type} {enc : TypeId × Value → H} {w : World} {sp : Nat → Bool} {held : Bool} {base b0 : Nat} {r : Reach} {t : TypeId} {v : Value} {d : DataW H} {ps : List MemPlace} {α : Type} {T : Ty α} {ok : α → Prop} (ho : z3g P t T ok) (ha : T.agg = true)
    (ht : (match P.underlying t with | some (.struct _) => true | some (.array _ _) => true | _ => false) = true) (hval : Value.okWide P w r b0 t v) (h : DataW.Trod enc P w base sp held t v d ps) : ∃ a, VRep T (rh0 w) v a ∧ ok a := by
  have hv : ∃ cs, v = .agg cs := by
    unfold Value.okWide at hval
    split at hval
    · exact hval.imp fun _ h => h.1
    · exact hval.imp fun _ h => h.1
    · rename_i h1 h2
      cases e : P.underlying t with
      | none => rw [e] at ht; cases ht
      | some d' =>
        rw [e] at ht
        cases d' <;> first | (cases ht; done) | (exact absurd e (h1 _)) | (exact absurd e (h2 _ _))
  obtain ⟨cs, rfl⟩ := hv
  obtain ⟨fuel, hf⟩ := h
  obtain ⟨a, h1, h2⟩ := ho.2 hf
  exact ⟨a, ⟨_, h1, by simp [Ty.mk', ha, Value.cells]⟩, h2⟩
theorem open_slice {H : Type} {enc : TypeId × Value → H} {w : World} {sp : Nat → Bool} {held : Bool} {base b0 : Nat} {r : Reach} {t e : TypeId} {v : Value} {d : DataW H} {ps : List MemPlace} {α : Type} {b : Bool} {T : Ty α} {ok : List α → Prop} (ho : z3g P t (tSl b T) ok)
    (ht : P.underlying t = some (.slice e)) (hval : Value.okWide P w r b0 t v) (h : DataW.Trod enc P w base sp held t v d ps) : ∃ a, VRep (tSl b T) (rh0 w) v a ∧ ok a := by
  obtain ⟨fuel, hf⟩ := h
  obtain ⟨a, h1, h2⟩ := ho.2 hf
  obtain ⟨u, hu, hv⟩ := zf1 rfl h1
  have : v = u := by
    simp only [Value.okWide, ht] at hval
    cases v <;> first | (simp [Cell.okWide, Cell.ok, ht] at hval; done) | (simp [Value.cells] at hu; exact hu)
  rw [this]; exact ⟨a, hv, h2⟩
end args
theorem zk5 {P : Program} {s : ChangeSpec} {f : Func} {H : Type} {enc : TypeId × Value → H} {W W' : World} {args : Array Value} {ds gs : List (DataW H)} {before : List MemPlace} {rt : TypeId} (hl : laidOutB P = true)
    (hts : (f.params.toList.all fun t => P.readableRec t && decide (t < P.types.size)) = true) (hvars : s.vars = []) (hrt : f.resultTypes = #[rt]) (hb : P.underlying rt = some .bool)
    (hfn : ∀ ds gs : List (DataW H), DataW.TrodAll enc P W 0 (fun _ => true) true f.params.toList args.toList ds before → s.fn H (ds ++ []) = { results := [.lit (.bool true)], args := ds })
    (hW : DataW.Whole enc P f.params.toList s.vars false W args.toList ds gs before) (hs : Same W W') : s.post enc P f false true false false W args (.bool true) W' := by
  have hW' := hW
  obtain ⟨p, q, hA, hV, rfl, hfz, hnd⟩ := hW
  rw [hvars] at hV
  obtain ⟨rfl, rfl⟩ := trodVars_none hV
  simp only [List.append_nil] at hW' hfn ⊢
  have hf := hfn ds [] hA
  refine zgz (pa := p) (pv := []) hW' (fun b sp hd => ?_) (fun sp hsp => ?_) (fun sp _ => ?_) (by simp) (hs.keptBut _) hs.frozen (ok_one hrt rfl (okWide_bool_mk hb _))
  · rw [List.append_nil, hf, hrt]; exact trodAll_cons_mk (shut_bool hb _) trodAll_mk0
  · rw [List.append_nil, hf]; exact zbb hl hs hts hA (fun x hx => hW'.lt x hx) (fun x hx => hsp x hx)
  · rw [List.append_nil, hf, hvars]; rfl
theorem zho {P : Program} {f : FuncId} {args : Array Value} {W : World} {post : Value → RH → Prop} (h : CallP P f args (rh0 W) post) (hp : ∀ v R', post v R' → v = .bool true) : Calls P f args W fun e W' => e = .returned (.bool true) ∧ Same W W' :=
  Calls.mono (h [] W (holds0 W)) fun e w' ⟨v, he, R', hle, hh, hv⟩ => ⟨by rw [he, hp v R' hv], zt8 hle hh⟩
end GV
end Go.Proofs.Ytplgbkaollfmkaa
