import Derived.Test.YtplgbkaollfmkaaShMap
import Derived.Test.YtplgbkaollfmkaaRows
import Derived.ProofKit
import Derived.OpenShut
import Derived.JoinedCond
import Derived.Carry
set_option linter.unusedVariables false
set_option linter.unusedSimpArgs false
namespace Go.Proofs.Ytplgbkaollfmkaa
namespace GV
open Go.ChangeShapes Go.WideShapes Go.ChangeAt Go.RowKit
def rh0 (W : World) : RH := ⟨fun k => W.heap[k]?, (W.os, W.heap.size), W.output⟩
theorem holds0 (W : World) : Holds (rh0 W) [] W := ⟨fun k o h => h, fun f hf => (by cases hf), .nil, ⟨rfl, fun k o hk ho => by
  have := (Array.getElem?_eq_some_iff.1 ho).1
  simp only [rh0] at hk; omega⟩, rfl⟩
structure Same (W w' : World) : Prop where
  heap : ∀ k, k < W.heap.size → w'.heap[k]? = W.heap[k]?
  os : w'.os = W.os
  out : w'.output = W.output
  nf : NF W.heap.size w'
theorem zpb {W w' : World} {R' : RH} (hle : RH.le (rh0 W) R') (h : Holds R' [] w') : Same W w' := by
  have e := hle.os
  refine ⟨fun k hk => ?_, ?_, h.out.trans hle.out, ?_⟩
  · have ho : W.heap[k]? = some (W.heap[k]'hk) := Array.getElem?_eq_getElem hk
    exact (h.ro k _ (hle.blk k _ ho)).trans ho.symm
  · have := h.os.1; rw [e] at this; exact this
  · have := h.os.2; rw [e] at this; exact this
theorem Same.keptBut {W w' : World} (h : Same W w') (may : MemPlace → Prop) : W.keptBut w' may := by
  refine ⟨h.os, h.out, fun i hi => ?_⟩
  rw [h.heap i hi]
  split <;> simp_all
theorem Same.frozen {W w' : World} (h : Same W w') (a : Addr) (hk : a.block < W.heap.size) : w'.frozen? a = W.frozen? a := by
  simp only [World.frozen?, h.heap _ hk]
theorem zdu {P : Program} {H : Type} {enc : TypeId × Value → H} {f : Func} {s : ChangeSpec} {apart fresh handsOn again : Bool} {W W' : World} {args : Array Value} {v : Value} {ds gs : List (DataW H)} {before pa pv : List MemPlace}
    (hW : DataW.Whole enc P f.params.toList s.vars apart W args.toList ds gs before)
    (hres : ∀ (b : Nat) (sp : Nat → Bool) (hd : Bool), DataW.TrodAll enc P W' b sp hd f.resultTypes.toList (v.resultList f.resultTypes.size) (s.fn H (ds ++ gs)).results [])
    (hargs : ∀ sp : Nat → Bool, (∀ p ∈ before, sp p.block = true) → DataW.TrodAll enc P W' 0 sp true f.params.toList args.toList (s.fn H (ds ++ gs)).args pa)
    (hvars : ∀ sp : Nat → Bool, (∀ p ∈ before, sp p.block = true) → DataW.TrodVars enc P W' sp s.vars (s.fn H (ds ++ gs)).vars pv)
    (hps : before = pa ++ pv) (hk : W.keptBut W' (· ∈ before)) (hfz : ∀ a : Addr, a.block < W.heap.size → W'.frozen? a = W.frozen? a)
    (hok : ∀ (j : Nat) (t : TypeId) (r : Value), f.resultTypes[j]? = some t → (v.resultList f.resultTypes.size)[j]? = some r → Value.okWide P W' .any 0 t r) :
    s.post enc P f apart fresh handsOn again W args v W' := by
  have hold : ∀ p ∈ before, (fun b => decide (b < W.heap.size)) p.block = true := fun p hp => by simpa using hW.lt p hp
  have hlt := fun p hp => hW.lt p hp
  refine ⟨ds, gs, before, [], pa, pv, hW, hres _ _ _, hargs _ hold, hvars _ hold, World.keptBut_mono (fun p hp => ⟨hp, ?_⟩) hk, fun _ => ?_⟩
  · rw [hps, List.mem_append] at hp
    exact Or.inr hp
  · obtain ⟨_, _, _, _, _, hz, hn⟩ := hW
    refine ⟨hok, _, _, ([] ++ pa) ++ pv, ⟨[] ++ pa, pv, trodAll_append (hargs _ (fun _ _ => rfl)) (hres _ _ _), hvars _ (fun _ _ => rfl), rfl, ?_, ?_⟩, ?_⟩
    · intro b off hp
      have hp' : MemPlace.cell b off ∈ before := by rw [hps]; simpa using hp
      rw [hfz _ (hlt _ hp')]
      exact hz b off hp'
    · intro ha
      have := hn ha
      rw [hps] at this
      simpa using this
    · intro p hp _
      rw [hps]
      simpa using hp
theorem Same.sameAt {W w' : World} (h : Same W w') {p : MemPlace} (hp : p.block < W.heap.size) : W.sameAt w' p := by
  cases p with
  | cell b o => exact World.cell?_of_block (w := W) (h.heap b hp)
  | map b => exact h.heap b hp
theorem z7w {H : Type} {enc : TypeId × Value → H} {P : Program} {W W' : World} {sp : Nat → Bool} (hl : laidOutB P = true) (hs : Same W W') : ∀ {ts : List TypeId} {vs : List Value} {ds : List (DataW H)} {ps : List MemPlace},
    (ts.all fun t => P.readableRec t && decide (t < P.types.size)) = true → DataW.TrodAll enc P W 0 (fun _ => true) true ts vs ds ps → (∀ p ∈ ps, p.block < W.heap.size) → (∀ p ∈ ps, sp p.block = true) → DataW.TrodAll enc P W' 0 sp true ts vs ds ps
  | [], [], [], _, _, h, _, _ => h
  | [], _ :: _, _, _, _, h, _, _ => by simp [DataW.TrodAll] at h
  | [], [], _ :: _, _, _, h, _, _ => by simp [DataW.TrodAll] at h
  | _ :: _, [], _, _, _, h, _, _ => by simp [DataW.TrodAll] at h
  | _ :: _, _ :: _, [], _, _, h, _, _ => by simp [DataW.TrodAll] at h
  | t :: ts, v :: vs, d :: ds, ps, hok, ⟨p, q, h1, h2, e⟩, hlt, hsp => by
    subst e
    simp only [List.all_cons, Bool.and_eq_true, decide_eq_true_eq] at hok
    refine ⟨p, q, WideElems.Trod_stays hl hok.1.1 hok.1.2 h1 (fun x hx => hs.sameAt (hlt x (List.mem_append_left _ hx))) (fun x hx => hsp x (List.mem_append_left _ hx)), ?_, rfl⟩
    exact z7w hl hs (by rw [List.all_eq_true]; intro t' ht'; have := List.all_eq_true.1 hok.2 t' ht'; exact this) h2 (fun x hx => hlt x (List.mem_append_right _ hx)) (fun x hx => hsp x (List.mem_append_right _ hx))
/-! ### Arguments -/
section args
variable {P : Program}
end args
theorem zn8 {P : Program} {s : ChangeSpec} {f : Func} {H : Type} {enc : TypeId × Value → H} {W W' : World} {args : Array Value} {ds gs : List (DataW H)} {before : List MemPlace} {rt : TypeId} (hl : laidOutB P = true)
    (hts : (f.params.toList.all fun t => P.readableRec t && decide (t < P.types.size)) = true) (hvars : s.vars = []) (hrt : f.resultTypes = #[rt]) (hb : P.underlying rt = some .bool)
    (hfn : ∀ ds gs : List (DataW H), DataW.TrodAll enc P W 0 (fun _ => true) true f.params.toList args.toList ds before → s.fn H (ds ++ []) = { results := [.lit (.bool true)], args := ds })
    (hW : DataW.Whole enc P f.params.toList s.vars false W args.toList ds gs before) (hs : Same W W') : s.post enc P f false true false false W args (.bool true) W' := by
  have hW' := hW
  obtain ⟨p, q, hA, hV, rfl, hfz, hnd⟩ := hW
  rw [hvars] at hV
  obtain ⟨rfl, rfl⟩ := trodVars_none hV
  simp only [List.append_nil] at hW' hfn ⊢
  have hf := hfn ds [] hA
  refine zdu (pa := p) (pv := []) hW' (fun b sp hd => ?_) (fun sp hsp => ?_) (fun sp _ => ?_) (by simp) (hs.keptBut _) hs.frozen (ok_one hrt rfl (okWide_bool_mk hb _))
  · rw [List.append_nil, hf, hrt]; exact trodAll_cons_mk (shut_bool hb _) trodAll_mk0
  · rw [List.append_nil, hf]; exact z7w hl hs hts hA (fun x hx => hW'.lt x hx) (fun x hx => hsp x hx)
  · rw [List.append_nil, hf, hvars]; rfl
theorem zk0 {P : Program} {f : FuncId} {args : Array Value} {W : World} {post : Value → RH → Prop} (h : CallP P f args (rh0 W) post) (hp : ∀ v R', post v R' → v = .bool true) : Calls P f args W fun e W' => e = .returned (.bool true) ∧ Same W W' :=
  Calls.mono (h [] W (holds0 W)) fun e w' ⟨v, he, R', hle, hh, hv⟩ => ⟨by rw [he, hp v R' hv], zpb hle hh⟩
end GV
end Go.Proofs.Ytplgbkaollfmkaa
