/- Owned slices whose elements are owned slices. -/
import Derived.Test.YtohjnbajgbdhhaaGvSeq
namespace Go.Proofs.Ytohjnbajgbdhhaa
namespace GV
set_option linter.unusedVariables false

def Has (F f : Frag) : Prop := ∀ k o, f k = some o → F k = some o
def Apart (f g : Frag) : Prop := ∀ k, f k = none ∨ g k = none
def minus (F f : Frag) : Frag := fun k => match f k with | some _ => none | none => F k
def joinF (f g : Frag) : Frag := fun k => match f k with | some o => some o | none => g k
theorem Apart.symm {f g : Frag} (h : Apart f g) : Apart g f := fun k => (h k).symm
theorem apart_emp {f : Frag} : Apart emp f := fun k => .inl rfl
theorem has_emp {F : Frag} : Has F emp := fun k o h => by cases h
theorem has_self {F : Frag} : Has F F := fun _ _ h => h
theorem has_minus {F f g : Frag} (h : Has F g) (ha : Apart f g) : Has (minus F f) g := fun k o hk => by
  unfold minus
  cases e : f k with
  | none => exact h k o hk
  | some o' => rcases ha k with h1 | h1
               · rw [e] at h1; cases h1
               · rw [h1] at hk; cases hk
theorem apart_minus {F f : Frag} : Apart f (minus F f) := fun k => by
  unfold minus
  cases e : f k with
  | none => exact .inl rfl
  | some o => exact .inr rfl
theorem minus_some {F f : Frag} {k : Nat} {o : Obj} (h : minus F f k = some o) : F k = some o := by
  unfold minus at h
  cases e : f k with
  | none => rw [e] at h; exact h
  | some o' => rw [e] at h; cases h
theorem holds_split {R : RH} {F f : Frag} {O : List Frag} {w : World} (h : Holds R (F :: O) w) (hf : Has F f) : Holds R (f :: minus F f :: O) w := by
  obtain ⟨s1, s2⟩ := List.pairwise_cons.1 h.sep
  refine ⟨h.ro, fun g hg k o hk => ?_, List.pairwise_cons.2 ⟨fun g hg k => ?_, List.pairwise_cons.2 ⟨fun g hg k => ?_, s2⟩⟩, h.os, h.out⟩
  · rcases List.mem_cons.1 hg with rfl | hg
    · exact h.own F (List.mem_cons_self ..) k o (hf k o hk)
    rcases List.mem_cons.1 hg with rfl | hg
    · exact h.own F (List.mem_cons_self ..) k o (minus_some hk)
    · exact h.own g (List.mem_cons_of_mem _ hg) k o hk
  · rcases List.mem_cons.1 hg with rfl | hg
    · exact apart_minus k
    · cases e : f k with
      | none => exact .inl rfl
      | some o => rcases s1 g hg k with h1 | h1
                  · rw [hf k o e] at h1; cases h1
                  · exact .inr h1
  · cases e : minus F f k with
    | none => exact .inl rfl
    | some o => rcases s1 g hg k with h1 | h1
                · rw [minus_some e] at h1; cases h1
                · exact .inr h1
theorem holds_join {R : RH} {f g : Frag} {O : List Frag} {w : World} (h : Holds R (f :: g :: O) w) : Holds R (joinF f g :: O) w := by
  obtain ⟨s1, s2⟩ := List.pairwise_cons.1 h.sep
  obtain ⟨s3, s4⟩ := List.pairwise_cons.1 s2
  have hj : ∀ k o, joinF f g k = some o → f k = some o ∨ g k = some o := fun k o hk => by
    unfold joinF at hk
    cases e : f k with
    | none => rw [e] at hk; exact .inr hk
    | some o' => rw [e] at hk; exact .inl hk
  refine ⟨h.ro, fun x hx k o hk => ?_, List.pairwise_cons.2 ⟨fun x hx k => ?_, s4⟩, h.os, h.out⟩
  · rcases List.mem_cons.1 hx with rfl | hx
    · rcases hj k o hk with h1 | h1
      · exact h.own f (List.mem_cons_self ..) k o h1
      · exact h.own g (List.mem_cons_of_mem _ (List.mem_cons_self ..)) k o h1
    · exact h.own x (List.mem_cons_of_mem _ (List.mem_cons_of_mem _ hx)) k o hk
  · cases e : joinF f g k with
    | none => exact .inl rfl
    | some o =>
      rcases hj k o e with h1 | h1
      · rcases s1 x (List.mem_cons_of_mem _ hx) k with h2 | h2
        · rw [h1] at h2; cases h2
        · exact .inr h2
      · rcases s3 x hx k with h2 | h2
        · rw [h1] at h2; cases h2
        · exact .inr h2
theorem has_join1 {f g : Frag} : Has (joinF f g) f := fun k o h => by unfold joinF; rw [h]
theorem has_join2 {f g : Frag} (h : Apart f g) : Has (joinF f g) g := fun k o hk => by
  unfold joinF
  rcases h k with h1 | h1
  · rw [h1]; exact hk
  · rw [h1] at hk; cases hk
theorem Has.trans {a b c : Frag} (h : Has a b) (k : Has b c) : Has a c := fun i o hi => h i o (k i o hi)
theorem Has.apart {f g g' : Frag} (h : Has g g') (ha : Apart f g) : Apart f g' := fun k => by
  cases e : g' k with
  | none => exact .inr rfl
  | some o => rcases ha k with h1 | h1
              · exact .inl h1
              · rw [h k o e] at h1; cases h1

/-- A cell that is one value, whatever it says. -/
def tHdr : Ty Value where
  size := 1
  agg := false
  rep R cs v := cs = [v] ∧ v.oneCell' = true
  len := by rintro R cs x ⟨rfl, _⟩; rfl
  mono := by rintro R R' cs x _ h; exact h
  one _ := rfl
  cell := by
    rintro R cs x ⟨rfl, h⟩ v hv
    rw [List.mem_singleton.1 hv]; exact h

/-- The rows but one (or but none), in a fragment. -/
def Rows {α : Type} (T : Ty α) (R : RH) (G : Frag) (Vs : List Value) (X : List (List α)) (Fs : List Frag) (no : Nat → Prop) : Prop :=
  Fs.length = X.length ∧ (∀ j, j < X.length → ¬ no j → ORep T R (Fs.getD j emp) (Vs.getD j default) (X.getD j default) ∧ Has G (Fs.getD j emp)) ∧
    ∀ i j, i < X.length → j < X.length → ¬ no i → ¬ no j → i ≠ j → Apart (Fs.getD i emp) (Fs.getD j emp)
def O2 {α : Type} (T : Ty α) (R : RH) (F : Frag) (v : Value) (X : List (List α)) : Prop :=
  ∃ Vs f0 Fs, Vs.length = X.length ∧ ORep tHdr R f0 v Vs ∧ Has F f0 ∧ Rows T R F Vs X Fs (fun _ => False) ∧ ∀ j, j < X.length → Apart f0 (Fs.getD j emp)
theorem Rows.mono {α : Type} {T : Ty α} {R R' : RH} {G : Frag} {Vs : List Value} {X : List (List α)} {Fs : List Frag} {no : Nat → Prop} (h : Rows T R G Vs X Fs no) (hle : RH.le R R') : Rows T R' G Vs X Fs no :=
  ⟨h.1, fun j hj hn => ⟨(h.2.1 j hj hn).1.mono hle, (h.2.1 j hj hn).2⟩, h.2.2⟩
theorem O2.mono {α : Type} {T : Ty α} {R R' : RH} {F : Frag} {v : Value} {X : List (List α)} (h : O2 T R F v X) (hle : RH.le R R') : O2 T R' F v X :=
  let ⟨Vs, f0, Fs, a, b, c, d, e⟩ := h; ⟨Vs, f0, Fs, a, b.mono hle, c, d.mono hle, e⟩
theorem getD_set_nat {β : Type} {X : List β} {k j : Nat} {y d : β} (hk : k < X.length) : (X.set k y).getD j d = if j = k then y else X.getD j d := by
  simp only [List.getD_eq_getElem?_getD, List.getElem?_set]
  by_cases h : k = j
  · subst h; simp [hk]
  · rw [if_neg h, if_neg (fun e => h e.symm)]
theorem focus2 {α : Type} {T : Ty α} {R : RH} {F : Frag} {v : Value} {X : List (List α)} {k : Nat} (h : O2 T R F v X) (hk : k < X.length) :
    ∃ Vs Fs f0 fk G, Vs.length = X.length ∧ ORep tHdr R f0 v Vs ∧ ORep T R fk (Vs.getD k default) (X.getD k default) ∧ Rows T R G Vs X Fs (fun j => j = k) ∧
      ∀ (O : List Frag) (w : World), Holds R (F :: O) w → Holds R (f0 :: fk :: G :: O) w := by
  obtain ⟨Vs, f0, Fs, hl, h0, hF0, ⟨hr1, hr2, hr3⟩, hap⟩ := h
  have n : ∀ j, ¬ (fun (_ : Nat) => False) j := fun _ h => h
  refine ⟨Vs, Fs, f0, Fs.getD k emp, minus (minus F f0) (Fs.getD k emp), hl, h0, (hr2 k hk (n k)).1, ⟨hr1, fun j hj hjk => ⟨(hr2 j hj (n j)).1, has_minus (has_minus (hr2 j hj (n j)).2 (hap j hj)) (hr3 k j hk hj (n k) (n j) (fun e => hjk e.symm))⟩, fun i j hi hj hik hjk hij => hr3 i j hi hj (n i) (n j) hij⟩, fun O w hh => ?_⟩
  have h1 := holds_perm (holds_split hh hF0) (List.Perm.swap _ _ _)
  have h2 := holds_split h1 (has_minus (hr2 k hk (n k)).2 (hap k hk))
  exact holds_perm h2 (((List.Perm.swap f0 _ O).cons _).trans (List.Perm.swap f0 _ _))
theorem unfocus2 {α : Type} {T : Ty α} {R : RH} {v : Value} {X : List (List α)} {Vs Vs0 : List Value} {Fs : List Frag} {f0 fk G : Frag} {Y : List α} {k : Nat} {O : List Frag} {w : World} (hk : k < X.length) (hl : Vs.length = X.length) (h0 : ORep tHdr R f0 v Vs)
    (hf : ORep T R fk (Vs.getD k default) Y) (hr : Rows T R G Vs0 X Fs (fun j => j = k)) (hs : ∀ j, j ≠ k → Vs.getD j default = Vs0.getD j default) (hh : Holds R (f0 :: fk :: G :: O) w) :
    O2 T R (joinF f0 (joinF fk G)) v (X.set k Y) ∧ Holds R (joinF f0 (joinF fk G) :: O) w := by
  obtain ⟨s1, s2⟩ := List.pairwise_cons.1 hh.sep
  obtain ⟨s3, s4⟩ := List.pairwise_cons.1 s2
  have a1 : Apart f0 fk := fun i => s1 fk (by simp) i
  have a2 : Apart f0 G := fun i => s1 G (by simp) i
  have a3 : Apart fk G := fun i => s3 G (by simp) i
  have hj : Apart f0 (joinF fk G) := fun i => by
    unfold joinF
    cases e : fk i with
    | none => exact a2 i
    | some o => rcases a1 i with h | h
                · exact .inl h
                · rw [e] at h; cases h
  have hFk : Has (joinF f0 (joinF fk G)) fk := (has_join2 hj).trans has_join1
  have hFG : Has (joinF f0 (joinF fk G)) G := (has_join2 hj).trans (has_join2 a3)
  obtain ⟨hr1, hr2, hr3⟩ := hr
  have hg := fun j => getD_set_nat (X := Fs) (j := j) (y := fk) (d := emp) (k := k) (by omega)
  have hx := fun j => getD_set_nat (X := X) (j := j) (y := Y) (d := default) hk
  refine ⟨⟨Vs, f0, Fs.set k fk, by simp [hl], h0, has_join1, ⟨by simp [hr1], fun j hjl _ => ?_, fun i j hi hjl _ _ hij => ?_⟩, fun j hjl => ?_⟩, ?_⟩
  · have hjl' : j < X.length := by simpa using hjl
    rw [hg, hx]
    by_cases e : j = k
    · subst e; rw [if_pos rfl, if_pos rfl]; exact ⟨hf, hFk⟩
    · rw [if_neg e, if_neg e, hs j e]; exact ⟨(hr2 j hjl' e).1, hFG.trans (hr2 j hjl' e).2⟩
  · have hi' : i < X.length := by simpa using hi
    have hj' : j < X.length := by simpa using hjl
    rw [hg, hg]
    by_cases e1 : i = k
    · rw [if_pos e1, if_neg (fun e => hij (e1.trans e.symm))]
      exact (hr2 j hj' (fun e => hij (e1.trans e.symm))).2.apart a3
    · by_cases e2 : j = k
      · rw [if_neg e1, if_pos e2]; exact ((hr2 i hi' e1).2.apart a3).symm
      · rw [if_neg e1, if_neg e2]; exact hr3 i j hi' hj' e1 e2 hij
  · have hj' : j < X.length := by simpa using hjl
    rw [hg]
    by_cases e : j = k
    · rw [if_pos e]; exact a1
    · rw [if_neg e]; exact (hr2 j hj' e).2.apart a2
  · have h1 := holds_perm hh (show (f0 :: fk :: G :: O).Perm (fk :: G :: f0 :: O) from (List.Perm.swap fk f0 _).trans ((List.Perm.swap G f0 O).cons fk))
    exact holds_join (holds_perm (holds_join h1) (List.Perm.swap f0 _ O))
section laws
variable {P : Program} {ρ : Option Nat} {n : Nat} {Q : Po} {l : Nat → Value} {D : List Nat} {R : RH} {O : List Frag} {ops : Array Oper} {os : List Oper} {c : Code}
theorem conv_focus2 {α : Type} {T : Ty α} {i k : Nat} {F : Frag} {v : Value} {X : List (List α)} (hi : O[i]? = some F) (h : O2 T R F v X) (hk : k < X.length) :
    ∃ Vs Fs f0 fk G, Vs.length = X.length ∧ ORep tHdr R f0 v Vs ∧ ORep T R fk (Vs.getD k default) (X.getD k default) ∧ Rows T R G Vs X Fs (fun j => j = k) ∧
      ∀ (A : List Frag) (w : World), Holds R (O ++ A) w → Holds R ((f0 :: fk :: G :: O.eraseIdx i) ++ A) w :=
  let ⟨Vs, Fs, f0, fk, G, a, b, c, d, e⟩ := focus2 h hk
  ⟨Vs, Fs, f0, fk, G, a, b, c, d, fun A w hh => e _ w (holds_focus hi hh)⟩
theorem wg_focus2 {α : Type} {T : Ty α} {i : Nat} {F : Frag} {v : Value} {X : List (List α)} (hi : O[i]? = some F) (h : O2 T R F v X) (k : Nat) (hk : k < X.length)
    (next : ∀ Vs Fs f0 fk G, Vs.length = X.length → ORep tHdr R f0 v Vs → ORep T R fk (Vs.getD k default) (X.getD k default) → Rows T R G Vs X Fs (fun j => j = k) → wg P ρ n c Q l D R (f0 :: fk :: G :: O.eraseIdx i)) : wg P ρ n c Q l D R O :=
  let ⟨Vs, Fs, f0, fk, G, a, b, c, d, e⟩ := conv_focus2 hi h hk
  wg_conv e (next Vs Fs f0 fk G a b c d)
theorem wo_focus2 {α : Type} {T : Ty α} {i : Nat} {F : Frag} {v : Value} {X : List (List α)} (hi : O[i]? = some F) (h : O2 T R F v X) (k : Nat) (hk : k < X.length)
    (next : ∀ Vs Fs f0 fk G, Vs.length = X.length → ORep tHdr R f0 v Vs → ORep T R fk (Vs.getD k default) (X.getD k default) → Rows T R G Vs X Fs (fun j => j = k) → wo P ρ n ops Q os l D R (f0 :: fk :: G :: O.eraseIdx i)) : wo P ρ n ops Q os l D R O :=
  let ⟨Vs, Fs, f0, fk, G, a, b, c, d, e⟩ := conv_focus2 hi h hk
  wo_conv e (next Vs Fs f0 fk G a b c d)
theorem wo_unfocus2 {α : Type} {T : Ty α} {v : Value} {X : List (List α)} {Vs Vs0 : List Value} {Fs : List Frag} {f0 fk G : Frag} {Y : List α} {k : Nat} (hk : k < X.length) (hl : Vs.length = X.length) (h0 : ORep tHdr R f0 v Vs)
    (hf : ORep T R fk (Vs.getD k default) Y) (hr : Rows T R G Vs0 X Fs (fun j => j = k)) (hs : ∀ j, j ≠ k → Vs.getD j default = Vs0.getD j default) (next : ∀ F, O2 T R F v (X.set k Y) → wo P ρ n ops Q os l D R (F :: O)) : wo P ρ n ops Q os l D R (f0 :: fk :: G :: O) := by
  intro a w hf' hh
  obtain ⟨h1, h2⟩ := unfocus2 hk hl h0 hf hr hs (by simpa only [List.cons_append] using hh)
  exact next _ h1 a w hf' (by simpa only [List.cons_append] using h2)
theorem wg_unfocus2 {α : Type} {T : Ty α} {v : Value} {X : List (List α)} {Vs Vs0 : List Value} {Fs : List Frag} {f0 fk G : Frag} {Y : List α} {k : Nat} (hk : k < X.length) (hl : Vs.length = X.length) (h0 : ORep tHdr R f0 v Vs)
    (hf : ORep T R fk (Vs.getD k default) Y) (hr : Rows T R G Vs0 X Fs (fun j => j = k)) (hs : ∀ j, j ≠ k → Vs.getD j default = Vs0.getD j default) (next : ∀ F, O2 T R F v (X.set k Y) → wg P ρ n c Q l D R (F :: O)) : wg P ρ n c Q l D R (f0 :: fk :: G :: O) := by
  intro a w hf' hh
  obtain ⟨h1, h2⟩ := unfocus2 hk hl h0 hf hr hs (by simpa only [List.cons_append] using hh)
  exact next _ h1 a w hf' (by simpa only [List.cons_append] using h2)
end laws
theorem orep_as {α : Type} {T : Ty α} {R R' : RH} {f : Frag} {v : Value} {Vs : List Value} {X : List (List α)} (h : ORep tHdr R f v Vs) (hl : Vs.length = X.length) (he : ∀ j, j < X.length → VRep (tSlice T) R' (Vs.getD j default) (X.getD j default)) : ORep (tSlice T) R' f v X := by
  rcases h with ⟨rfl, rfl, rfl⟩ | ⟨b, pre, cs, cap, ty, rfl, rfl, h3, h4, h5, h6⟩
  · exact .inl ⟨rfl, List.eq_nil_of_length_eq_zero (by simpa using hl.symm), rfl⟩
  · refine .inr ⟨b, pre, cs, cap, ty, by rw [hl], rfl, by omega, h4, h5, fun i x hx => ?_⟩
    have hi : i < X.length := (List.getElem?_eq_some_iff.1 hx).1
    have hv : Vs[i]? = some (Vs.getD i default) := getD_some (by omega)
    obtain ⟨hc, ho⟩ := h6 i _ hv
    have hxe : X.getD i default = x := by simp [List.getD_eq_getElem?_getD, hx]
    have := rep_slice (he i hi)
    rw [hxe] at this
    show (tSlice T).rep R' ((cs.drop (i * 1)).take 1) x
    rw [show (cs.drop (i * 1)).take 1 = [Vs.getD i default] from hc]
    exact this
theorem has_le {R : RH} {F f : Frag} (h : Has F f) : RH.le (R.add f) (R.add F) := ⟨fun k o hk => by
  unfold RH.add at hk ⊢
  simp only at hk ⊢
  cases e : R.blk k with
  | some o' => rw [e] at hk; exact hk
  | none => rw [e] at hk; exact h k o hk, rfl, rfl⟩
theorem vrep_freeze2 {α : Type} {T : Ty α} {R : RH} {F : Frag} {v : Value} {X : List (List α)} {A : List Frag} {w : World} (h : O2 T R F v X) (hh : Holds R (F :: A) w) : VRep (tSlice (tSlice T)) (R.add F) v X := by
  obtain ⟨Vs, f0, Fs, hl, h0, hF0, ⟨hr1, hr2, hr3⟩, hap⟩ := h
  have hrow : ∀ j, j < X.length → VRep (tSlice T) (R.add F) (Vs.getD j default) (X.getD j default) := fun j hj =>
    (vrep_freeze (hr2 j hj (fun h => h)).1 (holds_split hh (hr2 j hj (fun h => h)).2)).mono (has_le (hr2 j hj (fun h => h)).2)
  have h1 := orep_as h0 hl hrow
  rcases h1 with ⟨rfl, rfl, _⟩ | ⟨b, pre, cs, cap, bt, rfl, rfl, hc, hcl, hcc, hel⟩
  · exact vrep_nil
  · refine vrep_slice.2 ⟨_, cap, rfl, hc, fun e => by (cases e), .inr ⟨b, pre.length, (pre ++ cs).toArray, bt, (0, 0), rfl, ?_, fun i x hx => ?_⟩⟩
    · exact (has_le hF0).blk b _ (add_new (holds_fresh (holds_split hh hF0)))
    · rw [cellsAt_pre]
      simpa [cellsAt] using hel i x hx
theorem wo_freeze2 {P : Program} {ρ : Option Nat} {n : Nat} {Q : Po} {l : Nat → Value} {D : List Nat} {R : RH} {O : List Frag} {ops : Array Oper} {os : List Oper} {α : Type} {T : Ty α} {i : Nat} {F : Frag} {v : Value} {X : List (List α)} (hi : O[i]? = some F) (h : O2 T R F v X)
    (k : ∀ R', RH.le R R' → VRep (tSlice (tSlice T)) R' v X → wo P ρ n ops Q os l D R' (O.eraseIdx i)) : wo P ρ n ops Q os l D R O := fun a w hf hh =>
  k (R.add F) (RH.le_add _ _) (vrep_freeze2 h (holds_focus hi hh)) a w hf (conv_freeze hi _ w hh)
theorem wg_freeze2 {P : Program} {ρ : Option Nat} {n : Nat} {Q : Po} {l : Nat → Value} {D : List Nat} {R : RH} {O : List Frag} {c : Code} {α : Type} {T : Ty α} {i : Nat} {F : Frag} {v : Value} {X : List (List α)} (hi : O[i]? = some F) (h : O2 T R F v X)
    (k : ∀ R', RH.le R R' → VRep (tSlice (tSlice T)) R' v X → wg P ρ n c Q l D R' (O.eraseIdx i)) : wg P ρ n c Q l D R O := fun a w hf hh =>
  k (R.add F) (RH.le_add _ _) (vrep_freeze2 h (holds_focus hi hh)) a w hf (conv_freeze hi _ w hh)
/-- An owned slice of nil slices. -/
theorem o2_make {α : Type} {T : Ty α} {R : RH} {f : Frag} {v : Value} {m : Nat} (h : ORep tHdr R f v (List.replicate m (Value.slice none 0 0))) : O2 T R f v (List.replicate m []) := by
  refine ⟨_, f, List.replicate m emp, by simp, h, has_self, ⟨by simp, fun j hj _ => ?_, fun i j hi hj _ _ _ => ?_⟩, fun j hj => ?_⟩
  · have hj' : j < m := by simpa using hj
    refine ⟨.inl ⟨?_, ?_, ?_⟩, ?_⟩
    · simp [List.getD_eq_getElem?_getD, hj']
    · simp [List.getD_eq_getElem?_getD, hj']
    · simp [List.getD_eq_getElem?_getD, hj']
    · have : (List.replicate m emp).getD j emp = emp := by simp [List.getD_eq_getElem?_getD, hj']
      rw [this]; exact has_emp
  · have : (List.replicate m emp).getD i emp = emp := by simp only [List.getD_eq_getElem?_getD, List.getElem?_replicate]; split <;> rfl
    rw [this]; exact apart_emp
  · have : (List.replicate m emp).getD j emp = emp := by simp only [List.getD_eq_getElem?_getD, List.getElem?_replicate]; split <;> rfl
    rw [this]; exact apart_emp.symm
theorem o2_emp {α : Type} {T : Ty α} {R : RH} : O2 T R emp (.slice none 0 0) ([] : List (List α)) :=
  ⟨[], emp, [], rfl, .inl ⟨rfl, rfl, rfl⟩, has_self, ⟨rfl, fun j hj => by simp at hj, fun i j hi => by simp at hi⟩, fun j hj => by simp at hj⟩
theorem zero_hdr {P : Program} {e : TypeId} {α : Type} {T : Ty α} {bytes : Nat} (h : ZeroOk P e (tSlice T) [] bytes) (hz : ∃ i zv, P.info? e = some i ∧ i.zero = some zv ∧ zv = .slice none 0 0) : ZeroOk P e tHdr (.slice none 0 0) bytes := by
  obtain ⟨i, zv, h1, h2, h3, h4, h5⟩ := h.info
  obtain ⟨i', zv', g1, g2, g3⟩ := hz
  rw [h1] at g1; obtain rfl := Option.some.inj g1
  rw [h2] at g2; obtain rfl := Option.some.inj g2
  subst g3
  exact ⟨i, _, h1, h2, h3, h4, fun R => ⟨rfl, rfl⟩⟩
def isNilS : Value → Bool
  | .slice none _ _ => true
  | _ => false
theorem nilS_nil {α : Type} {T : Ty α} {R : RH} {v : Value} {X : List α} (h : VRep (tSlice T) R v X) (hn : isNilS v = true) : X = [] := by
  obtain ⟨p, n, rfl, _, hp, _⟩ := vrep_slice.1 h
  cases p with
  | none => exact hp rfl
  | some a => cases hn
theorem run_eqNil {P : Program} {t e : TypeId} {v : Value} {w : World} (hu : P.underlying t = some (.slice e)) (hv : ∃ p k c, v = .slice p k c) : (Op.equal t v (.slice none 0 0)).run P w = .ok (isNilS v) w := by
  obtain ⟨p, k, c, rfl⟩ := hv
  show (Op.equalIn (9999 + 1) t _ _).run P w = _
  generalize 9999 = d
  cases p <;> simp [Op.equalIn, run_underlying hu, isNilS]
section eqnil
variable {P : Program} {ρ : Option Nat} {l : Nat → Value} {R : RH} {O : List Frag} {dst : Option Tmp} {ty : TypeId} {pos : String} {after : Array Go.Edge} {g : Option (Nat × Bool)}
theorem val_eqNil {t t' e : TypeId} {x y : Operand} {v : Value} (hu : P.underlying t = some (.slice e)) (hx : ev l x = v) (hy : ev l y = .slice none 0 0) (hv : ∃ p k c, v = .slice p k c) : Val P ρ ⟨dst, .binOp .eql t x y t', ty, pos, after, g⟩ l R O (.bool (isNilS v)) := by
  intro A w _; rw [sem_plain (by intro c h; cases h)]
  have h := run_eqNil (w := w) hu hv
  obtain ⟨p, k, c, rfl⟩ := hv
  have hg : (eqGuard .eql t x y (.slice p k c) (.slice none 0 0)).run P w = .ok () w := by simp [eqGuard]
  simp only [execOp, hx, hy, Sem.run_bind, hg, Result.andThen_ok]
  have : (binOp .eql t (.slice p k c) (.slice none 0 0)).run P w = .ok (.bool (isNilS (.slice p k c))) w := by
    simp only [binOp, Sem.run_bind, h, Result.andThen_ok, Sem.run_pure]
  rw [this]; rfl
theorem val_neqNil {t t' e : TypeId} {x y : Operand} {v : Value} (hu : P.underlying t = some (.slice e)) (hx : ev l x = v) (hy : ev l y = .slice none 0 0) (hv : ∃ p k c, v = .slice p k c) : Val P ρ ⟨dst, .binOp .neq t x y t', ty, pos, after, g⟩ l R O (.bool (!isNilS v)) := by
  intro A w _; rw [sem_plain (by intro c h; cases h)]
  have h := run_eqNil (w := w) hu hv
  obtain ⟨p, k, c, rfl⟩ := hv
  have hg : (eqGuard .neq t x y (.slice p k c) (.slice none 0 0)).run P w = .ok () w := by simp [eqGuard]
  simp only [execOp, hx, hy, Sem.run_bind, hg, Result.andThen_ok]
  have : (binOp .neq t (.slice p k c) (.slice none 0 0)).run P w = .ok (.bool (!isNilS (.slice p k c))) w := by
    simp only [binOp, Sem.run_bind, h, Result.andThen_ok, Sem.run_pure]
  rw [this]; rfl
end eqnil
theorem isS_vrep {α : Type} {T : Ty α} {R : RH} {v : Value} {X : List α} (h : VRep (tSlice T) R v X) : ∃ p k c, v = .slice p k c := by
  obtain ⟨p, n, rfl, _⟩ := vrep_slice.1 h; exact ⟨_, _, _, rfl⟩
theorem isS_orep {α : Type} {T : Ty α} {R : RH} {f : Frag} {v : Value} {X : List α} (h : ORep T R f v X) : ∃ p k c, v = .slice p k c := by
  rcases h with ⟨rfl, _, _⟩ | ⟨b, pre, cs, cap, ty, rfl, _⟩ <;> exact ⟨_, _, _, rfl⟩
end GV
end Go.Proofs.Ytohjnbajgbdhhaa
