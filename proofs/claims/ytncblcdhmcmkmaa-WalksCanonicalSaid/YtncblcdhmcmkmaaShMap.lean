/- Operations on owned rows; calls that hand on what is owned. -/
import Derived.Test.YtncblcdhmcmkmaaShFree
import Derived.MapKept
namespace Go.Proofs.Ytncblcdhmcmkmaa
namespace GV
set_option linter.unusedVariables false
set_option linter.unusedSectionVars false

def NRep {α : Type} (t : Bool) (T : Ty α) (R : RH) (F : Frag) (v : Value) (X : List (List α)) : Prop := ∃ Vs, N2 t T R F v Vs X
theorem NRep.mono {α : Type} {t : Bool} {T : Ty α} {R R' : RH} {F : Frag} {v : Value} {X : List (List α)} (h : NRep t T R F v X) (hle : RH.le R R') : NRep t T R' F v X := let ⟨Vs, a⟩ := h; ⟨Vs, a.mono hle⟩
theorem nrep_of {α : Type} {t : Bool} {T : Ty α} {R : RH} {F : Frag} {v : Value} {Vs : List Value} {X : List (List α)} (h : N2 t T R F v Vs X) : NRep t T R F v X := ⟨Vs, h⟩
theorem ty_hdr {P : Program} {t : TypeId} {α : Type} {T : Ty α} {b : Bool} (h : TyOk P t (tSl b T)) : TyOk P t tHdr := ⟨h.agg, h.size⟩
theorem sl_hdr {P : Program} {t e : TypeId} {α : Type} {T : Ty α} {b : Bool} (h : SlOk P t e (tSl b T)) : SlOk P t e tHdr := ⟨h.u, ty_hdr h.e⟩
theorem vrep_hdr {R : RH} {w y : Value} (h : VRep tHdr R w y) : w = y := by obtain ⟨cs, ⟨rfl, _⟩, rfl⟩ := h; rfl
theorem hdr_vrep {R : RH} {w : Value} (h : w.oneCell' = true) : VRep tHdr R w w := ⟨[w], ⟨rfl, h⟩, rfl⟩
theorem hdr_rep {R : RH} {w : Value} (h : w.oneCell' = true) : tHdr.rep R [w] w := ⟨rfl, h⟩
theorem n2_one {α : Type} {t : Bool} {T : Ty α} {R : RH} {F : Frag} {v : Value} {Vs : List Value} {X : List (List α)} (h : N2 t T R F v Vs X) : v.oneCell' = true := let ⟨_, h0, _⟩ := h.o; orep_one h0
theorem n2_cells {α : Type} {t : Bool} {T : Ty α} {R : RH} {F : Frag} {v : Value} {Vs : List Value} {X : List (List α)} (h : N2 t T R F v Vs X) : v.cells = ([v] : List Value).toArray := let ⟨_, h0, _⟩ := h.o; orep_cells h0
theorem n2_rt {α : Type} {t : Bool} {T : Ty α} {R : RH} {F : Frag} {v : Value} {Vs : List Value} {X : List (List α)} (h : N2 t T R F v Vs X) {r : Nat} (hr : r < X.length) (e : t = true) : capOf (Vs.getD r default) = (X.getD r default).length :=
  let ⟨_, _, _, _, _, _, _, g⟩ := h; g e r hr (fun h => h)

theorem cells_of_one {v : Value} (h : v.oneCell' = true) : v.cells = ([v] : List Value).toArray := by
  cases v <;> first | rfl | (simp [Value.oneCell'] at h; done)

section ops
variable {P : Program} {ρ : Option Nat} {l : Nat → Value} {R : RH} {O : List Frag} {dst : Option Tmp} {ty : TypeId} {pos : String} {after : Array Go.Edge} {g : Option (Nat × Bool)} {α : Type} {t : Bool} {T : Ty α} {F : Frag} {v : Value} {Vs : List Value} {X : List (List α)}
theorem ph_indexN {tt e : TypeId} {x ix : Operand} {k : IntKind} {i : Nat} (ht : SlOk P tt e tHdr) (hx : ev l x = v) (h : N2 t T R F v Vs X) (hi : ev l ix = .int k i) (hy : i < X.length) :
    Eff P ρ ⟨dst, .indexAddr tt x ix, ty, pos, after, g⟩ l R O (fun v' R' O' => O' = O ∧ (fun u _ => OPtr tHdr v Vs u i) v' R') := by
  obtain ⟨f0, h0, _, hl⟩ := h.o
  exact ph_indexO ht hx h0 hi (by omega)
theorem ph_loadN {tt : TypeId} {x : Operand} {u : Value} {i j : Nat} (ht : TyOk P tt tHdr) (h : N2 t T R F v Vs X) (hO : O[j]? = some F) (hx : ev l x = u) (hp : OPtr tHdr v Vs u i) (hy : i < X.length) :
    Eff P ρ ⟨dst, .load tt x, ty, pos, after, g⟩ l R O (fun v' R' O' => O' = O ∧ phX (Vs.getD i default) v' R') := by
  obtain ⟨f0, h0, hF, hl⟩ := h.o
  obtain ⟨w, hw, hv⟩ := val_loadH (ρ := ρ) (P := P) ht h0 hF hO hx hp (getD_some (by omega))
  exact (hv dst ty pos after g).eff.mono fun v' R' O' _ ⟨a, b, c⟩ => ⟨c, a.trans (vrep_hdr hw)⟩
theorem ph_indexNR {tt e : TypeId} {x ix : Operand} {k : IntKind} {i r : Nat} (ht : SlOk P tt e T) (h : N2 t T R F v Vs X) (hr : r < X.length) (hx : ev l x = Vs.getD r default) (hi : ev l ix = .int k i) (hy : i < (X.getD r default).length) :
    Eff P ρ ⟨dst, .indexAddr tt x ix, ty, pos, after, g⟩ l R O (fun v' R' O' => O' = O ∧ (fun u _ => OPtr T (Vs.getD r default) (X.getD r default) u i) v' R') :=
  let ⟨fk, h1, _⟩ := h.row hr; ph_indexO ht hx h1 hi hy
theorem eff_storeN {tt : TypeId} {x y : Operand} {u w : Value} {i r : Nat} {z : α} (ht : TyOk P tt T) (h : N2 t T R F v Vs X) (hr : r < X.length) (hx : ev l x = u) (hp : OPtr T (Vs.getD r default) (X.getD r default) u i) (hi : i < (X.getD r default).length)
    (hy : ev l y = w) (hz : VRep T R w z) : Eff P ρ ⟨dst, .store tt x y, ty, pos, after, g⟩ l R ([F] ++ O) (fun v' R' O' => ∃ Oc, O' = Oc ++ O ∧ R' = R ∧ ∃ F', Oc = [F'] ∧ N2 t T R F' v Vs (X.set r ((X.getD r default).set i z))) := by
  obtain ⟨fk, h1, hF, hh⟩ := h.hole hr
  refine eff_conv (O1 := [fk]) (Or := minus F fk :: O) (fun A w hw => holds_split hw hF) (free_storeO (j := 0) ht h1 rfl hx hp hi hy hz) ?_
  rintro v' R' O1' hle ⟨rfl, f', rfl, ho⟩ A w hw
  refine ⟨joinF f' (minus F fk) :: O, holds_join hw, _, rfl, rfl, _, rfl, N2h.fill (u := default) hh hr ho (apart_of hw) fun e => ?_⟩
  rw [List.length_set]; exact n2_rt h hr e
theorem apart_join {f g h : Frag} (a : Apart f g) (b : Apart f h) : Apart f (joinF g h) := fun k => by
  unfold joinF
  cases e : g k with
  | none => exact b k
  | some o => rcases a k with h1 | h1
              · exact .inl h1
              · rw [e] at h1; cases h1
/-- Another row, behind another header. -/
theorem n2_put {f0' f G : Frag} {Fs : List Frag} {r : Nat} {w : Value} {Y : List α} (hr : r < X.length) (hl : Vs.length = X.length) (h0 : ORep tHdr R f0' v (Vs.set r w)) (hf : ORep T R f w Y) (hrow : Rows T R G Vs X Fs (fun _ => False)) (a1 : Apart f0' f) (a2 : Apart f0' G) (a3 : Apart f G)
    (htt : RTight t Vs X (fun _ => False)) (hc : t = true → capOf w = Y.length) : N2 t T R (joinF f0' (joinF f G)) v (Vs.set r w) (X.set r Y) := by
  obtain ⟨hr1, hr2, hr3⟩ := hrow
  have n : ∀ j, ¬ (fun (_ : Nat) => False) j := fun _ h => h
  have hj : Apart f0' (joinF f G) := apart_join a1 a2
  have hFk : Has (joinF f0' (joinF f G)) f := (has_join2 hj).trans has_join1
  have hFG : Has (joinF f0' (joinF f G)) G := (has_join2 hj).trans (has_join2 a3)
  have hg := fun j => getD_set_nat (X := Fs) (j := j) (y := f) (d := emp) (k := r) (by omega)
  have hx := fun j => getD_set_nat (X := X) (j := j) (y := Y) (d := default) hr
  have hv := fun j => getD_set_nat (X := Vs) (j := j) (y := w) (d := default) (k := r) (by omega)
  refine ⟨f0', Fs.set r f, by simp [hl], h0, has_join1, ⟨by simp [hr1], fun j hj _ => ?_, fun i j hi hj _ _ hij => ?_⟩, fun j hj => ?_, fun e j hj _ => ?_⟩
  · have hj' : j < X.length := by simpa using hj
    rw [hg, hx, hv]
    by_cases e : j = r
    · subst e; rw [if_pos rfl, if_pos rfl, if_pos rfl]; exact ⟨hf, hFk⟩
    · rw [if_neg e, if_neg e, if_neg e]; exact ⟨(hr2 j hj' (n j)).1, hFG.trans (hr2 j hj' (n j)).2⟩
  · have hi' : i < X.length := by simpa using hi
    have hj' : j < X.length := by simpa using hj
    rw [hg, hg]
    by_cases e1 : i = r
    · rw [if_pos e1, if_neg (fun e => hij (e1.trans e.symm))]
      exact (hr2 j hj' (n j)).2.apart a3
    · by_cases e2 : j = r
      · rw [if_neg e1, if_pos e2]; exact ((hr2 i hi' (n i)).2.apart a3).symm
      · rw [if_neg e1, if_neg e2]; exact hr3 i j hi' hj' (n i) (n j) hij
  · have hj' : j < X.length := by simpa using hj
    rw [hg]
    by_cases e : j = r
    · rw [if_pos e]; exact a1
    · rw [if_neg e]; exact (hr2 j hj' (n j)).2.apart a2
  · have hj' : j < X.length := by simpa using hj
    rw [hx, hv]
    by_cases e' : j = r
    · rw [if_pos e', if_pos e']; exact hc e
    · rw [if_neg e', if_neg e']; exact htt e j hj' (n j)
theorem rows_minus {f0 : Frag} {Fs : List Frag} (hrow : Rows T R F Vs X Fs (fun _ => False)) (hap : ∀ j, j < X.length → Apart f0 (Fs.getD j emp)) : Rows T R (minus F f0) Vs X Fs (fun _ => False) :=
  ⟨hrow.1, fun j hj n => ⟨(hrow.2.1 j hj n).1, has_minus (hrow.2.1 j hj n).2 (hap j hj)⟩, hrow.2.2⟩
theorem eff_setN {tt : TypeId} {x y : Operand} {u w : Value} {r : Nat} {f : Frag} {Y : List α} (ht : TyOk P tt tHdr) (h : N2 t T R F v Vs X) (hr : r < X.length) (hx : ev l x = u) (hp : OPtr tHdr v Vs u r) (hy : ev l y = w) (hf : ORep T R f w Y) (hc : t = true → capOf w = Y.length) :
    Eff P ρ ⟨dst, .store tt x y, ty, pos, after, g⟩ l R ([F, f] ++ O) (fun v' R' O' => ∃ Oc, O' = Oc ++ O ∧ R' = R ∧ ∃ F', Oc = [F'] ∧ N2 t T R F' v (Vs.set r w) (X.set r Y)) := by
  obtain ⟨f0, Fs, hl, h0, hF0, hrow, hap, htt⟩ := h
  refine eff_conv (O1 := [f0]) (Or := minus F f0 :: f :: O) (fun A w hw => holds_split hw hF0) (free_storeO (j := 0) ht h0 rfl hx hp (by omega) hy (hdr_vrep (orep_one hf))) ?_
  rintro v' R' O1' hle ⟨rfl, f', rfl, ho⟩ A w' hw
  have h1 : Holds R' (f' :: f :: minus F f0 :: (O ++ A)) w' := holds_perm hw ((List.Perm.swap f _ _).cons _)
  obtain ⟨s1, s2⟩ := List.pairwise_cons.1 h1.sep
  obtain ⟨s3, s4⟩ := List.pairwise_cons.1 s2
  have a1 : Apart f' f := fun i => s1 f (by simp) i
  have a2 : Apart f' (minus F f0) := fun i => s1 _ (by simp) i
  have a3 : Apart f (minus F f0) := fun i => s3 _ (by simp) i
  refine ⟨joinF f' (joinF f (minus F f0)) :: O, ?_, _, rfl, rfl, _, rfl, n2_put hr hl ho hf (rows_minus hrow hap) a1 a2 a3 htt hc⟩
  have h2 : Holds R' (f :: minus F f0 :: f' :: (O ++ A)) w' := holds_perm h1 ((List.Perm.swap f f' _).trans ((List.Perm.swap _ f' _).cons f))
  exact holds_join (holds_perm (holds_join h2) (List.Perm.swap f' _ _))
theorem getD_app1 {β : Type} {X Y : List β} {j : Nat} {d : β} (h : j < X.length) : (X ++ Y).getD j d = X.getD j d := by
  simp [List.getD_eq_getElem?_getD, List.getElem?_append_left h]
theorem getD_app2 {β : Type} {X : List β} {y d : β} : (X ++ [y]).getD X.length d = y := by
  simp [List.getD_eq_getElem?_getD]
theorem getD_app3 {β : Type} {X : List β} {y d : β} {j : Nat} (h : j = X.length) : (X ++ [y]).getD j d = y := h ▸ getD_app2
theorem n2_app {f0' f G : Frag} {Fs : List Frag} {w v' : Value} {Y : List α} (hl : Vs.length = X.length) (h0 : ORep tHdr R f0' v' (Vs ++ [w])) (hf : ORep T R f w Y) (hrow : Rows T R G Vs X Fs (fun _ => False)) (a1 : Apart f0' f) (a2 : Apart f0' G) (a3 : Apart f G)
    (htt : RTight t Vs X (fun _ => False)) (hc : t = true → capOf w = Y.length) : N2 t T R (joinF f0' (joinF f G)) v' (Vs ++ [w]) (X ++ [Y]) := by
  obtain ⟨hr1, hr2, hr3⟩ := hrow
  have n : ∀ j, ¬ (fun (_ : Nat) => False) j := fun _ h => h
  have hj : Apart f0' (joinF f G) := apart_join a1 a2
  have hFk : Has (joinF f0' (joinF f G)) f := (has_join2 hj).trans has_join1
  have hFG : Has (joinF f0' (joinF f G)) G := (has_join2 hj).trans (has_join2 a3)
  have at_ : ∀ j, j < (X ++ [Y]).length → j < X.length ∨ j = X.length := fun j hj => by simp at hj; omega
  refine ⟨f0', Fs ++ [f], by simp [hl], h0, has_join1, ⟨by simp [hr1], fun j hj _ => ?_, fun i j hi hj _ _ hij => ?_⟩, fun j hj => ?_, fun e j hj _ => ?_⟩
  · rcases at_ j hj with e | e
    · rw [getD_app1 (by omega), getD_app1 (by omega), getD_app1 e]; exact ⟨(hr2 j e (n j)).1, hFG.trans (hr2 j e (n j)).2⟩
    · rw [getD_app3 (by omega), getD_app3 (by omega), getD_app3 e]; exact ⟨hf, hFk⟩
  · rcases at_ i hi with e1 | e1
    · rcases at_ j hj with e2 | e2
      · rw [getD_app1 (by omega), getD_app1 (by omega)]; exact hr3 i j e1 e2 (n i) (n j) hij
      · rw [getD_app1 (by omega), getD_app3 (by omega)]; exact ((hr2 i e1 (n i)).2.apart a3).symm
    · rcases at_ j hj with e2 | e2
      · rw [getD_app3 (by omega), getD_app1 (by omega)]; exact (hr2 j e2 (n j)).2.apart a3
      · omega
  · rcases at_ j hj with e | e
    · rw [getD_app1 (by omega)]; exact (hr2 j e (n j)).2.apart a2
    · rw [getD_app3 (by omega)]; exact a1
  · rcases at_ j hj with e' | e'
    · rw [getD_app1 (by omega), getD_app1 e']; exact htt e j e' (n j)
    · rw [getD_app3 (by omega), getD_app3 e']; exact hc e
theorem eff_appendN {z : Value} {bytes : Nat} {tt e : TypeId} {x y : Operand} {u w : Value} {f : Frag} {Y : List α} (hu : P.underlying tt = some (.slice e)) (hz : ZeroOk P e tHdr z bytes) (hx : ev l x = v) (hy : ev l y = u) (h : N2 t T R F v Vs X) (hf : ORep T R f w Y) (hu' : VRep (tSlice tHdr) R u [w])
    (hc : t = true → capOf w = Y.length) (hb : (X.length + 1) * bytes ≤ 140737488355328) (hm : X.length + 1 ≤ 9223372036854775807) :
    Eff P ρ ⟨dst, .call ⟨.builtin .append, #[x, y], #[tt, tt]⟩, ty, pos, after, g⟩ l R ([F, f] ++ O) (fun v' R' O' => ∃ Oc, O' = Oc ++ O ∧ R' = R ∧ ∃ F', Oc = [F'] ∧ N2 t T R F' v' (Vs ++ [w]) (X ++ [Y])) := by
  obtain ⟨f0, Fs, hl, h0, hF0, hrow, hap, htt⟩ := h
  refine eff_conv (O1 := [f0]) (Or := minus F f0 :: f :: O) (fun A w hw => holds_split hw hF0) (eff_append (i := 0) hu hz hx hy rfl h0 hu' (by rw [hl]; simpa using hb) (by rw [hl]; simpa using hm)) ?_
  rintro v' R' O1' hle ⟨rfl, f', rfl, ho⟩ A w' hw
  have h1 : Holds R' (f' :: f :: minus F f0 :: (O ++ A)) w' := holds_perm hw ((List.Perm.swap f _ _).cons _)
  obtain ⟨s1, s2⟩ := List.pairwise_cons.1 h1.sep
  obtain ⟨s3, s4⟩ := List.pairwise_cons.1 s2
  have a1 : Apart f' f := fun i => s1 f (by simp) i
  have a2 : Apart f' (minus F f0) := fun i => s1 _ (by simp) i
  have a3 : Apart f (minus F f0) := fun i => s3 _ (by simp) i
  refine ⟨joinF f' (joinF f (minus F f0)) :: O, ?_, _, rfl, rfl, _, rfl, n2_app hl ho hf (rows_minus hrow hap) a1 a2 a3 htt hc⟩
  have h2 : Holds R' (f :: minus F f0 :: f' :: (O ++ A)) w' := holds_perm h1 ((List.Perm.swap f f' _).trans ((List.Perm.swap _ f' _).cons f))
  exact holds_join (holds_perm (holds_join h2) (List.Perm.swap f' _ _))
theorem eff_nmake {tt e : TypeId} {bytes : Nat} {x y : Operand} {n : Nat} {k k' : IntKind} (hu : P.underlying tt = some (.slice e)) (hz : ZeroOk P e tHdr (.slice none 0 0) bytes) (hx : ev l x = .int k n) (hy : ev l y = .int k' n) (hb : bytes * n ≤ 281474976710656) (hc : n ≤ 9223372036854775807) :
    Eff P ρ ⟨dst, .makeSlice tt x y, ty, pos, after, g⟩ l R O (fun v R' O' => ∃ Oc, O' = Oc ++ O ∧ R' = R ∧ ∃ F, Oc = [F] ∧ N2 t T R F v (List.replicate n (.slice none 0 0)) (List.replicate n ([] : List α)) ∧ capOf v = n) :=
  (eff_make hu hz hx hy (Nat.le_refl _) hb hc).mono fun v R' O' _ ⟨a, b, f, c, d⟩ => by subst a; exact ⟨[f], c, rfl, f, rfl, n2_make d, b⟩
theorem eff_callO {f : FuncId} {c : Operand} {args : List Operand} {at' : Array TypeId} {cs vs : List Value} {Oc : List Frag} {post : Value → RH → List Frag → Prop} (he : Enters P f) (hc : ev l c = .func (.func f) #[] cs.toArray) (ha : args.map (ev l) = vs) (h : CallG P f (vs ++ cs).toArray R Oc post) :
    Eff P ρ ⟨dst, .call ⟨.value c, args.toArray, at'⟩, ty, pos, after, g⟩ l R (Oc ++ O) (fun v R' O' => ∃ Oc', O' = Oc' ++ O ∧ post v R' Oc') :=
  eff_callG (fs := #[]) (cs := cs.toArray) he hc (args_arr ha) (by simp) (List.Perm.refl _) h
end ops

section read
variable {α : Type} {t : Bool} {T : Ty α} {R R1 : RH} {f F : Frag} {v : Value} {Vs : List Value}
/-- What is owned, read in a heap that has it. -/
theorem orep_read {X : List α} (h : ORep T R f v X) (hle : RH.le R R1) (hb : ∀ k o, f k = some o → R1.blk k = some o) : VRep (tSlice T) R1 v X := by
  rcases h with ⟨rfl, rfl, rfl⟩ | ⟨b, pre, cs, cap, bt, rfl, rfl, hc, hcl, hcc, hel⟩
  · exact vrep_nil
  · refine vrep_slice.2 ⟨_, cap, rfl, hc, fun e => by (cases e), .inr ⟨b, pre.length, (pre ++ cs).toArray, bt, (0, 0), rfl, hb _ _ (single_same _ _), fun i x hx => ?_⟩⟩
    rw [cellsAt_pre]
    exact T.mono hle (by simpa [cellsAt] using hel i x hx)
theorem orep_tight {X : List α} (h : ORep T R f v X) (hle : RH.le R R1) (hb : ∀ k o, f k = some o → R1.blk k = some o) (ht : t = true → capOf v = X.length) : VRep (tSl t T) R1 v X := by
  have := orep_read h hle hb
  cases t
  · exact sl_f this
  · exact sl_t this (ht rfl)
theorem n2_read {X : List (List α)} (h : N2 t T R F v Vs X) (hle : RH.le R R1) (hb : ∀ k o, F k = some o → R1.blk k = some o) : VRep (tSlice (tSl t T)) R1 v X := by
  obtain ⟨f0, Fs, hl, h0, hF0, ⟨hr1, hr2, hr3⟩, hap, ht⟩ := h
  have hrow : ∀ j, j < X.length → VRep (tSl t T) R1 (Vs.getD j default) (X.getD j default) := fun j hj =>
    orep_tight (hr2 j hj (fun h => h)).1 hle (fun k o hk => hb k o ((hr2 j hj (fun h => h)).2 k o hk)) (fun e => ht e j hj (fun h => h))
  rcases h0 with ⟨rfl, rfl, rfl⟩ | ⟨b, pre, cs, cap, bt, rfl, rfl, hc, hcl, hcc, hel⟩
  · obtain rfl : X = [] := List.eq_nil_of_length_eq_zero (by simpa using hl.symm)
    exact vrep_nil
  · rw [hl] at hc ⊢
    refine vrep_slice.2 ⟨_, cap, rfl, hc, fun e => by (cases e), .inr ⟨b, pre.length, (pre ++ cs).toArray, bt, (0, 0), rfl, hb _ _ (hF0 _ _ (single_same _ _)), fun i x hx => ?_⟩⟩
    rw [cellsAt_pre]
    have hi : i < X.length := (List.getElem?_eq_some_iff.1 hx).1
    have hv : Vs[i]? = some (Vs.getD i default) := getD_some (by omega)
    obtain ⟨hcc', ho⟩ := hel i _ hv
    have hxe : X.getD i default = x := by simp [List.getD_eq_getElem?_getD, hx]
    have h2 := rep_one rfl (hrow i hi)
    rw [hxe] at h2
    show (tSl t T).rep R1 ((cs.drop (i * 1)).take 1) x
    rw [show (cs.drop (i * 1)).take 1 = [Vs.getD i default] from hcc']
    exact h2
theorem add_blk {O : List Frag} {w : World} (hh : Holds R (F :: O) w) : ∀ k o, F k = some o → (R.add F).blk k = some o := fun k o hk => by
  have := (hh.own F (List.mem_cons_self ..) k o hk).2
  simp [RH.add, this, hk]
end read
section frz
variable {P : Program} {ρ : Option Nat} {n : Nat} {Q : Po} {l : Nat → Value} {D : List Nat} {R : RH} {O : List Frag} {ops : Array Oper} {os : List Oper} {c : Code} {α : Type} {t : Bool} {T : Ty α} {i : Nat} {F : Frag} {v : Value} {X : List (List α)}
theorem wg_freezeN (hi : O[i]? = some F) (h : NRep t T R F v X) (k : ∀ R', RH.le R R' → VRep (tSlice (tSl t T)) R' v X → wg P ρ n c Q l D R' (O.eraseIdx i)) : wg P ρ n c Q l D R O := fun a w hf hh =>
  let ⟨Vs, h⟩ := h
  k (R.add F) (RH.le_add _ _) (n2_read h (RH.le_add _ _) (add_blk (holds_focus hi hh))) a w hf (conv_freeze hi _ w hh)
end frz
section appT
variable {P : Program} {ρ : Option Nat} {l : Nat → Value} {R : RH} {O : List Frag} {dst : Option Tmp} {ty : TypeId} {pos : String} {after : Array Go.Edge} {g : Option (Nat × Bool)} {α : Type} {T : Ty α}
theorem eff_appF {z : α} {bytes : Nat} {t e : TypeId} {x y : Operand} {f : Frag} {v u : Value} {X Y : List α}
    (hu : P.underlying t = some (.slice e)) (hz : ZeroOk P e T z bytes) (hx : ev l x = v) (hy : ev l y = u) (hv : ORep T R f v X) (hu' : VRep (tSlice T) R u Y)
    (hb : (X.length + Y.length) * bytes ≤ 140737488355328) (hm : X.length + Y.length ≤ 9223372036854775807) :
    Eff P ρ ⟨dst, .call ⟨.builtin .append, #[x, y], #[t, t]⟩, ty, pos, after, g⟩ l R ([f] ++ O) (fun v' R' O' => ∃ Oc, O' = Oc ++ O ∧ Oc = [] ∧ phR (tSl false T) (X ++ Y) v' R') := by
  intro A w hh
  refine out_mono (eff_append (i := 0) hu hz hx hy rfl hv hu' hb hm A w hh) ?_
  rintro v' w' ⟨R', O', hle, hh', rfl, f', rfl, ho⟩
  exact ⟨R'.add f', O, hle.trans (RH.le_add _ _), holds_freeze hh', [], rfl, rfl, sl_f (vrep_freeze ho hh')⟩
end appT

section sliceO
variable {P : Program} {ρ : Option Nat} {l : Nat → Value} {R : RH} {O : List Frag} {α : Type} {T : Ty α}
theorem val_sliceO {t e : TypeId} {lo hi mx : Nat} {x : Operand} {xlo xhi xmx : Option Operand} {f : Frag} {v : Value} {X : List α} (ht : SlOk P t e T) (hx : ev l x = v) (hr : ORep T R f v X)
    (hlo : xlo.map (ev l) = none ∧ lo = 0 ∨ ∃ k, xlo.map (ev l) = some (.int k lo)) (hhi : xhi.map (ev l) = none ∧ hi = X.length ∧ xmx = none ∨ ∃ k, xhi.map (ev l) = some (.int k hi))
    (hmx : xmx.map (ev l) = none ∧ mx = capOf v ∨ ∃ k, xmx.map (ev l) = some (.int k mx)) (h1 : lo ≤ hi) (h2 : hi ≤ X.length) (h3 : hi ≤ mx) (h4 : mx ≤ capOf v) :
    ∃ u, ORep T R f u ((X.drop lo).take (hi - lo)) ∧ capOf u = mx - lo ∧ ∀ (dst : Option Tmp) (ty : TypeId) (pos : String) (after : Array Go.Edge) (g : Option (Nat × Bool)), Val P ρ ⟨dst, .slice t x xlo xhi xmx, ty, pos, after, g⟩ l R O u := by
  obtain ⟨p, hv, hc⟩ := orep_slice hr
  refine ⟨.slice (if mx = lo then p else p.map (·.add (lo * T.size))) (hi - lo) (mx - lo), ?_, rfl, fun dst ty pos after g A w hh => ?_⟩
  · have hlen : ((X.drop lo).take (hi - lo)).length = hi - lo := by simp; omega
    rcases hr with ⟨rfl, rfl, rfl⟩ | ⟨b, pre, cs, cap, bt, rfl, rfl, hcc, hcl, hce, hel⟩
    · have : mx = 0 := by simpa [capOf] using h4
      have : lo = 0 := by omega
      have : hi = 0 := by omega
      subst_vars
      simp only [Value.slice.injEq] at hv
      obtain ⟨rfl, _⟩ := hv
      exact .inl ⟨rfl, by simp, rfl⟩
    · simp only [Value.slice.injEq, capOf] at hv h4 hc
      obtain ⟨rfl, _⟩ := hv
      right
      by_cases hm : mx = lo
      · refine ⟨b, pre, cs, 0, bt, ?_, rfl, ?_, by simp, hce, fun i x hx => ?_⟩
        · rw [if_pos hm, hlen]; simp only [Value.slice.injEq, true_and]; omega
        · rw [hlen]; omega
        · rw [show hi - lo = 0 by omega, List.take_zero] at hx; simp at hx
      · have hle : lo * T.size ≤ cs.length := Nat.le_trans (Nat.mul_le_mul_right _ (by omega : lo ≤ cap)) hcl
        refine ⟨b, pre ++ cs.take (lo * T.size), cs.drop (lo * T.size), mx - lo, bt, ?_, ?_, by rw [hlen]; omega, ?_, ?_, fun i x hx => ?_⟩
        · rw [if_neg hm, hlen]; simp [addr_add, Nat.min_eq_left hle]
        · rw [List.append_assoc, List.take_append_drop]
        · rw [List.length_drop, Nat.sub_mul]
          have := Nat.mul_le_mul_right T.size h4
          omega
        · rw [List.append_assoc, List.take_append_drop]; exact hce
        · rw [List.getElem?_take] at hx
          split at hx
          · rw [List.getElem?_drop] at hx
            have := hel (lo + i) x hx
            rwa [List.drop_drop, ← Nat.add_mul]
          · cases hx
  · rw [sem_plain (by intro c h; cases h)]
    exact run_sliceOp ht.u ht.e.size (hx.trans hv) hlo hhi hmx h1 h3 h4 (fun _ => by omega)
end sliceO
section sliceQ
variable {P : Program} {ρ : Option Nat} {n : Nat} {Q : Po} {l : Nat → Value} {D : List Nat} {R : RH} {O : List Frag} {ops : Array Oper} {rest : List Oper} {ty : TypeId} {pos : String} {after : Array Go.Edge} {d : Nat} {α : Type} {T : Ty α}
theorem wo_sliceQ {t e : TypeId} {lo hi mx : Nat} {x : Operand} {xlo xhi xmx : Option Operand} {f : Frag} {v : Value} {X : List α} (hd : Nat.blt d n = true) (ht : SlOk P t e T) (hx : ev l x = v) (hr : ORep T R f v X)
    (hlo : xlo.map (ev l) = none ∧ lo = 0 ∨ ∃ k, xlo.map (ev l) = some (.int k lo)) (hhi : xhi.map (ev l) = none ∧ hi = X.length ∧ xmx = none ∨ ∃ k, xhi.map (ev l) = some (.int k hi))
    (hmx : xmx.map (ev l) = none ∧ mx = capOf v ∨ ∃ k, xmx.map (ev l) = some (.int k mx)) (h1 : lo ≤ hi) (h2 : hi ≤ X.length) (h3 : hi ≤ mx) (h4 : mx ≤ capOf v)
    (hk : ∀ u, ORep T R f u ((X.drop lo).take (hi - lo)) → capOf u = mx - lo → wo P ρ n ops Q rest (upd l d u) D R O) : wo P ρ n ops Q (⟨some d, .slice t x xlo xhi xmx, ty, pos, after, none⟩ :: rest) l D R O := by
  obtain ⟨u, hu, hc, hv⟩ := val_sliceO (P := P) (ρ := ρ) (O := O) ht hx hr hlo hhi hmx h1 h2 h3 h4
  exact wo_v hd (hv _ _ _ _ _) (hk u hu hc)
end sliceQ

theorem fill_congr {place : Nat → Option (Nat × Nat)} : ∀ (ps ps' : List (Nat × Value)) (cells : Array Value), ps.map (fun p => (p.1, p.2.cells)) = ps'.map (fun p => (p.1, p.2.cells)) → Instr.fill place cells ps = Instr.fill place cells ps'
  | [], [], _, _ => rfl
  | [], _ :: _, _, h => by simp at h
  | _ :: _, [], _, h => by simp at h
  | (i, v) :: r, (j, u) :: r', cells, h => by
    simp only [List.map_cons, List.cons.injEq, Prod.mk.injEq] at h
    obtain ⟨⟨rfl, h1⟩, h2⟩ := h
    simp only [Instr.fill, h1]
    cases place i with
    | none => rfl
    | some q => simp only []; rw [fill_congr r r' _ h2]
theorem val_buildC {P : Program} {ρ : Option Nat} {l : Nat → Value} {R : RH} {O : List Frag} {dst : Option Tmp} {ty : TypeId} {pos : String} {after : Array Go.Edge} {g : Option (Nat × Bool)} {t : TypeId} {parts : List (Nat × Operand)} {ps : List (Nat × Value)} (ps' : List (Nat × Value)) {v : Value} (hp : (parts.map fun x => (x.1, ev l x.2)) = ps)
    (hc : ps.map (fun p => (p.1, p.2.cells)) = ps'.map (fun p => (p.1, p.2.cells))) (h : ∀ w, (Instr.build t ps'.toArray).run P w = .ok v w) : Val P ρ ⟨dst, .build t parts.toArray, ty, pos, after, g⟩ l R O v :=
  val_buildL hp fun w => by
    have : (Instr.build t ps.toArray) = (Instr.build t ps'.toArray) := by
      simp only [Instr.build, fill_congr (place := _) ps ps' _ hc]
    rw [this]; exact h w

section step
variable {P : Program} {ρ : Option Nat} {n : Nat} {Q : Po} {l : Nat → Value} {D : List Nat} {R : RH} {O : List Frag} {ops : Array Oper} {rest : List Oper} {ty : TypeId} {pos : String} {after : Array Go.Edge} {d : Nat}
theorem wo_phi {op : Op} {φ : Value → RH → Prop} (hd : Nat.blt d n = true) (h : Eff P ρ ⟨some d, op, ty, pos, after, none⟩ l R O (fun v R' O' => O' = O ∧ φ v R')) (hk : ∀ v R', RH.le R R' → φ v R' → wo P ρ n ops Q rest (upd l d v) D R' O) :
    wo P ρ n ops Q (⟨some d, op, ty, pos, after, none⟩ :: rest) l D R O := wo_eff1 hd h fun v R' O' hle ⟨e, hp⟩ => by subst e; exact hk v R' hle hp
theorem wo_turn {op : Op} {Oc Or : List Frag} {φ : Value → RH → List Frag → Prop} (hd : Nat.blt d n = true) (hp : O.Perm (Oc ++ Or)) (h : Eff P ρ ⟨some d, op, ty, pos, after, none⟩ l R (Oc ++ Or) (fun v R' O' => ∃ Oc', O' = Oc' ++ Or ∧ φ v R' Oc'))
    (hk : ∀ v R' Oc', RH.le R R' → φ v R' Oc' → wo P ρ n ops Q rest (upd l d v) D R' (Oc' ++ Or)) : wo P ρ n ops Q (⟨some d, op, ty, pos, after, none⟩ :: rest) l D R O :=
  wo_eff1 hd (eff_perm hp h) fun v R' O' hle ⟨Oc', e, hp⟩ => by subst e; exact hk v R' Oc' hle hp
theorem wo_turn0 {op : Op} {Oc Or : List Frag} {φ : Value → RH → List Frag → Prop} (hp : O.Perm (Oc ++ Or)) (h : Eff P ρ ⟨none, op, ty, pos, after, none⟩ l R (Oc ++ Or) (fun v R' O' => ∃ Oc', O' = Oc' ++ Or ∧ φ v R' Oc'))
    (hk : ∀ v R' Oc', RH.le R R' → φ v R' Oc' → wo P ρ n ops Q rest l D R' (Oc' ++ Or)) : wo P ρ n ops Q (⟨none, op, ty, pos, after, none⟩ :: rest) l D R O :=
  wo_eff0 (eff_perm hp h) fun v R' O' hle ⟨Oc', e, hp⟩ => by subst e; exact hk v R' Oc' hle hp
end step
end GV
end Go.Proofs.Ytncblcdhmcmkmaa

namespace Go.Proofs.Ytncblcdhmcmkmaa
namespace GV
set_option linter.unusedVariables false

theorem over_part {cs vs : List Value} {a o s : Nat} (h1 : o + vs.length ≤ s) (h2 : a + s ≤ cs.length) : over cs (a + o) vs = over cs a (over ((cs.drop a).take s) o vs) := by
  unfold over
  have hl : ((List.drop a cs).take s).length = s := by rw [List.length_take, List.length_drop]; omega
  have e1 : cs.take (a + o) = cs.take a ++ ((cs.drop a).take s).take o := by
    rw [List.take_take, Nat.min_eq_left (by omega), List.take_add]
  have e2 : a + ((((cs.drop a).take s).take o ++ vs) ++ ((cs.drop a).take s).drop (o + vs.length)).length = a + s := by
    simp only [List.length_append, List.length_take, List.length_drop]; omega
  rw [e2, e1]
  have e3 : cs.drop (a + o + vs.length) = ((cs.drop a).take s).drop (o + vs.length) ++ cs.drop (a + s) := by
    rw [List.drop_take, List.drop_drop, show a + (o + vs.length) = a + o + vs.length by omega]
    have := (List.take_append_drop (s - (o + vs.length)) (cs.drop (a + o + vs.length))).symm
    rw [List.drop_drop, show a + o + vs.length + (s - (o + vs.length)) = a + s by omega] at this
    exact this
  rw [e3]
  simp only [List.append_assoc]

def PartSet {α β : Type} (A : Ty α) (o : Nat) (B : Ty β) (s : α → β → α) : Prop :=
  o + B.size ≤ A.size ∧ ∀ R cs ds x y, A.rep R cs x → B.rep R ds y → A.rep R (over cs o ds) (s x y)
theorem ps_fst {α β : Type} {A : Ty α} {B : Ty β} : PartSet (tPair A B) 0 A (fun x y => (y, x.2)) := ⟨by simp [tPair], by
  rintro R cs ds x y ⟨ca, cb, rfl, ha, hb⟩ hd
  refine ⟨ds, cb, ?_, hd, hb⟩
  unfold over
  rw [List.take_zero, List.nil_append, Nat.zero_add, A.len hd, ← A.len ha, List.drop_left]⟩
theorem ps_as {α β γ : Type} {T : Ty α} {f : β → α} {C : Ty γ} {o : Nat} {s : α → γ → α} {g : β → γ → β} (h : PartSet T o C s) (e : ∀ x y, f (g x y) = s (f x) y) : PartSet (T.as f) o C g :=
  ⟨h.1, fun R cs ds x y a b => by show T.rep R _ (f (g x y)); rw [e]; exact h.2 R cs ds (f x) y a b⟩

def OPtrF {α : Type} (T : Ty α) (o : Nat) (v : Value) (X : List α) (u : Value) (i : Nat) : Prop := ∃ b off, v = .slice (some ⟨b, off, none⟩) X.length (capOf v) ∧ u = .pointer (some ⟨b, off + i * T.size + o, none⟩)
section p
variable {P : Program} {ρ : Option Nat} {n : Nat} {ops : Array Oper} {Q : Po} {rest : List Oper} {l : Nat → Value} {D : List Nat} {R : RH} {O : List Frag} {ty : TypeId} {pos : String} {after : Array Go.Edge} {d : Nat} {dst : Option Tmp} {g : Option (Nat × Bool)}
variable {α β : Type} {T : Ty α} {B : Ty β} {X : List α} {v u w : Value} {x y : Operand} {f F : Frag} {i j o fld : Nat} {t s : TypeId} {pr : α → β} {se : α → β → α}
theorem val_fieldO (hf : FieldOk P s fld o) (hx : ev l x = u) (hp : OPtr T v X u i) : ∃ u', OPtrF T o v X u' i ∧ ∀ (dst : Option Tmp) (ty : TypeId) (pos : String) (after : Array Go.Edge) (g : Option (Nat × Bool)), Val P ρ ⟨dst, .fieldAddr s x fld, ty, pos, after, g⟩ l R O u' := by
  obtain ⟨b, off, h1, rfl⟩ := hp
  exact ⟨_, ⟨b, off, h1, rfl⟩, fun dst ty pos after g => val_fieldB hf hx⟩
theorem ph_fieldO (hf : FieldOk P s fld o) (hx : ev l x = u) (hp : OPtr T v X u i) : Eff P ρ ⟨dst, .fieldAddr s x fld, ty, pos, after, g⟩ l R O (fun v' R' O' => O' = O ∧ OPtrF T o v X v' i) := by
  obtain ⟨u', h, hv⟩ := val_fieldO (ρ := ρ) (P := P) (R := R) (O := O) hf hx hp
  exact (hv dst ty pos after g).eff.mono fun v' R' O' _ ⟨a, b, c⟩ => by subst a; exact ⟨c, h⟩
theorem val_loadHF (ht : TyOk P t B) (hpart : Part T o B pr) (hv : ORep T R f v X) (hF : Has F f) (hO : O[j]? = some F) (hx : ev l x = u) (hp : OPtrF T o v X u i) {z : α} (hy : X[i]? = some z) :
    ∃ u, VRep B R u (pr z) ∧ ∀ (dst : Option Tmp) (ty : TypeId) (pos : String) (after : Array Go.Edge) (g : Option (Nat × Bool)), Val P ρ ⟨dst, .load t x, ty, pos, after, g⟩ l R O u := by
  obtain ⟨b, off, hb, rfl⟩ := hp
  rcases hv with ⟨rfl, rfl, _⟩ | ⟨b', pre, cs, cap, bt, rfl, rfl, hc, hcl, hcc, hel⟩
  · simp at hy
  · simp only [capOf, Value.slice.injEq, Option.some.injEq, Addr.mk.injEq, and_true] at hb
    obtain ⟨rfl, rfl⟩ := hb
    have hr : T.rep R (cellsAt (pre ++ cs).toArray (pre.length + i * T.size) T.size) z := by rw [cellsAt_pre]; simpa [cellsAt] using hel i z hy
    have hr2 := hpart.2 R _ _ hr
    rw [cellsAt_part hpart.1] at hr2
    refine ⟨B.mk' (cellsAt (pre ++ cs).toArray (pre.length + i * T.size + o) B.size), ⟨_, hr2, rfl⟩, fun dst ty pos after g A w hh => ?_⟩
    rw [sem_plain (by intro c h; cases h)]
    have hblk : w.heap[b']? = some (.cells (pre ++ cs).toArray bt (0, 0)) := holds_at hh (i := j) (by rw [List.getElem?_append_left (by exact (List.getElem?_eq_some_iff.1 hO).1)]; exact hO) (hF _ _ (single_same _ _))
    simp only [execOp, hx, Instr.loadAt, Instr.sureAddr, Sem.run_bind, Sem.run_pure, Result.andThen_ok, run_loadVar ht hblk (R := R) (x := pr z) hr2]
theorem free_storeOF [Inhabited α] (hs : PartSet T o B se) (ht : TyOk P t B) (hv : ORep T R f v X) (hO : O[j]? = some f) (hx : ev l x = u) (hp : OPtrF T o v X u i) (hi : i < X.length) (hy : ev l y = w) {z : β} (hz : VRep B R w z) :
    Eff P ρ ⟨dst, .store t x y, ty, pos, after, g⟩ l R O (fun _ R' O' => R' = R ∧ ∃ f', O' = O.set j f' ∧ ORep T R f' v (X.set i (se (X.getD i default) z))) := by
  obtain ⟨b, off, hb, rfl⟩ := hp
  rcases hv with ⟨rfl, rfl, _⟩ | ⟨b', pre, cs, cap, bt, rfl, rfl, hc, hcl, hcc, hel⟩
  · simp at hi
  · simp only [capOf, Value.slice.injEq, Option.some.injEq, Addr.mk.injEq, and_true] at hb
    obtain ⟨rfl, rfl⟩ := hb
    obtain ⟨vs, hvs, rfl⟩ := hz
    have hlen := B.len hvs
    have hroom : i * T.size + T.size ≤ cs.length := by
      have : (i + 1) * T.size ≤ cap * T.size := Nat.mul_le_mul_right _ (by omega)
      rw [Nat.add_mul, Nat.one_mul] at this
      omega
    have hs1 := hs.1
    refine (eff_store (dst := dst) (ty := ty) (pos := pos) (after := after) (g := g) ht.size hx hy (cells_mk hvs) hlen hO (by rw [List.length_append]; omega) (B.cell hvs)).mono ?_
    rintro v' R' O' _ ⟨rfl, rfl, rfl⟩
    have hold := hel i (X.getD i default) (getD_some hi)
    have hnew := hs.2 R' _ _ _ _ hold hvs
    have hnl := T.len hnew
    have hov : over (pre ++ cs) (pre.length + i * T.size + o) vs = pre ++ over cs (i * T.size) (over ((cs.drop (i * T.size)).take T.size) o vs) := by
      rw [Nat.add_assoc, over_pre, over_part (by omega) hroom]
    refine ⟨rfl, _, rfl, .inr ⟨b', pre, over cs (i * T.size) (over ((cs.drop (i * T.size)).take T.size) o vs), cap, bt, by rw [List.length_set], by rw [hov], by rw [List.length_set]; exact hc, ?_, ?_, fun k x hk => ?_⟩⟩
    · have e : ∀ (a : List Value), a.length = T.size → (over cs (i * T.size) a).length = cs.length := fun a ha => by
        simp only [over, List.length_append, List.length_take, List.length_drop]; omega
      rw [e _ hnl]; exact hcl
    · intro q hq
      rcases List.mem_append.1 hq with hq | hq
      · exact hcc q (List.mem_append.2 (.inl hq))
      · generalize over ((cs.drop (i * T.size)).take T.size) o vs = nw at hq hnew
        simp only [over, List.mem_append] at hq
        rcases hq with (hq | hq) | hq
        · exact hcc q (List.mem_append.2 (.inr (List.mem_of_mem_take hq)))
        · exact T.cell hnew q hq
        · exact hcc q (List.mem_append.2 (.inr (List.mem_of_mem_drop hq)))
    · generalize over ((cs.drop (i * T.size)).take T.size) o vs = nw at hnew hnl
      rw [List.getElem?_set] at hk
      by_cases hik : i = k
      · subst hik
        rw [if_pos rfl, if_pos hi] at hk
        cases hk
        have : ((over cs (i * T.size) nw).drop (i * T.size)).take T.size = nw := by
          unfold over
          rw [List.append_assoc, List.drop_append, List.drop_eq_nil_of_le (by rw [List.length_take]; exact Nat.min_le_left _ _), List.length_take, Nat.min_eq_left (by omega), Nat.sub_self, List.drop_zero, List.nil_append, ← hnl, List.take_left]
        rw [this]; exact hnew
      · rw [if_neg hik] at hk
        have h1 := hel k x hk
        have : ((over cs (i * T.size) nw).drop (k * T.size)).take T.size = (cs.drop (k * T.size)).take T.size := by
          apply List.ext_getElem?
          intro j
          rw [List.getElem?_take, List.getElem?_take]
          split
          · rename_i hj
            rw [List.getElem?_drop, List.getElem?_drop]
            unfold over
            have hne : k * T.size + j < i * T.size ∨ i * T.size + T.size ≤ k * T.size + j := by
              rcases Nat.lt_or_ge k i with hlt | hge
              · left
                have : (k + 1) * T.size ≤ i * T.size := Nat.mul_le_mul_right _ hlt
                rw [Nat.add_mul, Nat.one_mul] at this; omega
              · right
                have : (i + 1) * T.size ≤ k * T.size := Nat.mul_le_mul_right _ (by omega)
                rw [Nat.add_mul, Nat.one_mul] at this; omega
            rw [List.append_assoc, List.getElem?_append, List.length_take, Nat.min_eq_left (by omega)]
            rcases hne with hlt | hge
            · rw [if_pos hlt, List.getElem?_take, if_pos hlt]
            · rw [if_neg (by omega), List.getElem?_append, hnl, if_neg (by omega), List.getElem?_drop]
              congr 1
              omega
          · rfl
        rw [this]; exact h1
end p
section q
variable {P : Program} {ρ : Option Nat} {l : Nat → Value} {R : RH} {O : List Frag} {ty : TypeId} {pos : String} {after : Array Go.Edge} {dst : Option Tmp} {g : Option (Nat × Bool)}
variable {α β : Type} [Inhabited α] {b : Bool} {T : Ty α} {B : Ty β} {Vs : List Value} {X : List (List α)} {v u w : Value} {x y : Operand} {F : Frag} {i j o r : Nat} {t : TypeId} {pr : α → β} {se : α → β → α}
theorem ph_loadNRF (ht : TyOk P t B) (hpart : Part T o B pr) (h : N2 b T R F v Vs X) (hr : r < X.length) (hO : O[j]? = some F) (hx : ev l x = u) (hp : OPtrF T o (Vs.getD r default) (X.getD r default) u i) (hy : i < (X.getD r default).length) :
    Eff P ρ ⟨dst, .load t x, ty, pos, after, g⟩ l R O (fun v' R' O' => O' = O ∧ phR B (pr ((X.getD r default).getD i default)) v' R') := by
  obtain ⟨f0, h0, hF⟩ := h.row hr
  obtain ⟨w, hw, hv⟩ := val_loadHF (ρ := ρ) (P := P) ht hpart h0 hF hO hx hp (getD_some hy)
  exact (hv dst ty pos after g).eff.mono fun v' R' O' _ ⟨a, b, c⟩ => by subst a; subst b; exact ⟨c, hw⟩
theorem eff_storeNF (hs : PartSet T o B se) (ht : TyOk P t B) (h : N2 b T R F v Vs X) (hr : r < X.length) (hx : ev l x = u) (hp : OPtrF T o (Vs.getD r default) (X.getD r default) u i) (hi : i < (X.getD r default).length)
    (hy : ev l y = w) {z : β} (hz : VRep B R w z) : Eff P ρ ⟨dst, .store t x y, ty, pos, after, g⟩ l R ([F] ++ O) (fun v' R' O' => ∃ Oc, O' = Oc ++ O ∧ R' = R ∧ ∃ F', Oc = [F'] ∧ N2 b T R F' v Vs (X.set r ((X.getD r default).set i (se ((X.getD r default).getD i default) z)))) := by
  obtain ⟨fk, h1, hF, hh⟩ := h.hole hr
  refine eff_conv (O1 := [fk]) (Or := minus F fk :: O) (fun A w hw => holds_split hw hF) (free_storeOF (j := 0) hs ht h1 rfl hx hp hi hy hz) ?_
  rintro v' R' O1' hle ⟨rfl, f', rfl, ho⟩ A w hw
  refine ⟨joinF f' (minus F fk) :: O, holds_join hw, _, rfl, rfl, _, rfl, N2h.fill (u := default) hh hr ho (apart_of hw) fun e => ?_⟩
  rw [List.length_set]; exact n2_rt h hr e
end q
end GV
end Go.Proofs.Ytncblcdhmcmkmaa

namespace Go.Proofs.Ytncblcdhmcmkmaa
namespace GV
set_option linter.unusedVariables false

/-! ### A map's entries as a list of pairs, in the order in which the keys came -/
def mget {κ β : Type} [DecidableEq κ] (z : β) : List (κ × β) → κ → β
  | [], _ => z
  | p :: l, k => if k = p.1 then p.2 else mget z l k
def mhas {κ β : Type} [DecidableEq κ] : List (κ × β) → κ → Bool
  | [], _ => false
  | p :: l, k => if k = p.1 then true else mhas l k
def mput {κ β : Type} [DecidableEq κ] : List (κ × β) → κ → β → List (κ × β)
  | [], k, v => [(k, v)]
  | p :: l, k, v => if k = p.1 then (k, v) :: l else p :: mput l k v
def mfind {κ β : Type} [DecidableEq κ] : List (κ × β) → κ → Nat → Option (Nat × β)
  | [], _, _ => none
  | p :: l, k, i => if k = p.1 then some (i, p.2) else mfind l k (i + 1)

def encMe (e : MapEntry) : Value × Value := (e.key, e.val)
def MSame {κ β : Type} (ke : κ → Value) (ve : β → Value) (es : Array MapEntry) (M : List (κ × β)) : Prop := es.toList.map encMe = M.map fun p => (ke p.1, ve p.2)

/-- A kind of key: the model finds it among the entries. -/
structure KOk (P : Program) (kt : TypeId) {κ : Type} [DecidableEq κ] (ke : κ → Value) : Prop where
  check : ∀ (b : Bool) (k : κ) (w : World), (Instr.checkKey b 10000 kt (ke k)).run P w = .ok () w
  find : ∀ {β : Type} (k : κ) (es : List MapEntry) (M : List (κ × β)) (ve : β → Value) (w : World), es.map encMe = M.map (fun p => (ke p.1, ve p.2)) →
    (Instr.findKey kt (ke k) es).run P w = .ok ((mfind M k 0).map fun p => (p.1, ve p.2)) w
  same : ∀ k : κ, Instr.sameBits 10000 (ke k) (ke k) = true

theorem findNow_int {β : Type} {q q' : IntKind} {k : Int} {ve : β → Value} : ∀ (es : List MapEntry) (M : List (Int × β)) (i : Nat), es.map encMe = M.map (fun p => (Value.int q p.1, ve p.2)) →
    Instr.findNow (.int q') (.int q k) es i = some ((mfind M k i).map fun p => (p.1, ve p.2))
  | [], [], i, _ => rfl
  | [], _ :: _, _, h => by simp at h
  | _ :: _, [], _, h => by simp at h
  | e :: es, p :: M, i, h => by
    simp only [List.map_cons, List.cons.injEq, encMe, Prod.mk.injEq] at h
    obtain ⟨⟨h1, h2⟩, h3⟩ := h
    unfold Instr.findNow
    rw [h1]
    simp only [Instr.sameNow, if_pos]
    unfold mfind
    by_cases hk : k = p.1
    · simp [hk, h2]
    · have : (k == p.1) = false := by simpa using hk
      rw [this]
      simp only [if_neg hk]
      exact findNow_int es M (i + 1) h3
theorem kok_int {P : Program} {kt : TypeId} {q : IntKind} (hu : P.underlying kt = some (.int q)) : KOk P kt (Value.int q) where
  check b k w := MapKept.run_checkKey hu (by simp [MapKept.IsKey]) b 9999
  find k es M ve w h := MapKept.run_findKey hu (findNow_int es M 0 h)
  same k := by simp [Instr.sameBits]

section m
variable {κ β : Type} [DecidableEq κ] {ke : κ → Value} {ve : β → Value} {M : List (κ × β)} {k : κ} {z : β}
theorem mfind_get (i : Nat) : ((mfind M k i).map (·.2)).getD z = mget z M k := by
  induction M generalizing i with
  | nil => rfl
  | cons p l ih =>
    unfold mfind mget
    by_cases h : k = p.1
    · simp [h]
    · simp only [if_neg h]; exact ih (i + 1)
theorem mfind_has (i : Nat) : (mfind M k i).isSome = mhas M k := by
  induction M generalizing i with
  | nil => rfl
  | cons p l ih =>
    unfold mfind mhas
    by_cases h : k = p.1
    · simp [h]
    · simp only [if_neg h]; exact ih (i + 1)
theorem mfind_none {i : Nat} {v : β} (h : mfind M k i = none) : mput M k v = M ++ [(k, v)] := by
  induction M generalizing i with
  | nil => rfl
  | cons p l ih =>
    unfold mfind at h
    by_cases hk : k = p.1
    · simp [hk] at h
    · rw [if_neg hk] at h
      simp only [mput, if_neg hk, ih h, List.cons_append]
theorem mfind_some {i j : Nat} {u v : β} (h : mfind M k i = some (j, u)) : i ≤ j ∧ M[j - i]? = some (k, u) ∧ mput M k v = M.set (j - i) (k, v) := by
  induction M generalizing i with
  | nil => cases h
  | cons p l ih =>
    unfold mfind at h
    by_cases hk : k = p.1
    · rw [if_pos hk] at h
      simp only [Option.some.injEq, Prod.mk.injEq] at h
      obtain ⟨rfl, rfl⟩ := h
      refine ⟨Nat.le_refl _, ?_, ?_⟩
      · simp [hk]
      · simp [mput, hk]
    · rw [if_neg hk] at h
      obtain ⟨h1, h2, h3⟩ := ih h
      have e : j - i = (j - (i + 1)) + 1 := by omega
      refine ⟨by omega, ?_, ?_⟩
      · rw [e, List.getElem?_cons_succ]; exact h2
      · rw [e, List.set_cons_succ, ← h3]; simp [mput, hk]
end m

/-- A map that is only read. -/
def tMap {κ β : Type} (ke : κ → Value) (ve : β → Value) : Ty (List (κ × β)) where
  size := 1
  agg := false
  rep R cs M := ∃ b es c, cs = [.map (some b)] ∧ R.blk b = some (.map es c) ∧ MSame ke ve es M
  len := by rintro R cs X ⟨b, es, c, rfl, _⟩; rfl
  mono := by rintro R R' cs X hle ⟨b, es, c, rfl, h1, h2⟩; exact ⟨b, es, c, rfl, hle.blk _ _ h1, h2⟩
  one _ := rfl
  cell := by rintro R cs X ⟨b, es, c, rfl, _⟩ v hv; simp at hv; subst hv; rfl
theorem vrep_map {κ β : Type} {ke : κ → Value} {ve : β → Value} {R : RH} {v : Value} {M : List (κ × β)} : VRep (tMap ke ve) R v M ↔ ∃ b es c, v = .map (some b) ∧ R.blk b = some (.map es c) ∧ MSame ke ve es M :=
  ⟨fun ⟨_, ⟨b, es, c, h, a⟩, e⟩ => by subst h; exact ⟨b, es, c, e, a⟩, fun ⟨b, es, c, h, a⟩ => ⟨_, ⟨b, es, c, rfl, a⟩, h⟩⟩
/-- A map that is owned. -/
def MRep {κ β : Type} (ke : κ → Value) (ve : β → Value) (R : RH) (f : Frag) (v : Value) (M : List (κ × β)) : Prop :=
  ∃ b es c, v = .map (some b) ∧ f = single b (.map es c) ∧ MSame ke ve es M
theorem MRep.mono {κ β : Type} {ke : κ → Value} {ve : β → Value} {R R' : RH} {f : Frag} {v : Value} {M : List (κ × β)} (h : MRep ke ve R f v M) (hle : RH.le R R') : MRep ke ve R' f v M := h

section e
variable {P : Program} {ρ : Option Nat} {n : Nat} {ops : Array Oper} {Q : Po} {rest : List Oper} {l : Nat → Value} {D : List Nat} {R : RH} {O : List Frag} {ty : TypeId} {pos : String} {after : Array Go.Edge} {d : Nat} {dst : Option Tmp} {g : Option (Nat × Bool)}
variable {κ β : Type} {ke : κ → Value} {ve : β → Value} {M : List (κ × β)} {k : κ} {z : β} {t kt et : TypeId} {x y s : Operand} {v : Value} {f : Frag}
theorem orep_mone (h : MRep ke ve R f v M) : v.oneCell' = true := by
  obtain ⟨b, es, c, rfl, _⟩ := h; rfl
theorem orep_mcells (h : MRep ke ve R f v M) : v.cells = [v].toArray := by
  obtain ⟨b, es, c, rfl, _⟩ := h; rfl
theorem eff_makeMap : Eff P ρ ⟨dst, .makeMap t none, ty, pos, after, g⟩ l R O (fun v R' O' => R' = R ∧ ∃ f, O' = f :: O ∧ MRep ke ve R f v ([] : List (κ × β))) := by
  intro A w hh; rw [sem_plain (by intro c h; cases h)]
  simp only [execOp, Option.map, Instr.makeMap, Sem.run_bind, run_newObj, Sem.run_pure, Result.andThen_ok]
  exact ⟨R, _, RH.le.refl _, holds_alloc' hh _, rfl, _, rfl, _, #[], 0, rfl, rfl, rfl⟩
theorem wo_makeMap (hd : Nat.blt d n = true) (hk : ∀ v f, MRep ke ve R f v ([] : List (κ × β)) → wo P ρ n ops Q rest (upd l d v) D R (f :: O)) : wo P ρ n ops Q (⟨some d, .makeMap t none, ty, pos, after, none⟩ :: rest) l D R O :=
  wo_eff1 hd (eff_makeMap (ke := ke) (ve := ve)) fun v R' O' _ ⟨hR, f, hO, h⟩ => by subst hR; subst hO; exact hk v f h
variable [DecidableEq κ]
theorem run_mapUpdate {b : Nat} {es : Array MapEntry} {c : Nat} {w : World} {u : β} (hu : P.underlying t = some (.map kt et)) (hK : KOk P kt ke) (hb : w.heap[b]? = some (.map es c)) (hs : MSame ke ve es M) :
    ∃ es' c', (Instr.mapUpdate t (.map (some b)) (ke k) (ve u)).run P w = .ok () { w with heap := w.heap.setIfInBounds b (.map es' c') } ∧ MSame ke ve es' (mput M k u) := by
  have hf := hK.find k es.toList M ve w hs
  unfold Instr.mapUpdate
  simp only [Sem.run_bind, run_underlying hu, Result.andThen_ok, MapKept.run_getObj_map hb, hK.check, hf]
  cases hm : mfind M k 0 with
  | none =>
    simp only [Option.map_none, MapKept.run_setObj_map _ hb]
    refine ⟨_, _, rfl, ?_⟩
    unfold MSame at hs ⊢
    rw [Array.toList_push, List.map_append, hs, mfind_none hm, List.map_append]
    rfl
  | some p =>
    obtain ⟨j, u0⟩ := p
    obtain ⟨_, h2, h3⟩ := mfind_some (v := u) hm
    simp only [Option.map_some]
    have hkey : ((es[j]?).map (·.key)).getD (ke k) = ke k := by
      have h4 : (es.toList.map encMe)[j]? = some (ke k, ve u0) := by rw [hs, List.getElem?_map, show M[j]? = some (k, u0) from h2]; rfl
      rw [List.getElem?_map, Array.getElem?_toList] at h4
      cases he : es[j]? with
      | none => rfl
      | some e => rw [he] at h4; simp only [Option.map_some, encMe, Option.some.injEq, Prod.mk.injEq] at h4; simp [h4.1]
    rw [hkey]
    simp only [Instr.keyThatStays, hK.same, if_true, Sem.run_pure, Sem.run_bind, Result.andThen_ok, MapKept.run_setObj_map _ hb]
    refine ⟨_, _, rfl, ?_⟩
    unfold MSame at hs ⊢
    rw [h3, Array.toList_modify]
    apply List.ext_getElem?
    intro i
    have hi : (es.toList.map encMe)[i]? = (M.map fun p => (ke p.1, ve p.2))[i]? := by rw [hs]
    rw [List.getElem?_map, List.getElem?_modify, List.getElem?_map, List.getElem?_set]
    rw [List.getElem?_map, List.getElem?_map] at hi
    by_cases hij : j = i
    · subst hij
      have hj : j < M.length := (List.getElem?_eq_some_iff.1 h2).1
      simp only [Nat.sub_zero, if_true, hj]
      rw [show M[j]? = some (k, u0) from h2] at hi
      cases he : es.toList[j]? with
      | none => rw [he] at hi; simp at hi
      | some e => simp [encMe]
    · simp only [Nat.sub_zero, if_neg hij]
      simpa using hi
theorem eff_mapUpdate {u : β} {w0 q : Value} {i : Nat} (hu : P.underlying t = some (.map kt et)) (hK : KOk P kt ke) (hO : O[i]? = some f) (h : MRep ke ve R f v M) (hx : ev l x = v) (hy : ev l y = ke k) (hz : ev l s = ve u) :
    Eff P ρ ⟨dst, .mapUpdate t x y s, ty, pos, after, g⟩ l R O (fun v' R' O' => v' = undef ∧ R' = R ∧ ∃ f', O' = O.set i f' ∧ MRep ke ve R f' v (mput M k u)) := by
  intro A w hh; rw [sem_plain (by intro c h; cases h)]
  obtain ⟨b, es, c, rfl, rfl, hs⟩ := h
  have hlt : i < O.length := (List.getElem?_eq_some_iff.1 hO).1
  have hO' : (O ++ A)[i]? = some (single b (.map es c)) := by rw [List.getElem?_append_left hlt]; exact hO
  have hb : w.heap[b]? = some (.map es c) := holds_at hh hO' (single_same _ _)
  obtain ⟨es', c', h1, h2⟩ := run_mapUpdate (k := k) (u := u) hu hK hb hs
  have hex : (execOp (ev l) (⟨dst, .mapUpdate t x y s, ty, pos, after, g⟩ : Oper)).run P w = .ok .skip { w with heap := w.heap.setIfInBounds b (.map es' c') } := by
    simp only [execOp, hx, hy, hz, Sem.run_bind, h1, Result.andThen_ok]
    rfl
  rw [hex]
  have hbs : b < w.heap.size := (Array.getElem?_eq_some_iff.1 hb).1
  refine ⟨R, _, RH.le.refl _, ?_, rfl, rfl, _, rfl, _, es', c', rfl, rfl, h2⟩
  have := holds_set (w' := { w with heap := w.heap.setIfInBounds b (.map es' c') }) hh hO' (o' := .map es' c') (by simp [hbs]) (fun j hj => by simp [Ne.symm hj]) rfl rfl trivial
  rwa [List.set_append_left _ _ hlt] at this
theorem wo_mapUpdate {u : β} {i : Nat} (hu : P.underlying t = some (.map kt et)) (hK : KOk P kt ke) (hO : O[i]? = some f) (h : MRep ke ve R f v M) (hx : ev l x = v) (hy : ev l y = ke k) (hz : ev l s = ve u)
    (hk : ∀ f', MRep ke ve R f' v (mput M k u) → wo P ρ n ops Q rest l D R (O.set i f')) : wo P ρ n ops Q (⟨none, .mapUpdate t x y s, ty, pos, after, none⟩ :: rest) l D R O :=
  wo_eff0 (eff_mapUpdate (w0 := undef) (q := undef) hu hK hO h hx hy hz) fun v' R' O' _ ⟨_, hR, f', hO', h⟩ => by subst hR; subst hO'; exact hk f' h
theorem eff_mapInsert {u : β} {w0 q : Value} {i : Nat} (hu : P.underlying t = some (.map kt et)) (hK : KOk P kt ke) (hO : O[i]? = some f) (h : MRep ke ve R f v M) (hx : ev l x = v) (hy : ev l y = ke k) (hz : ev l s = ve u) :
    Eff P ρ ⟨dst, .insert t x y s, ty, pos, after, g⟩ l R O (fun v' R' O' => v' = undef ∧ R' = R ∧ ∃ f', O' = O.set i f' ∧ MRep ke ve R f' v (mput M k u)) := by
  intro A w hh; rw [sem_plain (by intro c h; cases h)]
  obtain ⟨b, es, c, rfl, rfl, hs⟩ := h
  have hlt : i < O.length := (List.getElem?_eq_some_iff.1 hO).1
  have hO' : (O ++ A)[i]? = some (single b (.map es c)) := by rw [List.getElem?_append_left hlt]; exact hO
  have hb : w.heap[b]? = some (.map es c) := holds_at hh hO' (single_same _ _)
  obtain ⟨es', c', h1, h2⟩ := run_mapUpdate (k := k) (u := u) hu hK hb hs
  have hex : (execOp (ev l) (⟨dst, .insert t x y s, ty, pos, after, g⟩ : Oper)).run P w = .ok .skip { w with heap := w.heap.setIfInBounds b (.map es' c') } := by
    simp only [execOp, hx, hy, hz, Sem.run_bind, h1, Result.andThen_ok]
    rfl
  rw [hex]
  have hbs : b < w.heap.size := (Array.getElem?_eq_some_iff.1 hb).1
  refine ⟨R, _, RH.le.refl _, ?_, rfl, rfl, _, rfl, _, es', c', rfl, rfl, h2⟩
  have := holds_set (w' := { w with heap := w.heap.setIfInBounds b (.map es' c') }) hh hO' (o' := .map es' c') (by simp [hbs]) (fun j hj => by simp [Ne.symm hj]) rfl rfl trivial
  rwa [List.set_append_left _ _ hlt] at this
theorem wo_mapInsert {u : β} {i : Nat} (hu : P.underlying t = some (.map kt et)) (hK : KOk P kt ke) (hO : O[i]? = some f) (h : MRep ke ve R f v M) (hx : ev l x = v) (hy : ev l y = ke k) (hz : ev l s = ve u)
    (hk : ∀ f', MRep ke ve R f' v (mput M k u) → wo P ρ n ops Q rest l D R (O.set i f')) : wo P ρ n ops Q (⟨none, .insert t x y s, ty, pos, after, none⟩ :: rest) l D R O :=
  wo_eff0 (eff_mapInsert (w0 := undef) (q := undef) hu hK hO h hx hy hz) fun v' R' O' _ ⟨_, hR, f', hO', h⟩ => by subst hR; subst hO'; exact hk f' h
/-- What a look-up reads. -/
def MAt (ke : κ → Value) (ve : β → Value) (R : RH) (O : List Frag) (v : Value) (M : List (κ × β)) : Prop :=
  ∀ A w, Holds R (O ++ A) w → ∃ b es c, v = .map (some b) ∧ w.heap[b]? = some (.map es c) ∧ MSame ke ve es M
omit [DecidableEq κ] in
theorem mat_read (h : VRep (tMap ke ve) R v M) : MAt ke ve R O v M := by
  intro A w hh
  obtain ⟨b, es, c, rfl, hb, hs⟩ := vrep_map.1 h
  exact ⟨b, es, c, rfl, hh.ro _ _ hb, hs⟩
theorem run_lookup {b : Nat} {es : Array MapEntry} {c : Nat} {w : World} (hu : P.underlying t = some (.map kt et)) (hK : KOk P kt ke) (hz : ∀ w, (zeroValue et).run P w = .ok (ve z) w) (hb : w.heap[b]? = some (.map es c)) (hs : MSame ke ve es M) (ok : Bool) :
    (Instr.lookup t (.map (some b)) (ke k) ok).run P w = .ok (if ok then .tuple #[ve (mget z M k), .bool (mhas M k)] else ve (mget z M k)) w := by
  have hf := hK.find k es.toList M ve w hs
  unfold Instr.lookup
  simp only [Sem.run_bind, run_underlying hu, Result.andThen_ok, MapKept.run_getObj_map hb, hK.check, hf, Sem.run_pure]
  rw [← mfind_get 0, ← mfind_has 0]
  cases hm : mfind M k 0 with
  | none => simp [hz]
  | some p => simp
theorem val_lookup (hu : P.underlying t = some (.map kt et)) (hK : KOk P kt ke) (hz : ∀ w, (zeroValue et).run P w = .ok (ve z) w) (h : MAt ke ve R O v M) (hx : ev l x = v) (hy : ev l y = ke k) : Val P ρ ⟨dst, .lookup t x y false, ty, pos, after, g⟩ l R O (ve (mget z M k)) := by
  intro A w hh; rw [sem_plain (by intro c h; cases h)]
  obtain ⟨b, es, c, rfl, hb, hs⟩ := h A w hh
  simp only [execOp, hx, hy, Sem.run_bind, run_lookup (k := k) hu hK hz hb hs, Result.andThen_ok]
  rfl
end e
theorem lent_m {κ β : Type} {ke : κ → Value} {ve : β → Value} {R R1 : RH} {O : List Frag} {f : Frag} {v : Value} {M : List (κ × β)} (i : Nat) (hi : O[i]? = some f) (h : MRep ke ve R f v M) (hle : RH.le R R1) (hl : ∀ f ∈ O, ∀ k o, f k = some o → R1.blk k = some o) : VRep (tMap ke ve) R1 v M := by
  obtain ⟨b, es, c, rfl, rfl, hs⟩ := h
  exact vrep_map.2 ⟨b, es, c, rfl, hl _ (List.mem_of_getElem? hi) b _ (single_same _ _), hs⟩
end GV
end Go.Proofs.Ytncblcdhmcmkmaa
