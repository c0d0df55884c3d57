/- Operations on owned rows; calls that hand on what is owned. -/
import Derived.Test.YtohjnbajgbdhhaaShFree
namespace Go.Proofs.Ytohjnbajgbdhhaa
namespace GV
set_option linter.unusedVariables false
set_option linter.unusedSectionVars false

def NRep {α : Type} (t : Bool) (T : Ty α) (R : RH) (F : Frag) (v : Value) (X : List (List α)) : Prop := ∃ Vs, N2 t T R F v Vs X
theorem NRep.mono {α : Type} {t : Bool} {T : Ty α} {R R' : RH} {F : Frag} {v : Value} {X : List (List α)} (h : NRep t T R F v X) (hle : RH.le R R') : NRep t T R' F v X := let ⟨Vs, a⟩ := h; ⟨Vs, a.mono hle⟩
theorem nrep_of {α : Type} {t : Bool} {T : Ty α} {R : RH} {F : Frag} {v : Value} {Vs : List Value} {X : List (List α)} (h : N2 t T R F v Vs X) : NRep t T R F v X := ⟨Vs, h⟩
theorem ty_hdr {P : Program} {t : TypeId} {α : Type} {T : Ty α} {b : Bool} (h : TyOk P t (tSl b T)) : TyOk P t tHdr := ⟨h.agg, h.size⟩
theorem sl_hdr {P : Program} {t e : TypeId} {α : Type} {T : Ty α} {b : Bool} (h : SlOk P t e (tSl b T)) : SlOk P t e tHdr := ⟨h.u, ty_hdr h.e⟩
theorem vrep_hdr {R : RH} {w y : Value} (h : VRep tHdr R w y) : w = y := by obtain ⟨cs, ⟨rfl, _⟩, rfl⟩ := h; rfl
theorem hdr_vrep {R : RH} {w : Value} (h : w.oneCell' = true) : VRep tHdr R w w := ⟨[w], ⟨rfl, h⟩, rfl⟩
theorem hdr_rep {R : RH} {w : Value} (h : w.oneCell' = true) : tHdr.rep R [w] w := ⟨rfl, h⟩
theorem n2_one {α : Type} {t : Bool} {T : Ty α} {R : RH} {F : Frag} {v : Value} {Vs : List Value} {X : List (List α)} (h : N2 t T R F v Vs X) : v.oneCell' = true := let ⟨_, h0, _⟩ := h.o; orep_one h0
theorem n2_cells {α : Type} {t : Bool} {T : Ty α} {R : RH} {F : Frag} {v : Value} {Vs : List Value} {X : List (List α)} (h : N2 t T R F v Vs X) : v.cells = ([v] : List Value).toArray := let ⟨_, h0, _⟩ := h.o; orep_cells h0
theorem nrep_one {α : Type} {t : Bool} {T : Ty α} {R : RH} {F : Frag} {v : Value} {X : List (List α)} (h : NRep t T R F v X) : v.oneCell' = true := let ⟨_, h⟩ := h; n2_one h
theorem nrep_cells {α : Type} {t : Bool} {T : Ty α} {R : RH} {F : Frag} {v : Value} {X : List (List α)} (h : NRep t T R F v X) : v.cells = ([v] : List Value).toArray := let ⟨_, h⟩ := h; n2_cells h
theorem n2_rt {α : Type} {t : Bool} {T : Ty α} {R : RH} {F : Frag} {v : Value} {Vs : List Value} {X : List (List α)} (h : N2 t T R F v Vs X) {r : Nat} (hr : r < X.length) (e : t = true) : capOf (Vs.getD r default) = (X.getD r default).length :=
  let ⟨_, _, _, _, _, _, _, g⟩ := h; g e r hr (fun h => h)

theorem cells_of_one {v : Value} (h : v.oneCell' = true) : v.cells = ([v] : List Value).toArray := by
  cases v <;> first | rfl | (simp [Value.oneCell'] at h; done)

section ops
variable {P : Program} {ρ : Option Nat} {l : Nat → Value} {R : RH} {O : List Frag} {dst : Option Tmp} {ty : TypeId} {pos : String} {after : Array Go.Edge} {g : Option (Nat × Bool)} {α : Type} {t : Bool} {T : Ty α} {F : Frag} {v : Value} {Vs : List Value} {X : List (List α)}
theorem ph_indexN {tt e : TypeId} {x ix : Operand} {k : IntKind} {i : Nat} (ht : SlOk P tt e tHdr) (hx : ev l x = v) (h : N2 t T R F v Vs X) (hi : ev l ix = .int k i) (hy : i < X.length) :
    Eff P ρ ⟨dst, .indexAddr tt x ix, ty, pos, after, g⟩ l R O (fun v' R' O' => O' = O ∧ (fun u _ => OPtr tHdr v Vs u i) v' R') := by
  obtain ⟨f0, h0, _, hl⟩ := h.o
  exact ph_indexO ht hx h0 hi (by omega)
theorem ph_loadN {tt : TypeId} {x : Operand} {u : Value} {i j : Nat} (ht : TyOk P tt tHdr) (h : N2 t T R F v Vs X) (hO : O[j]? = some F) (hx : ev l x = u) (hp : OPtr tHdr v Vs u i) (hy : i < X.length) :
    Eff P ρ ⟨dst, .load tt x, ty, pos, after, g⟩ l R O (fun v' R' O' => O' = O ∧ phX (Vs.getD i default) v' R') := by
  obtain ⟨f0, h0, hF, hl⟩ := h.o
  obtain ⟨w, hw, hv⟩ := val_loadH (ρ := ρ) (P := P) ht h0 hF hO hx hp (getD_some (by omega))
  exact (hv dst ty pos after g).eff.mono fun v' R' O' _ ⟨a, b, c⟩ => ⟨c, a.trans (vrep_hdr hw)⟩
theorem ph_indexNR {tt e : TypeId} {x ix : Operand} {k : IntKind} {i r : Nat} (ht : SlOk P tt e T) (h : N2 t T R F v Vs X) (hr : r < X.length) (hx : ev l x = Vs.getD r default) (hi : ev l ix = .int k i) (hy : i < (X.getD r default).length) :
    Eff P ρ ⟨dst, .indexAddr tt x ix, ty, pos, after, g⟩ l R O (fun v' R' O' => O' = O ∧ (fun u _ => OPtr T (Vs.getD r default) (X.getD r default) u i) v' R') :=
  let ⟨fk, h1, _⟩ := h.row hr; ph_indexO ht hx h1 hi hy
theorem ph_loadNR [Inhabited α] {tt : TypeId} {x : Operand} {u : Value} {i r j : Nat} (ht : TyOk P tt T) (h : N2 t T R F v Vs X) (hr : r < X.length) (hO : O[j]? = some F) (hx : ev l x = u) (hp : OPtr T (Vs.getD r default) (X.getD r default) u i) (hy : i < (X.getD r default).length) :
    Eff P ρ ⟨dst, .load tt x, ty, pos, after, g⟩ l R O (fun v' R' O' => O' = O ∧ phR T ((X.getD r default).getD i default) v' R') := by
  obtain ⟨f0, h0, hF⟩ := h.row hr
  obtain ⟨w, hw, hv⟩ := val_loadH (ρ := ρ) (P := P) ht h0 hF hO hx hp (getD_some hy)
  exact (hv dst ty pos after g).eff.mono fun v' R' O' _ ⟨a, b, c⟩ => by subst a; subst b; exact ⟨c, hw⟩
theorem val_lenN {tt e : TypeId} {at' : Array TypeId} {x : Operand} (ht : at'[0]? = some tt) (hu : P.underlying tt = some (.slice e)) (hx : ev l x = v) (h : N2 t T R F v Vs X) : Val P ρ ⟨dst, .call ⟨.builtin .len, #[x], at'⟩, ty, pos, after, g⟩ l R O (.int .i64 X.length) := by
  obtain ⟨f0, h0, hF, hl⟩ := h.o
  rw [← hl]; exact val_lenO ht hu hx h0
theorem val_capN {tt e : TypeId} {at' : Array TypeId} {x : Operand} (ht : at'[0]? = some tt) (hu : P.underlying tt = some (.slice e)) (hx : ev l x = v) (h : N2 t T R F v Vs X) (hc : capOf v = X.length) : Val P ρ ⟨dst, .call ⟨.builtin .cap, #[x], at'⟩, ty, pos, after, g⟩ l R O (.int .i64 X.length) := by
  obtain ⟨f0, h0, hF, hl⟩ := h.o
  rw [← hc]; exact val_capO ht hu hx h0
theorem val_lenNR {tt e : TypeId} {at' : Array TypeId} {x : Operand} {r : Nat} (ht : at'[0]? = some tt) (hu : P.underlying tt = some (.slice e)) (h : N2 t T R F v Vs X) (hr : r < X.length) (hx : ev l x = Vs.getD r default) : Val P ρ ⟨dst, .call ⟨.builtin .len, #[x], at'⟩, ty, pos, after, g⟩ l R O (.int .i64 (X.getD r default).length) := by
  obtain ⟨f0, h0, hF⟩ := h.row hr
  exact val_lenO ht hu hx h0
theorem eff_storeN {tt : TypeId} {x y : Operand} {u w : Value} {i r : Nat} {z : α} (ht : TyOk P tt T) (h : N2 t T R F v Vs X) (hr : r < X.length) (hx : ev l x = u) (hp : OPtr T (Vs.getD r default) (X.getD r default) u i) (hi : i < (X.getD r default).length)
    (hy : ev l y = w) (hz : VRep T R w z) : Eff P ρ ⟨dst, .store tt x y, ty, pos, after, g⟩ l R ([F] ++ O) (fun v' R' O' => ∃ Oc, O' = Oc ++ O ∧ R' = R ∧ ∃ F', Oc = [F'] ∧ N2 t T R F' v Vs (X.set r ((X.getD r default).set i z))) := by
  obtain ⟨fk, h1, hF, hh⟩ := h.hole hr
  refine eff_conv (O1 := [fk]) (Or := minus F fk :: O) (fun A w hw => holds_split hw hF) (free_storeO (j := 0) ht h1 rfl hx hp hi hy hz) ?_
  rintro v' R' O1' hle ⟨rfl, f', rfl, ho⟩ A w hw
  refine ⟨joinF f' (minus F fk) :: O, holds_join hw, _, rfl, rfl, _, rfl, N2h.fill (u := default) hh hr ho (apart_of hw) fun e => ?_⟩
  rw [List.length_set]; exact n2_rt h hr e
theorem apart_join {f g h : Frag} (a : Apart f g) (b : Apart f h) : Apart f (joinF g h) := fun k => by
  unfold joinF
  cases e : g k with
  | none => exact b k
  | some o => rcases a k with h1 | h1
              · exact .inl h1
              · rw [e] at h1; cases h1
theorem apart_has {f g h : Frag} (a : Apart f g) (b : Has g h) : Apart f h := b.apart a
/-- Another row, behind another header. -/
theorem n2_put {f0' f G : Frag} {Fs : List Frag} {r : Nat} {w : Value} {Y : List α} (hr : r < X.length) (hl : Vs.length = X.length) (h0 : ORep tHdr R f0' v (Vs.set r w)) (hf : ORep T R f w Y) (hrow : Rows T R G Vs X Fs (fun _ => False)) (a1 : Apart f0' f) (a2 : Apart f0' G) (a3 : Apart f G)
    (htt : RTight t Vs X (fun _ => False)) (hc : t = true → capOf w = Y.length) : N2 t T R (joinF f0' (joinF f G)) v (Vs.set r w) (X.set r Y) := by
  obtain ⟨hr1, hr2, hr3⟩ := hrow
  have n : ∀ j, ¬ (fun (_ : Nat) => False) j := fun _ h => h
  have hj : Apart f0' (joinF f G) := apart_join a1 a2
  have hFk : Has (joinF f0' (joinF f G)) f := (has_join2 hj).trans has_join1
  have hFG : Has (joinF f0' (joinF f G)) G := (has_join2 hj).trans (has_join2 a3)
  have hg := fun j => getD_set_nat (X := Fs) (j := j) (y := f) (d := emp) (k := r) (by omega)
  have hx := fun j => getD_set_nat (X := X) (j := j) (y := Y) (d := default) hr
  have hv := fun j => getD_set_nat (X := Vs) (j := j) (y := w) (d := default) (k := r) (by omega)
  refine ⟨f0', Fs.set r f, by simp [hl], h0, has_join1, ⟨by simp [hr1], fun j hj _ => ?_, fun i j hi hj _ _ hij => ?_⟩, fun j hj => ?_, fun e j hj _ => ?_⟩
  · have hj' : j < X.length := by simpa using hj
    rw [hg, hx, hv]
    by_cases e : j = r
    · subst e; rw [if_pos rfl, if_pos rfl, if_pos rfl]; exact ⟨hf, hFk⟩
    · rw [if_neg e, if_neg e, if_neg e]; exact ⟨(hr2 j hj' (n j)).1, hFG.trans (hr2 j hj' (n j)).2⟩
  · have hi' : i < X.length := by simpa using hi
    have hj' : j < X.length := by simpa using hj
    rw [hg, hg]
    by_cases e1 : i = r
    · rw [if_pos e1, if_neg (fun e => hij (e1.trans e.symm))]
      exact (hr2 j hj' (n j)).2.apart a3
    · by_cases e2 : j = r
      · rw [if_neg e1, if_pos e2]; exact ((hr2 i hi' (n i)).2.apart a3).symm
      · rw [if_neg e1, if_neg e2]; exact hr3 i j hi' hj' (n i) (n j) hij
  · have hj' : j < X.length := by simpa using hj
    rw [hg]
    by_cases e : j = r
    · rw [if_pos e]; exact a1
    · rw [if_neg e]; exact (hr2 j hj' (n j)).2.apart a2
  · have hj' : j < X.length := by simpa using hj
    rw [hx, hv]
    by_cases e' : j = r
    · rw [if_pos e', if_pos e']; exact hc e
    · rw [if_neg e', if_neg e']; exact htt e j hj' (n j)
theorem rows_minus {f0 : Frag} {Fs : List Frag} (hrow : Rows T R F Vs X Fs (fun _ => False)) (hap : ∀ j, j < X.length → Apart f0 (Fs.getD j emp)) : Rows T R (minus F f0) Vs X Fs (fun _ => False) :=
  ⟨hrow.1, fun j hj n => ⟨(hrow.2.1 j hj n).1, has_minus (hrow.2.1 j hj n).2 (hap j hj)⟩, hrow.2.2⟩
theorem eff_setN {tt : TypeId} {x y : Operand} {u w : Value} {r : Nat} {f : Frag} {Y : List α} (ht : TyOk P tt tHdr) (h : N2 t T R F v Vs X) (hr : r < X.length) (hx : ev l x = u) (hp : OPtr tHdr v Vs u r) (hy : ev l y = w) (hf : ORep T R f w Y) (hc : t = true → capOf w = Y.length) :
    Eff P ρ ⟨dst, .store tt x y, ty, pos, after, g⟩ l R ([F, f] ++ O) (fun v' R' O' => ∃ Oc, O' = Oc ++ O ∧ R' = R ∧ ∃ F', Oc = [F'] ∧ N2 t T R F' v (Vs.set r w) (X.set r Y)) := by
  obtain ⟨f0, Fs, hl, h0, hF0, hrow, hap, htt⟩ := h
  refine eff_conv (O1 := [f0]) (Or := minus F f0 :: f :: O) (fun A w hw => holds_split hw hF0) (free_storeO (j := 0) ht h0 rfl hx hp (by omega) hy (hdr_vrep (orep_one hf))) ?_
  rintro v' R' O1' hle ⟨rfl, f', rfl, ho⟩ A w' hw
  have h1 : Holds R' (f' :: f :: minus F f0 :: (O ++ A)) w' := holds_perm hw ((List.Perm.swap f _ _).cons _)
  obtain ⟨s1, s2⟩ := List.pairwise_cons.1 h1.sep
  obtain ⟨s3, s4⟩ := List.pairwise_cons.1 s2
  have a1 : Apart f' f := fun i => s1 f (by simp) i
  have a2 : Apart f' (minus F f0) := fun i => s1 _ (by simp) i
  have a3 : Apart f (minus F f0) := fun i => s3 _ (by simp) i
  refine ⟨joinF f' (joinF f (minus F f0)) :: O, ?_, _, rfl, rfl, _, rfl, n2_put hr hl ho hf (rows_minus hrow hap) a1 a2 a3 htt hc⟩
  have h2 : Holds R' (f :: minus F f0 :: f' :: (O ++ A)) w' := holds_perm h1 ((List.Perm.swap f f' _).trans ((List.Perm.swap _ f' _).cons f))
  exact holds_join (holds_perm (holds_join h2) (List.Perm.swap f' _ _))
theorem getD_app1 {β : Type} {X Y : List β} {j : Nat} {d : β} (h : j < X.length) : (X ++ Y).getD j d = X.getD j d := by
  simp [List.getD_eq_getElem?_getD, List.getElem?_append_left h]
theorem getD_app2 {β : Type} {X : List β} {y d : β} : (X ++ [y]).getD X.length d = y := by
  simp [List.getD_eq_getElem?_getD]
theorem getD_app3 {β : Type} {X : List β} {y d : β} {j : Nat} (h : j = X.length) : (X ++ [y]).getD j d = y := h ▸ getD_app2
theorem n2_app {f0' f G : Frag} {Fs : List Frag} {w v' : Value} {Y : List α} (hl : Vs.length = X.length) (h0 : ORep tHdr R f0' v' (Vs ++ [w])) (hf : ORep T R f w Y) (hrow : Rows T R G Vs X Fs (fun _ => False)) (a1 : Apart f0' f) (a2 : Apart f0' G) (a3 : Apart f G)
    (htt : RTight t Vs X (fun _ => False)) (hc : t = true → capOf w = Y.length) : N2 t T R (joinF f0' (joinF f G)) v' (Vs ++ [w]) (X ++ [Y]) := by
  obtain ⟨hr1, hr2, hr3⟩ := hrow
  have n : ∀ j, ¬ (fun (_ : Nat) => False) j := fun _ h => h
  have hj : Apart f0' (joinF f G) := apart_join a1 a2
  have hFk : Has (joinF f0' (joinF f G)) f := (has_join2 hj).trans has_join1
  have hFG : Has (joinF f0' (joinF f G)) G := (has_join2 hj).trans (has_join2 a3)
  have at_ : ∀ j, j < (X ++ [Y]).length → j < X.length ∨ j = X.length := fun j hj => by simp at hj; omega
  refine ⟨f0', Fs ++ [f], by simp [hl], h0, has_join1, ⟨by simp [hr1], fun j hj _ => ?_, fun i j hi hj _ _ hij => ?_⟩, fun j hj => ?_, fun e j hj _ => ?_⟩
  · rcases at_ j hj with e | e
    · rw [getD_app1 (by omega), getD_app1 (by omega), getD_app1 e]; exact ⟨(hr2 j e (n j)).1, hFG.trans (hr2 j e (n j)).2⟩
    · rw [getD_app3 (by omega), getD_app3 (by omega), getD_app3 e]; exact ⟨hf, hFk⟩
  · rcases at_ i hi with e1 | e1
    · rcases at_ j hj with e2 | e2
      · rw [getD_app1 (by omega), getD_app1 (by omega)]; exact hr3 i j e1 e2 (n i) (n j) hij
      · rw [getD_app1 (by omega), getD_app3 (by omega)]; exact ((hr2 i e1 (n i)).2.apart a3).symm
    · rcases at_ j hj with e2 | e2
      · rw [getD_app3 (by omega), getD_app1 (by omega)]; exact (hr2 j e2 (n j)).2.apart a3
      · omega
  · rcases at_ j hj with e | e
    · rw [getD_app1 (by omega)]; exact (hr2 j e (n j)).2.apart a2
    · rw [getD_app3 (by omega)]; exact a1
  · rcases at_ j hj with e' | e'
    · rw [getD_app1 (by omega), getD_app1 e']; exact htt e j e' (n j)
    · rw [getD_app3 (by omega), getD_app3 e']; exact hc e
theorem eff_appendN {z : Value} {bytes : Nat} {tt e : TypeId} {x y : Operand} {u w : Value} {f : Frag} {Y : List α} (hu : P.underlying tt = some (.slice e)) (hz : ZeroOk P e tHdr z bytes) (hx : ev l x = v) (hy : ev l y = u) (h : N2 t T R F v Vs X) (hf : ORep T R f w Y) (hu' : VRep (tSlice tHdr) R u [w])
    (hc : t = true → capOf w = Y.length) (hb : (X.length + 1) * bytes ≤ 140737488355328) (hm : X.length + 1 ≤ 9223372036854775807) :
    Eff P ρ ⟨dst, .call ⟨.builtin .append, #[x, y], #[tt, tt]⟩, ty, pos, after, g⟩ l R ([F, f] ++ O) (fun v' R' O' => ∃ Oc, O' = Oc ++ O ∧ R' = R ∧ ∃ F', Oc = [F'] ∧ N2 t T R F' v' (Vs ++ [w]) (X ++ [Y])) := by
  obtain ⟨f0, Fs, hl, h0, hF0, hrow, hap, htt⟩ := h
  refine eff_conv (O1 := [f0]) (Or := minus F f0 :: f :: O) (fun A w hw => holds_split hw hF0) (eff_append (i := 0) hu hz hx hy rfl h0 hu' (by rw [hl]; simpa using hb) (by rw [hl]; simpa using hm)) ?_
  rintro v' R' O1' hle ⟨rfl, f', rfl, ho⟩ A w' hw
  have h1 : Holds R' (f' :: f :: minus F f0 :: (O ++ A)) w' := holds_perm hw ((List.Perm.swap f _ _).cons _)
  obtain ⟨s1, s2⟩ := List.pairwise_cons.1 h1.sep
  obtain ⟨s3, s4⟩ := List.pairwise_cons.1 s2
  have a1 : Apart f' f := fun i => s1 f (by simp) i
  have a2 : Apart f' (minus F f0) := fun i => s1 _ (by simp) i
  have a3 : Apart f (minus F f0) := fun i => s3 _ (by simp) i
  refine ⟨joinF f' (joinF f (minus F f0)) :: O, ?_, _, rfl, rfl, _, rfl, n2_app hl ho hf (rows_minus hrow hap) a1 a2 a3 htt hc⟩
  have h2 : Holds R' (f :: minus F f0 :: f' :: (O ++ A)) w' := holds_perm h1 ((List.Perm.swap f f' _).trans ((List.Perm.swap _ f' _).cons f))
  exact holds_join (holds_perm (holds_join h2) (List.Perm.swap f' _ _))
theorem eff_nmake {tt e : TypeId} {bytes : Nat} {x y : Operand} {n : Nat} {k k' : IntKind} (hu : P.underlying tt = some (.slice e)) (hz : ZeroOk P e tHdr (.slice none 0 0) bytes) (hx : ev l x = .int k n) (hy : ev l y = .int k' n) (hb : bytes * n ≤ 281474976710656) (hc : n ≤ 9223372036854775807) :
    Eff P ρ ⟨dst, .makeSlice tt x y, ty, pos, after, g⟩ l R O (fun v R' O' => ∃ Oc, O' = Oc ++ O ∧ R' = R ∧ ∃ F, Oc = [F] ∧ N2 t T R F v (List.replicate n (.slice none 0 0)) (List.replicate n ([] : List α)) ∧ capOf v = n) :=
  (eff_make hu hz hx hy (Nat.le_refl _) hb hc).mono fun v R' O' _ ⟨a, b, f, c, d⟩ => by subst a; exact ⟨[f], c, rfl, f, rfl, n2_make d, b⟩
/-- A row is taken out and grown. -/
theorem eff_appendNR {z : α} {bytes : Nat} {tt e : TypeId} {x y : Operand} {u : Value} {r : Nat} {Y : List α} (hu : P.underlying tt = some (.slice e)) (hz : ZeroOk P e T z bytes) (h : N2 t T R F v Vs X) (hr : r < X.length) (hx : ev l x = Vs.getD r default) (hy : ev l y = u) (hu' : VRep (tSlice T) R u Y)
    (hb : ((X.getD r default).length + Y.length) * bytes ≤ 140737488355328) (hm : (X.getD r default).length + Y.length ≤ 9223372036854775807) :
    Eff P ρ ⟨dst, .call ⟨.builtin .append, #[x, y], #[tt, tt]⟩, ty, pos, after, g⟩ l R ([F] ++ O) (fun v' R' O' => ∃ Oc, O' = Oc ++ O ∧ R' = R ∧ ∃ f' G, Oc = [G, f'] ∧ N2h t T r R G v Vs X ∧ ORep T R f' v' (X.getD r default ++ Y)) := by
  obtain ⟨fk, h1, hF, hh⟩ := h.hole hr
  refine eff_conv (O1 := [fk]) (Or := minus F fk :: O) (fun A w hw => holds_split hw hF) (eff_append (i := 0) hu hz hx hy rfl h1 hu' hb hm) ?_
  rintro v' R' O1' hle ⟨rfl, f', rfl, ho⟩ A w hw
  exact ⟨minus F fk :: f' :: O, holds_perm hw (List.Perm.swap _ _ _), _, rfl, rfl, _, _, rfl, hh, ho⟩
/-- The header of a row that is elsewhere is stored: the row is back. -/
theorem eff_fillN {tt : TypeId} {x y : Operand} {u w : Value} {r : Nat} {f : Frag} {Y : List α} (ht : TyOk P tt tHdr) (h : N2h t T r R F v Vs X) (hr : r < X.length) (hx : ev l x = u) (hp : OPtr tHdr v Vs u r) (hy : ev l y = w) (hf : ORep T R f w Y) (hc : t = true → capOf w = Y.length) :
    Eff P ρ ⟨dst, .store tt x y, ty, pos, after, g⟩ l R ([F, f] ++ O) (fun v' R' O' => ∃ Oc, O' = Oc ++ O ∧ R' = R ∧ ∃ F', Oc = [F'] ∧ N2 t T R F' v (Vs.set r w) (X.set r Y)) := by
  obtain ⟨f0, Fs, hl, h0, hF0, ⟨hr1, hr2, hr3⟩, hap, htt⟩ := h
  refine eff_conv (O1 := [f0]) (Or := minus F f0 :: f :: O) (fun A w hw => holds_split hw hF0) (free_storeO (j := 0) ht h0 rfl hx hp (by omega) hy (hdr_vrep (orep_one hf))) ?_
  rintro v' R' O1' hle ⟨rfl, f', rfl, ho⟩ A w' hw
  have h1 : Holds R' (f' :: f :: minus F f0 :: (O ++ A)) w' := holds_perm hw ((List.Perm.swap f _ _).cons _)
  obtain ⟨s1, s2⟩ := List.pairwise_cons.1 h1.sep
  obtain ⟨s3, s4⟩ := List.pairwise_cons.1 s2
  have a1 : Apart f' f := fun i => s1 f (by simp) i
  have a2 : Apart f' (minus F f0) := fun i => s1 _ (by simp) i
  have a3 : Apart f (minus F f0) := fun i => s3 _ (by simp) i
  have hF : ∀ j, j < X.length → j ≠ r → ORep T R' (Fs.getD j emp) (Vs.getD j default) (X.getD j default) ∧ Has (minus F f0) (Fs.getD j emp) := fun j hj e => ⟨(hr2 j hj e).1, has_minus (hr2 j hj e).2 (hap j hj e)⟩
  have hj : Apart f' (joinF f (minus F f0)) := apart_join a1 a2
  have hFk : Has (joinF f' (joinF f (minus F f0))) f := (has_join2 hj).trans has_join1
  have hFG : Has (joinF f' (joinF f (minus F f0))) (minus F f0) := (has_join2 hj).trans (has_join2 a3)
  have hg := fun j => getD_set_nat (X := Fs) (j := j) (y := f) (d := emp) (k := r) (by omega)
  have hx := fun j => getD_set_nat (X := X) (j := j) (y := Y) (d := default) hr
  have hv := fun j => getD_set_nat (X := Vs) (j := j) (y := w) (d := default) (k := r) (by omega)
  refine ⟨joinF f' (joinF f (minus F f0)) :: O, ?_, _, rfl, rfl, _, rfl, f', Fs.set r f, by simp [hl], ho, has_join1, ⟨by simp [hr1], fun j hj _ => ?_, fun i j hi hj _ _ hij => ?_⟩, fun j hj => ?_, fun e j hj _ => ?_⟩
  · have h2 : Holds R' (f :: minus F f0 :: f' :: (O ++ A)) w' := holds_perm h1 ((List.Perm.swap f f' _).trans ((List.Perm.swap _ f' _).cons f))
    exact holds_join (holds_perm (holds_join h2) (List.Perm.swap f' _ _))
  · have hj' : j < X.length := by simpa using hj
    rw [hg, hx, hv]
    by_cases e : j = r
    · subst e; rw [if_pos rfl, if_pos rfl, if_pos rfl]; exact ⟨hf, hFk⟩
    · rw [if_neg e, if_neg e, if_neg e]; exact ⟨(hF j hj' e).1, hFG.trans (hF j hj' e).2⟩
  · have hi' : i < X.length := by simpa using hi
    have hj' : j < X.length := by simpa using hj
    rw [hg, hg]
    by_cases e1 : i = r
    · rw [if_pos e1, if_neg (fun e => hij (e1.trans e.symm))]
      exact (hF j hj' (fun e => hij (e1.trans e.symm))).2.apart a3
    · by_cases e2 : j = r
      · rw [if_neg e1, if_pos e2]; exact ((hF i hi' e1).2.apart a3).symm
      · rw [if_neg e1, if_neg e2]; exact hr3 i j hi' hj' e1 e2 hij
  · have hj' : j < X.length := by simpa using hj
    rw [hg]
    by_cases e : j = r
    · rw [if_pos e]; exact a1
    · rw [if_neg e]; exact (hF j hj' e).2.apart a2
  · have hj' : j < X.length := by simpa using hj
    rw [hx, hv]
    by_cases e' : j = r
    · rw [if_pos e', if_pos e']; exact hc e
    · rw [if_neg e', if_neg e']; exact htt e j hj' e'
theorem eff_callO {f : FuncId} {c : Operand} {args : List Operand} {at' : Array TypeId} {cs vs : List Value} {Oc : List Frag} {post : Value → RH → List Frag → Prop} (he : Enters P f) (hc : ev l c = .func (.func f) #[] cs.toArray) (ha : args.map (ev l) = vs) (h : CallG P f (vs ++ cs).toArray R Oc post) :
    Eff P ρ ⟨dst, .call ⟨.value c, args.toArray, at'⟩, ty, pos, after, g⟩ l R (Oc ++ O) (fun v R' O' => ∃ Oc', O' = Oc' ++ O ∧ post v R' Oc') :=
  eff_callG (fs := #[]) (cs := cs.toArray) he hc (args_arr ha) (by simp) (List.Perm.refl _) h
end ops

section read
variable {α : Type} {t : Bool} {T : Ty α} {R R1 : RH} {f F : Frag} {v : Value} {Vs : List Value}
/-- What is owned, read in a heap that has it. -/
theorem orep_read {X : List α} (h : ORep T R f v X) (hle : RH.le R R1) (hb : ∀ k o, f k = some o → R1.blk k = some o) : VRep (tSlice T) R1 v X := by
  rcases h with ⟨rfl, rfl, rfl⟩ | ⟨b, pre, cs, cap, bt, rfl, rfl, hc, hcl, hcc, hel⟩
  · exact vrep_nil
  · refine vrep_slice.2 ⟨_, cap, rfl, hc, fun e => by (cases e), .inr ⟨b, pre.length, (pre ++ cs).toArray, bt, (0, 0), rfl, hb _ _ (single_same _ _), fun i x hx => ?_⟩⟩
    rw [cellsAt_pre]
    exact T.mono hle (by simpa [cellsAt] using hel i x hx)
theorem orep_tight {X : List α} (h : ORep T R f v X) (hle : RH.le R R1) (hb : ∀ k o, f k = some o → R1.blk k = some o) (ht : t = true → capOf v = X.length) : VRep (tSl t T) R1 v X := by
  have := orep_read h hle hb
  cases t
  · exact sl_f this
  · exact sl_t this (ht rfl)
theorem n2_read {X : List (List α)} (h : N2 t T R F v Vs X) (hle : RH.le R R1) (hb : ∀ k o, F k = some o → R1.blk k = some o) : VRep (tSlice (tSl t T)) R1 v X := by
  obtain ⟨f0, Fs, hl, h0, hF0, ⟨hr1, hr2, hr3⟩, hap, ht⟩ := h
  have hrow : ∀ j, j < X.length → VRep (tSl t T) R1 (Vs.getD j default) (X.getD j default) := fun j hj =>
    orep_tight (hr2 j hj (fun h => h)).1 hle (fun k o hk => hb k o ((hr2 j hj (fun h => h)).2 k o hk)) (fun e => ht e j hj (fun h => h))
  rcases h0 with ⟨rfl, rfl, rfl⟩ | ⟨b, pre, cs, cap, bt, rfl, rfl, hc, hcl, hcc, hel⟩
  · obtain rfl : X = [] := List.eq_nil_of_length_eq_zero (by simpa using hl.symm)
    exact vrep_nil
  · rw [hl] at hc ⊢
    refine vrep_slice.2 ⟨_, cap, rfl, hc, fun e => by (cases e), .inr ⟨b, pre.length, (pre ++ cs).toArray, bt, (0, 0), rfl, hb _ _ (hF0 _ _ (single_same _ _)), fun i x hx => ?_⟩⟩
    rw [cellsAt_pre]
    have hi : i < X.length := (List.getElem?_eq_some_iff.1 hx).1
    have hv : Vs[i]? = some (Vs.getD i default) := getD_some (by omega)
    obtain ⟨hcc', ho⟩ := hel i _ hv
    have hxe : X.getD i default = x := by simp [List.getD_eq_getElem?_getD, hx]
    have h2 := rep_one rfl (hrow i hi)
    rw [hxe] at h2
    show (tSl t T).rep R1 ((cs.drop (i * 1)).take 1) x
    rw [show (cs.drop (i * 1)).take 1 = [Vs.getD i default] from hcc']
    exact h2
theorem add_blk {O : List Frag} {w : World} (hh : Holds R (F :: O) w) : ∀ k o, F k = some o → (R.add F).blk k = some o := fun k o hk => by
  have := (hh.own F (List.mem_cons_self ..) k o hk).2
  simp [RH.add, this, hk]
end read
section frz
variable {P : Program} {ρ : Option Nat} {n : Nat} {Q : Po} {l : Nat → Value} {D : List Nat} {R : RH} {O : List Frag} {ops : Array Oper} {os : List Oper} {c : Code} {α : Type} {t : Bool} {T : Ty α} {i : Nat} {F : Frag} {v : Value} {X : List (List α)}
theorem wo_freezeN (hi : O[i]? = some F) (h : NRep t T R F v X) (k : ∀ R', RH.le R R' → VRep (tSlice (tSl t T)) R' v X → wo P ρ n ops Q os l D R' (O.eraseIdx i)) : wo P ρ n ops Q os l D R O := fun a w hf hh =>
  let ⟨Vs, h⟩ := h
  k (R.add F) (RH.le_add _ _) (n2_read h (RH.le_add _ _) (add_blk (holds_focus hi hh))) a w hf (conv_freeze hi _ w hh)
theorem wg_freezeN (hi : O[i]? = some F) (h : NRep t T R F v X) (k : ∀ R', RH.le R R' → VRep (tSlice (tSl t T)) R' v X → wg P ρ n c Q l D R' (O.eraseIdx i)) : wg P ρ n c Q l D R O := fun a w hf hh =>
  let ⟨Vs, h⟩ := h
  k (R.add F) (RH.le_add _ _) (n2_read h (RH.le_add _ _) (add_blk (holds_focus hi hh))) a w hf (conv_freeze hi _ w hh)
theorem lent_n {R1 : RH} (i : Nat) (hi : O[i]? = some F) (h : NRep t T R F v X) (hle : RH.le R R1) (hl : ∀ f ∈ O, ∀ k o, f k = some o → R1.blk k = some o) : VRep (tSlice (tSl t T)) R1 v X :=
  let ⟨Vs, h⟩ := h
  n2_read h hle (hl F (List.mem_of_getElem? hi))
end frz
theorem nrep_emp {α : Type} {t : Bool} {T : Ty α} {R : RH} : NRep t T R emp (.slice none 0 0) ([] : List (List α)) := ⟨[], n2_nil⟩

section appT
variable {P : Program} {ρ : Option Nat} {l : Nat → Value} {R : RH} {O : List Frag} {dst : Option Tmp} {ty : TypeId} {pos : String} {after : Array Go.Edge} {g : Option (Nat × Bool)} {α : Type} {T : Ty α}
theorem run_app_zero {t e : TypeId} {i : TypeInfo} {k : Nat} {w : World} {a : Addr} {n cap : Nat} {u : Value} {p : Option Addr} {c : Nat} (ht : P.underlying t = some (.slice e)) (hi : P.info? e = some i) (hs : i.size = k) (hu0 : u = .slice p 0 c) (hnew : (Builtin.firstCells k 0 u).run P w = .ok #[] w) (hn : n ≤ cap) :
    (Builtin.append_ #[t, t] ty #[.slice (some a) n cap, u]).run P w = .ok (.slice (some a) n cap) w := by
  subst hu0; subst hs
  simp [Builtin.append_, run_underlying ht, sizeOf, typeInfo, hi, Builtin.lenOf, hnew, hn, storeCells]
/-- append to what is only read, and has no room. -/
theorem eff_appT {z : α} {bytes : Nat} {t e : TypeId} {x y : Operand} {v u : Value} {X Y : List α}
    (hu : P.underlying t = some (.slice e)) (hz : ZeroOk P e T z bytes) (hx : ev l x = v) (hy : ev l y = u) (hv : VRep (tSl true T) R v X) (hu' : VRep (tSlice T) R u Y)
    (hb : (X.length + Y.length) * bytes ≤ 140737488355328) (hm : X.length + Y.length ≤ 9223372036854775807) :
    Eff P ρ ⟨dst, .call ⟨.builtin .append, #[x, y], #[t, t]⟩, ty, pos, after, g⟩ l R O (fun v' R' O' => R' = R ∧ ((Y = [] ∧ O' = O ∧ v' = v) ∨ ∃ f', O' = f' :: O ∧ ORep T R f' v' (X ++ Y))) := by
  intro A w hh; rw [sem_plain (by intro c h; cases h)]
  obtain ⟨inf, zv, k1, k2, k3, k4, k5⟩ := hz.info
  obtain ⟨cy, p, n, rfl, hsy, hload⟩ := load_slice hu'
  have hcy : cy.length = Y.length * T.size := hsy.len
  have hnew : ∀ w', w'.heap = w.heap → (Builtin.firstCells T.size Y.length (.slice p Y.length n)).run P w' = .ok cy.toArray w' := fun w' hw' =>
    hload w' fun k o hk => by rw [hw']; exact hh.ro k o hk
  obtain ⟨cx, px, nx, hvx, hsx, hloadx⟩ := load_slice (sl_s hv)
  have hcap : nx = X.length := by
    have := sl_c hv
    rw [hvx] at this; exact this
  subst hcap
  subst hvx
  by_cases hY : Y = []
  · subst hY
    have hc0 : cy = [] := List.length_eq_zero_iff.1 (by simpa using hcy)
    subst hc0
    have h0 := hnew w rfl
    cases px with
    | none =>
      obtain ⟨p', n', e', hn', hp', _⟩ := vrep_slice.1 (sl_s hv)
      simp only [Value.slice.injEq] at e'
      obtain rfl := hp' e'.1.symm
      rw [run_appop hx hy (run_app_nil0 hu k1 k3 rfl h0)]
      exact ⟨R, O, RH.le.refl _, hh, rfl, .inl ⟨rfl, rfl, rfl⟩⟩
    | some a =>
      rw [run_appop hx hy (run_app_zero hu k1 k3 rfl h0 (Nat.le_refl _))]
      exact ⟨R, O, RH.le.refl _, hh, rfl, .inl ⟨rfl, rfl, rfl⟩⟩
  · have hpos : 0 < Y.length := List.length_pos_iff.2 hY
    rw [run_appop hx hy (run_app_grow (T := T) (olds := cx) hu k1 k2 k3 k4 rfl (fun w' hw' => hloadx w' fun k o hk => by rw [hw']; exact hh.ro k o hk) rfl hnew (by omega) hm hb)]
    have hcap := grownCap_ge w (X.length + Y.length) X.length e
    obtain ⟨hzc, hzl⟩ := zeroCells_ok (k5 R) (grownCap w (X.length + Y.length) X.length e - (X.length + Y.length))
    have hal := holds_alloc (holds_drew hh) (.cells ((cx ++ cy) ++ (Builtin.zeroCells zv.cells (grownCap w (X.length + Y.length) X.length e - (X.length + Y.length))).toList).toArray e (0, 0))
    have hor := orep_of_seq (b := w.heap.size) (bt := e) (cap := grownCap w (X.length + Y.length) X.length e) (hsx.append hsy) (rest := (Builtin.zeroCells zv.cells (grownCap w (X.length + Y.length) X.length e - (X.length + Y.length))).toList)
      (by rw [List.length_append]; exact hcap) (by rw [List.length_append, List.length_append, hsx.len, hcy, hzl, ← Nat.add_mul, ← Nat.add_mul]; exact Nat.mul_le_mul_right _ (by omega)) hzc
    have e1 : (cx.toArray ++ cy.toArray ++ Builtin.zeroCells zv.cells (grownCap w (X.length + Y.length) X.length e - (X.length + Y.length))) = ((cx ++ cy) ++ (Builtin.zeroCells zv.cells (grownCap w (X.length + Y.length) X.length e - (X.length + Y.length))).toList).toArray := by
      apply Array.ext'; simp
    rw [e1]
    exact ⟨R, _ :: O, RH.le.refl _, hal, rfl, .inr ⟨_, rfl, by rw [List.length_append] at hor; exact hor⟩⟩
theorem ph_appT {z : α} {bytes : Nat} {t e : TypeId} {x y : Operand} {v u : Value} {X Y : List α}
    (hu : P.underlying t = some (.slice e)) (hz : ZeroOk P e T z bytes) (hx : ev l x = v) (hy : ev l y = u) (hv : VRep (tSl true T) R v X) (hu' : VRep (tSlice T) R u Y)
    (hb : (X.length + Y.length) * bytes ≤ 140737488355328) (hm : X.length + Y.length ≤ 9223372036854775807) :
    Eff P ρ ⟨dst, .call ⟨.builtin .append, #[x, y], #[t, t]⟩, ty, pos, after, g⟩ l R O (fun v' R' O' => O' = O ∧ phR (tSl false T) (X ++ Y) v' R') := by
  intro A w hh
  refine out_mono (eff_appT hu hz hx hy hv hu' hb hm A w hh) ?_
  rintro v' w' ⟨R', O', hle, hh', rfl, ⟨rfl, rfl, rfl⟩ | ⟨f, rfl, ho⟩⟩
  · exact ⟨R', O', hle, hh', rfl, by rw [List.append_nil]; exact sl_f (sl_s hv)⟩
  · exact ⟨R'.add f, O, hle.trans (RH.le_add _ _), holds_freeze hh', rfl, sl_f (vrep_freeze ho hh')⟩
theorem eff_appTO {z : α} {bytes : Nat} {t e : TypeId} {x y : Operand} {v u : Value} {X Y : List α}
    (hu : P.underlying t = some (.slice e)) (hz : ZeroOk P e T z bytes) (hx : ev l x = v) (hy : ev l y = u) (hv : VRep (tSl true T) R v X) (hu' : VRep (tSlice T) R u Y)
    (hb : (X.length + Y.length) * bytes ≤ 140737488355328) (hm : X.length + Y.length ≤ 9223372036854775807) (hY : 0 < Y.length) :
    Eff P ρ ⟨dst, .call ⟨.builtin .append, #[x, y], #[t, t]⟩, ty, pos, after, g⟩ l R O (fun v' R' O' => ∃ Oc, O' = Oc ++ O ∧ R' = R ∧ ∃ f', Oc = [f'] ∧ ORep T R f' v' (X ++ Y)) :=
  (eff_appT hu hz hx hy hv hu' hb hm).mono fun v' R' O' _ ⟨a, b⟩ => by
    rcases b with ⟨rfl, _, _⟩ | ⟨f, c, d⟩
    · simp at hY
    · exact ⟨[f], c, a, f, rfl, d⟩
end appT

section sliceO
variable {P : Program} {ρ : Option Nat} {l : Nat → Value} {R : RH} {O : List Frag} {α : Type} {T : Ty α}
theorem val_sliceO {t e : TypeId} {lo hi mx : Nat} {x : Operand} {xlo xhi xmx : Option Operand} {f : Frag} {v : Value} {X : List α} (ht : SlOk P t e T) (hx : ev l x = v) (hr : ORep T R f v X)
    (hlo : xlo.map (ev l) = none ∧ lo = 0 ∨ ∃ k, xlo.map (ev l) = some (.int k lo)) (hhi : xhi.map (ev l) = none ∧ hi = X.length ∧ xmx = none ∨ ∃ k, xhi.map (ev l) = some (.int k hi))
    (hmx : xmx.map (ev l) = none ∧ mx = capOf v ∨ ∃ k, xmx.map (ev l) = some (.int k mx)) (h1 : lo ≤ hi) (h2 : hi ≤ X.length) (h3 : hi ≤ mx) (h4 : mx ≤ capOf v) :
    ∃ u, ORep T R f u ((X.drop lo).take (hi - lo)) ∧ capOf u = mx - lo ∧ ∀ (dst : Option Tmp) (ty : TypeId) (pos : String) (after : Array Go.Edge) (g : Option (Nat × Bool)), Val P ρ ⟨dst, .slice t x xlo xhi xmx, ty, pos, after, g⟩ l R O u := by
  obtain ⟨p, hv, hc⟩ := orep_slice hr
  refine ⟨.slice (if mx = lo then p else p.map (·.add (lo * T.size))) (hi - lo) (mx - lo), ?_, rfl, fun dst ty pos after g A w hh => ?_⟩
  · have hlen : ((X.drop lo).take (hi - lo)).length = hi - lo := by simp; omega
    rcases hr with ⟨rfl, rfl, rfl⟩ | ⟨b, pre, cs, cap, bt, rfl, rfl, hcc, hcl, hce, hel⟩
    · have : mx = 0 := by simpa [capOf] using h4
      have : lo = 0 := by omega
      have : hi = 0 := by omega
      subst_vars
      simp only [Value.slice.injEq] at hv
      obtain ⟨rfl, _⟩ := hv
      exact .inl ⟨rfl, by simp, rfl⟩
    · simp only [Value.slice.injEq, capOf] at hv h4 hc
      obtain ⟨rfl, _⟩ := hv
      right
      by_cases hm : mx = lo
      · refine ⟨b, pre, cs, 0, bt, ?_, rfl, ?_, by simp, hce, fun i x hx => ?_⟩
        · rw [if_pos hm, hlen]; simp only [Value.slice.injEq, true_and]; omega
        · rw [hlen]; omega
        · rw [show hi - lo = 0 by omega, List.take_zero] at hx; simp at hx
      · have hle : lo * T.size ≤ cs.length := Nat.le_trans (Nat.mul_le_mul_right _ (by omega : lo ≤ cap)) hcl
        refine ⟨b, pre ++ cs.take (lo * T.size), cs.drop (lo * T.size), mx - lo, bt, ?_, ?_, by rw [hlen]; omega, ?_, ?_, fun i x hx => ?_⟩
        · rw [if_neg hm, hlen]; simp [addr_add, Nat.min_eq_left hle]
        · rw [List.append_assoc, List.take_append_drop]
        · rw [List.length_drop, Nat.sub_mul]
          have := Nat.mul_le_mul_right T.size h4
          omega
        · rw [List.append_assoc, List.take_append_drop]; exact hce
        · rw [List.getElem?_take] at hx
          split at hx
          · rw [List.getElem?_drop] at hx
            have := hel (lo + i) x hx
            rwa [List.drop_drop, ← Nat.add_mul]
          · cases hx
  · rw [sem_plain (by intro c h; cases h)]
    exact run_sliceOp ht.u ht.e.size (hx.trans hv) hlo hhi hmx h1 h3 h4 (fun _ => by omega)
end sliceO
section sliceQ
variable {P : Program} {ρ : Option Nat} {n : Nat} {Q : Po} {l : Nat → Value} {D : List Nat} {R : RH} {O : List Frag} {ops : Array Oper} {rest : List Oper} {ty : TypeId} {pos : String} {after : Array Go.Edge} {d : Nat} {α : Type} {T : Ty α}
theorem wo_sliceQ {t e : TypeId} {lo hi mx : Nat} {x : Operand} {xlo xhi xmx : Option Operand} {f : Frag} {v : Value} {X : List α} (hd : Nat.blt d n = true) (ht : SlOk P t e T) (hx : ev l x = v) (hr : ORep T R f v X)
    (hlo : xlo.map (ev l) = none ∧ lo = 0 ∨ ∃ k, xlo.map (ev l) = some (.int k lo)) (hhi : xhi.map (ev l) = none ∧ hi = X.length ∧ xmx = none ∨ ∃ k, xhi.map (ev l) = some (.int k hi))
    (hmx : xmx.map (ev l) = none ∧ mx = capOf v ∨ ∃ k, xmx.map (ev l) = some (.int k mx)) (h1 : lo ≤ hi) (h2 : hi ≤ X.length) (h3 : hi ≤ mx) (h4 : mx ≤ capOf v)
    (hk : ∀ u, ORep T R f u ((X.drop lo).take (hi - lo)) → capOf u = mx - lo → wo P ρ n ops Q rest (upd l d u) D R O) : wo P ρ n ops Q (⟨some d, .slice t x xlo xhi xmx, ty, pos, after, none⟩ :: rest) l D R O := by
  obtain ⟨u, hu, hc, hv⟩ := val_sliceO (P := P) (ρ := ρ) (O := O) ht hx hr hlo hhi hmx h1 h2 h3 h4
  exact wo_v hd (hv _ _ _ _ _) (hk u hu hc)
end sliceQ

theorem eff_litO {P : Program} {ρ : Option Nat} {l : Nat → Value} {R : RH} {O : List Frag} {dst : Option Tmp} {ty : TypeId} {pos : String} {after : Array Go.Edge} {g : Option (Nat × Bool)} {α : Type} {T : Ty α} {t e : TypeId} {z : α} {bytes m : Nat} {parts : List (Nat × Operand)} {ps : List (Nat × Value)} {css : List (List Value)} {X : List α} (hu : P.underlying t = some (.slice e)) (hz : ZeroOk P e T z bytes)
    (hp : (parts.map fun x => (x.1, ev l x.2)) = ps) (hps : ps.map (fun p => (p.1, p.2.cells)) = css.zipIdx.map (fun x => (x.2, x.1.toArray))) (hX : ∀ (i : Nat) (c : List Value) (x : α), css[i]? = some c → X[i]? = some x → T.rep R c x)
    (hl : css.length = X.length) (hn : X.length = m) (hbig : m * T.size ≤ 16777216) : Eff P ρ ⟨dst, .buildSlice t m parts.toArray, ty, pos, after, g⟩ l R O fun v R' O' => ∃ Oc, O' = Oc ++ O ∧ R' = R ∧ ∃ f, Oc = [f] ∧ ORep T R f v X ∧ capOf v = X.length :=
  (eff_buildSlice hu hz (by rw [List.map_toArray]; exact congrArg List.toArray hp) hps hX hl hn hbig).mono fun v R' O' _ ⟨hR, hc, f, hO, h⟩ => by subst hR; exact ⟨[f], hO, rfl, f, rfl, h, hc⟩

theorem fill_congr {place : Nat → Option (Nat × Nat)} : ∀ (ps ps' : List (Nat × Value)) (cells : Array Value), ps.map (fun p => (p.1, p.2.cells)) = ps'.map (fun p => (p.1, p.2.cells)) → Instr.fill place cells ps = Instr.fill place cells ps'
  | [], [], _, _ => rfl
  | [], _ :: _, _, h => by simp at h
  | _ :: _, [], _, h => by simp at h
  | (i, v) :: r, (j, u) :: r', cells, h => by
    simp only [List.map_cons, List.cons.injEq, Prod.mk.injEq] at h
    obtain ⟨⟨rfl, h1⟩, h2⟩ := h
    simp only [Instr.fill, h1]
    cases place i with
    | none => rfl
    | some q => simp only []; rw [fill_congr r r' _ h2]
theorem val_buildC {P : Program} {ρ : Option Nat} {l : Nat → Value} {R : RH} {O : List Frag} {dst : Option Tmp} {ty : TypeId} {pos : String} {after : Array Go.Edge} {g : Option (Nat × Bool)} {t : TypeId} {parts : List (Nat × Operand)} {ps : List (Nat × Value)} (ps' : List (Nat × Value)) {v : Value} (hp : (parts.map fun x => (x.1, ev l x.2)) = ps)
    (hc : ps.map (fun p => (p.1, p.2.cells)) = ps'.map (fun p => (p.1, p.2.cells))) (h : ∀ w, (Instr.build t ps'.toArray).run P w = .ok v w) : Val P ρ ⟨dst, .build t parts.toArray, ty, pos, after, g⟩ l R O v :=
  val_buildL hp fun w => by
    have : (Instr.build t ps.toArray) = (Instr.build t ps'.toArray) := by
      simp only [Instr.build, fill_congr (place := _) ps ps' _ hc]
    rw [this]; exact h w

def aggC (v : Value) (k : Nat) : Value := match v with
  | .agg a => a.toList.getD k undef
  | _ => undef

section step
variable {P : Program} {ρ : Option Nat} {n : Nat} {Q : Po} {l : Nat → Value} {D : List Nat} {R : RH} {O : List Frag} {ops : Array Oper} {rest : List Oper} {ty : TypeId} {pos : String} {after : Array Go.Edge} {d : Nat}
theorem wo_phi {op : Op} {φ : Value → RH → Prop} (hd : Nat.blt d n = true) (h : Eff P ρ ⟨some d, op, ty, pos, after, none⟩ l R O (fun v R' O' => O' = O ∧ φ v R')) (hk : ∀ v R', RH.le R R' → φ v R' → wo P ρ n ops Q rest (upd l d v) D R' O) :
    wo P ρ n ops Q (⟨some d, op, ty, pos, after, none⟩ :: rest) l D R O := wo_eff1 hd h fun v R' O' hle ⟨e, hp⟩ => by subst e; exact hk v R' hle hp
theorem wo_turn {op : Op} {Oc Or : List Frag} {φ : Value → RH → List Frag → Prop} (hd : Nat.blt d n = true) (hp : O.Perm (Oc ++ Or)) (h : Eff P ρ ⟨some d, op, ty, pos, after, none⟩ l R (Oc ++ Or) (fun v R' O' => ∃ Oc', O' = Oc' ++ Or ∧ φ v R' Oc'))
    (hk : ∀ v R' Oc', RH.le R R' → φ v R' Oc' → wo P ρ n ops Q rest (upd l d v) D R' (Oc' ++ Or)) : wo P ρ n ops Q (⟨some d, op, ty, pos, after, none⟩ :: rest) l D R O :=
  wo_eff1 hd (eff_perm hp h) fun v R' O' hle ⟨Oc', e, hp⟩ => by subst e; exact hk v R' Oc' hle hp
theorem wo_turn0 {op : Op} {Oc Or : List Frag} {φ : Value → RH → List Frag → Prop} (hp : O.Perm (Oc ++ Or)) (h : Eff P ρ ⟨none, op, ty, pos, after, none⟩ l R (Oc ++ Or) (fun v R' O' => ∃ Oc', O' = Oc' ++ Or ∧ φ v R' Oc'))
    (hk : ∀ v R' Oc', RH.le R R' → φ v R' Oc' → wo P ρ n ops Q rest l D R' (Oc' ++ Or)) : wo P ρ n ops Q (⟨none, op, ty, pos, after, none⟩ :: rest) l D R O :=
  wo_eff0 (eff_perm hp h) fun v R' O' hle ⟨Oc', e, hp⟩ => by subst e; exact hk v R' Oc' hle hp
end step
end GV
end Go.Proofs.Ytohjnbajgbdhhaa
