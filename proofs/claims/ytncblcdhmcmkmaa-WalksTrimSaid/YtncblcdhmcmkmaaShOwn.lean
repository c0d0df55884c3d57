/- Operations on owned rows; calls that hand on what is owned. -/
import Derived.Test.YtncblcdhmcmkmaaShFree
namespace Go.Proofs.Ytncblcdhmcmkmaa
namespace GV
set_option linter.unusedVariables false
set_option linter.unusedSectionVars false

def NRep {α : Type} (t : Bool) (T : Ty α) (R : RH) (F : Frag) (v : Value) (X : List (List α)) : Prop := ∃ Vs, N2 t T R F v Vs X
theorem NRep.mono {α : Type} {t : Bool} {T : Ty α} {R R' : RH} {F : Frag} {v : Value} {X : List (List α)} (h : NRep t T R F v X) (hle : RH.le R R') : NRep t T R' F v X := let ⟨Vs, a⟩ := h; ⟨Vs, a.mono hle⟩
theorem nrep_of {α : Type} {t : Bool} {T : Ty α} {R : RH} {F : Frag} {v : Value} {Vs : List Value} {X : List (List α)} (h : N2 t T R F v Vs X) : NRep t T R F v X := ⟨Vs, h⟩
theorem ty_hdr {P : Program} {t : TypeId} {α : Type} {T : Ty α} {b : Bool} (h : TyOk P t (tSl b T)) : TyOk P t tHdr := ⟨h.agg, h.size⟩
theorem sl_hdr {P : Program} {t e : TypeId} {α : Type} {T : Ty α} {b : Bool} (h : SlOk P t e (tSl b T)) : SlOk P t e tHdr := ⟨h.u, ty_hdr h.e⟩
theorem vrep_hdr {R : RH} {w y : Value} (h : VRep tHdr R w y) : w = y := by obtain ⟨cs, ⟨rfl, _⟩, rfl⟩ := h; rfl
theorem hdr_vrep {R : RH} {w : Value} (h : w.oneCell' = true) : VRep tHdr R w w := ⟨[w], ⟨rfl, h⟩, rfl⟩
theorem n2_one {α : Type} {t : Bool} {T : Ty α} {R : RH} {F : Frag} {v : Value} {Vs : List Value} {X : List (List α)} (h : N2 t T R F v Vs X) : v.oneCell' = true := let ⟨_, h0, _⟩ := h.o; orep_one h0
theorem n2_rt {α : Type} {t : Bool} {T : Ty α} {R : RH} {F : Frag} {v : Value} {Vs : List Value} {X : List (List α)} (h : N2 t T R F v Vs X) {r : Nat} (hr : r < X.length) (e : t = true) : capOf (Vs.getD r default) = (X.getD r default).length :=
  let ⟨_, _, _, _, _, _, _, g⟩ := h; g e r hr (fun h => h)

theorem cells_of_one {v : Value} (h : v.oneCell' = true) : v.cells = ([v] : List Value).toArray := by
  cases v <;> first | rfl | (simp [Value.oneCell'] at h; done)

section ops
variable {P : Program} {ρ : Option Nat} {l : Nat → Value} {R : RH} {O : List Frag} {dst : Option Tmp} {ty : TypeId} {pos : String} {after : Array Go.Edge} {g : Option (Nat × Bool)} {α : Type} {t : Bool} {T : Ty α} {F : Frag} {v : Value} {Vs : List Value} {X : List (List α)}
theorem ph_indexN {tt e : TypeId} {x ix : Operand} {k : IntKind} {i : Nat} (ht : SlOk P tt e tHdr) (hx : ev l x = v) (h : N2 t T R F v Vs X) (hi : ev l ix = .int k i) (hy : i < X.length) :
    Eff P ρ ⟨dst, .indexAddr tt x ix, ty, pos, after, g⟩ l R O (fun v' R' O' => O' = O ∧ (fun u _ => OPtr tHdr v Vs u i) v' R') := by
  obtain ⟨f0, h0, _, hl⟩ := h.o
  exact ph_indexO ht hx h0 hi (by omega)
theorem ph_loadN {tt : TypeId} {x : Operand} {u : Value} {i j : Nat} (ht : TyOk P tt tHdr) (h : N2 t T R F v Vs X) (hO : O[j]? = some F) (hx : ev l x = u) (hp : OPtr tHdr v Vs u i) (hy : i < X.length) :
    Eff P ρ ⟨dst, .load tt x, ty, pos, after, g⟩ l R O (fun v' R' O' => O' = O ∧ phX (Vs.getD i default) v' R') := by
  obtain ⟨f0, h0, hF, hl⟩ := h.o
  obtain ⟨w, hw, hv⟩ := val_loadH (ρ := ρ) (P := P) ht h0 hF hO hx hp (getD_some (by omega))
  exact (hv dst ty pos after g).eff.mono fun v' R' O' _ ⟨a, b, c⟩ => ⟨c, a.trans (vrep_hdr hw)⟩
theorem ph_indexNR {tt e : TypeId} {x ix : Operand} {k : IntKind} {i r : Nat} (ht : SlOk P tt e T) (h : N2 t T R F v Vs X) (hr : r < X.length) (hx : ev l x = Vs.getD r default) (hi : ev l ix = .int k i) (hy : i < (X.getD r default).length) :
    Eff P ρ ⟨dst, .indexAddr tt x ix, ty, pos, after, g⟩ l R O (fun v' R' O' => O' = O ∧ (fun u _ => OPtr T (Vs.getD r default) (X.getD r default) u i) v' R') :=
  let ⟨fk, h1, _⟩ := h.row hr; ph_indexO ht hx h1 hi hy
theorem eff_storeN {tt : TypeId} {x y : Operand} {u w : Value} {i r : Nat} {z : α} (ht : TyOk P tt T) (h : N2 t T R F v Vs X) (hr : r < X.length) (hx : ev l x = u) (hp : OPtr T (Vs.getD r default) (X.getD r default) u i) (hi : i < (X.getD r default).length)
    (hy : ev l y = w) (hz : VRep T R w z) : Eff P ρ ⟨dst, .store tt x y, ty, pos, after, g⟩ l R ([F] ++ O) (fun v' R' O' => ∃ Oc, O' = Oc ++ O ∧ R' = R ∧ ∃ F', Oc = [F'] ∧ N2 t T R F' v Vs (X.set r ((X.getD r default).set i z))) := by
  obtain ⟨fk, h1, hF, hh⟩ := h.hole hr
  refine eff_conv (O1 := [fk]) (Or := minus F fk :: O) (fun A w hw => holds_split hw hF) (free_storeO (j := 0) ht h1 rfl hx hp hi hy hz) ?_
  rintro v' R' O1' hle ⟨rfl, f', rfl, ho⟩ A w hw
  refine ⟨joinF f' (minus F fk) :: O, holds_join hw, _, rfl, rfl, _, rfl, N2h.fill (u := default) hh hr ho (apart_of hw) fun e => ?_⟩
  rw [List.length_set]; exact n2_rt h hr e
theorem apart_join {f g h : Frag} (a : Apart f g) (b : Apart f h) : Apart f (joinF g h) := fun k => by
  unfold joinF
  cases e : g k with
  | none => exact b k
  | some o => rcases a k with h1 | h1
              · exact .inl h1
              · rw [e] at h1; cases h1
/-- Another row, behind another header. -/
theorem n2_put {f0' f G : Frag} {Fs : List Frag} {r : Nat} {w : Value} {Y : List α} (hr : r < X.length) (hl : Vs.length = X.length) (h0 : ORep tHdr R f0' v (Vs.set r w)) (hf : ORep T R f w Y) (hrow : Rows T R G Vs X Fs (fun _ => False)) (a1 : Apart f0' f) (a2 : Apart f0' G) (a3 : Apart f G)
    (htt : RTight t Vs X (fun _ => False)) (hc : t = true → capOf w = Y.length) : N2 t T R (joinF f0' (joinF f G)) v (Vs.set r w) (X.set r Y) := by
  obtain ⟨hr1, hr2, hr3⟩ := hrow
  have n : ∀ j, ¬ (fun (_ : Nat) => False) j := fun _ h => h
  have hj : Apart f0' (joinF f G) := apart_join a1 a2
  have hFk : Has (joinF f0' (joinF f G)) f := (has_join2 hj).trans has_join1
  have hFG : Has (joinF f0' (joinF f G)) G := (has_join2 hj).trans (has_join2 a3)
  have hg := fun j => getD_set_nat (X := Fs) (j := j) (y := f) (d := emp) (k := r) (by omega)
  have hx := fun j => getD_set_nat (X := X) (j := j) (y := Y) (d := default) hr
  have hv := fun j => getD_set_nat (X := Vs) (j := j) (y := w) (d := default) (k := r) (by omega)
  refine ⟨f0', Fs.set r f, by simp [hl], h0, has_join1, ⟨by simp [hr1], fun j hj _ => ?_, fun i j hi hj _ _ hij => ?_⟩, fun j hj => ?_, fun e j hj _ => ?_⟩
  · have hj' : j < X.length := by simpa using hj
    rw [hg, hx, hv]
    by_cases e : j = r
    · subst e; rw [if_pos rfl, if_pos rfl, if_pos rfl]; exact ⟨hf, hFk⟩
    · rw [if_neg e, if_neg e, if_neg e]; exact ⟨(hr2 j hj' (n j)).1, hFG.trans (hr2 j hj' (n j)).2⟩
  · have hi' : i < X.length := by simpa using hi
    have hj' : j < X.length := by simpa using hj
    rw [hg, hg]
    by_cases e1 : i = r
    · rw [if_pos e1, if_neg (fun e => hij (e1.trans e.symm))]
      exact (hr2 j hj' (n j)).2.apart a3
    · by_cases e2 : j = r
      · rw [if_neg e1, if_pos e2]; exact ((hr2 i hi' (n i)).2.apart a3).symm
      · rw [if_neg e1, if_neg e2]; exact hr3 i j hi' hj' (n i) (n j) hij
  · have hj' : j < X.length := by simpa using hj
    rw [hg]
    by_cases e : j = r
    · rw [if_pos e]; exact a1
    · rw [if_neg e]; exact (hr2 j hj' (n j)).2.apart a2
  · have hj' : j < X.length := by simpa using hj
    rw [hx, hv]
    by_cases e' : j = r
    · rw [if_pos e', if_pos e']; exact hc e
    · rw [if_neg e', if_neg e']; exact htt e j hj' (n j)
theorem rows_minus {f0 : Frag} {Fs : List Frag} (hrow : Rows T R F Vs X Fs (fun _ => False)) (hap : ∀ j, j < X.length → Apart f0 (Fs.getD j emp)) : Rows T R (minus F f0) Vs X Fs (fun _ => False) :=
  ⟨hrow.1, fun j hj n => ⟨(hrow.2.1 j hj n).1, has_minus (hrow.2.1 j hj n).2 (hap j hj)⟩, hrow.2.2⟩
theorem eff_setN {tt : TypeId} {x y : Operand} {u w : Value} {r : Nat} {f : Frag} {Y : List α} (ht : TyOk P tt tHdr) (h : N2 t T R F v Vs X) (hr : r < X.length) (hx : ev l x = u) (hp : OPtr tHdr v Vs u r) (hy : ev l y = w) (hf : ORep T R f w Y) (hc : t = true → capOf w = Y.length) :
    Eff P ρ ⟨dst, .store tt x y, ty, pos, after, g⟩ l R ([F, f] ++ O) (fun v' R' O' => ∃ Oc, O' = Oc ++ O ∧ R' = R ∧ ∃ F', Oc = [F'] ∧ N2 t T R F' v (Vs.set r w) (X.set r Y)) := by
  obtain ⟨f0, Fs, hl, h0, hF0, hrow, hap, htt⟩ := h
  refine eff_conv (O1 := [f0]) (Or := minus F f0 :: f :: O) (fun A w hw => holds_split hw hF0) (free_storeO (j := 0) ht h0 rfl hx hp (by omega) hy (hdr_vrep (orep_one hf))) ?_
  rintro v' R' O1' hle ⟨rfl, f', rfl, ho⟩ A w' hw
  have h1 : Holds R' (f' :: f :: minus F f0 :: (O ++ A)) w' := holds_perm hw ((List.Perm.swap f _ _).cons _)
  obtain ⟨s1, s2⟩ := List.pairwise_cons.1 h1.sep
  obtain ⟨s3, s4⟩ := List.pairwise_cons.1 s2
  have a1 : Apart f' f := fun i => s1 f (by simp) i
  have a2 : Apart f' (minus F f0) := fun i => s1 _ (by simp) i
  have a3 : Apart f (minus F f0) := fun i => s3 _ (by simp) i
  refine ⟨joinF f' (joinF f (minus F f0)) :: O, ?_, _, rfl, rfl, _, rfl, n2_put hr hl ho hf (rows_minus hrow hap) a1 a2 a3 htt hc⟩
  have h2 : Holds R' (f :: minus F f0 :: f' :: (O ++ A)) w' := holds_perm h1 ((List.Perm.swap f f' _).trans ((List.Perm.swap _ f' _).cons f))
  exact holds_join (holds_perm (holds_join h2) (List.Perm.swap f' _ _))
theorem eff_nmake {tt e : TypeId} {bytes : Nat} {x y : Operand} {n : Nat} {k k' : IntKind} (hu : P.underlying tt = some (.slice e)) (hz : ZeroOk P e tHdr (.slice none 0 0) bytes) (hx : ev l x = .int k n) (hy : ev l y = .int k' n) (hb : bytes * n ≤ 281474976710656) (hc : n ≤ 9223372036854775807) :
    Eff P ρ ⟨dst, .makeSlice tt x y, ty, pos, after, g⟩ l R O (fun v R' O' => ∃ Oc, O' = Oc ++ O ∧ R' = R ∧ ∃ F, Oc = [F] ∧ N2 t T R F v (List.replicate n (.slice none 0 0)) (List.replicate n ([] : List α)) ∧ capOf v = n) :=
  (eff_make hu hz hx hy (Nat.le_refl _) hb hc).mono fun v R' O' _ ⟨a, b, f, c, d⟩ => by subst a; exact ⟨[f], c, rfl, f, rfl, n2_make d, b⟩
theorem eff_callO {f : FuncId} {c : Operand} {args : List Operand} {at' : Array TypeId} {cs vs : List Value} {Oc : List Frag} {post : Value → RH → List Frag → Prop} (he : Enters P f) (hc : ev l c = .func (.func f) #[] cs.toArray) (ha : args.map (ev l) = vs) (h : CallG P f (vs ++ cs).toArray R Oc post) :
    Eff P ρ ⟨dst, .call ⟨.value c, args.toArray, at'⟩, ty, pos, after, g⟩ l R (Oc ++ O) (fun v R' O' => ∃ Oc', O' = Oc' ++ O ∧ post v R' Oc') :=
  eff_callG (fs := #[]) (cs := cs.toArray) he hc (args_arr ha) (by simp) (List.Perm.refl _) h
end ops

section read
variable {α : Type} {t : Bool} {T : Ty α} {R R1 : RH} {f F : Frag} {v : Value} {Vs : List Value}
/-- What is owned, read in a heap that has it. -/
theorem orep_read {X : List α} (h : ORep T R f v X) (hle : RH.le R R1) (hb : ∀ k o, f k = some o → R1.blk k = some o) : VRep (tSlice T) R1 v X := by
  rcases h with ⟨rfl, rfl, rfl⟩ | ⟨b, pre, cs, cap, bt, rfl, rfl, hc, hcl, hcc, hel⟩
  · exact vrep_nil
  · refine vrep_slice.2 ⟨_, cap, rfl, hc, fun e => by (cases e), .inr ⟨b, pre.length, (pre ++ cs).toArray, bt, (0, 0), rfl, hb _ _ (single_same _ _), fun i x hx => ?_⟩⟩
    rw [cellsAt_pre]
    exact T.mono hle (by simpa [cellsAt] using hel i x hx)
theorem orep_tight {X : List α} (h : ORep T R f v X) (hle : RH.le R R1) (hb : ∀ k o, f k = some o → R1.blk k = some o) (ht : t = true → capOf v = X.length) : VRep (tSl t T) R1 v X := by
  have := orep_read h hle hb
  cases t
  · exact sl_f this
  · exact sl_t this (ht rfl)
theorem n2_read {X : List (List α)} (h : N2 t T R F v Vs X) (hle : RH.le R R1) (hb : ∀ k o, F k = some o → R1.blk k = some o) : VRep (tSlice (tSl t T)) R1 v X := by
  obtain ⟨f0, Fs, hl, h0, hF0, ⟨hr1, hr2, hr3⟩, hap, ht⟩ := h
  have hrow : ∀ j, j < X.length → VRep (tSl t T) R1 (Vs.getD j default) (X.getD j default) := fun j hj =>
    orep_tight (hr2 j hj (fun h => h)).1 hle (fun k o hk => hb k o ((hr2 j hj (fun h => h)).2 k o hk)) (fun e => ht e j hj (fun h => h))
  rcases h0 with ⟨rfl, rfl, rfl⟩ | ⟨b, pre, cs, cap, bt, rfl, rfl, hc, hcl, hcc, hel⟩
  · obtain rfl : X = [] := List.eq_nil_of_length_eq_zero (by simpa using hl.symm)
    exact vrep_nil
  · rw [hl] at hc ⊢
    refine vrep_slice.2 ⟨_, cap, rfl, hc, fun e => by (cases e), .inr ⟨b, pre.length, (pre ++ cs).toArray, bt, (0, 0), rfl, hb _ _ (hF0 _ _ (single_same _ _)), fun i x hx => ?_⟩⟩
    rw [cellsAt_pre]
    have hi : i < X.length := (List.getElem?_eq_some_iff.1 hx).1
    have hv : Vs[i]? = some (Vs.getD i default) := getD_some (by omega)
    obtain ⟨hcc', ho⟩ := hel i _ hv
    have hxe : X.getD i default = x := by simp [List.getD_eq_getElem?_getD, hx]
    have h2 := rep_one rfl (hrow i hi)
    rw [hxe] at h2
    show (tSl t T).rep R1 ((cs.drop (i * 1)).take 1) x
    rw [show (cs.drop (i * 1)).take 1 = [Vs.getD i default] from hcc']
    exact h2
theorem add_blk {O : List Frag} {w : World} (hh : Holds R (F :: O) w) : ∀ k o, F k = some o → (R.add F).blk k = some o := fun k o hk => by
  have := (hh.own F (List.mem_cons_self ..) k o hk).2
  simp [RH.add, this, hk]
end read
section frz
variable {P : Program} {ρ : Option Nat} {n : Nat} {Q : Po} {l : Nat → Value} {D : List Nat} {R : RH} {O : List Frag} {ops : Array Oper} {os : List Oper} {c : Code} {α : Type} {t : Bool} {T : Ty α} {i : Nat} {F : Frag} {v : Value} {X : List (List α)}
theorem wg_freezeN (hi : O[i]? = some F) (h : NRep t T R F v X) (k : ∀ R', RH.le R R' → VRep (tSlice (tSl t T)) R' v X → wg P ρ n c Q l D R' (O.eraseIdx i)) : wg P ρ n c Q l D R O := fun a w hf hh =>
  let ⟨Vs, h⟩ := h
  k (R.add F) (RH.le_add _ _) (n2_read h (RH.le_add _ _) (add_blk (holds_focus hi hh))) a w hf (conv_freeze hi _ w hh)
end frz
section appT
variable {P : Program} {ρ : Option Nat} {l : Nat → Value} {R : RH} {O : List Frag} {dst : Option Tmp} {ty : TypeId} {pos : String} {after : Array Go.Edge} {g : Option (Nat × Bool)} {α : Type} {T : Ty α}
theorem eff_appF {z : α} {bytes : Nat} {t e : TypeId} {x y : Operand} {f : Frag} {v u : Value} {X Y : List α}
    (hu : P.underlying t = some (.slice e)) (hz : ZeroOk P e T z bytes) (hx : ev l x = v) (hy : ev l y = u) (hv : ORep T R f v X) (hu' : VRep (tSlice T) R u Y)
    (hb : (X.length + Y.length) * bytes ≤ 140737488355328) (hm : X.length + Y.length ≤ 9223372036854775807) :
    Eff P ρ ⟨dst, .call ⟨.builtin .append, #[x, y], #[t, t]⟩, ty, pos, after, g⟩ l R ([f] ++ O) (fun v' R' O' => ∃ Oc, O' = Oc ++ O ∧ Oc = [] ∧ phR (tSl false T) (X ++ Y) v' R') := by
  intro A w hh
  refine out_mono (eff_append (i := 0) hu hz hx hy rfl hv hu' hb hm A w hh) ?_
  rintro v' w' ⟨R', O', hle, hh', rfl, f', rfl, ho⟩
  exact ⟨R'.add f', O, hle.trans (RH.le_add _ _), holds_freeze hh', [], rfl, rfl, sl_f (vrep_freeze ho hh')⟩
end appT

section sliceO
variable {P : Program} {ρ : Option Nat} {l : Nat → Value} {R : RH} {O : List Frag} {α : Type} {T : Ty α}
theorem val_sliceO {t e : TypeId} {lo hi mx : Nat} {x : Operand} {xlo xhi xmx : Option Operand} {f : Frag} {v : Value} {X : List α} (ht : SlOk P t e T) (hx : ev l x = v) (hr : ORep T R f v X)
    (hlo : xlo.map (ev l) = none ∧ lo = 0 ∨ ∃ k, xlo.map (ev l) = some (.int k lo)) (hhi : xhi.map (ev l) = none ∧ hi = X.length ∧ xmx = none ∨ ∃ k, xhi.map (ev l) = some (.int k hi))
    (hmx : xmx.map (ev l) = none ∧ mx = capOf v ∨ ∃ k, xmx.map (ev l) = some (.int k mx)) (h1 : lo ≤ hi) (h2 : hi ≤ X.length) (h3 : hi ≤ mx) (h4 : mx ≤ capOf v) :
    ∃ u, ORep T R f u ((X.drop lo).take (hi - lo)) ∧ capOf u = mx - lo ∧ ∀ (dst : Option Tmp) (ty : TypeId) (pos : String) (after : Array Go.Edge) (g : Option (Nat × Bool)), Val P ρ ⟨dst, .slice t x xlo xhi xmx, ty, pos, after, g⟩ l R O u := by
  obtain ⟨p, hv, hc⟩ := orep_slice hr
  refine ⟨.slice (if mx = lo then p else p.map (·.add (lo * T.size))) (hi - lo) (mx - lo), ?_, rfl, fun dst ty pos after g A w hh => ?_⟩
  · have hlen : ((X.drop lo).take (hi - lo)).length = hi - lo := by simp; omega
    rcases hr with ⟨rfl, rfl, rfl⟩ | ⟨b, pre, cs, cap, bt, rfl, rfl, hcc, hcl, hce, hel⟩
    · have : mx = 0 := by simpa [capOf] using h4
      have : lo = 0 := by omega
      have : hi = 0 := by omega
      subst_vars
      simp only [Value.slice.injEq] at hv
      obtain ⟨rfl, _⟩ := hv
      exact .inl ⟨rfl, by simp, rfl⟩
    · simp only [Value.slice.injEq, capOf] at hv h4 hc
      obtain ⟨rfl, _⟩ := hv
      right
      by_cases hm : mx = lo
      · refine ⟨b, pre, cs, 0, bt, ?_, rfl, ?_, by simp, hce, fun i x hx => ?_⟩
        · rw [if_pos hm, hlen]; simp only [Value.slice.injEq, true_and]; omega
        · rw [hlen]; omega
        · rw [show hi - lo = 0 by omega, List.take_zero] at hx; simp at hx
      · have hle : lo * T.size ≤ cs.length := Nat.le_trans (Nat.mul_le_mul_right _ (by omega : lo ≤ cap)) hcl
        refine ⟨b, pre ++ cs.take (lo * T.size), cs.drop (lo * T.size), mx - lo, bt, ?_, ?_, by rw [hlen]; omega, ?_, ?_, fun i x hx => ?_⟩
        · rw [if_neg hm, hlen]; simp [addr_add, Nat.min_eq_left hle]
        · rw [List.append_assoc, List.take_append_drop]
        · rw [List.length_drop, Nat.sub_mul]
          have := Nat.mul_le_mul_right T.size h4
          omega
        · rw [List.append_assoc, List.take_append_drop]; exact hce
        · rw [List.getElem?_take] at hx
          split at hx
          · rw [List.getElem?_drop] at hx
            have := hel (lo + i) x hx
            rwa [List.drop_drop, ← Nat.add_mul]
          · cases hx
  · rw [sem_plain (by intro c h; cases h)]
    exact run_sliceOp ht.u ht.e.size (hx.trans hv) hlo hhi hmx h1 h3 h4 (fun _ => by omega)
end sliceO
section sliceQ
variable {P : Program} {ρ : Option Nat} {n : Nat} {Q : Po} {l : Nat → Value} {D : List Nat} {R : RH} {O : List Frag} {ops : Array Oper} {rest : List Oper} {ty : TypeId} {pos : String} {after : Array Go.Edge} {d : Nat} {α : Type} {T : Ty α}
theorem wo_sliceQ {t e : TypeId} {lo hi mx : Nat} {x : Operand} {xlo xhi xmx : Option Operand} {f : Frag} {v : Value} {X : List α} (hd : Nat.blt d n = true) (ht : SlOk P t e T) (hx : ev l x = v) (hr : ORep T R f v X)
    (hlo : xlo.map (ev l) = none ∧ lo = 0 ∨ ∃ k, xlo.map (ev l) = some (.int k lo)) (hhi : xhi.map (ev l) = none ∧ hi = X.length ∧ xmx = none ∨ ∃ k, xhi.map (ev l) = some (.int k hi))
    (hmx : xmx.map (ev l) = none ∧ mx = capOf v ∨ ∃ k, xmx.map (ev l) = some (.int k mx)) (h1 : lo ≤ hi) (h2 : hi ≤ X.length) (h3 : hi ≤ mx) (h4 : mx ≤ capOf v)
    (hk : ∀ u, ORep T R f u ((X.drop lo).take (hi - lo)) → capOf u = mx - lo → wo P ρ n ops Q rest (upd l d u) D R O) : wo P ρ n ops Q (⟨some d, .slice t x xlo xhi xmx, ty, pos, after, none⟩ :: rest) l D R O := by
  obtain ⟨u, hu, hc, hv⟩ := val_sliceO (P := P) (ρ := ρ) (O := O) ht hx hr hlo hhi hmx h1 h2 h3 h4
  exact wo_v hd (hv _ _ _ _ _) (hk u hu hc)
end sliceQ

theorem fill_congr {place : Nat → Option (Nat × Nat)} : ∀ (ps ps' : List (Nat × Value)) (cells : Array Value), ps.map (fun p => (p.1, p.2.cells)) = ps'.map (fun p => (p.1, p.2.cells)) → Instr.fill place cells ps = Instr.fill place cells ps'
  | [], [], _, _ => rfl
  | [], _ :: _, _, h => by simp at h
  | _ :: _, [], _, h => by simp at h
  | (i, v) :: r, (j, u) :: r', cells, h => by
    simp only [List.map_cons, List.cons.injEq, Prod.mk.injEq] at h
    obtain ⟨⟨rfl, h1⟩, h2⟩ := h
    simp only [Instr.fill, h1]
    cases place i with
    | none => rfl
    | some q => simp only []; rw [fill_congr r r' _ h2]
theorem val_buildC {P : Program} {ρ : Option Nat} {l : Nat → Value} {R : RH} {O : List Frag} {dst : Option Tmp} {ty : TypeId} {pos : String} {after : Array Go.Edge} {g : Option (Nat × Bool)} {t : TypeId} {parts : List (Nat × Operand)} {ps : List (Nat × Value)} (ps' : List (Nat × Value)) {v : Value} (hp : (parts.map fun x => (x.1, ev l x.2)) = ps)
    (hc : ps.map (fun p => (p.1, p.2.cells)) = ps'.map (fun p => (p.1, p.2.cells))) (h : ∀ w, (Instr.build t ps'.toArray).run P w = .ok v w) : Val P ρ ⟨dst, .build t parts.toArray, ty, pos, after, g⟩ l R O v :=
  val_buildL hp fun w => by
    have : (Instr.build t ps.toArray) = (Instr.build t ps'.toArray) := by
      simp only [Instr.build, fill_congr (place := _) ps ps' _ hc]
    rw [this]; exact h w

section step
variable {P : Program} {ρ : Option Nat} {n : Nat} {Q : Po} {l : Nat → Value} {D : List Nat} {R : RH} {O : List Frag} {ops : Array Oper} {rest : List Oper} {ty : TypeId} {pos : String} {after : Array Go.Edge} {d : Nat}
theorem wo_turn {op : Op} {Oc Or : List Frag} {φ : Value → RH → List Frag → Prop} (hd : Nat.blt d n = true) (hp : O.Perm (Oc ++ Or)) (h : Eff P ρ ⟨some d, op, ty, pos, after, none⟩ l R (Oc ++ Or) (fun v R' O' => ∃ Oc', O' = Oc' ++ Or ∧ φ v R' Oc'))
    (hk : ∀ v R' Oc', RH.le R R' → φ v R' Oc' → wo P ρ n ops Q rest (upd l d v) D R' (Oc' ++ Or)) : wo P ρ n ops Q (⟨some d, op, ty, pos, after, none⟩ :: rest) l D R O :=
  wo_eff1 hd (eff_perm hp h) fun v R' O' hle ⟨Oc', e, hp⟩ => by subst e; exact hk v R' Oc' hle hp
theorem wo_turn0 {op : Op} {Oc Or : List Frag} {φ : Value → RH → List Frag → Prop} (hp : O.Perm (Oc ++ Or)) (h : Eff P ρ ⟨none, op, ty, pos, after, none⟩ l R (Oc ++ Or) (fun v R' O' => ∃ Oc', O' = Oc' ++ Or ∧ φ v R' Oc'))
    (hk : ∀ v R' Oc', RH.le R R' → φ v R' Oc' → wo P ρ n ops Q rest l D R' (Oc' ++ Or)) : wo P ρ n ops Q (⟨none, op, ty, pos, after, none⟩ :: rest) l D R O :=
  wo_eff0 (eff_perm hp h) fun v R' O' hle ⟨Oc', e, hp⟩ => by subst e; exact hk v R' Oc' hle hp
end step
end GV
end Go.Proofs.Ytncblcdhmcmkmaa
