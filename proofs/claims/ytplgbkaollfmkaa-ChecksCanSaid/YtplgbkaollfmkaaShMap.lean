
import Derived.Test.YtplgbkaollfmkaaShFree
import Derived.MapKept
set_option linter.unusedVariables false
set_option linter.unusedSimpArgs false
namespace Go.Proofs.Ytplgbkaollfmkaa
namespace GV
def NRep {α : Type} (t : Bool) (T : Ty α) (R : RH) (F : Frag) (v : Value) (X : List (List α)) : Prop := ∃ Vs, N2 t T R F v Vs X
theorem NRep.mono {α : Type} {t : Bool} {T : Ty α} {R R' : RH} {F : Frag} {v : Value} {X : List (List α)} (h : NRep t T R F v X) (hle : RH.le R R') : NRep t T R' F v X := let ⟨Vs, a⟩ := h; ⟨Vs, a.mono hle⟩
theorem ng {α : Type} {t : Bool} {T : Ty α} {R : RH} {F : Frag} {v : Value} {Vs : List Value} {X : List (List α)} (h : N2 t T R F v Vs X) : NRep t T R F v X := ⟨Vs, h⟩
theorem zbu {P : Program} {t : TypeId} {α : Type} {T : Ty α} {b : Bool} (h : TyOk P t (tSl b T)) : TyOk P t tHdr := ⟨h.agg, h.size⟩
theorem ze1 {P : Program} {t e : TypeId} {α : Type} {T : Ty α} {b : Bool} (h : SlOk P t e (tSl b T)) : SlOk P t e tHdr := ⟨h.u, zbu h.e⟩
theorem zs5 {R : RH} {w y : Value} (h : VRep tHdr R w y) : w = y := by obtain ⟨cs, ⟨rfl, _⟩, rfl⟩ := h; rfl
theorem zif {R : RH} {w : Value} (h : w.oneCell' = true) : tHdr.rep R [w] w := ⟨rfl, h⟩
theorem zq5 {α : Type} {t : Bool} {T : Ty α} {R : RH} {F : Frag} {v : Value} {Vs : List Value} {X : List (List α)} (h : N2 t T R F v Vs X) : v.oneCell' = true := let ⟨_, h0, _⟩ := h.o; xz h0
theorem zql {α : Type} {t : Bool} {T : Ty α} {R : RH} {F : Frag} {v : Value} {Vs : List Value} {X : List (List α)} (h : N2 t T R F v Vs X) : v.cells = ([v] : List Value).toArray := let ⟨_, h0, _⟩ := h.o; ma h0
theorem ztt {α : Type} {t : Bool} {T : Ty α} {R : RH} {F : Frag} {v : Value} {Vs : List Value} {X : List (List α)} (h : N2 t T R F v Vs X) {r : Nat} (hr : r < X.length) (e : t = true) : capOf (Vs.getD r default) = (X.getD r default).length :=
  let ⟨_, _, _, _, _, _, _, g⟩ := h; g e r hr (fun h => h)
theorem z95 {v : Value} (h : v.oneCell' = true) : v.cells = ([v] : List Value).toArray := by
  cases v <;> first | rfl | (simp [Value.oneCell'] at h; done)
section ops
variable {P : Program} {ρ : Option Nat} {l : Nat → Value} {R : RH} {O : List Frag} {dst : Option Tmp} {ty : TypeId} {pos : String} {after : Array Go.Edge} {g : Option (Nat × Bool)} {α : Type} {t : Bool} {T : Ty α} {F : Frag} {v : Value} {Vs : List Value} {X : List (List α)}
theorem z6i {tt e : TypeId} {x ix : Operand} {k : IntKind} {i : Nat} (ht : SlOk P tt e tHdr) (hx : ev l x = v) (h : N2 t T R F v Vs X) (hi : ev l ix = .int k i) (hy : i < X.length) :
    Eff P ρ ⟨dst, .indexAddr tt x ix, ty, pos, after, g⟩ l R O (fun v' R' O' => O' = O ∧ (fun u _ => z0e tHdr v Vs u i) v' R') := by
  obtain ⟨f0, h0, _, hl⟩ := h.o
  exact bg ht hx h0 hi (by omega)
theorem z88 {tt : TypeId} {x : Operand} {u : Value} {i j : Nat} (ht : TyOk P tt tHdr) (h : N2 t T R F v Vs X) (hO : O[j]? = some F) (hx : ev l x = u) (hp : z0e tHdr v Vs u i) (hy : i < X.length) :
    Eff P ρ ⟨dst, .load tt x, ty, pos, after, g⟩ l R O (fun v' R' O' => O' = O ∧ phX (Vs.getD i default) v' R') := by
  obtain ⟨f0, h0, hF, hl⟩ := h.o
  obtain ⟨w, hw, hv⟩ := zi5 (ρ := ρ) (P := P) ht h0 hF hO hx hp (getD_some (by omega))
  exact (hv dst ty pos after g).eff.mono fun v' R' O' _ ⟨a, b, c⟩ => ⟨c, a.trans (zs5 hw)⟩
theorem z5b {tt e : TypeId} {x ix : Operand} {k : IntKind} {i r : Nat} (ht : SlOk P tt e T) (h : N2 t T R F v Vs X) (hr : r < X.length) (hx : ev l x = Vs.getD r default) (hi : ev l ix = .int k i) (hy : i < (X.getD r default).length) :
    Eff P ρ ⟨dst, .indexAddr tt x ix, ty, pos, after, g⟩ l R O (fun v' R' O' => O' = O ∧ (fun u _ => z0e T (Vs.getD r default) (X.getD r default) u i) v' R') :=
  let ⟨fk, h1, _⟩ := h.row hr; bg ht hx h1 hi hy
theorem zod [Inhabited α] {tt : TypeId} {x : Operand} {u : Value} {i r j : Nat} (ht : TyOk P tt T) (h : N2 t T R F v Vs X) (hr : r < X.length) (hO : O[j]? = some F) (hx : ev l x = u) (hp : z0e T (Vs.getD r default) (X.getD r default) u i) (hy : i < (X.getD r default).length) :
    Eff P ρ ⟨dst, .load tt x, ty, pos, after, g⟩ l R O (fun v' R' O' => O' = O ∧ phR T ((X.getD r default).getD i default) v' R') := by
  obtain ⟨f0, h0, hF⟩ := h.row hr
  obtain ⟨w, hw, hv⟩ := zi5 (ρ := ρ) (P := P) ht h0 hF hO hx hp (getD_some hy)
  exact (hv dst ty pos after g).eff.mono fun v' R' O' _ ⟨a, b, c⟩ => by subst a; subst b; exact ⟨c, hw⟩
theorem zm2 {tt : TypeId} {x y : Operand} {u w : Value} {i r : Nat} {z : α} (ht : TyOk P tt T) (h : N2 t T R F v Vs X) (hr : r < X.length) (hx : ev l x = u) (hp : z0e T (Vs.getD r default) (X.getD r default) u i) (hi : i < (X.getD r default).length)
    (hy : ev l y = w) (hz : VRep T R w z) : Eff P ρ ⟨dst, .store tt x y, ty, pos, after, g⟩ l R ([F] ++ O) (fun v' R' O' => ∃ Oc, O' = Oc ++ O ∧ R' = R ∧ ∃ F', Oc = [F'] ∧ N2 t T R F' v Vs (X.set r ((X.getD r default).set i z))) := by
  obtain ⟨fk, h1, hF, hh⟩ := h.hole hr
  refine zfu (O1 := [fk]) (Or := minus F fk :: O) (fun A w hw => z9u hw hF) (z9w (j := 0) ht h1 rfl hx hp hi hy hz) ?_
  rintro v' R' O1' hle ⟨rfl, f', rfl, ho⟩ A w hw
  refine ⟨z3e f' (minus F fk) :: O, z8p hw, _, rfl, rfl, _, rfl, N2h.fill (u := default) hh hr ho (zjw hw) fun e => ?_⟩
  rw [List.length_set]; exact ztt h hr e
theorem zm0 {f g h : Frag} (a : Apart f g) (b : Apart f h) : Apart f (z3e g h) := fun k => by
  unfold z3e
  cases e : g k with
  | none => exact b k
  | some o => rcases a k with h1 | h1
              · exact .inl h1
              · rw [e] at h1; cases h1
theorem zln {f0 : Frag} {Fs : List Frag} (hrow : Rows T R F Vs X Fs (fun _ => False)) (hap : ∀ j, j < X.length → Apart f0 (Fs.getD j emp)) : Rows T R (minus F f0) Vs X Fs (fun _ => False) :=
  ⟨hrow.1, fun j hj n => ⟨(hrow.2.1 j hj n).1, zdi (hrow.2.1 j hj n).2 (hap j hj)⟩, hrow.2.2⟩
theorem z2e {β : Type} {X Y : List β} {j : Nat} {d : β} (h : j < X.length) : (X ++ Y).getD j d = X.getD j d := by
  simp [List.getD_eq_getElem?_getD, List.getElem?_append_left h]
theorem zom {β : Type} {X : List β} {y d : β} : (X ++ [y]).getD X.length d = y := by
  simp [List.getD_eq_getElem?_getD]
theorem z3t {β : Type} {X : List β} {y d : β} {j : Nat} (h : j = X.length) : (X ++ [y]).getD j d = y := h ▸ zom
theorem zva {f0' f G : Frag} {Fs : List Frag} {w v' : Value} {Y : List α} (hl : Vs.length = X.length) (h0 : ORep tHdr R f0' v' (Vs ++ [w])) (hf : ORep T R f w Y) (hrow : Rows T R G Vs X Fs (fun _ => False)) (a1 : Apart f0' f) (a2 : Apart f0' G) (a3 : Apart f G)
    (htt : zll t Vs X (fun _ => False)) (hc : t = true → capOf w = Y.length) : N2 t T R (z3e f0' (z3e f G)) v' (Vs ++ [w]) (X ++ [Y]) := by
  obtain ⟨hr1, hr2, hr3⟩ := hrow
  have n : ∀ j, ¬ (fun (_ : Nat) => False) j := fun _ h => h
  have hj : Apart f0' (z3e f G) := zm0 a1 a2
  have hFk : Has (z3e f0' (z3e f G)) f := (z8d hj).trans zdx
  have hFG : Has (z3e f0' (z3e f G)) G := (z8d hj).trans (z8d a3)
  have at_ : ∀ j, j < (X ++ [Y]).length → j < X.length ∨ j = X.length := fun j hj => by simp at hj; omega
  refine ⟨f0', Fs ++ [f], by simp [hl], h0, zdx, ⟨by simp [hr1], fun j hj _ => ?_, fun i j hi hj _ _ hij => ?_⟩, fun j hj => ?_, fun e j hj _ => ?_⟩
  · rcases at_ j hj with e | e
    · rw [z2e (by omega), z2e (by omega), z2e e]; exact ⟨(hr2 j e (n j)).1, hFG.trans (hr2 j e (n j)).2⟩
    · rw [z3t (by omega), z3t (by omega), z3t e]; exact ⟨hf, hFk⟩
  · rcases at_ i hi with e1 | e1
    · rcases at_ j hj with e2 | e2
      · rw [z2e (by omega), z2e (by omega)]; exact hr3 i j e1 e2 (n i) (n j) hij
      · rw [z2e (by omega), z3t (by omega)]; exact ((hr2 i e1 (n i)).2.apart a3).symm
    · rcases at_ j hj with e2 | e2
      · rw [z3t (by omega), z2e (by omega)]; exact (hr2 j e2 (n j)).2.apart a3
      · omega
  · rcases at_ j hj with e | e
    · rw [z2e (by omega)]; exact (hr2 j e (n j)).2.apart a2
    · rw [z3t (by omega)]; exact a1
  · rcases at_ j hj with e' | e'
    · rw [z2e (by omega), z2e e']; exact htt e j e' (n j)
    · rw [z3t (by omega), z3t e']; exact hc e
theorem za1 {z : Value} {bytes : Nat} {tt e : TypeId} {x y : Operand} {u w : Value} {f : Frag} {Y : List α} (hu : P.underlying tt = some (.slice e)) (hz : ZeroOk P e tHdr z bytes) (hx : ev l x = v) (hy : ev l y = u) (h : N2 t T R F v Vs X) (hf : ORep T R f w Y) (hu' : VRep (xx tHdr) R u [w])
    (hc : t = true → capOf w = Y.length) (hb : (X.length + 1) * bytes ≤ 140737488355328) (hm : X.length + 1 ≤ 9223372036854775807) :
    Eff P ρ ⟨dst, .call ⟨.builtin .append, #[x, y], #[tt, tt]⟩, ty, pos, after, g⟩ l R ([F, f] ++ O) (fun v' R' O' => ∃ Oc, O' = Oc ++ O ∧ R' = R ∧ ∃ F', Oc = [F'] ∧ N2 t T R F' v' (Vs ++ [w]) (X ++ [Y])) := by
  obtain ⟨f0, Fs, hl, h0, hF0, hrow, hap, htt⟩ := h
  refine zfu (O1 := [f0]) (Or := minus F f0 :: f :: O) (fun A w hw => z9u hw hF0) (z8r (i := 0) hu hz hx hy rfl h0 hu' (by rw [hl]; simpa using hb) (by rw [hl]; simpa using hm)) ?_
  rintro v' R' O1' hle ⟨rfl, f', rfl, ho⟩ A w' hw
  have h1 : Holds R' (f' :: f :: minus F f0 :: (O ++ A)) w' := yz hw ((List.Perm.swap f _ _).cons _)
  obtain ⟨s1, s2⟩ := List.pairwise_cons.1 h1.sep
  obtain ⟨s3, s4⟩ := List.pairwise_cons.1 s2
  have a1 : Apart f' f := fun i => s1 f (by simp) i
  have a2 : Apart f' (minus F f0) := fun i => s1 _ (by simp) i
  have a3 : Apart f (minus F f0) := fun i => s3 _ (by simp) i
  refine ⟨z3e f' (z3e f (minus F f0)) :: O, ?_, _, rfl, rfl, _, rfl, zva hl ho hf (zln hrow hap) a1 a2 a3 htt hc⟩
  have h2 : Holds R' (f :: minus F f0 :: f' :: (O ++ A)) w' := yz h1 ((List.Perm.swap f f' _).trans ((List.Perm.swap _ f' _).cons f))
  exact z8p (yz (z8p h2) (List.Perm.swap f' _ _))
end ops
section read
variable {α : Type} {t : Bool} {T : Ty α} {R R1 : RH} {f F : Frag} {v : Value} {Vs : List Value}
theorem zos {X : List α} (h : ORep T R f v X) (hle : RH.le R R1) (hb : ∀ k o, f k = some o → R1.blk k = some o) : VRep (xx T) R1 v X := by
  rcases h with ⟨rfl, rfl, rfl⟩ | ⟨b, pre, cs, cap, bt, rfl, rfl, hc, hcl, hcc, hel⟩
  · exact za0
  · refine dm.2 ⟨_, cap, rfl, hc, fun e => by (cases e), .inr ⟨b, pre.length, (pre ++ cs).toArray, bt, (0, 0), rfl, hb _ _ (ui _ _), fun i x hx => ?_⟩⟩
    rw [z1l]
    exact T.mono hle (by simpa [wm] using hel i x hx)
theorem zlr {X : List α} (h : ORep T R f v X) (hle : RH.le R R1) (hb : ∀ k o, f k = some o → R1.blk k = some o) (ht : t = true → capOf v = X.length) : VRep (tSl t T) R1 v X := by
  have := zos h hle hb
  cases t
  · exact z6q this
  · exact z1e this (ht rfl)
theorem znc {X : List (List α)} (h : N2 t T R F v Vs X) (hle : RH.le R R1) (hb : ∀ k o, F k = some o → R1.blk k = some o) : VRep (xx (tSl t T)) R1 v X := by
  obtain ⟨f0, Fs, hl, h0, hF0, ⟨hr1, hr2, hr3⟩, hap, ht⟩ := h
  have hrow : ∀ j, j < X.length → VRep (tSl t T) R1 (Vs.getD j default) (X.getD j default) := fun j hj =>
    zlr (hr2 j hj (fun h => h)).1 hle (fun k o hk => hb k o ((hr2 j hj (fun h => h)).2 k o hk)) (fun e => ht e j hj (fun h => h))
  rcases h0 with ⟨rfl, rfl, rfl⟩ | ⟨b, pre, cs, cap, bt, rfl, rfl, hc, hcl, hcc, hel⟩
  · obtain rfl : X = [] := List.eq_nil_of_length_eq_zero (by simpa using hl.symm)
    exact za0
  · rw [hl] at hc ⊢
    refine dm.2 ⟨_, cap, rfl, hc, fun e => by (cases e), .inr ⟨b, pre.length, (pre ++ cs).toArray, bt, (0, 0), rfl, hb _ _ (hF0 _ _ (ui _ _)), fun i x hx => ?_⟩⟩
    rw [z1l]
    have hi : i < X.length := (List.getElem?_eq_some_iff.1 hx).1
    have hv : Vs[i]? = some (Vs.getD i default) := getD_some (by omega)
    obtain ⟨hcc', ho⟩ := hel i _ hv
    have hxe : X.getD i default = x := by simp [List.getD_eq_getElem?_getD, hx]
    have h2 := u7 rfl (hrow i hi)
    rw [hxe] at h2
    show (tSl t T).rep R1 ((cs.drop (i * 1)).take 1) x
    rw [show (cs.drop (i * 1)).take 1 = [Vs.getD i default] from hcc']
    exact h2
theorem zsx {O : List Frag} {w : World} (hh : Holds R (F :: O) w) : ∀ k o, F k = some o → (R.add F).blk k = some o := fun k o hk => by
  have := (hh.own F (List.mem_cons_self ..) k o hk).2
  simp [RH.add, this, hk]
end read
section frz
variable {P : Program} {ρ : Option Nat} {n : Nat} {Q : Po} {l : Nat → Value} {D : List Nat} {R : RH} {O : List Frag} {ops : Array Oper} {os : List Oper} {c : Code} {α : Type} {t : Bool} {T : Ty α} {i : Nat} {F : Frag} {v : Value} {X : List (List α)}
theorem zg6 (hi : O[i]? = some F) (h : NRep t T R F v X) (k : ∀ R', RH.le R R' → VRep (xx (tSl t T)) R' v X → wg P ρ n c Q l D R' (O.eraseIdx i)) : wg P ρ n c Q l D R O := fun a w hf hh =>
  let ⟨Vs, h⟩ := h
  k (R.add F) (RH.le_add _ _) (znc h (RH.le_add _ _) (zsx (z7h hi hh))) a w hf (z7n hi _ w hh)
theorem zv2 {R1 : RH} (i : Nat) (hi : O[i]? = some F) (h : NRep t T R F v X) (hle : RH.le R R1) (hl : ∀ f ∈ O, ∀ k o, f k = some o → R1.blk k = some o) : VRep (xx (tSl t T)) R1 v X :=
  let ⟨Vs, h⟩ := h
  znc h hle (hl F (List.mem_of_getElem? hi))
end frz
section appT
variable {P : Program} {ρ : Option Nat} {l : Nat → Value} {R : RH} {O : List Frag} {dst : Option Tmp} {ty : TypeId} {pos : String} {after : Array Go.Edge} {g : Option (Nat × Bool)} {α : Type} {T : Ty α}
theorem zj2 {t e : TypeId} {i : TypeInfo} {k : Nat} {w : World} {a : Addr} {n cap : Nat} {u : Value} {p : Option Addr} {c : Nat} (ht : P.underlying t = some (.slice e)) (hi : P.info? e = some i) (hs : i.size = k) (hu0 : u = .slice p 0 c) (hnew : (Builtin.firstCells k 0 u).run P w = .ok #[] w) (hn : n ≤ cap) :
    (Builtin.append_ #[t, t] ty #[.slice (some a) n cap, u]).run P w = .ok (.slice (some a) n cap) w := by
  subst hu0; subst hs
  simp [Builtin.append_, run_underlying ht, sizeOf, typeInfo, hi, Builtin.lenOf, hnew, hn, storeCells]
theorem zr7 {z : α} {bytes : Nat} {t e : TypeId} {x y : Operand} {v u : Value} {X Y : List α}
    (hu : P.underlying t = some (.slice e)) (hz : ZeroOk P e T z bytes) (hx : ev l x = v) (hy : ev l y = u) (hv : VRep (tSl true T) R v X) (hu' : VRep (xx T) R u Y)
    (hb : (X.length + Y.length) * bytes ≤ 140737488355328) (hm : X.length + Y.length ≤ 9223372036854775807) :
    Eff P ρ ⟨dst, .call ⟨.builtin .append, #[x, y], #[t, t]⟩, ty, pos, after, g⟩ l R O (fun v' R' O' => R' = R ∧ ((Y = [] ∧ O' = O ∧ v' = v) ∨ ∃ f', O' = f' :: O ∧ ORep T R f' v' (X ++ Y))) := by
  intro A w hh; rw [jg (by intro c h; cases h)]
  obtain ⟨inf, zv, k1, k2, k3, k4, k5⟩ := hz.info
  obtain ⟨cy, p, n, rfl, hsy, hload⟩ := z9g hu'
  have hcy : cy.length = Y.length * T.size := hsy.len
  have hnew : ∀ w', w'.heap = w.heap → (Builtin.firstCells T.size Y.length (.slice p Y.length n)).run P w' = .ok cy.toArray w' := fun w' hw' =>
    hload w' fun k o hk => by rw [hw']; exact hh.ro k o hk
  obtain ⟨cx, px, nx, hvx, hsx, hloadx⟩ := z9g (j6 hv)
  have hcap : nx = X.length := by
    have := zx7 hv
    rw [hvx] at this; exact this
  subst hcap
  subst hvx
  by_cases hY : Y = []
  · subst hY
    have hc0 : cy = [] := List.length_eq_zero_iff.1 (by simpa using hcy)
    subst hc0
    have h0 := hnew w rfl
    cases px with
    | none =>
      obtain ⟨p', n', e', hn', hp', _⟩ := dm.1 (j6 hv)
      simp only [Value.slice.injEq] at e'
      obtain rfl := hp' e'.1.symm
      rw [z3x hx hy (z9b hu k1 k3 rfl h0)]
      exact ⟨R, O, RH.le.refl _, hh, rfl, .inl ⟨rfl, rfl, rfl⟩⟩
    | some a =>
      rw [z3x hx hy (zj2 hu k1 k3 rfl h0 (Nat.le_refl _))]
      exact ⟨R, O, RH.le.refl _, hh, rfl, .inl ⟨rfl, rfl, rfl⟩⟩
  · have hpos : 0 < Y.length := List.length_pos_iff.2 hY
    rw [z3x hx hy (zcn (T := T) (olds := cx) hu k1 k2 k3 k4 rfl (fun w' hw' => hloadx w' fun k o hk => by rw [hw']; exact hh.ro k o hk) rfl hnew (by omega) hm hb)]
    have hcap := grownCap_ge w (X.length + Y.length) X.length e
    obtain ⟨hzc, hzl⟩ := zda (k5 R) (grownCap w (X.length + Y.length) X.length e - (X.length + Y.length))
    have hal := z5l (z8w hh) (.cells ((cx ++ cy) ++ (Builtin.zeroCells zv.cells (grownCap w (X.length + Y.length) X.length e - (X.length + Y.length))).toList).toArray e (0, 0))
    have hor := za2 (b := w.heap.size) (bt := e) (cap := grownCap w (X.length + Y.length) X.length e) (hsx.append hsy) (rest := (Builtin.zeroCells zv.cells (grownCap w (X.length + Y.length) X.length e - (X.length + Y.length))).toList)
      (by rw [List.length_append]; exact hcap) (by rw [List.length_append, List.length_append, hsx.len, hcy, hzl, ← Nat.add_mul, ← Nat.add_mul]; exact Nat.mul_le_mul_right _ (by omega)) hzc
    have e1 : (cx.toArray ++ cy.toArray ++ Builtin.zeroCells zv.cells (grownCap w (X.length + Y.length) X.length e - (X.length + Y.length))) = ((cx ++ cy) ++ (Builtin.zeroCells zv.cells (grownCap w (X.length + Y.length) X.length e - (X.length + Y.length))).toList).toArray := by
      apply Array.ext'; simp
    rw [e1]
    exact ⟨R, _ :: O, RH.le.refl _, hal, rfl, .inr ⟨_, rfl, by rw [List.length_append] at hor; exact hor⟩⟩
theorem zsz {z : α} {bytes : Nat} {t e : TypeId} {x y : Operand} {v u : Value} {X Y : List α}
    (hu : P.underlying t = some (.slice e)) (hz : ZeroOk P e T z bytes) (hx : ev l x = v) (hy : ev l y = u) (hv : VRep (tSl true T) R v X) (hu' : VRep (xx T) R u Y)
    (hb : (X.length + Y.length) * bytes ≤ 140737488355328) (hm : X.length + Y.length ≤ 9223372036854775807) :
    Eff P ρ ⟨dst, .call ⟨.builtin .append, #[x, y], #[t, t]⟩, ty, pos, after, g⟩ l R O (fun v' R' O' => O' = O ∧ phR (tSl false T) (X ++ Y) v' R') := by
  intro A w hh
  refine z6m (zr7 hu hz hx hy hv hu' hb hm A w hh) ?_
  rintro v' w' ⟨R', O', hle, hh', rfl, ⟨rfl, rfl, rfl⟩ | ⟨f, rfl, ho⟩⟩
  · exact ⟨R', O', hle, hh', rfl, by rw [List.append_nil]; exact z6q (j6 hv)⟩
  · exact ⟨R'.add f, O, hle.trans (RH.le_add _ _), z4m hh', rfl, z6q (z5n ho hh')⟩
end appT
section sliceO
variable {P : Program} {ρ : Option Nat} {l : Nat → Value} {R : RH} {O : List Frag} {α : Type} {T : Ty α}
theorem zme {t e : TypeId} {lo hi mx : Nat} {x : Operand} {xlo xhi xmx : Option Operand} {f : Frag} {v : Value} {X : List α} (ht : SlOk P t e T) (hx : ev l x = v) (hr : ORep T R f v X)
    (hlo : xlo.map (ev l) = none ∧ lo = 0 ∨ ∃ k, xlo.map (ev l) = some (.int k lo)) (hhi : xhi.map (ev l) = none ∧ hi = X.length ∧ xmx = none ∨ ∃ k, xhi.map (ev l) = some (.int k hi))
    (hmx : xmx.map (ev l) = none ∧ mx = capOf v ∨ ∃ k, xmx.map (ev l) = some (.int k mx)) (h1 : lo ≤ hi) (h2 : hi ≤ X.length) (h3 : hi ≤ mx) (h4 : mx ≤ capOf v) :
    ∃ u, ORep T R f u ((X.drop lo).take (hi - lo)) ∧ capOf u = mx - lo ∧ ∀ (dst : Option Tmp) (ty : TypeId) (pos : String) (after : Array Go.Edge) (g : Option (Nat × Bool)), Val P ρ ⟨dst, .slice t x xlo xhi xmx, ty, pos, after, g⟩ l R O u := by
  obtain ⟨p, hv, hc⟩ := zbp hr
  refine ⟨.slice (if mx = lo then p else p.map (·.add (lo * T.size))) (hi - lo) (mx - lo), ?_, rfl, fun dst ty pos after g A w hh => ?_⟩
  · have hlen : ((X.drop lo).take (hi - lo)).length = hi - lo := by simp; omega
    rcases hr with ⟨rfl, rfl, rfl⟩ | ⟨b, pre, cs, cap, bt, rfl, rfl, hcc, hcl, hce, hel⟩
    · have : mx = 0 := by simpa [capOf] using h4
      have : lo = 0 := by omega
      have : hi = 0 := by omega
      subst_vars
      simp only [Value.slice.injEq] at hv
      obtain ⟨rfl, _⟩ := hv
      exact .inl ⟨rfl, by simp, rfl⟩
    · simp only [Value.slice.injEq, capOf] at hv h4 hc
      obtain ⟨rfl, _⟩ := hv
      right
      by_cases hm : mx = lo
      · refine ⟨b, pre, cs, 0, bt, ?_, rfl, ?_, by simp, hce, fun i x hx => ?_⟩
        · rw [if_pos hm, hlen]; simp only [Value.slice.injEq, true_and]; omega
        · rw [hlen]; omega
        · rw [show hi - lo = 0 by omega, List.take_zero] at hx; simp at hx
      · have hle : lo * T.size ≤ cs.length := Nat.le_trans (Nat.mul_le_mul_right _ (by omega : lo ≤ cap)) hcl
        refine ⟨b, pre ++ cs.take (lo * T.size), cs.drop (lo * T.size), mx - lo, bt, ?_, ?_, by rw [hlen]; omega, ?_, ?_, fun i x hx => ?_⟩
        · rw [if_neg hm, hlen]; simp [addr_add, Nat.min_eq_left hle]
        · rw [List.append_assoc, List.take_append_drop]
        · rw [List.length_drop, Nat.sub_mul]
          have := Nat.mul_le_mul_right T.size h4
          omega
        · rw [List.append_assoc, List.take_append_drop]; exact hce
        · rw [List.getElem?_take] at hx
          split at hx
          · rw [List.getElem?_drop] at hx
            have := hel (lo + i) x hx
            rwa [List.drop_drop, ← Nat.add_mul]
          · cases hx
  · rw [jg (by intro c h; cases h)]
    exact ze8 ht.u ht.e.size (hx.trans hv) hlo hhi hmx h1 h3 h4 (fun _ => by omega)
end sliceO
section sliceQ
variable {P : Program} {ρ : Option Nat} {n : Nat} {Q : Po} {l : Nat → Value} {D : List Nat} {R : RH} {O : List Frag} {ops : Array Oper} {rest : List Oper} {ty : TypeId} {pos : String} {after : Array Go.Edge} {d : Nat} {α : Type} {T : Ty α}
theorem zhb {t e : TypeId} {lo hi mx : Nat} {x : Operand} {xlo xhi xmx : Option Operand} {f : Frag} {v : Value} {X : List α} (hd : Nat.blt d n = true) (ht : SlOk P t e T) (hx : ev l x = v) (hr : ORep T R f v X)
    (hlo : xlo.map (ev l) = none ∧ lo = 0 ∨ ∃ k, xlo.map (ev l) = some (.int k lo)) (hhi : xhi.map (ev l) = none ∧ hi = X.length ∧ xmx = none ∨ ∃ k, xhi.map (ev l) = some (.int k hi))
    (hmx : xmx.map (ev l) = none ∧ mx = capOf v ∨ ∃ k, xmx.map (ev l) = some (.int k mx)) (h1 : lo ≤ hi) (h2 : hi ≤ X.length) (h3 : hi ≤ mx) (h4 : mx ≤ capOf v)
    (hk : ∀ u, ORep T R f u ((X.drop lo).take (hi - lo)) → capOf u = mx - lo → wo P ρ n ops Q rest (upd l d u) D R O) : wo P ρ n ops Q (⟨some d, .slice t x xlo xhi xmx, ty, pos, after, none⟩ :: rest) l D R O := by
  obtain ⟨u, hu, hc, hv⟩ := zme (P := P) (ρ := ρ) (O := O) ht hx hr hlo hhi hmx h1 h2 h3 h4
  exact zg hd (hv _ _ _ _ _) (hk u hu hc)
end sliceQ
theorem zft {place : Nat → Option (Nat × Nat)} : ∀ (ps ps' : List (Nat × Value)) (cells : Array Value), ps.map (fun p => (p.1, p.2.cells)) = ps'.map (fun p => (p.1, p.2.cells)) → Instr.fill place cells ps = Instr.fill place cells ps'
  | [], [], _, _ => rfl
  | [], _ :: _, _, h => by simp at h
  | _ :: _, [], _, h => by simp at h
  | (i, v) :: r, (j, u) :: r', cells, h => by
    simp only [List.map_cons, List.cons.injEq, Prod.mk.injEq] at h
    obtain ⟨⟨rfl, h1⟩, h2⟩ := h
    simp only [Instr.fill, h1]
    cases place i with
    | none => rfl
    | some q => simp only []; rw [zft r r' _ h2]
theorem z6v {P : Program} {ρ : Option Nat} {l : Nat → Value} {R : RH} {O : List Frag} {dst : Option Tmp} {ty : TypeId} {pos : String} {after : Array Go.Edge} {g : Option (Nat × Bool)} {t : TypeId} {parts : List (Nat × Operand)} {ps : List (Nat × Value)} (ps' : List (Nat × Value)) {v : Value} (hp : (parts.map fun x => (x.1, ev l x.2)) = ps)
    (hc : ps.map (fun p => (p.1, p.2.cells)) = ps'.map (fun p => (p.1, p.2.cells))) (h : ∀ w, (Instr.build t ps'.toArray).run P w = .ok v w) : Val P ρ ⟨dst, .build t parts.toArray, ty, pos, after, g⟩ l R O v :=
  wu hp fun w => by
    have : (Instr.build t ps.toArray) = (Instr.build t ps'.toArray) := by
      simp only [Instr.build, zft (place := _) ps ps' _ hc]
    rw [this]; exact h w
section step
variable {P : Program} {ρ : Option Nat} {n : Nat} {Q : Po} {l : Nat → Value} {D : List Nat} {R : RH} {O : List Frag} {ops : Array Oper} {rest : List Oper} {ty : TypeId} {pos : String} {after : Array Go.Edge} {d : Nat}
theorem z5v {op : Op} {φ : Value → RH → Prop} (hd : Nat.blt d n = true) (h : Eff P ρ ⟨some d, op, ty, pos, after, none⟩ l R O (fun v R' O' => O' = O ∧ φ v R')) (hk : ∀ v R', RH.le R R' → φ v R' → wo P ρ n ops Q rest (upd l d v) D R' O) :
    wo P ρ n ops Q (⟨some d, op, ty, pos, after, none⟩ :: rest) l D R O := z3c hd h fun v R' O' hle ⟨e, hp⟩ => by subst e; exact hk v R' hle hp
theorem zid {op : Op} {Oc Or : List Frag} {φ : Value → RH → List Frag → Prop} (hd : Nat.blt d n = true) (hp : O.Perm (Oc ++ Or)) (h : Eff P ρ ⟨some d, op, ty, pos, after, none⟩ l R (Oc ++ Or) (fun v R' O' => ∃ Oc', O' = Oc' ++ Or ∧ φ v R' Oc'))
    (hk : ∀ v R' Oc', RH.le R R' → φ v R' Oc' → wo P ρ n ops Q rest (upd l d v) D R' (Oc' ++ Or)) : wo P ρ n ops Q (⟨some d, op, ty, pos, after, none⟩ :: rest) l D R O :=
  z3c hd (bu hp h) fun v R' O' hle ⟨Oc', e, hp⟩ => by subst e; exact hk v R' Oc' hle hp
theorem zff {op : Op} {Oc Or : List Frag} {φ : Value → RH → List Frag → Prop} (hp : O.Perm (Oc ++ Or)) (h : Eff P ρ ⟨none, op, ty, pos, after, none⟩ l R (Oc ++ Or) (fun v R' O' => ∃ Oc', O' = Oc' ++ Or ∧ φ v R' Oc'))
    (hk : ∀ v R' Oc', RH.le R R' → φ v R' Oc' → wo P ρ n ops Q rest l D R' (Oc' ++ Or)) : wo P ρ n ops Q (⟨none, op, ty, pos, after, none⟩ :: rest) l D R O :=
  zal (bu hp h) fun v R' O' hle ⟨Oc', e, hp⟩ => by subst e; exact hk v R' Oc' hle hp
end step
end GV
end Go.Proofs.Ytplgbkaollfmkaa

namespace Go.Proofs.Ytplgbkaollfmkaa
namespace GV
theorem zp5 {cs vs : List Value} {a o s : Nat} (h1 : o + vs.length ≤ s) (h2 : a + s ≤ cs.length) : over cs (a + o) vs = over cs a (over ((cs.drop a).take s) o vs) := by
  unfold over
  have hl : ((List.drop a cs).take s).length = s := by rw [List.length_take, List.length_drop]; omega
  have e1 : cs.take (a + o) = cs.take a ++ ((cs.drop a).take s).take o := by
    rw [List.take_take, Nat.min_eq_left (by omega), List.take_add]
  have e2 : a + ((((cs.drop a).take s).take o ++ vs) ++ ((cs.drop a).take s).drop (o + vs.length)).length = a + s := by
    simp only [List.length_append, List.length_take, List.length_drop]; omega
  rw [e2, e1]
  have e3 : cs.drop (a + o + vs.length) = ((cs.drop a).take s).drop (o + vs.length) ++ cs.drop (a + s) := by
    rw [List.drop_take, List.drop_drop, show a + (o + vs.length) = a + o + vs.length by omega]
    have := (List.take_append_drop (s - (o + vs.length)) (cs.drop (a + o + vs.length))).symm
    rw [List.drop_drop, show a + o + vs.length + (s - (o + vs.length)) = a + s by omega] at this
    exact this
  rw [e3]
  simp only [List.append_assoc]
def zar {α β : Type} (A : Ty α) (o : Nat) (B : Ty β) (s : α → β → α) : Prop :=
  o + B.size ≤ A.size ∧ ∀ R cs ds x y, A.rep R cs x → B.rep R ds y → A.rep R (over cs o ds) (s x y)
theorem zv6 {α β : Type} {A : Ty α} {B : Ty β} : zar (l8 A B) 0 A (fun x y => (y, x.2)) := ⟨by simp [l8], by
  rintro R cs ds x y ⟨ca, cb, rfl, ha, hb⟩ hd
  refine ⟨ds, cb, ?_, hd, hb⟩
  unfold over
  rw [List.take_zero, List.nil_append, Nat.zero_add, A.len hd, ← A.len ha, List.drop_left]⟩
theorem zwr {α β γ : Type} {T : Ty α} {f : β → α} {C : Ty γ} {o : Nat} {s : α → γ → α} {g : β → γ → β} (h : zar T o C s) (e : ∀ x y, f (g x y) = s (f x) y) : zar (T.as f) o C g :=
  ⟨h.1, fun R cs ds x y a b => by show T.rep R _ (f (g x y)); rw [e]; exact h.2 R cs ds (f x) y a b⟩
def z3y {α : Type} (T : Ty α) (o : Nat) (v : Value) (X : List α) (u : Value) (i : Nat) : Prop := ∃ b off, v = .slice (some ⟨b, off, none⟩) X.length (capOf v) ∧ u = .pointer (some ⟨b, off + i * T.size + o, none⟩)
section p
variable {P : Program} {ρ : Option Nat} {n : Nat} {ops : Array Oper} {Q : Po} {rest : List Oper} {l : Nat → Value} {D : List Nat} {R : RH} {O : List Frag} {ty : TypeId} {pos : String} {after : Array Go.Edge} {d : Nat} {dst : Option Tmp} {g : Option (Nat × Bool)}
variable {α β : Type} {T : Ty α} {B : Ty β} {X : List α} {v u w : Value} {x y : Operand} {f F : Frag} {i j o fld : Nat} {t s : TypeId} {pr : α → β} {se : α → β → α}
theorem zm3 (hf : FieldOk P s fld o) (hx : ev l x = u) (hp : z0e T v X u i) : ∃ u', z3y T o v X u' i ∧ ∀ (dst : Option Tmp) (ty : TypeId) (pos : String) (after : Array Go.Edge) (g : Option (Nat × Bool)), Val P ρ ⟨dst, .fieldAddr s x fld, ty, pos, after, g⟩ l R O u' := by
  obtain ⟨b, off, h1, rfl⟩ := hp
  exact ⟨_, ⟨b, off, h1, rfl⟩, fun dst ty pos after g => qb hf hx⟩
theorem z3q (hf : FieldOk P s fld o) (hx : ev l x = u) (hp : z0e T v X u i) : Eff P ρ ⟨dst, .fieldAddr s x fld, ty, pos, after, g⟩ l R O (fun v' R' O' => O' = O ∧ z3y T o v X v' i) := by
  obtain ⟨u', h, hv⟩ := zm3 (ρ := ρ) (P := P) (R := R) (O := O) hf hx hp
  exact (hv dst ty pos after g).eff.mono fun v' R' O' _ ⟨a, b, c⟩ => by subst a; exact ⟨c, h⟩
theorem zgm (ht : TyOk P t B) (hpart : Part T o B pr) (hv : ORep T R f v X) (hF : Has F f) (hO : O[j]? = some F) (hx : ev l x = u) (hp : z3y T o v X u i) {z : α} (hy : X[i]? = some z) :
    ∃ u, VRep B R u (pr z) ∧ ∀ (dst : Option Tmp) (ty : TypeId) (pos : String) (after : Array Go.Edge) (g : Option (Nat × Bool)), Val P ρ ⟨dst, .load t x, ty, pos, after, g⟩ l R O u := by
  obtain ⟨b, off, hb, rfl⟩ := hp
  rcases hv with ⟨rfl, rfl, _⟩ | ⟨b', pre, cs, cap, bt, rfl, rfl, hc, hcl, hcc, hel⟩
  · simp at hy
  · simp only [capOf, Value.slice.injEq, Option.some.injEq, Addr.mk.injEq, and_true] at hb
    obtain ⟨rfl, rfl⟩ := hb
    have hr : T.rep R (wm (pre ++ cs).toArray (pre.length + i * T.size) T.size) z := by rw [z1l]; simpa [wm] using hel i z hy
    have hr2 := hpart.2 R _ _ hr
    rw [zce hpart.1] at hr2
    refine ⟨B.mk' (wm (pre ++ cs).toArray (pre.length + i * T.size + o) B.size), ⟨_, hr2, rfl⟩, fun dst ty pos after g A w hh => ?_⟩
    rw [jg (by intro c h; cases h)]
    have hblk : w.heap[b']? = some (.cells (pre ++ cs).toArray bt (0, 0)) := z1y hh (i := j) (by rw [List.getElem?_append_left (by exact (List.getElem?_eq_some_iff.1 hO).1)]; exact hO) (hF _ _ (ui _ _))
    simp only [execOp, hx, Instr.loadAt, Instr.sureAddr, Sem.run_bind, Sem.run_pure, Result.andThen_ok, z7i ht hblk (R := R) (x := pr z) hr2]
theorem zaw [Inhabited α] (ht : TyOk P t B) (hpart : Part T o B pr) (hv : ORep T R f v X) (hO : O[j]? = some f) (hx : ev l x = u) (hp : z3y T o v X u i) (hy : i < X.length) :
    Eff P ρ ⟨dst, .load t x, ty, pos, after, g⟩ l R O (fun v' R' O' => O' = O ∧ phR B (pr (X.getD i default)) v' R') := by
  obtain ⟨w, hw, hv⟩ := zgm (ρ := ρ) (P := P) ht hpart hv (fun _ _ h => h) hO hx hp (getD_some hy)
  exact (hv dst ty pos after g).eff.mono fun v' R' O' _ ⟨a, b, c⟩ => by subst a; subst b; exact ⟨c, hw⟩
theorem zja [Inhabited α] (hs : zar T o B se) (ht : TyOk P t B) (hv : ORep T R f v X) (hO : O[j]? = some f) (hx : ev l x = u) (hp : z3y T o v X u i) (hi : i < X.length) (hy : ev l y = w) {z : β} (hz : VRep B R w z) :
    Eff P ρ ⟨dst, .store t x y, ty, pos, after, g⟩ l R O (fun _ R' O' => R' = R ∧ ∃ f', O' = O.set j f' ∧ ORep T R f' v (X.set i (se (X.getD i default) z))) := by
  obtain ⟨b, off, hb, rfl⟩ := hp
  rcases hv with ⟨rfl, rfl, _⟩ | ⟨b', pre, cs, cap, bt, rfl, rfl, hc, hcl, hcc, hel⟩
  · simp at hi
  · simp only [capOf, Value.slice.injEq, Option.some.injEq, Addr.mk.injEq, and_true] at hb
    obtain ⟨rfl, rfl⟩ := hb
    obtain ⟨vs, hvs, rfl⟩ := hz
    have hlen := B.len hvs
    have hroom : i * T.size + T.size ≤ cs.length := by
      have : (i + 1) * T.size ≤ cap * T.size := Nat.mul_le_mul_right _ (by omega)
      rw [Nat.add_mul, Nat.one_mul] at this
      omega
    have hs1 := hs.1
    refine (z1c (dst := dst) (ty := ty) (pos := pos) (after := after) (g := g) ht.size hx hy (zg9 hvs) hlen hO (by rw [List.length_append]; omega) (B.cell hvs)).mono ?_
    rintro v' R' O' _ ⟨rfl, rfl, rfl⟩
    have hold := hel i (X.getD i default) (getD_some hi)
    have hnew := hs.2 R' _ _ _ _ hold hvs
    have hnl := T.len hnew
    have hov : over (pre ++ cs) (pre.length + i * T.size + o) vs = pre ++ over cs (i * T.size) (over ((cs.drop (i * T.size)).take T.size) o vs) := by
      rw [Nat.add_assoc, zci, zp5 (by omega) hroom]
    refine ⟨rfl, _, rfl, .inr ⟨b', pre, over cs (i * T.size) (over ((cs.drop (i * T.size)).take T.size) o vs), cap, bt, by rw [List.length_set], by rw [hov], by rw [List.length_set]; exact hc, ?_, ?_, fun k x hk => ?_⟩⟩
    · have e : ∀ (a : List Value), a.length = T.size → (over cs (i * T.size) a).length = cs.length := fun a ha => by
        simp only [over, List.length_append, List.length_take, List.length_drop]; omega
      rw [e _ hnl]; exact hcl
    · intro q hq
      rcases List.mem_append.1 hq with hq | hq
      · exact hcc q (List.mem_append.2 (.inl hq))
      · generalize over ((cs.drop (i * T.size)).take T.size) o vs = nw at hq hnew
        simp only [over, List.mem_append] at hq
        rcases hq with (hq | hq) | hq
        · exact hcc q (List.mem_append.2 (.inr (List.mem_of_mem_take hq)))
        · exact T.cell hnew q hq
        · exact hcc q (List.mem_append.2 (.inr (List.mem_of_mem_drop hq)))
    · generalize over ((cs.drop (i * T.size)).take T.size) o vs = nw at hnew hnl
      rw [List.getElem?_set] at hk
      by_cases hik : i = k
      · subst hik
        rw [if_pos rfl, if_pos hi] at hk
        cases hk
        have : ((over cs (i * T.size) nw).drop (i * T.size)).take T.size = nw := by
          unfold over
          rw [List.append_assoc, List.drop_append, List.drop_eq_nil_of_le (by rw [List.length_take]; exact Nat.min_le_left _ _), List.length_take, Nat.min_eq_left (by omega), Nat.sub_self, List.drop_zero, List.nil_append, ← hnl, List.take_left]
        rw [this]; exact hnew
      · rw [if_neg hik] at hk
        have h1 := hel k x hk
        have : ((over cs (i * T.size) nw).drop (k * T.size)).take T.size = (cs.drop (k * T.size)).take T.size := by
          apply List.ext_getElem?
          intro j
          rw [List.getElem?_take, List.getElem?_take]
          split
          · rename_i hj
            rw [List.getElem?_drop, List.getElem?_drop]
            unfold over
            have hne : k * T.size + j < i * T.size ∨ i * T.size + T.size ≤ k * T.size + j := by
              rcases Nat.lt_or_ge k i with hlt | hge
              · left
                have : (k + 1) * T.size ≤ i * T.size := Nat.mul_le_mul_right _ hlt
                rw [Nat.add_mul, Nat.one_mul] at this; omega
              · right
                have : (i + 1) * T.size ≤ k * T.size := Nat.mul_le_mul_right _ (by omega)
                rw [Nat.add_mul, Nat.one_mul] at this; omega
            rw [List.append_assoc, List.getElem?_append, List.length_take, Nat.min_eq_left (by omega)]
            rcases hne with hlt | hge
            · rw [if_pos hlt, List.getElem?_take, if_pos hlt]
            · rw [if_neg (by omega), List.getElem?_append, hnl, if_neg (by omega), List.getElem?_drop]
              congr 1
              omega
          · rfl
        rw [this]; exact h1
end p
section q
variable {P : Program} {ρ : Option Nat} {l : Nat → Value} {R : RH} {O : List Frag} {ty : TypeId} {pos : String} {after : Array Go.Edge} {dst : Option Tmp} {g : Option (Nat × Bool)}
variable {α β : Type} [Inhabited α] {b : Bool} {T : Ty α} {B : Ty β} {Vs : List Value} {X : List (List α)} {v u w : Value} {x y : Operand} {F : Frag} {i j o r : Nat} {t : TypeId} {pr : α → β} {se : α → β → α}
theorem zfd (ht : TyOk P t B) (hpart : Part T o B pr) (h : N2 b T R F v Vs X) (hr : r < X.length) (hO : O[j]? = some F) (hx : ev l x = u) (hp : z3y T o (Vs.getD r default) (X.getD r default) u i) (hy : i < (X.getD r default).length) :
    Eff P ρ ⟨dst, .load t x, ty, pos, after, g⟩ l R O (fun v' R' O' => O' = O ∧ phR B (pr ((X.getD r default).getD i default)) v' R') := by
  obtain ⟨f0, h0, hF⟩ := h.row hr
  obtain ⟨w, hw, hv⟩ := zgm (ρ := ρ) (P := P) ht hpart h0 hF hO hx hp (getD_some hy)
  exact (hv dst ty pos after g).eff.mono fun v' R' O' _ ⟨a, b, c⟩ => by subst a; subst b; exact ⟨c, hw⟩
theorem zeb (hs : zar T o B se) (ht : TyOk P t B) (h : N2 b T R F v Vs X) (hr : r < X.length) (hx : ev l x = u) (hp : z3y T o (Vs.getD r default) (X.getD r default) u i) (hi : i < (X.getD r default).length)
    (hy : ev l y = w) {z : β} (hz : VRep B R w z) : Eff P ρ ⟨dst, .store t x y, ty, pos, after, g⟩ l R ([F] ++ O) (fun v' R' O' => ∃ Oc, O' = Oc ++ O ∧ R' = R ∧ ∃ F', Oc = [F'] ∧ N2 b T R F' v Vs (X.set r ((X.getD r default).set i (se ((X.getD r default).getD i default) z)))) := by
  obtain ⟨fk, h1, hF, hh⟩ := h.hole hr
  refine zfu (O1 := [fk]) (Or := minus F fk :: O) (fun A w hw => z9u hw hF) (zja (j := 0) hs ht h1 rfl hx hp hi hy hz) ?_
  rintro v' R' O1' hle ⟨rfl, f', rfl, ho⟩ A w hw
  refine ⟨z3e f' (minus F fk) :: O, z8p hw, _, rfl, rfl, _, rfl, N2h.fill (u := default) hh hr ho (zjw hw) fun e => ?_⟩
  rw [List.length_set]; exact ztt h hr e
end q
end GV
end Go.Proofs.Ytplgbkaollfmkaa

namespace Go.Proofs.Ytplgbkaollfmkaa
namespace GV
/-! ### A map's entries as a list of pairs, in the order in which the keys came -/
def z7x {κ β : Type} [DecidableEq κ] (z : β) : List (κ × β) → κ → β
  | [], _ => z
  | p :: l, k => if k = p.1 then p.2 else z7x z l k
def z4e {κ β : Type} [DecidableEq κ] : List (κ × β) → κ → Bool
  | [], _ => false
  | p :: l, k => if k = p.1 then true else z4e l k
def zb6 {κ β : Type} [DecidableEq κ] : List (κ × β) → κ → β → List (κ × β)
  | [], k, v => [(k, v)]
  | p :: l, k, v => if k = p.1 then (k, v) :: l else p :: zb6 l k v
def z6s {κ β : Type} [DecidableEq κ] : List (κ × β) → κ → Nat → Option (Nat × β)
  | [], _, _ => none
  | p :: l, k, i => if k = p.1 then some (i, p.2) else z6s l k (i + 1)
def zef (e : MapEntry) : Value × Value := (e.key, e.val)
def zgn {κ β : Type} (ke : κ → Value) (ve : β → Value) (es : Array MapEntry) (M : List (κ × β)) : Prop := es.toList.map zef = M.map fun p => (ke p.1, ve p.2)
structure KOk (P : Program) (kt : TypeId) {κ : Type} [DecidableEq κ] (ke : κ → Value) : Prop where
  check : ∀ (b : Bool) (k : κ) (w : World), (Instr.checkKey b 10000 kt (ke k)).run P w = .ok () w
  find : ∀ {β : Type} (k : κ) (es : List MapEntry) (M : List (κ × β)) (ve : β → Value) (w : World), es.map zef = M.map (fun p => (ke p.1, ve p.2)) →
    (Instr.findKey kt (ke k) es).run P w = .ok ((z6s M k 0).map fun p => (p.1, ve p.2)) w
  same : ∀ k : κ, Instr.sameBits 10000 (ke k) (ke k) = true
section m
variable {κ β : Type} [DecidableEq κ] {ke : κ → Value} {ve : β → Value} {M : List (κ × β)} {k : κ} {z : β}
theorem zo1 (i : Nat) : ((z6s M k i).map (·.2)).getD z = z7x z M k := by
  induction M generalizing i with
  | nil => rfl
  | cons p l ih =>
    unfold z6s z7x
    by_cases h : k = p.1
    · simp [h]
    · simp only [if_neg h]; exact ih (i + 1)
theorem zob (i : Nat) : (z6s M k i).isSome = z4e M k := by
  induction M generalizing i with
  | nil => rfl
  | cons p l ih =>
    unfold z6s z4e
    by_cases h : k = p.1
    · simp [h]
    · simp only [if_neg h]; exact ih (i + 1)
theorem zlf {i : Nat} {v : β} (h : z6s M k i = none) : zb6 M k v = M ++ [(k, v)] := by
  induction M generalizing i with
  | nil => rfl
  | cons p l ih =>
    unfold z6s at h
    by_cases hk : k = p.1
    · simp [hk] at h
    · rw [if_neg hk] at h
      simp only [zb6, if_neg hk, ih h, List.cons_append]
theorem zm8 {i j : Nat} {u v : β} (h : z6s M k i = some (j, u)) : i ≤ j ∧ M[j - i]? = some (k, u) ∧ zb6 M k v = M.set (j - i) (k, v) := by
  induction M generalizing i with
  | nil => cases h
  | cons p l ih =>
    unfold z6s at h
    by_cases hk : k = p.1
    · rw [if_pos hk] at h
      simp only [Option.some.injEq, Prod.mk.injEq] at h
      obtain ⟨rfl, rfl⟩ := h
      refine ⟨Nat.le_refl _, ?_, ?_⟩
      · simp [hk]
      · simp [zb6, hk]
    · rw [if_neg hk] at h
      obtain ⟨h1, h2, h3⟩ := ih h
      have e : j - i = (j - (i + 1)) + 1 := by omega
      refine ⟨by omega, ?_, ?_⟩
      · rw [e, List.getElem?_cons_succ]; exact h2
      · rw [e, List.set_cons_succ, ← h3]; simp [zb6, hk]
end m
def MRep {κ β : Type} (ke : κ → Value) (ve : β → Value) (R : RH) (f : Frag) (v : Value) (M : List (κ × β)) : Prop :=
  ∃ b es c, v = .map (some b) ∧ f = single b (.map es c) ∧ zgn ke ve es M
theorem MRep.mono {κ β : Type} {ke : κ → Value} {ve : β → Value} {R R' : RH} {f : Frag} {v : Value} {M : List (κ × β)} (h : MRep ke ve R f v M) (hle : RH.le R R') : MRep ke ve R' f v M := h
section e
variable {P : Program} {ρ : Option Nat} {n : Nat} {ops : Array Oper} {Q : Po} {rest : List Oper} {l : Nat → Value} {D : List Nat} {R : RH} {O : List Frag} {ty : TypeId} {pos : String} {after : Array Go.Edge} {d : Nat} {dst : Option Tmp} {g : Option (Nat × Bool)}
variable {κ β : Type} {ke : κ → Value} {ve : β → Value} {M : List (κ × β)} {k : κ} {z : β} {t kt et : TypeId} {x y s : Operand} {v : Value} {f : Frag}
theorem zju : Eff P ρ ⟨dst, .makeMap t none, ty, pos, after, g⟩ l R O (fun v R' O' => R' = R ∧ ∃ f, O' = f :: O ∧ MRep ke ve R f v ([] : List (κ × β))) := by
  intro A w hh; rw [jg (by intro c h; cases h)]
  simp only [execOp, Option.map, Instr.makeMap, Sem.run_bind, run_newObj, Sem.run_pure, Result.andThen_ok]
  exact ⟨R, _, RH.le.refl _, z2y hh _, rfl, _, rfl, _, #[], 0, rfl, rfl, rfl⟩
theorem zfh (hd : Nat.blt d n = true) (hk : ∀ v f, MRep ke ve R f v ([] : List (κ × β)) → wo P ρ n ops Q rest (upd l d v) D R (f :: O)) : wo P ρ n ops Q (⟨some d, .makeMap t none, ty, pos, after, none⟩ :: rest) l D R O :=
  z3c hd (zju (ke := ke) (ve := ve)) fun v R' O' _ ⟨hR, f, hO, h⟩ => by subst hR; subst hO; exact hk v f h
variable [DecidableEq κ]
theorem zh2 {b : Nat} {es : Array MapEntry} {c : Nat} {w : World} {u : β} (hu : P.underlying t = some (.map kt et)) (hK : KOk P kt ke) (hb : w.heap[b]? = some (.map es c)) (hs : zgn ke ve es M) :
    ∃ es' c', (Instr.mapUpdate t (.map (some b)) (ke k) (ve u)).run P w = .ok () { w with heap := w.heap.setIfInBounds b (.map es' c') } ∧ zgn ke ve es' (zb6 M k u) := by
  have hf := hK.find k es.toList M ve w hs
  unfold Instr.mapUpdate
  simp only [Sem.run_bind, run_underlying hu, Result.andThen_ok, MapKept.run_getObj_map hb, hK.check, hf]
  cases hm : z6s M k 0 with
  | none =>
    simp only [Option.map_none, MapKept.run_setObj_map _ hb]
    refine ⟨_, _, rfl, ?_⟩
    unfold zgn at hs ⊢
    rw [Array.toList_push, List.map_append, hs, zlf hm, List.map_append]
    rfl
  | some p =>
    obtain ⟨j, u0⟩ := p
    obtain ⟨_, h2, h3⟩ := zm8 (v := u) hm
    simp only [Option.map_some]
    have hkey : ((es[j]?).map (·.key)).getD (ke k) = ke k := by
      have h4 : (es.toList.map zef)[j]? = some (ke k, ve u0) := by rw [hs, List.getElem?_map, show M[j]? = some (k, u0) from h2]; rfl
      rw [List.getElem?_map, Array.getElem?_toList] at h4
      cases he : es[j]? with
      | none => rfl
      | some e => rw [he] at h4; simp only [Option.map_some, zef, Option.some.injEq, Prod.mk.injEq] at h4; simp [h4.1]
    rw [hkey]
    simp only [Instr.keyThatStays, hK.same, if_true, Sem.run_pure, Sem.run_bind, Result.andThen_ok, MapKept.run_setObj_map _ hb]
    refine ⟨_, _, rfl, ?_⟩
    unfold zgn at hs ⊢
    rw [h3, Array.toList_modify]
    apply List.ext_getElem?
    intro i
    have hi : (es.toList.map zef)[i]? = (M.map fun p => (ke p.1, ve p.2))[i]? := by rw [hs]
    rw [List.getElem?_map, List.getElem?_modify, List.getElem?_map, List.getElem?_set]
    rw [List.getElem?_map, List.getElem?_map] at hi
    by_cases hij : j = i
    · subst hij
      have hj : j < M.length := (List.getElem?_eq_some_iff.1 h2).1
      simp only [Nat.sub_zero, if_true, hj]
      rw [show M[j]? = some (k, u0) from h2] at hi
      cases he : es.toList[j]? with
      | none => rw [he] at hi; simp at hi
      | some e => simp [zef]
    · simp only [Nat.sub_zero, if_neg hij]
      simpa using hi
theorem zgw {u : β} {w0 q : Value} {i : Nat} (hu : P.underlying t = some (.map kt et)) (hK : KOk P kt ke) (hO : O[i]? = some f) (h : MRep ke ve R f v M) (hx : ev l x = v) (hy : ev l y = ke k) (hz : ev l s = ve u) :
    Eff P ρ ⟨dst, .mapUpdate t x y s, ty, pos, after, g⟩ l R O (fun v' R' O' => v' = undef ∧ R' = R ∧ ∃ f', O' = O.set i f' ∧ MRep ke ve R f' v (zb6 M k u)) := by
  intro A w hh; rw [jg (by intro c h; cases h)]
  obtain ⟨b, es, c, rfl, rfl, hs⟩ := h
  have hlt : i < O.length := (List.getElem?_eq_some_iff.1 hO).1
  have hO' : (O ++ A)[i]? = some (single b (.map es c)) := by rw [List.getElem?_append_left hlt]; exact hO
  have hb : w.heap[b]? = some (.map es c) := z1y hh hO' (ui _ _)
  obtain ⟨es', c', h1, h2⟩ := zh2 (k := k) (u := u) hu hK hb hs
  have hex : (execOp (ev l) (⟨dst, .mapUpdate t x y s, ty, pos, after, g⟩ : Oper)).run P w = .ok .skip { w with heap := w.heap.setIfInBounds b (.map es' c') } := by
    simp only [execOp, hx, hy, hz, Sem.run_bind, h1, Result.andThen_ok]
    rfl
  rw [hex]
  have hbs : b < w.heap.size := (Array.getElem?_eq_some_iff.1 hb).1
  refine ⟨R, _, RH.le.refl _, ?_, rfl, rfl, _, rfl, _, es', c', rfl, rfl, h2⟩
  have := zam (w' := { w with heap := w.heap.setIfInBounds b (.map es' c') }) hh hO' (o' := .map es' c') (by simp [hbs]) (fun j hj => by simp [Ne.symm hj]) rfl rfl trivial
  rwa [List.set_append_left _ _ hlt] at this
theorem zc2 {u : β} {i : Nat} (hu : P.underlying t = some (.map kt et)) (hK : KOk P kt ke) (hO : O[i]? = some f) (h : MRep ke ve R f v M) (hx : ev l x = v) (hy : ev l y = ke k) (hz : ev l s = ve u)
    (hk : ∀ f', MRep ke ve R f' v (zb6 M k u) → wo P ρ n ops Q rest l D R (O.set i f')) : wo P ρ n ops Q (⟨none, .mapUpdate t x y s, ty, pos, after, none⟩ :: rest) l D R O :=
  zal (zgw (w0 := undef) (q := undef) hu hK hO h hx hy hz) fun v' R' O' _ ⟨_, hR, f', hO', h⟩ => by subst hR; subst hO'; exact hk f' h
def MAt (ke : κ → Value) (ve : β → Value) (R : RH) (O : List Frag) (v : Value) (M : List (κ × β)) : Prop :=
  ∀ A w, Holds R (O ++ A) w → ∃ b es c, v = .map (some b) ∧ w.heap[b]? = some (.map es c) ∧ zgn ke ve es M
omit [DecidableEq κ] in
theorem zey {i : Nat} (hO : O[i]? = some f) (h : MRep ke ve R f v M) : MAt ke ve R O v M := by
  intro A w hh
  obtain ⟨b, es, c, rfl, rfl, hs⟩ := h
  have hlt : i < O.length := (List.getElem?_eq_some_iff.1 hO).1
  exact ⟨b, es, c, rfl, z1y hh (by rw [List.getElem?_append_left hlt]; exact hO) (ui _ _), hs⟩
omit [DecidableEq κ] in
theorem zro {at' : Array TypeId} (ht : at'[0]? = some t) (hu : P.underlying t = some (.map kt et)) (hx : ev l x = v) (h : MAt ke ve R O v M) : Val P ρ ⟨dst, .call ⟨.builtin .len, #[x], at'⟩, ty, pos, after, g⟩ l R O (.int .i64 M.length) := by
  intro A w hh; rw [jg (by intro c h; cases h)]
  obtain ⟨b, es, c, rfl, hb, hs⟩ := h A w hh
  have hl : es.size = M.length := by
    have := congrArg List.length hs
    simpa using this
  simp [execOp, resolve, invoke, builtin, Builtin.len_, ht, underlying, hu, hx, goInt, MapKept.run_getObj_map hb, hl]
theorem zfs {b : Nat} {es : Array MapEntry} {c : Nat} {w : World} (hu : P.underlying t = some (.map kt et)) (hK : KOk P kt ke) (hz : ∀ w, (zeroValue et).run P w = .ok (ve z) w) (hb : w.heap[b]? = some (.map es c)) (hs : zgn ke ve es M) (ok : Bool) :
    (Instr.lookup t (.map (some b)) (ke k) ok).run P w = .ok (if ok then .tuple #[ve (z7x z M k), .bool (z4e M k)] else ve (z7x z M k)) w := by
  have hf := hK.find k es.toList M ve w hs
  unfold Instr.lookup
  simp only [Sem.run_bind, run_underlying hu, Result.andThen_ok, MapKept.run_getObj_map hb, hK.check, hf, Sem.run_pure]
  rw [← zo1 0, ← zob 0]
  cases hm : z6s M k 0 with
  | none => simp [hz]
  | some p => simp
theorem zfo (hu : P.underlying t = some (.map kt et)) (hK : KOk P kt ke) (hz : ∀ w, (zeroValue et).run P w = .ok (ve z) w) (h : MAt ke ve R O v M) (hx : ev l x = v) (hy : ev l y = ke k) : Val P ρ ⟨dst, .lookup t x y false, ty, pos, after, g⟩ l R O (ve (z7x z M k)) := by
  intro A w hh; rw [jg (by intro c h; cases h)]
  obtain ⟨b, es, c, rfl, hb, hs⟩ := h A w hh
  simp only [execOp, hx, hy, Sem.run_bind, zfs (k := k) hu hK hz hb hs, Result.andThen_ok]
  rfl
theorem zjv (hu : P.underlying t = some (.map kt et)) (hK : KOk P kt ke) (hz : ∀ w, (zeroValue et).run P w = .ok (ve z) w) (h : MAt ke ve R O v M) (hx : ev l x = v) (hy : ev l y = ke k) : Val P ρ ⟨dst, .lookup t x y true, ty, pos, after, g⟩ l R O (.tuple #[ve (z7x z M k), .bool (z4e M k)]) := by
  intro A w hh; rw [jg (by intro c h; cases h)]
  obtain ⟨b, es, c, rfl, hb, hs⟩ := h A w hh
  simp only [execOp, hx, hy, Sem.run_bind, zfs (k := k) hu hK hz hb hs, Result.andThen_ok]
  rfl
end e
end GV
end Go.Proofs.Ytplgbkaollfmkaa
