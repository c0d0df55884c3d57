
import Derived.Test.YtplgbkaollfmkaaShFree
import Derived.MapKept
set_option linter.unusedVariables false
set_option linter.unusedSimpArgs false
namespace Go.Proofs.Ytplgbkaollfmkaa
namespace GV
def NRep {α : Type} (t : Bool) (T : Ty α) (R : RH) (F : Frag) (v : Value) (X : List (List α)) : Prop := ∃ Vs, N2 t T R F v Vs X
theorem NRep.mono {α : Type} {t : Bool} {T : Ty α} {R R' : RH} {F : Frag} {v : Value} {X : List (List α)} (h : NRep t T R F v X) (hle : RH.le R R') : NRep t T R' F v X := let ⟨Vs, a⟩ := h; ⟨Vs, a.mono hle⟩
theorem z5h {v : Value} (h : v.oneCell' = true) : v.cells = ([v] : List Value).toArray := by
  cases v <;> first | rfl | (simp [Value.oneCell'] at h; done)
section ops
variable {P : Program} {ρ : Option Nat} {l : Nat → Value} {R : RH} {O : List Frag} {dst : Option Tmp} {ty : TypeId} {pos : String} {after : Array Go.Edge} {g : Option (Nat × Bool)} {α : Type} {t : Bool} {T : Ty α} {F : Frag} {v : Value} {Vs : List Value} {X : List (List α)}
end ops
section read
variable {α : Type} {t : Bool} {T : Ty α} {R R1 : RH} {f F : Frag} {v : Value} {Vs : List Value}
end read
section frz
variable {P : Program} {ρ : Option Nat} {n : Nat} {Q : Po} {l : Nat → Value} {D : List Nat} {R : RH} {O : List Frag} {ops : Array Oper} {os : List Oper} {c : Code} {α : Type} {t : Bool} {T : Ty α} {i : Nat} {F : Frag} {v : Value} {X : List (List α)}
end frz
section appT
variable {P : Program} {ρ : Option Nat} {l : Nat → Value} {R : RH} {O : List Frag} {dst : Option Tmp} {ty : TypeId} {pos : String} {after : Array Go.Edge} {g : Option (Nat × Bool)} {α : Type} {T : Ty α}
theorem zfg {t e : TypeId} {i : TypeInfo} {k : Nat} {w : World} {a : Addr} {n cap : Nat} {u : Value} {p : Option Addr} {c : Nat} (ht : P.underlying t = some (.slice e)) (hi : P.info? e = some i) (hs : i.size = k) (hu0 : u = .slice p 0 c) (hnew : (Builtin.firstCells k 0 u).run P w = .ok #[] w) (hn : n ≤ cap) :
    (Builtin.append_ #[t, t] ty #[.slice (some a) n cap, u]).run P w = .ok (.slice (some a) n cap) w := by
  subst hu0; subst hs
  simp [Builtin.append_, run_underlying ht, sizeOf, typeInfo, hi, Builtin.lenOf, hnew, hn, storeCells]
theorem zn0 {z : α} {bytes : Nat} {t e : TypeId} {x y : Operand} {v u : Value} {X Y : List α}
    (hu : P.underlying t = some (.slice e)) (hz : ZeroOk P e T z bytes) (hx : ev l x = v) (hy : ev l y = u) (hv : VRep (tSl true T) R v X) (hu' : VRep (yj T) R u Y)
    (hb : (X.length + Y.length) * bytes ≤ 140737488355328) (hm : X.length + Y.length ≤ 9223372036854775807) :
    Eff P ρ ⟨dst, .call ⟨.builtin .append, #[x, y], #[t, t]⟩, ty, pos, after, g⟩ l R O (fun v' R' O' => R' = R ∧ ((Y = [] ∧ O' = O ∧ v' = v) ∨ ∃ f', O' = f' :: O ∧ ORep T R f' v' (X ++ Y))) := by
  intro A w hh; rw [qw (by intro c h; cases h)]
  obtain ⟨inf, zv, k1, k2, k3, k4, k5⟩ := hz.info
  obtain ⟨cy, p, n, rfl, hsy, hload⟩ := z5e hu'
  have hcy : cy.length = Y.length * T.size := hsy.len
  have hnew : ∀ w', w'.heap = w.heap → (Builtin.firstCells T.size Y.length (.slice p Y.length n)).run P w' = .ok cy.toArray w' := fun w' hw' =>
    hload w' fun k o hk => by rw [hw']; exact hh.ro k o hk
  obtain ⟨cx, px, nx, hvx, hsx, hloadx⟩ := z5e (ja hv)
  have hcap : nx = X.length := by
    have := zuy hv
    rw [hvx] at this; exact this
  subst hcap
  subst hvx
  by_cases hY : Y = []
  · subst hY
    have hc0 : cy = [] := List.length_eq_zero_iff.1 (by simpa using hcy)
    subst hc0
    have h0 := hnew w rfl
    cases px with
    | none =>
      obtain ⟨p', n', e', hn', hp', _⟩ := bv.1 (ja hv)
      simp only [Value.slice.injEq] at e'
      obtain rfl := hp' e'.1.symm
      rw [z15 hx hy (z5c hu k1 k3 rfl h0)]
      exact ⟨R, O, RH.le.refl _, hh, rfl, .inl ⟨rfl, rfl, rfl⟩⟩
    | some a =>
      rw [z15 hx hy (zfg hu k1 k3 rfl h0 (Nat.le_refl _))]
      exact ⟨R, O, RH.le.refl _, hh, rfl, .inl ⟨rfl, rfl, rfl⟩⟩
  · have hpos : 0 < Y.length := List.length_pos_iff.2 hY
    rw [z15 hx hy (z9i (T := T) (olds := cx) hu k1 k2 k3 k4 rfl (fun w' hw' => hloadx w' fun k o hk => by rw [hw']; exact hh.ro k o hk) rfl hnew (by omega) hm hb)]
    have hcap := grownCap_ge w (X.length + Y.length) X.length e
    obtain ⟨hzc, hzl⟩ := z9p (k5 R) (grownCap w (X.length + Y.length) X.length e - (X.length + Y.length))
    have hal := z2t (z5i hh) (.cells ((cx ++ cy) ++ (Builtin.zeroCells zv.cells (grownCap w (X.length + Y.length) X.length e - (X.length + Y.length))).toList).toArray e (0, 0))
    have hor := z6r (b := w.heap.size) (bt := e) (cap := grownCap w (X.length + Y.length) X.length e) (hsx.append hsy) (rest := (Builtin.zeroCells zv.cells (grownCap w (X.length + Y.length) X.length e - (X.length + Y.length))).toList)
      (by rw [List.length_append]; exact hcap) (by rw [List.length_append, List.length_append, hsx.len, hcy, hzl, ← Nat.add_mul, ← Nat.add_mul]; exact Nat.mul_le_mul_right _ (by omega)) hzc
    have e1 : (cx.toArray ++ cy.toArray ++ Builtin.zeroCells zv.cells (grownCap w (X.length + Y.length) X.length e - (X.length + Y.length))) = ((cx ++ cy) ++ (Builtin.zeroCells zv.cells (grownCap w (X.length + Y.length) X.length e - (X.length + Y.length))).toList).toArray := by
      apply Array.ext'; simp
    rw [e1]
    exact ⟨R, _ :: O, RH.le.refl _, hal, rfl, .inr ⟨_, rfl, by rw [List.length_append] at hor; exact hor⟩⟩
theorem zpq {z : α} {bytes : Nat} {t e : TypeId} {x y : Operand} {v u : Value} {X Y : List α}
    (hu : P.underlying t = some (.slice e)) (hz : ZeroOk P e T z bytes) (hx : ev l x = v) (hy : ev l y = u) (hv : VRep (tSl true T) R v X) (hu' : VRep (yj T) R u Y)
    (hb : (X.length + Y.length) * bytes ≤ 140737488355328) (hm : X.length + Y.length ≤ 9223372036854775807) :
    Eff P ρ ⟨dst, .call ⟨.builtin .append, #[x, y], #[t, t]⟩, ty, pos, after, g⟩ l R O (fun v' R' O' => O' = O ∧ phR (tSl false T) (X ++ Y) v' R') := by
  intro A w hh
  refine z4t (zn0 hu hz hx hy hv hu' hb hm A w hh) ?_
  rintro v' w' ⟨R', O', hle, hh', rfl, ⟨rfl, rfl, rfl⟩ | ⟨f, rfl, ho⟩⟩
  · exact ⟨R', O', hle, hh', rfl, by rw [List.append_nil]; exact z7j (ja hv)⟩
  · exact ⟨R'.add f, O, hle.trans (RH.le_add _ _), z1e hh', rfl, z7j (z2p ho hh')⟩
end appT
section sliceO
variable {P : Program} {ρ : Option Nat} {l : Nat → Value} {R : RH} {O : List Frag} {α : Type} {T : Ty α}
theorem zhz {t e : TypeId} {lo hi mx : Nat} {x : Operand} {xlo xhi xmx : Option Operand} {f : Frag} {v : Value} {X : List α} (ht : SlOk P t e T) (hx : ev l x = v) (hr : ORep T R f v X)
    (hlo : xlo.map (ev l) = none ∧ lo = 0 ∨ ∃ k, xlo.map (ev l) = some (.int k lo)) (hhi : xhi.map (ev l) = none ∧ hi = X.length ∧ xmx = none ∨ ∃ k, xhi.map (ev l) = some (.int k hi))
    (hmx : xmx.map (ev l) = none ∧ mx = capOf v ∨ ∃ k, xmx.map (ev l) = some (.int k mx)) (h1 : lo ≤ hi) (h2 : hi ≤ X.length) (h3 : hi ≤ mx) (h4 : mx ≤ capOf v) :
    ∃ u, ORep T R f u ((X.drop lo).take (hi - lo)) ∧ capOf u = mx - lo ∧ ∀ (dst : Option Tmp) (ty : TypeId) (pos : String) (after : Array Go.Edge) (g : Option (Nat × Bool)), Val P ρ ⟨dst, .slice t x xlo xhi xmx, ty, pos, after, g⟩ l R O u := by
  obtain ⟨p, hv, hc⟩ := z8u hr
  refine ⟨.slice (if mx = lo then p else p.map (·.add (lo * T.size))) (hi - lo) (mx - lo), ?_, rfl, fun dst ty pos after g A w hh => ?_⟩
  · have hlen : ((X.drop lo).take (hi - lo)).length = hi - lo := by simp; omega
    rcases hr with ⟨rfl, rfl, rfl⟩ | ⟨b, pre, cs, cap, bt, rfl, rfl, hcc, hcl, hce, hel⟩
    · have : mx = 0 := by simpa [capOf] using h4
      have : lo = 0 := by omega
      have : hi = 0 := by omega
      subst_vars
      simp only [Value.slice.injEq] at hv
      obtain ⟨rfl, _⟩ := hv
      exact .inl ⟨rfl, by simp, rfl⟩
    · simp only [Value.slice.injEq, capOf] at hv h4 hc
      obtain ⟨rfl, _⟩ := hv
      right
      by_cases hm : mx = lo
      · refine ⟨b, pre, cs, 0, bt, ?_, rfl, ?_, by simp, hce, fun i x hx => ?_⟩
        · rw [if_pos hm, hlen]; simp only [Value.slice.injEq, true_and]; omega
        · rw [hlen]; omega
        · rw [show hi - lo = 0 by omega, List.take_zero] at hx; simp at hx
      · have hle : lo * T.size ≤ cs.length := Nat.le_trans (Nat.mul_le_mul_right _ (by omega : lo ≤ cap)) hcl
        refine ⟨b, pre ++ cs.take (lo * T.size), cs.drop (lo * T.size), mx - lo, bt, ?_, ?_, by rw [hlen]; omega, ?_, ?_, fun i x hx => ?_⟩
        · rw [if_neg hm, hlen]; simp [addr_add, Nat.min_eq_left hle]
        · rw [List.append_assoc, List.take_append_drop]
        · rw [List.length_drop, Nat.sub_mul]
          have := Nat.mul_le_mul_right T.size h4
          omega
        · rw [List.append_assoc, List.take_append_drop]; exact hce
        · rw [List.getElem?_take] at hx
          split at hx
          · rw [List.getElem?_drop] at hx
            have := hel (lo + i) x hx
            rwa [List.drop_drop, ← Nat.add_mul]
          · cases hx
  · rw [qw (by intro c h; cases h)]
    exact zaw ht.u ht.e.size (hx.trans hv) hlo hhi hmx h1 h3 h4 (fun _ => by omega)
end sliceO
section sliceQ
variable {P : Program} {ρ : Option Nat} {n : Nat} {Q : Po} {l : Nat → Value} {D : List Nat} {R : RH} {O : List Frag} {ops : Array Oper} {rest : List Oper} {ty : TypeId} {pos : String} {after : Array Go.Edge} {d : Nat} {α : Type} {T : Ty α}
theorem zew {t e : TypeId} {lo hi mx : Nat} {x : Operand} {xlo xhi xmx : Option Operand} {f : Frag} {v : Value} {X : List α} (hd : Nat.blt d n = true) (ht : SlOk P t e T) (hx : ev l x = v) (hr : ORep T R f v X)
    (hlo : xlo.map (ev l) = none ∧ lo = 0 ∨ ∃ k, xlo.map (ev l) = some (.int k lo)) (hhi : xhi.map (ev l) = none ∧ hi = X.length ∧ xmx = none ∨ ∃ k, xhi.map (ev l) = some (.int k hi))
    (hmx : xmx.map (ev l) = none ∧ mx = capOf v ∨ ∃ k, xmx.map (ev l) = some (.int k mx)) (h1 : lo ≤ hi) (h2 : hi ≤ X.length) (h3 : hi ≤ mx) (h4 : mx ≤ capOf v)
    (hk : ∀ u, ORep T R f u ((X.drop lo).take (hi - lo)) → capOf u = mx - lo → wo P ρ n ops Q rest (upd l d u) D R O) : wo P ρ n ops Q (⟨some d, .slice t x xlo xhi xmx, ty, pos, after, none⟩ :: rest) l D R O := by
  obtain ⟨u, hu, hc, hv⟩ := zhz (P := P) (ρ := ρ) (O := O) ht hx hr hlo hhi hmx h1 h2 h3 h4
  exact zf hd (hv _ _ _ _ _) (hk u hu hc)
end sliceQ
theorem zc0 {place : Nat → Option (Nat × Nat)} : ∀ (ps ps' : List (Nat × Value)) (cells : Array Value), ps.map (fun p => (p.1, p.2.cells)) = ps'.map (fun p => (p.1, p.2.cells)) → Instr.fill place cells ps = Instr.fill place cells ps'
  | [], [], _, _ => rfl
  | [], _ :: _, _, h => by simp at h
  | _ :: _, [], _, h => by simp at h
  | (i, v) :: r, (j, u) :: r', cells, h => by
    simp only [List.map_cons, List.cons.injEq, Prod.mk.injEq] at h
    obtain ⟨⟨rfl, h1⟩, h2⟩ := h
    simp only [Instr.fill, h1]
    cases place i with
    | none => rfl
    | some q => simp only []; rw [zc0 r r' _ h2]
theorem z11 {P : Program} {ρ : Option Nat} {l : Nat → Value} {R : RH} {O : List Frag} {dst : Option Tmp} {ty : TypeId} {pos : String} {after : Array Go.Edge} {g : Option (Nat × Bool)} {t : TypeId} {parts : List (Nat × Operand)} {ps : List (Nat × Value)} (ps' : List (Nat × Value)) {v : Value} (hp : (parts.map fun x => (x.1, ev l x.2)) = ps)
    (hc : ps.map (fun p => (p.1, p.2.cells)) = ps'.map (fun p => (p.1, p.2.cells))) (h : ∀ w, (Instr.build t ps'.toArray).run P w = .ok v w) : Val P ρ ⟨dst, .build t parts.toArray, ty, pos, after, g⟩ l R O v :=
  uh hp fun w => by
    have : (Instr.build t ps.toArray) = (Instr.build t ps'.toArray) := by
      simp only [Instr.build, zc0 (place := _) ps ps' _ hc]
    rw [this]; exact h w
section step
variable {P : Program} {ρ : Option Nat} {n : Nat} {Q : Po} {l : Nat → Value} {D : List Nat} {R : RH} {O : List Frag} {ops : Array Oper} {rest : List Oper} {ty : TypeId} {pos : String} {after : Array Go.Edge} {d : Nat}
theorem zfi {op : Op} {φ : Value → RH → Prop} (hd : Nat.blt d n = true) (h : Eff P ρ ⟨some d, op, ty, pos, after, none⟩ l R O (fun v R' O' => O' = O ∧ φ v R')) (hk : ∀ v R', RH.le R R' → φ v R' → wo P ρ n ops Q rest (upd l d v) D R' O) :
    wo P ρ n ops Q (⟨some d, op, ty, pos, after, none⟩ :: rest) l D R O := z0t hd h fun v R' O' hle ⟨e, hp⟩ => by subst e; exact hk v R' hle hp
end step
end GV
end Go.Proofs.Ytplgbkaollfmkaa

namespace Go.Proofs.Ytplgbkaollfmkaa
namespace GV
def z7u {α : Type} (T : Ty α) (o : Nat) (v : Value) (X : List α) (u : Value) (i : Nat) : Prop := ∃ b off, v = .slice (some ⟨b, off, none⟩) X.length (capOf v) ∧ u = .pointer (some ⟨b, off + i * T.size + o, none⟩)
section p
variable {P : Program} {ρ : Option Nat} {n : Nat} {ops : Array Oper} {Q : Po} {rest : List Oper} {l : Nat → Value} {D : List Nat} {R : RH} {O : List Frag} {ty : TypeId} {pos : String} {after : Array Go.Edge} {d : Nat} {dst : Option Tmp} {g : Option (Nat × Bool)}
variable {α β : Type} {T : Ty α} {B : Ty β} {X : List α} {v u w : Value} {x y : Operand} {f F : Frag} {i j o fld : Nat} {t s : TypeId} {pr : α → β} {se : α → β → α}
theorem zid (hf : FieldOk P s fld o) (hx : ev l x = u) (hp : z1m T v X u i) : ∃ u', z7u T o v X u' i ∧ ∀ (dst : Option Tmp) (ty : TypeId) (pos : String) (after : Array Go.Edge) (g : Option (Nat × Bool)), Val P ρ ⟨dst, .fieldAddr s x fld, ty, pos, after, g⟩ l R O u' := by
  obtain ⟨b, off, h1, rfl⟩ := hp
  exact ⟨_, ⟨b, off, h1, rfl⟩, fun dst ty pos after g => zz hf hx⟩
theorem z7h (hf : FieldOk P s fld o) (hx : ev l x = u) (hp : z1m T v X u i) : Eff P ρ ⟨dst, .fieldAddr s x fld, ty, pos, after, g⟩ l R O (fun v' R' O' => O' = O ∧ z7u T o v X v' i) := by
  obtain ⟨u', h, hv⟩ := zid (ρ := ρ) (P := P) (R := R) (O := O) hf hx hp
  exact (hv dst ty pos after g).eff.mono fun v' R' O' _ ⟨a, b, c⟩ => by subst a; exact ⟨c, h⟩
theorem ziv (ht : TyOk P t B) (hpart : Part T o B pr) (hv : ORep T R f v X) (hF : Has F f) (hO : O[j]? = some F) (hx : ev l x = u) (hp : z7u T o v X u i) {z : α} (hy : X[i]? = some z) :
    ∃ u, VRep B R u (pr z) ∧ ∀ (dst : Option Tmp) (ty : TypeId) (pos : String) (after : Array Go.Edge) (g : Option (Nat × Bool)), Val P ρ ⟨dst, .load t x, ty, pos, after, g⟩ l R O u := by
  obtain ⟨b, off, hb, rfl⟩ := hp
  rcases hv with ⟨rfl, rfl, _⟩ | ⟨b', pre, cs, cap, bt, rfl, rfl, hc, hcl, hcc, hel⟩
  · simp at hy
  · simp only [capOf, Value.slice.injEq, Option.some.injEq, Addr.mk.injEq, and_true] at hb
    obtain ⟨rfl, rfl⟩ := hb
    have hr : T.rep R (wu (pre ++ cs).toArray (pre.length + i * T.size) T.size) z := by rw [z2o]; simpa [wu] using hel i z hy
    have hr2 := hpart.2 R _ _ hr
    rw [z92 hpart.1] at hr2
    refine ⟨B.mk' (wu (pre ++ cs).toArray (pre.length + i * T.size + o) B.size), ⟨_, hr2, rfl⟩, fun dst ty pos after g A w hh => ?_⟩
    rw [qw (by intro c h; cases h)]
    have hblk : w.heap[b']? = some (.cells (pre ++ cs).toArray bt (0, 0)) := z0c hh (i := j) (by rw [List.getElem?_append_left (by exact (List.getElem?_eq_some_iff.1 hO).1)]; exact hO) (hF _ _ (uj _ _))
    simp only [execOp, hx, Instr.loadAt, Instr.sureAddr, Sem.run_bind, Sem.run_pure, Result.andThen_ok, z6o ht hblk (R := R) (x := pr z) hr2]
theorem z7f [Inhabited α] (ht : TyOk P t B) (hpart : Part T o B pr) (hv : ORep T R f v X) (hO : O[j]? = some f) (hx : ev l x = u) (hp : z7u T o v X u i) (hy : i < X.length) :
    Eff P ρ ⟨dst, .load t x, ty, pos, after, g⟩ l R O (fun v' R' O' => O' = O ∧ phR B (pr (X.getD i default)) v' R') := by
  obtain ⟨w, hw, hv⟩ := ziv (ρ := ρ) (P := P) ht hpart hv (fun _ _ h => h) hO hx hp (getD_some hy)
  exact (hv dst ty pos after g).eff.mono fun v' R' O' _ ⟨a, b, c⟩ => by subst a; subst b; exact ⟨c, hw⟩
end p
section q
variable {P : Program} {ρ : Option Nat} {l : Nat → Value} {R : RH} {O : List Frag} {ty : TypeId} {pos : String} {after : Array Go.Edge} {dst : Option Tmp} {g : Option (Nat × Bool)}
variable {α β : Type} [Inhabited α] {b : Bool} {T : Ty α} {B : Ty β} {Vs : List Value} {X : List (List α)} {v u w : Value} {x y : Operand} {F : Frag} {i j o r : Nat} {t : TypeId} {pr : α → β} {se : α → β → α}
end q
end GV
end Go.Proofs.Ytplgbkaollfmkaa

namespace Go.Proofs.Ytplgbkaollfmkaa
namespace GV
/-! ### A map's entries as a list of pairs, in the order in which the keys came -/
def z0w {κ β : Type} [DecidableEq κ] (z : β) : List (κ × β) → κ → β
  | [], _ => z
  | p :: l, k => if k = p.1 then p.2 else z0w z l k
def z1b {κ β : Type} [DecidableEq κ] : List (κ × β) → κ → Bool
  | [], _ => false
  | p :: l, k => if k = p.1 then true else z1b l k
def z2u {κ β : Type} [DecidableEq κ] : List (κ × β) → κ → β → List (κ × β)
  | [], k, v => [(k, v)]
  | p :: l, k, v => if k = p.1 then (k, v) :: l else p :: z2u l k v
def z3o {κ β : Type} [DecidableEq κ] : List (κ × β) → κ → Nat → Option (Nat × β)
  | [], _, _ => none
  | p :: l, k, i => if k = p.1 then some (i, p.2) else z3o l k (i + 1)
def zat (e : MapEntry) : Value × Value := (e.key, e.val)
def zd1 {κ β : Type} (ke : κ → Value) (ve : β → Value) (es : Array MapEntry) (M : List (κ × β)) : Prop := es.toList.map zat = M.map fun p => (ke p.1, ve p.2)
structure KOk (P : Program) (kt : TypeId) {κ : Type} [DecidableEq κ] (ke : κ → Value) : Prop where
  check : ∀ (b : Bool) (k : κ) (w : World), (Instr.checkKey b 10000 kt (ke k)).run P w = .ok () w
  find : ∀ {β : Type} (k : κ) (es : List MapEntry) (M : List (κ × β)) (ve : β → Value) (w : World), es.map zat = M.map (fun p => (ke p.1, ve p.2)) →
    (Instr.findKey kt (ke k) es).run P w = .ok ((z3o M k 0).map fun p => (p.1, ve p.2)) w
  same : ∀ k : κ, Instr.sameBits 10000 (ke k) (ke k) = true
section m
variable {κ β : Type} [DecidableEq κ] {ke : κ → Value} {ve : β → Value} {M : List (κ × β)} {k : κ} {z : β}
theorem zls (i : Nat) : ((z3o M k i).map (·.2)).getD z = z0w z M k := by
  induction M generalizing i with
  | nil => rfl
  | cons p l ih =>
    unfold z3o z0w
    by_cases h : k = p.1
    · simp [h]
    · simp only [if_neg h]; exact ih (i + 1)
theorem zk3 (i : Nat) : (z3o M k i).isSome = z1b M k := by
  induction M generalizing i with
  | nil => rfl
  | cons p l ih =>
    unfold z3o z1b
    by_cases h : k = p.1
    · simp [h]
    · simp only [if_neg h]; exact ih (i + 1)
theorem zih {i : Nat} {v : β} (h : z3o M k i = none) : z2u M k v = M ++ [(k, v)] := by
  induction M generalizing i with
  | nil => rfl
  | cons p l ih =>
    unfold z3o at h
    by_cases hk : k = p.1
    · simp [hk] at h
    · rw [if_neg hk] at h
      simp only [z2u, if_neg hk, ih h, List.cons_append]
theorem zi7 {i j : Nat} {u v : β} (h : z3o M k i = some (j, u)) : i ≤ j ∧ M[j - i]? = some (k, u) ∧ z2u M k v = M.set (j - i) (k, v) := by
  induction M generalizing i with
  | nil => cases h
  | cons p l ih =>
    unfold z3o at h
    by_cases hk : k = p.1
    · rw [if_pos hk] at h
      simp only [Option.some.injEq, Prod.mk.injEq] at h
      obtain ⟨rfl, rfl⟩ := h
      refine ⟨Nat.le_refl _, ?_, ?_⟩
      · simp [hk]
      · simp [z2u, hk]
    · rw [if_neg hk] at h
      obtain ⟨h1, h2, h3⟩ := ih h
      have e : j - i = (j - (i + 1)) + 1 := by omega
      refine ⟨by omega, ?_, ?_⟩
      · rw [e, List.getElem?_cons_succ]; exact h2
      · rw [e, List.set_cons_succ, ← h3]; simp [z2u, hk]
end m
def MRep {κ β : Type} (ke : κ → Value) (ve : β → Value) (R : RH) (f : Frag) (v : Value) (M : List (κ × β)) : Prop :=
  ∃ b es c, v = .map (some b) ∧ f = single b (.map es c) ∧ zd1 ke ve es M
theorem MRep.mono {κ β : Type} {ke : κ → Value} {ve : β → Value} {R R' : RH} {f : Frag} {v : Value} {M : List (κ × β)} (h : MRep ke ve R f v M) (hle : RH.le R R') : MRep ke ve R' f v M := h
section e
variable {P : Program} {ρ : Option Nat} {n : Nat} {ops : Array Oper} {Q : Po} {rest : List Oper} {l : Nat → Value} {D : List Nat} {R : RH} {O : List Frag} {ty : TypeId} {pos : String} {after : Array Go.Edge} {d : Nat} {dst : Option Tmp} {g : Option (Nat × Bool)}
variable {κ β : Type} {ke : κ → Value} {ve : β → Value} {M : List (κ × β)} {k : κ} {z : β} {t kt et : TypeId} {x y s : Operand} {v : Value} {f : Frag}
theorem zhi : Eff P ρ ⟨dst, .makeMap t none, ty, pos, after, g⟩ l R O (fun v R' O' => R' = R ∧ ∃ f, O' = f :: O ∧ MRep ke ve R f v ([] : List (κ × β))) := by
  intro A w hh; rw [qw (by intro c h; cases h)]
  simp only [execOp, Option.map, Instr.makeMap, Sem.run_bind, run_newObj, Sem.run_pure, Result.andThen_ok]
  exact ⟨R, _, RH.le.refl _, z0g hh _, rfl, _, rfl, _, #[], 0, rfl, rfl, rfl⟩
theorem zcv (hd : Nat.blt d n = true) (hk : ∀ v f, MRep ke ve R f v ([] : List (κ × β)) → wo P ρ n ops Q rest (upd l d v) D R (f :: O)) : wo P ρ n ops Q (⟨some d, .makeMap t none, ty, pos, after, none⟩ :: rest) l D R O :=
  z0t hd (zhi (ke := ke) (ve := ve)) fun v R' O' _ ⟨hR, f, hO, h⟩ => by subst hR; subst hO; exact hk v f h
variable [DecidableEq κ]
theorem zdj {b : Nat} {es : Array MapEntry} {c : Nat} {w : World} {u : β} (hu : P.underlying t = some (.map kt et)) (hK : KOk P kt ke) (hb : w.heap[b]? = some (.map es c)) (hs : zd1 ke ve es M) :
    ∃ es' c', (Instr.mapUpdate t (.map (some b)) (ke k) (ve u)).run P w = .ok () { w with heap := w.heap.setIfInBounds b (.map es' c') } ∧ zd1 ke ve es' (z2u M k u) := by
  have hf := hK.find k es.toList M ve w hs
  unfold Instr.mapUpdate
  simp only [Sem.run_bind, run_underlying hu, Result.andThen_ok, MapKept.run_getObj_map hb, hK.check, hf]
  cases hm : z3o M k 0 with
  | none =>
    simp only [Option.map_none, MapKept.run_setObj_map _ hb]
    refine ⟨_, _, rfl, ?_⟩
    unfold zd1 at hs ⊢
    rw [Array.toList_push, List.map_append, hs, zih hm, List.map_append]
    rfl
  | some p =>
    obtain ⟨j, u0⟩ := p
    obtain ⟨_, h2, h3⟩ := zi7 (v := u) hm
    simp only [Option.map_some]
    have hkey : ((es[j]?).map (·.key)).getD (ke k) = ke k := by
      have h4 : (es.toList.map zat)[j]? = some (ke k, ve u0) := by rw [hs, List.getElem?_map, show M[j]? = some (k, u0) from h2]; rfl
      rw [List.getElem?_map, Array.getElem?_toList] at h4
      cases he : es[j]? with
      | none => rfl
      | some e => rw [he] at h4; simp only [Option.map_some, zat, Option.some.injEq, Prod.mk.injEq] at h4; simp [h4.1]
    rw [hkey]
    simp only [Instr.keyThatStays, hK.same, if_true, Sem.run_pure, Sem.run_bind, Result.andThen_ok, MapKept.run_setObj_map _ hb]
    refine ⟨_, _, rfl, ?_⟩
    unfold zd1 at hs ⊢
    rw [h3, Array.toList_modify]
    apply List.ext_getElem?
    intro i
    have hi : (es.toList.map zat)[i]? = (M.map fun p => (ke p.1, ve p.2))[i]? := by rw [hs]
    rw [List.getElem?_map, List.getElem?_modify, List.getElem?_map, List.getElem?_set]
    rw [List.getElem?_map, List.getElem?_map] at hi
    by_cases hij : j = i
    · subst hij
      have hj : j < M.length := (List.getElem?_eq_some_iff.1 h2).1
      simp only [Nat.sub_zero, if_true, hj]
      rw [show M[j]? = some (k, u0) from h2] at hi
      cases he : es.toList[j]? with
      | none => rw [he] at hi; simp at hi
      | some e => simp [zat]
    · simp only [Nat.sub_zero, if_neg hij]
      simpa using hi
theorem zdg {u : β} {w0 q : Value} {i : Nat} (hu : P.underlying t = some (.map kt et)) (hK : KOk P kt ke) (hO : O[i]? = some f) (h : MRep ke ve R f v M) (hx : ev l x = v) (hy : ev l y = ke k) (hz : ev l s = ve u) :
    Eff P ρ ⟨dst, .mapUpdate t x y s, ty, pos, after, g⟩ l R O (fun v' R' O' => v' = undef ∧ R' = R ∧ ∃ f', O' = O.set i f' ∧ MRep ke ve R f' v (z2u M k u)) := by
  intro A w hh; rw [qw (by intro c h; cases h)]
  obtain ⟨b, es, c, rfl, rfl, hs⟩ := h
  have hlt : i < O.length := (List.getElem?_eq_some_iff.1 hO).1
  have hO' : (O ++ A)[i]? = some (single b (.map es c)) := by rw [List.getElem?_append_left hlt]; exact hO
  have hb : w.heap[b]? = some (.map es c) := z0c hh hO' (uj _ _)
  obtain ⟨es', c', h1, h2⟩ := zdj (k := k) (u := u) hu hK hb hs
  have hex : (execOp (ev l) (⟨dst, .mapUpdate t x y s, ty, pos, after, g⟩ : Oper)).run P w = .ok .skip { w with heap := w.heap.setIfInBounds b (.map es' c') } := by
    simp only [execOp, hx, hy, hz, Sem.run_bind, h1, Result.andThen_ok]
    rfl
  rw [hex]
  have hbs : b < w.heap.size := (Array.getElem?_eq_some_iff.1 hb).1
  refine ⟨R, _, RH.le.refl _, ?_, rfl, rfl, _, rfl, _, es', c', rfl, rfl, h2⟩
  have := z6y (w' := { w with heap := w.heap.setIfInBounds b (.map es' c') }) hh hO' (o' := .map es' c') (by simp [hbs]) (fun j hj => by simp [Ne.symm hj]) rfl rfl trivial
  rwa [List.set_append_left _ _ hlt] at this
theorem z9l {u : β} {i : Nat} (hu : P.underlying t = some (.map kt et)) (hK : KOk P kt ke) (hO : O[i]? = some f) (h : MRep ke ve R f v M) (hx : ev l x = v) (hy : ev l y = ke k) (hz : ev l s = ve u)
    (hk : ∀ f', MRep ke ve R f' v (z2u M k u) → wo P ρ n ops Q rest l D R (O.set i f')) : wo P ρ n ops Q (⟨none, .mapUpdate t x y s, ty, pos, after, none⟩ :: rest) l D R O :=
  z9v (zdg (w0 := undef) (q := undef) hu hK hO h hx hy hz) fun v' R' O' _ ⟨_, hR, f', hO', h⟩ => by subst hR; subst hO'; exact hk f' h
def MAt (ke : κ → Value) (ve : β → Value) (R : RH) (O : List Frag) (v : Value) (M : List (κ × β)) : Prop :=
  ∀ A w, Holds R (O ++ A) w → ∃ b es c, v = .map (some b) ∧ w.heap[b]? = some (.map es c) ∧ zd1 ke ve es M
omit [DecidableEq κ] in
theorem zbg {i : Nat} (hO : O[i]? = some f) (h : MRep ke ve R f v M) : MAt ke ve R O v M := by
  intro A w hh
  obtain ⟨b, es, c, rfl, rfl, hs⟩ := h
  have hlt : i < O.length := (List.getElem?_eq_some_iff.1 hO).1
  exact ⟨b, es, c, rfl, z0c hh (by rw [List.getElem?_append_left hlt]; exact hO) (uj _ _), hs⟩
omit [DecidableEq κ] in
theorem zmj {at' : Array TypeId} (ht : at'[0]? = some t) (hu : P.underlying t = some (.map kt et)) (hx : ev l x = v) (h : MAt ke ve R O v M) : Val P ρ ⟨dst, .call ⟨.builtin .len, #[x], at'⟩, ty, pos, after, g⟩ l R O (.int .i64 M.length) := by
  intro A w hh; rw [qw (by intro c h; cases h)]
  obtain ⟨b, es, c, rfl, hb, hs⟩ := h A w hh
  have hl : es.size = M.length := by
    have := congrArg List.length hs
    simpa using this
  simp [execOp, resolve, invoke, builtin, Builtin.len_, ht, underlying, hu, hx, goInt, MapKept.run_getObj_map hb, hl]
theorem zdd {b : Nat} {es : Array MapEntry} {c : Nat} {w : World} (hu : P.underlying t = some (.map kt et)) (hK : KOk P kt ke) (hz : ∀ w, (zeroValue et).run P w = .ok (ve z) w) (hb : w.heap[b]? = some (.map es c)) (hs : zd1 ke ve es M) (ok : Bool) :
    (Instr.lookup t (.map (some b)) (ke k) ok).run P w = .ok (if ok then .tuple #[ve (z0w z M k), .bool (z1b M k)] else ve (z0w z M k)) w := by
  have hf := hK.find k es.toList M ve w hs
  unfold Instr.lookup
  simp only [Sem.run_bind, run_underlying hu, Result.andThen_ok, MapKept.run_getObj_map hb, hK.check, hf, Sem.run_pure]
  rw [← zls 0, ← zk3 0]
  cases hm : z3o M k 0 with
  | none => simp [hz]
  | some p => simp
theorem zcs (hu : P.underlying t = some (.map kt et)) (hK : KOk P kt ke) (hz : ∀ w, (zeroValue et).run P w = .ok (ve z) w) (h : MAt ke ve R O v M) (hx : ev l x = v) (hy : ev l y = ke k) : Val P ρ ⟨dst, .lookup t x y false, ty, pos, after, g⟩ l R O (ve (z0w z M k)) := by
  intro A w hh; rw [qw (by intro c h; cases h)]
  obtain ⟨b, es, c, rfl, hb, hs⟩ := h A w hh
  simp only [execOp, hx, hy, Sem.run_bind, zdd (k := k) hu hK hz hb hs, Result.andThen_ok]
  rfl
theorem zgs (hu : P.underlying t = some (.map kt et)) (hK : KOk P kt ke) (hz : ∀ w, (zeroValue et).run P w = .ok (ve z) w) (h : MAt ke ve R O v M) (hx : ev l x = v) (hy : ev l y = ke k) : Val P ρ ⟨dst, .lookup t x y true, ty, pos, after, g⟩ l R O (.tuple #[ve (z0w z M k), .bool (z1b M k)]) := by
  intro A w hh; rw [qw (by intro c h; cases h)]
  obtain ⟨b, es, c, rfl, hb, hs⟩ := h A w hh
  simp only [execOp, hx, hy, Sem.run_bind, zdd (k := k) hu hK hz hb hs, Result.andThen_ok]
  rfl
end e
end GV
end Go.Proofs.Ytplgbkaollfmkaa
