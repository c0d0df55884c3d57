
import Derived.WalkKit
import Derived.RangeFuncLeaves
import Derived.RangeFuncCalls
import Derived.OrdersIn
set_option linter.unusedVariables false
set_option linter.unusedSimpArgs false
namespace Go.Proofs.Ytplgbkaollfmkaa
namespace GV
abbrev Frag := Nat → Option Obj
def zo0 : Obj → Prop := fun _ => True
def NF (lo : Nat) (w : World) : Prop := ∀ k o, lo ≤ k → w.heap[k]? = some o → zo0 o
structure RH where
  blk : Frag
  os : Os × Nat
  out : Array (Nat × ByteArray)
structure RH.le (a b : RH) : Prop where
  blk : ∀ k o, a.blk k = some o → b.blk k = some o
  os : b.os = a.os
  out : b.out = a.out
theorem RH.le.refl (a : RH) : RH.le a a := ⟨fun _ _ h => h, rfl, rfl⟩
theorem RH.le.trans {a b c : RH} (h : RH.le a b) (k : RH.le b c) : RH.le a c :=
  ⟨fun i o x => k.blk i o (h.blk i o x), k.os.trans h.os, k.out.trans h.out⟩
structure Holds (R : RH) (O : List Frag) (w : World) : Prop where
  ro : ∀ k o, R.blk k = some o → w.heap[k]? = some o
  own : ∀ f ∈ O, ∀ k o, f k = some o → w.heap[k]? = some o ∧ R.blk k = none
  sep : O.Pairwise fun f g => ∀ k, f k = none ∨ g k = none
  os : w.os = R.os.1 ∧ NF R.os.2 w
  out : w.output = R.out
def single (b : Nat) (o : Obj) : Frag := fun k => bif Nat.beq k b then some o else none
theorem uj (b : Nat) (o : Obj) : single b o b = some o := by simp [single]
theorem zay {b k : Nat} {o o' : Obj} (h : single b o k = some o') : k = b ∧ o' = o := by
  unfold single at h
  cases e : Nat.beq k b
  · rw [e] at h; cases h
  · rw [e] at h; simp at h; exact ⟨Nat.eq_of_beq_eq_true e, h.symm⟩
theorem za6 {b k : Nat} {o : Obj} (h : k ≠ b) : single b o k = none := by
  unfold single
  cases e : Nat.beq k b
  · rfl
  · exact absurd (Nat.eq_of_beq_eq_true e) h
def emp : Frag := fun _ => none
def upd (l : Nat → Value) (d : Nat) (v : Value) : Nat → Value := fun i => bif Nat.beq i d then v else l i
def ev (l : Nat → Value) : Operand → Value
  | .tmp t => l t
  | .const v => v
  | .global g => .pointer (some ⟨g, 0, none⟩)
  | .func f => .func (.func f) #[] #[]
def zsp (l : Nat → Value) : Option Nat → Value → Nat → Value
  | some d, v => upd l d v
  | none, _ => l
theorem zmh (l : Nat → Value) (d : Nat) : upd l d (l d) = l := by
  funext i
  unfold upd
  cases e : Nat.beq i d
  · rfl
  · rw [Nat.eq_of_beq_eq_true e]; rfl
structure Fr (n : Nat) (l : Nat → Value) (D : List Nat) (a : Act) : Prop where
  size : a.tmps.size = n
  get : ∀ i, a.tmps.getD i undef = l i
  defers : a.defers = D.map fun r => ({ target := .collected r, args := #[] } : Deferred)
theorem Fr.eval {n : Nat} {l : Nat → Value} {D : List Nat} {a : Act} (h : Fr n l D a) : a.eval = ev l := by
  funext x
  cases x with
  | tmp t => exact h.get t
  | const v => rfl
  | global g => rfl
  | func f => rfl
theorem Fr.put {n : Nat} {l : Nat → Value} {D : List Nat} {a : Act} (h : Fr n l D a) {d : Option Nat} (hd : ∀ t, d = some t → t < n) (v : Value) :
    Fr n (zsp l d v) D (a.put d v) := by
  cases d with
  | none => exact h
  | some t =>
    have ht : t < a.tmps.size := h.size ▸ hd t rfl
    refine ⟨by simp [Act.put, h.size], fun i => ?_, h.defers⟩
    show (a.tmps.setIfInBounds t v).getD i undef = upd l t v i
    unfold upd
    cases e : Nat.beq i t
    · have hne : t ≠ i := fun he => by subst he; simp at e
      rw [show (bif false then v else l i) = l i from rfl, ← h.get i]
      simp only [Array.getD_eq_getD_getElem?, Array.getElem?_setIfInBounds]
      rw [if_neg hne]
    · have hi := Nat.eq_of_beq_eq_true e
      subst hi
      simp only [Array.getD_eq_getD_getElem?, Array.getElem?_setIfInBounds]
      simp [ht]
def z0o (r : Nat) : Frag := single r (.deferred (some []))
abbrev Po := Exit → (Nat → Value) → List Nat → RH → List Frag → Prop
def wide (ρ : Option Nat) : Fence := { Fence.wide with round := ρ }
theorem zkv (ρ : Option Nat) (k : Nat) : (wide ρ).room k := fun d hd => by cases hd
def lift (n : Nat) (Q : Po) : Exit → Act → World → Prop := fun e a w =>
  ∃ l D R O, Fr n l D a ∧ Holds R (O ++ D.map z0o) w ∧ Q e l D R O
def wg (P : Program) (ρ : Option Nat) (n : Nat) (c : Code) (Q : Po) (l : Nat → Value) (D : List Nat) (R : RH) (O : List Frag) : Prop :=
  ∀ a w, Fr n l D a → Holds R (O ++ D.map z0o) w → c.wpIn (wide ρ) 0 P (lift n Q) a w
def thn (K : (Nat → Value) → List Nat → RH → List Frag → Prop) (Q : Po) : Po
  | .normal, l, D, R, O => K l D R O
  | e, l, D, R, O => Q e l D R O
section rules
variable {P : Program} {ρ : Option Nat} {n : Nat} {Q : Po} {l : Nat → Value} {D : List Nat} {R : RH} {O : List Frag}
theorem za4 {c : Code} {Q' : Po} (h : wg P ρ n c Q l D R O) (hq : ∀ e l D R O, Q e l D R O → Q' e l D R O) : wg P ρ n c Q' l D R O :=
  fun a w hf hh => wpIn_mono (h a w hf hh) fun _ _ _ ⟨l', D', R', O', x, y, z⟩ => ⟨l', D', R', O', x, y, hq _ _ _ _ _ z⟩
theorem qb (h : Q .normal l D R O) : wg P ρ n .skip Q l D R O := fun _ _ hf hh => wpIn_skip ⟨l, D, R, O, hf, hh, h⟩
theorem ku {id : Nat} (h : Q (.exit id) l D R O) : wg P ρ n (.exit id) Q l D R O := fun _ _ hf hh => wpIn_exit ⟨l, D, R, O, hf, hh, h⟩
theorem qj (h : Q .ret l D R O) : wg P ρ n .ret Q l D R O := fun _ _ hf hh => wpIn_ret ⟨l, D, R, O, hf, hh, h⟩
theorem zg {x y : Code} (h : wg P ρ n x (thn (wg P ρ n y Q) Q) l D R O) : wg P ρ n (.seq x y) Q l D R O :=
  fun a w hf hh => wpIn_seq (wpIn_mono (h a w hf hh) fun e a' w' ⟨l', D', R', O', x, y, z⟩ => by
    cases e with
    | normal => exact z a' w' x y
    | _ => exact ⟨l', D', R', O', x, y, z⟩)
theorem q9 {c : Operand} {x y : Code} {t : Bool} (hc : ev l c = .bool t) (ht : t = true → wg P ρ n x Q l D R O) (hf : t = false → wg P ρ n y Q l D R O) :
    wg P ρ n (.cond c x y) Q l D R O := by
  intro a w hfr hh
  have hc' : a.eval c = .bool t := by rw [hfr.eval]; exact hc
  exact wpIn_cond_split hc' (fun e => ht e a w hfr hh) (fun e => hf e a w hfr hh)
def zr1 (id : Nat) (Q : Po) : Po
  | .exit id', l, D, R, O => bif Nat.beq id' id then Q .normal l D R O else Q (.exit id') l D R O
  | e, l, D, R, O => Q e l D R O
theorem q8 {id : Nat} {c : Code} (h : wg P ρ n c (zr1 id Q) l D R O) : wg P ρ n (.block id c) Q l D R O :=
  fun a w hf hh => wpIn_block (wpIn_mono (h a w hf hh) fun e a' w' ⟨l', D', R', O', x, y, z⟩ => by
    cases e with
    | exit id' =>
      simp only [Exit.inBlock]
      simp only [zr1] at z
      split
      · rename_i hid; subst hid; rw [Nat.beq_refl] at z; exact ⟨l', D', R', O', x, y, z⟩
      · rename_i hid
        have : Nat.beq id' id = false := by
          cases hb : Nat.beq id' id
          · rfl
          · exact absurd (Nat.eq_of_beq_eq_true hb) hid
        rw [this] at z; exact ⟨l', D', R', O', x, y, z⟩
    | _ => exact ⟨l', D', R', O', x, y, z⟩)
theorem zju {c : Code} (I : Nat → (Nat → Value) → List Nat → RH → List Frag → Prop) (k0 : Nat) (h0 : I k0 l D R O)
    (round : ∀ k l D R O, I k l D R O → wg P ρ n c (thn (fun l' D' R' O' => ∃ k' < k, I k' l' D' R' O') Q) l D R O) : wg P ρ n (.loop c) Q l D R O := by
  intro a w hf hh
  intro b kk cs hro hb hr
  have key : ∀ (k : Nat) (a : Act) (w : World), (∃ l D R O, Fr n l D a ∧ Holds R (O ++ D.map z0o) w ∧ I k l D R O) →
      ∃ e a' w', lift n Q e a' w' ∧ ArrivesIn (Machine.fenced P (wide ρ)) P (lone (b.atR a (.code c :: .inLoop c :: kk)) cs w) b kk cs e a' w' := by
    intro k
    induction k using Nat.strongRecOn with
    | _ k ih =>
      intro a w ⟨l, D, R, O, hf, hh, hI⟩
      obtain ⟨e, a₁, w₁, hq, harr⟩ := round k l D R O hI a w hf hh b (.inLoop c :: kk) cs hro hb hr
      obtain ⟨l1, D1, R1, O1, hf1, hh1, hq1⟩ := hq
      cases e with
      | normal =>
        obtain ⟨k', hlt, hI'⟩ := hq1
        obtain ⟨e₂, a₂, w₂, hq₂, harr₂⟩ := ih k' hlt a₁ w₁ ⟨l1, D1, R1, O1, hf1, hh1, hI'⟩
        refine ⟨e₂, a₂, w₂, hq₂, ?_⟩
        have h1 : StepsIn (Machine.fenced P (wide ρ)) P (lone (b.atR a (.code c :: .inLoop c :: kk)) cs w) (lone (b.atR a₁ (.inLoop c :: kk)) cs w₁) := harr
        exact .of_steps (StepsIn.trans h1 (.one (fenced_calm hb hr rfl) stepR_inLoop)) harr₂
      | exit id => exact ⟨_, a₁, w₁, ⟨l1, D1, R1, O1, hf1, hh1, hq1⟩, .pass (x := .inLoop c) rfl (fun _ _ => .inl (by simp)) harr⟩
      | goto l => exact ⟨_, a₁, w₁, ⟨l1, D1, R1, O1, hf1, hh1, hq1⟩, .pass (x := .inLoop c) rfl (fun _ _ => .inl (by simp)) harr⟩
      | ret => exact ⟨_, a₁, w₁, ⟨l1, D1, R1, O1, hf1, hh1, hq1⟩, .pass (x := .inLoop c) rfl (fun _ _ => .inl (by simp)) harr⟩
      | panic ch => exact ⟨_, a₁, w₁, ⟨l1, D1, R1, O1, hf1, hh1, hq1⟩, .pass (x := .inLoop c) rfl (fun _ _ => .inl (by simp)) harr⟩
      | outgrown => exact ⟨_, a₁, w₁, ⟨l1, D1, R1, O1, hf1, hh1, hq1⟩, .pass (x := .inLoop c) rfl (fun _ _ => .inl (by simp)) harr⟩
  obtain ⟨e, a', w', hq, harr⟩ := key k0 a w ⟨l, D, R, O, hf, hh, h0⟩
  exact ⟨e, a', w', hq, .of_steps (.one (fenced_calm hb hr rfl) stepR_loop) harr⟩
end rules
/-! ### Operations -/
def Out (P : Program) (K : Value → World → Prop) : Result Next → Prop
  | .ok (.value v) w => K v w
  | .ok .skip w => K undef w
  | .ok (.enter f args) w => Calls P f args w fun e w' => ∃ v, e = .returned v ∧ K v w'
  | .ok (.round l f tmps as b) w => RoundIn Fence.wide 0 P l f tmps as b w fun e w' => ∃ v, e = .returned v ∧ K v w'
  | _ => False
def Eff (P : Program) (ρ : Option Nat) (o : Oper) (l : Nat → Value) (R : RH) (O : List Frag) (φ : Value → RH → List Frag → Prop) : Prop :=
  ∀ A w, Holds R (O ++ A) w → Out P (fun v w' => ∃ R' O', R.le R' ∧ Holds R' (O' ++ A) w' ∧ φ v R' O') ((o.semAt ρ (ev l)).run P w)
def Val (P : Program) (ρ : Option Nat) (o : Oper) (l : Nat → Value) (R : RH) (O : List Frag) (v : Value) : Prop :=
  ∀ A w, Holds R (O ++ A) w → (o.semAt ρ (ev l)).run P w = .ok (.value v) w
theorem Eff.mono {P : Program} {ρ : Option Nat} {o : Oper} {l : Nat → Value} {R : RH} {O : List Frag} {φ ψ : Value → RH → List Frag → Prop}
    (h : Eff P ρ o l R O φ) (hp : ∀ v R' O', R.le R' → φ v R' O' → ψ v R' O') : Eff P ρ o l R O ψ := by
  intro A w hh
  have := h A w hh
  generalize (o.semAt ρ (ev l)).run P w = r at *
  cases r with
  | halt x y => exact this
  | ok nx w1 =>
    cases nx with
    | value v => obtain ⟨R', O', a, b, c⟩ := this; exact ⟨R', O', a, b, hp _ _ _ a c⟩
    | skip => obtain ⟨R', O', a, b, c⟩ := this; exact ⟨R', O', a, b, hp _ _ _ a c⟩
    | enter f args => exact Calls.mono this fun e w' ⟨v, he, R', O', a, b, c⟩ => ⟨v, he, R', O', a, b, hp _ _ _ a c⟩
    | round l f tmps as b => exact RoundIn.mono this fun e w' ⟨v, he, R', O', a, b, c⟩ => ⟨v, he, R', O', a, b, hp _ _ _ a c⟩
    | _ => exact this
theorem Val.eff {P : Program} {ρ : Option Nat} {o : Oper} {l : Nat → Value} {R : RH} {O : List Frag} {v : Value} (h : Val P ρ o l R O v) :
    Eff P ρ o l R O (fun v' R' O' => v' = v ∧ R' = R ∧ O' = O) := by
  intro A w hh
  rw [h A w hh]
  exact ⟨R, O, RH.le.refl _, hh, rfl, rfl, rfl⟩
def wlo (F : Fence) (n : Nat) (P : Program) (ops : Array Oper) (Q : Exit → Act → World → Prop) : List Oper → Act → World → Prop
  | [], a, w => Q .normal a w
  | o :: rest, a, w => if Region.wanted o (yielded ops a.tmps) then o.wpIn F n P a w (wlo F n P ops Q rest) Q
      else (∀ f, o.about P w a.eval = some f → F.fn f) ∧ wlo F n P ops Q rest (a.put o.dst undef) w
theorem z3l {F : Fence} {n : Nat} {P : Program} {ops : Array Oper} {Q : Exit → Act → World → Prop} :
    ∀ (rest : List Oper) (k : Nat), (∀ j, rest[j]? = ops[k + j]?) → ∀ (a : Act) (w : World), wlo F n P ops Q rest a w → wpOpsIn F n P ops Q (List.range' k rest.length) a w
  | [], k, _, a, w, h => h
  | o :: rest, k, hk, a, w, h => by
    have h0 : ops[k]? = some o := by have := hk 0; simpa using this.symm
    have hrest : ∀ j, rest[j]? = ops[(k + 1) + j]? := fun j => by have := hk (j + 1); rw [show k + (j + 1) = k + 1 + j from by omega] at this; simpa using this
    simp only [List.length_cons, List.range'_succ, wpOpsIn, h0]
    simp only [wlo] at h
    split
    · rename_i hw
      rw [if_pos hw] at h
      exact Oper.wpIn_mono (fun a w => z3l rest (k + 1) hrest a w) h
    · rename_i hw
      rw [if_neg hw] at h
      exact ⟨h.1, z3l rest (k + 1) hrest _ _ h.2⟩
def wo (P : Program) (ρ : Option Nat) (n : Nat) (ops : Array Oper) (Q : Po) (os : List Oper) (l : Nat → Value) (D : List Nat) (R : RH) (O : List Frag) : Prop :=
  ∀ a w, Fr n l D a → Holds R (O ++ D.map z0o) w → wlo (wide ρ) 0 P ops (lift n Q) os a w
section ops
variable {P : Program} {ρ : Option Nat} {n : Nat} {Q : Po} {l : Nat → Value} {D : List Nat} {R : RH} {O : List Frag} {ops : Array Oper} {rest : List Oper}
theorem za {id : Nat} {os : List Oper} (h : wo P ρ n os.toArray Q os l D R O) : wg P ρ n (.region id os.toArray false) Q l D R O := by
  intro a w hf hh
  refine wpIn_region ?_
  have := z3l os 0 (fun j => by simp) a w (h a w hf hh)
  simpa [List.range_eq_range'] using this
theorem zh (h : Q .normal l D R O) : wo P ρ n ops Q [] l D R O := fun _ _ hf hh => ⟨l, D, R, O, hf, hh, h⟩
theorem Calls.callsIn {f : FuncId} {args : Array Value} {w : World} {K : Ending → World → Prop} {m : Nat} (ρ : Option Nat) (h : Calls P f args w K) : CallsIn (wide ρ) m P f args w K :=
  (callsIn_wide.2 h : CallsIn Fence.wide m P f args w K)
theorem RoundIn.wide {m : Nat} {l : Nat} {f : FuncId} {tmps : Array Value} {as b : Code} {w : World} {K : Ending → World → Prop} (ρ : Option Nat) (h : RoundIn Fence.wide 0 P l f tmps as b w K) :
    RoundIn (wide ρ) m P l f tmps as b w K :=
  ⟨trivial, fun c cs _ => h.2 c cs (zkv none _)⟩
theorem z2e {o : Oper} {φ : Value → RH → List Frag → Prop} {K : Act → World → Prop} {Q' : Exit → Act → World → Prop} {a : Act} {w : World} {A : List Frag}
    (hf : Fr n l D a) (hh : Holds R (O ++ A) w) (h : Eff P ρ o l R O φ)
    (hk : ∀ v R' O' w', R.le R' → Holds R' (O' ++ A) w' → φ v R' O' → K (a.put o.dst v) w') : o.wpIn (wide ρ) 0 P a w K Q' := by
  refine ⟨fun _ _ => trivial, ?_⟩
  have := h A w hh
  rw [hf.eval]
  show Oper.uponIn (wide ρ) 0 P o a K Q' ((o.semAt ρ (ev l)).run P w)
  generalize (o.semAt ρ (ev l)).run P w = r at *
  cases r with
  | halt x y => exact this.elim
  | ok nx w1 =>
    cases nx with
    | value v => obtain ⟨R', O', a, b, c⟩ := this; exact hk v R' O' w1 a b c
    | skip => obtain ⟨R', O', a, b, c⟩ := this; exact hk undef R' O' w1 a b c
    | enter f args =>
      refine ⟨fun h => (by cases h), Calls.callsIn ρ (Calls.mono this ?_)⟩
      rintro e w' ⟨v, rfl, R', O', a, b, c⟩
      exact hk v R' O' w' a b c
    | round l f tmps as b =>
      refine ⟨fun h => (by cases h), RoundIn.wide ρ (RoundIn.mono this ?_)⟩
      rintro e w' ⟨v, rfl, R', O', a, b, c⟩
      exact hk v R' O' w' a b c
    | _ => exact this.elim
theorem z13 {o : Oper} {y : Nat → Option Bool} (h : o.guard = none) : Region.wanted o y = true := by simp [Region.wanted, h]
theorem zfr {o : Oper} {φ : Value → RH → List Frag → Prop} (hg : o.guard = none) (hd : ∀ t, o.dst = some t → t < n) (h : Eff P ρ o l R O φ)
    (hk : ∀ v R' O', R.le R' → φ v R' O' → wo P ρ n ops Q rest (zsp l o.dst v) D R' O') : wo P ρ n ops Q (o :: rest) l D R O := by
  intro a w hf hh
  simp only [wlo, z13 hg, if_true]
  exact z2e hf hh h fun v R' O' w' hle hh' hp => hk v R' O' hle hp _ _ (hf.put hd v) hh'
theorem zs1 {o : Oper} {d : Nat} {v : Value} (hg : o.guard = none) (hdst : o.dst = some d) (hd : Nat.blt d n = true) (h : Val P ρ o l R O v)
    (hk : wo P ρ n ops Q rest (upd l d v) D R O) : wo P ρ n ops Q (o :: rest) l D R O := by
  refine zfr hg (fun t ht => ?_) h.eff ?_
  · rw [hdst] at ht; cases ht; simpa using hd
  · rintro _ _ _ _ ⟨rfl, rfl, rfl⟩
    rw [hdst]; exact hk
def z1y (ops : Array Oper) (j : Nat) : Option Nat := (ops[j]?).bind (·.dst)
theorem z8t {a : Act} {j s : Nat} {b : Bool} (hf : Fr n l D a) (hs : z1y ops j = some s) (hsn : s < n) (hv : l s = .bool b) : yielded ops a.tmps j = some b := by
  unfold yielded
  unfold z1y at hs
  rw [hs]
  have hg := hf.get s
  rw [hv, Array.getD_eq_getD_getElem?] at hg
  simp only [Option.bind_some]
  cases h : a.tmps[s]? with
  | none =>
    have := hf.size
    rw [Array.getElem?_eq_none_iff] at h
    omega
  | some u => rw [h] at hg; simp at hg; rw [hg]
end ops
/-! ### Contracts -/
def CallP (P : Program) (f : FuncId) (args : Array Value) (R : RH) (post : Value → RH → Prop) : Prop :=
  ∀ A w, Holds R A w → Calls P f args w fun e w' => ∃ v, e = .returned v ∧ ∃ R', R.le R' ∧ Holds R' A w' ∧ post v R'
def CallG (P : Program) (f : FuncId) (args : Array Value) (R : RH) (O : List Frag) (post : Value → RH → List Frag → Prop) : Prop :=
  ∀ A w, Holds R (O ++ A) w → Calls P f args w fun e w' => ∃ v, e = .returned v ∧ ∃ R' O', R.le R' ∧ Holds R' (O' ++ A) w' ∧ post v R' O'
theorem CallP.mono {P : Program} {f : FuncId} {args : Array Value} {R : RH} {post post' : Value → RH → Prop} (h : CallP P f args R post) (hp : ∀ v R', R.le R' → post v R' → post' v R') : CallP P f args R post' :=
  fun A w hh => Calls.mono (h A w hh) fun _ _ ⟨v, he, R', a, b, c⟩ => ⟨v, he, R', a, b, hp v R' a c⟩
theorem CallG.mono {P : Program} {f : FuncId} {args : Array Value} {R : RH} {O : List Frag} {post post' : Value → RH → List Frag → Prop} (h : CallG P f args R O post)
    (hp : ∀ v R' O', R.le R' → post v R' O' → post' v R' O') : CallG P f args R O post' :=
  fun A w hh => Calls.mono (h A w hh) fun _ _ ⟨v, he, R', O', a, b, c⟩ => ⟨v, he, R', O', a, b, hp v R' O' a c⟩
theorem CallP.toG {P : Program} {f : FuncId} {args : Array Value} {R : RH} {O : List Frag} {post : Value → RH → Prop} (h : CallP P f args R post) : CallG P f args R O (fun v R' O' => O' = O ∧ post v R') :=
  fun A w hh => Calls.mono (h (O ++ A) w hh) fun _ _ ⟨v, he, R', a, b, c⟩ => ⟨v, he, R', O, a, b, rfl, c⟩
theorem CallG.toP {P : Program} {f : FuncId} {args : Array Value} {R : RH} {post : Value → RH → Prop} (h : CallG P f args R [] (fun v R' O' => O' = [] ∧ post v R')) : CallP P f args R post :=
  fun A w hh => Calls.mono (h A w hh) fun _ _ ⟨v, he, R', O', a, b, c, d⟩ => ⟨v, he, R', a, by subst c; exact b, d⟩
theorem yc {R : RH} {O O' : List Frag} {w : World} (h : Holds R O w) (hp : O.Perm O') : Holds R O' w :=
  ⟨h.ro, fun f hf => h.own f (hp.mem_iff.2 hf), (hp.pairwise_iff (fun {x y} hxy k => (hxy k).symm)).1 h.sep, h.os, h.out⟩
theorem putObj_heap_same {w : World} {r : Nat} {o o' : Obj} (h : w.heap[r]? = some o) : (w.putObj r o').heap[r]? = some o' := by
  have hlt : r < w.heap.size := (Array.getElem?_eq_some_iff.1 h).1
  simp only [World.putObj]
  rw [Array.getElem?_setIfInBounds]
  simp [hlt]
theorem z3h {R : RH} {O : List Frag} {w w' : World} {r : Nat} {o o' : Obj} (h : Holds R (single r o :: O) w) (hs : w'.heap[r]? = some o')
    (hk : ∀ k, k ≠ r → w'.heap[k]? = w.heap[k]?) (hos : w'.os = w.os) (hout : w'.output = w.output) (ho : zo0 o' := by first | exact rfl | exact trivial) : Holds R (single r o' :: O) w' := by
  have h0 := h.own (single r o) (List.mem_cons_self ..) r o (uj r o)
  refine ⟨fun k ob hb => ?_, fun f hf k ob hb => ?_, ?_, ⟨hos.trans h.os.1, fun k ob hk' hb => ?_⟩, hout.trans h.out⟩
  · have hne : k ≠ r := fun e => by subst e; rw [h0.2] at hb; cases hb
    rw [hk k hne]; exact h.ro k ob hb
  · rcases List.mem_cons.1 hf with rfl | hf'
    · obtain ⟨rfl, rfl⟩ := zay hb
      exact ⟨hs, h0.2⟩
    · have h1 := h.own f (List.mem_cons_of_mem _ hf') k ob hb
      have hne : k ≠ r := by
        intro e
        subst e
        rcases (List.pairwise_cons.1 h.sep).1 f hf' k with h2 | h2
        · rw [uj] at h2; cases h2
        · rw [h2] at hb; cases hb
      exact ⟨(hk k hne).trans h1.1, h1.2⟩
  · refine List.pairwise_cons.2 ⟨fun f hf k => ?_, (List.pairwise_cons.1 h.sep).2⟩
    rcases (List.pairwise_cons.1 h.sep).1 f hf k with h2 | h2
    · left
      by_cases e : k = r
      · subst e; rw [uj] at h2; cases h2
      · exact za6 e
    · exact .inr h2
  · by_cases e : k = r
    · subst e; rw [hs] at hb; exact Option.some.inj hb ▸ ho
    · rw [hk k e] at hb; exact h.os.2 k ob hk' hb
theorem z7z {R : RH} {f : Frag} {O : List Frag} {w : World} (h : Holds R (f :: O) w) : Holds R O w :=
  ⟨h.ro, fun g hg => h.own g (List.mem_cons_of_mem _ hg), (List.pairwise_cons.1 h.sep).2, h.os, h.out⟩
def zj9 (args : List Value) : Nat → Value := fun i => args.getD i undef
theorem z9b {P : Program} {fn : Func} {tmps : Array Value} {K : Ending → World → Prop} {R : RH} {O : List Frag}
    (hres : ∀ w, Holds R O w → ∃ v, (results fn tmps).run P w = .ok v w ∧ K (.returned v) w) :
    ∀ (D : List Nat) (w : World), Holds R (D.map z0o ++ O) w →
      LeavesInM Fence.wide 0 P fn tmps K (D.map fun r => ({ target := .collected r, args := #[] } : Deferred)) .returning w
  | [], w, hh => hres w hh
  | r :: D, w, hh => by
    refine ⟨by simp, .inl ⟨r, _, rfl, run_takeDeferred ((hh.own (z0o r) (List.mem_cons_self ..) r _ (uj r _)).1), ?_⟩⟩
    refine z9b hres D _ (z7z (f := single r (.deferred none)) (z3h hh (putObj_heap_same ((hh.own (z0o r) (List.mem_cons_self ..) r _ (uj r _)).1)) (fun k hk => ?_) rfl rfl))
    simp only [World.putObj]
    rw [Array.getElem?_setIfInBounds, if_neg (fun e => hk e.symm)]
def z5y (P : Program) (fn : Func) (R0 : RH) (A : List Frag) (post : Value → RH → List Frag → Prop) : Po
  | .normal, l, _, R, O | .ret, l, _, R, O => ∃ v R' O', R0.le R' ∧ (∀ w, Holds R O w → Holds R' (O' ++ A) w) ∧ post v R' O' ∧
      ∀ (tmps : Array Value), (∀ i, tmps.getD i undef = l i) → ∀ w, Holds R O w → (results fn tmps).run P w = .ok v w
  | _, _, _, _, _ => False
theorem ow {P : Program} {f : FuncId} {fn : Func} {c : Code} {args : List Value} {R : RH} {O : List Frag} {post : Value → RH → List Frag → Prop}
    (hf : P.funcs[f]? = some fn) (hb : fn.body = some c) (hn : Nat.ble args.length fn.ntmps = true)
    (h : ∀ A, wg P none fn.ntmps c (z5y P fn R A post) (zj9 args) [] R (O ++ A)) : CallG P f args.toArray R O post := by
  have hn' : args.length ≤ fn.ntmps := by simpa using hn
  intro A w hh
  refine (callsIn_wide (n := 0)).1 (callsIn_of_wp_marks (F := Fence.wide) hf hb trivial ?_)
  have hfr : Fr fn.ntmps (zj9 args) [] { tmps := args.toArray ++ Array.replicate (fn.ntmps - args.toArray.size) undef, defers := [] } := by
    refine ⟨by simp; omega, fun i => ?_, rfl⟩
    simp only [zj9, Array.getD_eq_getD_getElem?, List.getD_eq_getElem?_getD, Array.getElem?_append, List.size_toArray, List.getElem?_toArray]
    split
    · rfl
    · rename_i hi
      rw [List.getElem?_eq_none (by omega)]
      simp only [Array.getElem?_replicate]
      split <;> rfl
  have hend : ∀ (l : Nat → Value) (D : List Nat) (R1 : RH) (O1 : List Frag) (a' : Act) (w' : World), Fr fn.ntmps l D a' → Holds R1 (O1 ++ D.map z0o) w' → z5y P fn R A post .ret l D R1 O1 →
      LeavesInM Fence.wide 0 P fn a'.tmps (fun e w' => ∃ v, e = .returned v ∧ ∃ R' O', R.le R' ∧ Holds R' (O' ++ A) w' ∧ post v R' O') a'.defers .returning w' := by
    rintro l D R1 O1 a' w' hf1 hh1 ⟨v, R', O', hle, hmv, hp, hres⟩
    rw [hf1.defers]
    refine z9b (R := R1) (O := O1) (fun w2 h2 => ⟨v, hres _ hf1.get w2 h2, v, rfl, R', O', hle, hmv w2 h2, hp⟩) D w' (yc hh1 List.perm_append_comm)
  refine wpIn_mono (h A _ w hfr (by simpa using hh)) ?_
  rintro e a' w' ⟨l, D, R1, O1, hf1, hh1, hq⟩
  cases e with
  | normal => exact hend l D R1 O1 a' w' hf1 hh1 hq
  | ret => exact hend l D R1 O1 a' w' hf1 hh1 hq
  | exit _ => exact hq.elim
  | goto _ => exact hq.elim
  | panic _ => exact hq.elim
  | outgrown => exact hq.elim
theorem qf {P : Program} {f : FuncId} {fn : Func} {c : Code} {args : List Value} {R : RH} {post : Value → RH → Prop}
    (hf : P.funcs[f]? = some fn) (hb : fn.body = some c) (hn : Nat.ble args.length fn.ntmps = true)
    (h : ∀ A, wg P none fn.ntmps c (z5y P fn R A (fun v R' O' => O' = [] ∧ post v R')) (zj9 args) [] R A) : CallP P f args.toArray R post :=
  (ow (O := []) hf hb hn h).toP
end GV
end Go.Proofs.Ytplgbkaollfmkaa

namespace Go.Proofs.Ytplgbkaollfmkaa
namespace GV
structure Ty (α : Type) where
  size : Nat
  agg : Bool
  rep : RH → List Value → α → Prop
  len : ∀ {R cs x}, rep R cs x → cs.length = size
  mono : ∀ {R R' cs x}, RH.le R R' → rep R cs x → rep R' cs x
  one : agg = false → size = 1
  cell : ∀ {R cs x}, rep R cs x → ∀ v ∈ cs, v.oneCell' = true
def Ty.mk' {α : Type} (T : Ty α) (cs : List Value) : Value := bif T.agg then .agg cs.toArray else cs.headD undef
def VRep {α : Type} (T : Ty α) (R : RH) (v : Value) (x : α) : Prop := ∃ cs, T.rep R cs x ∧ v = T.mk' cs
theorem VRep.mono {α : Type} {T : Ty α} {R R' : RH} {v : Value} {x : α} (h : VRep T R v x) (hle : RH.le R R') : VRep T R' v x :=
  let ⟨cs, a, b⟩ := h; ⟨cs, T.mono hle a, b⟩
theorem zhh {α : Type} {T : Ty α} {R : RH} {cs : List Value} {x : α} (h : T.rep R cs x) : (T.mk' cs).cells = cs.toArray := by
  unfold Ty.mk'
  cases ha : T.agg
  · have h1 := T.one ha
    have h2 := T.len h
    rw [h1] at h2
    obtain ⟨c, rfl⟩ : ∃ c, cs = [c] := by
      match cs, h2 with
      | [c], _ => exact ⟨c, rfl⟩
    have hc := T.cell h c (by simp)
    cases c <;> first | rfl | (simp [Value.oneCell'] at hc)
  · rfl
def zw (k : IntKind) : Ty Int where
  size := 1
  agg := false
  rep _ cs x := cs = [.int k x]
  len h := by rw [h]; rfl
  mono _ h := h
  one _ := rfl
  cell h := by rw [h]; intro v hv; simp at hv; subst hv; rfl
def qz : Ty Bool where
  size := 1
  agg := false
  rep _ cs x := cs = [.bool x]
  len h := by rw [h]; rfl
  mono _ h := h
  one _ := rfl
  cell h := by rw [h]; intro v hv; simp at hv; subst hv; rfl
theorem qp {k : IntKind} {R : RH} {v : Value} {x : Int} : VRep (zw k) R v x ↔ v = .int k x :=
  ⟨fun ⟨_, h, e⟩ => by cases h; exact e, fun h => ⟨_, rfl, h⟩⟩
theorem kg {R : RH} {v : Value} {x : Bool} : VRep qz R v x ↔ v = .bool x :=
  ⟨fun ⟨_, h, e⟩ => by cases h; exact e, fun h => ⟨_, rfl, h⟩⟩
def wu (c : Array Value) (o k : Nat) : List Value := (c.toList.drop o).take k
def zt0 {α : Type} (T : Ty α) (R : RH) (p : Option Addr) (X : List α) : Prop :=
  X = [] ∨ ∃ b off c ty fr, p = some ⟨b, off, none⟩ ∧ R.blk b = some (.cells c ty fr) ∧ ∀ i x, X[i]? = some x → T.rep R (wu c (off + i * T.size) T.size) x
def yj {α : Type} (T : Ty α) : Ty (List α) where
  size := 1
  agg := false
  rep R cs X := ∃ p n, cs = [.slice p X.length n] ∧ X.length ≤ n ∧ (p = none → X = []) ∧ zt0 T R p X
  len := by rintro R cs X ⟨p, n, rfl, _⟩; rfl
  mono := by
    rintro R R' cs X hle ⟨p, n, rfl, hn, hp, h⟩
    refine ⟨p, n, rfl, hn, hp, ?_⟩
    rcases h with h | ⟨b, off, c, ty, fr, h1, h2, h3⟩
    · exact .inl h
    · exact .inr ⟨b, off, c, ty, fr, h1, hle.blk _ _ h2, fun i x hx => T.mono hle (h3 i x hx)⟩
  one _ := rfl
  cell := by rintro R cs X ⟨p, n, rfl, _⟩ v hv; simp at hv; subst hv; rfl
theorem bv {α : Type} {T : Ty α} {R : RH} {v : Value} {X : List α} :
    VRep (yj T) R v X ↔ ∃ p n, v = .slice p X.length n ∧ X.length ≤ n ∧ (p = none → X = []) ∧ zt0 T R p X :=
  ⟨fun ⟨_, ⟨p, n, h, a, b, c⟩, e⟩ => by subst h; exact ⟨p, n, e, a, b, c⟩, fun ⟨p, n, h, a, b, c⟩ => ⟨_, ⟨p, n, rfl, a, b, c⟩, h⟩⟩
theorem zdc {α : Type} {T : Ty α} {R : RH} : VRep (yj T) R (.slice none 0 0) [] :=
  bv.2 ⟨none, 0, rfl, Nat.le_refl _, fun _ => rfl, .inl rfl⟩
def capOf : Value → Nat
  | .slice _ _ c => c
  | _ => 0
def z0k {α β : Type} (A : Ty α) (B : Ty β) : Ty (α × β) where
  size := A.size + B.size
  agg := true
  rep R cs x := ∃ ca cb, cs = ca ++ cb ∧ A.rep R ca x.1 ∧ B.rep R cb x.2
  len := by rintro R cs x ⟨ca, cb, rfl, ha, hb⟩; rw [List.length_append, A.len ha, B.len hb]
  mono := by rintro R R' cs x hle ⟨ca, cb, rfl, ha, hb⟩; exact ⟨ca, cb, rfl, A.mono hle ha, B.mono hle hb⟩
  one h := by cases h
  cell := by
    rintro R cs x ⟨ca, cb, rfl, ha, hb⟩ v hv
    rcases List.mem_append.1 hv with h | h
    · exact A.cell ha v h
    · exact B.cell hb v h
def Ty.as {α β : Type} (T : Ty α) (f : β → α) : Ty β where
  size := T.size
  agg := T.agg
  rep R cs x := T.rep R cs (f x)
  len h := T.len h
  mono hle h := T.mono hle h
  one h := T.one h
  cell h := T.cell h
def PRep {α : Type} (T : Ty α) (R : RH) (v : Value) (x : α) : Prop :=
  ∃ b off c ty fr, v = .pointer (some ⟨b, off, none⟩) ∧ R.blk b = some (.cells c ty fr) ∧ T.rep R (wu c off T.size) x
theorem PRep.mono {α : Type} {T : Ty α} {R R' : RH} {v : Value} {x : α} (h : PRep T R v x) (hle : RH.le R R') : PRep T R' v x :=
  let ⟨b, off, c, ty, fr, h1, h2, h3⟩ := h; ⟨b, off, c, ty, fr, h1, hle.blk _ _ h2, T.mono hle h3⟩
def Part {α β : Type} (A : Ty α) (o : Nat) (B : Ty β) (f : α → β) : Prop :=
  o + B.size ≤ A.size ∧ ∀ R cs x, A.rep R cs x → B.rep R ((cs.drop o).take B.size) (f x)
theorem z2j {α β : Type} {A : Ty α} {B : Ty β} : Part (z0k A B) 0 A Prod.fst :=
  ⟨by simp [z0k], by rintro R cs x ⟨ca, cb, rfl, ha, hb⟩; rw [List.drop_zero, List.take_left' (A.len ha)]; exact ha⟩
theorem mi {α β γ : Type} {A : Ty α} {B : Ty β} {C : Ty γ} {o : Nat} {f : β → γ} (h : Part B o C f) : Part (z0k A B) (A.size + o) C (fun x => f x.2) :=
  ⟨by have := h.1; simp [z0k]; omega, by
    rintro R cs x ⟨ca, cb, rfl, ha, hb⟩
    rw [← A.len ha, ← List.drop_drop, List.drop_left]
    exact h.2 R cb x.2 hb⟩
theorem z4z {α : Type} {A : Ty α} : Part A 0 A id :=
  ⟨by simp, fun R cs x h => by rw [List.drop_zero, ← A.len h, List.take_length]; exact h⟩
theorem z92 {c : Array Value} {off S o k : Nat} (h : o + k ≤ S) : ((wu c off S).drop o).take k = wu c (off + o) k := by
  unfold wu
  rw [List.drop_take, List.drop_drop, List.take_take]
  congr 1
  omega
/-! ### Owned blocks -/
def box (b : Nat) (cs : List Value) (ty : TypeId) : Frag := single b (.cells cs.toArray ty (0, 0))
def ORep {α : Type} (T : Ty α) (R : RH) (f : Frag) (v : Value) (X : List α) : Prop :=
  (v = .slice none 0 0 ∧ X = [] ∧ f = emp) ∨
  ∃ b pre cs cap ty, v = .slice (some ⟨b, pre.length, none⟩) X.length cap ∧ f = box b (pre ++ cs) ty ∧ X.length ≤ cap ∧ cap * T.size ≤ cs.length ∧ (∀ v ∈ pre ++ cs, v.oneCell' = true) ∧
    ∀ i x, X[i]? = some x → T.rep R ((cs.drop (i * T.size)).take T.size) x
theorem ORep.mono {α : Type} {T : Ty α} {R R' : RH} {f : Frag} {v : Value} {X : List α} (h : ORep T R f v X) (hle : RH.le R R') : ORep T R' f v X := by
  rcases h with h | ⟨b, pre, cs, cap, ty, h1, h2, h3, h4, h5, h6⟩
  · exact .inl h
  · exact .inr ⟨b, pre, cs, cap, ty, h1, h2, h3, h4, h5, fun i x hx => T.mono hle (h6 i x hx)⟩
theorem z2o {pre cs : List Value} {o k : Nat} : wu (pre ++ cs).toArray (pre.length + o) k = wu cs.toArray o k := by
  simp only [wu]
  rw [List.drop_append, List.drop_eq_nil_of_le (by omega), Nat.add_sub_cancel_left, List.nil_append]
/-! ### Memory -/
def RH.add (R : RH) (f : Frag) : RH := { R with blk := fun k => match R.blk k with | some o => some o | none => f k }
theorem RH.le_add (R : RH) (f : Frag) : RH.le R (R.add f) := ⟨fun k o h => by simp [RH.add, h], rfl, rfl⟩
theorem z1e {R : RH} {f : Frag} {O : List Frag} {w : World} (h : Holds R (f :: O) w) : Holds (R.add f) O w := by
  refine ⟨fun k o hk => ?_, fun g hg k o hk => ?_, (List.pairwise_cons.1 h.sep).2, h.os, h.out⟩
  · cases e : R.blk k with
    | some o' => simp [RH.add, e] at hk; subst hk; exact h.ro k _ e
    | none => simp [RH.add, e] at hk; exact (h.own f (List.mem_cons_self ..) k o hk).1
  · have h1 := h.own g (List.mem_cons_of_mem _ hg) k o hk
    refine ⟨h1.1, ?_⟩
    simp only [RH.add, h1.2]
    rcases (List.pairwise_cons.1 h.sep).1 g hg k with h2 | h2
    · exact h2
    · rw [h2] at hk; cases hk
theorem z2t {R : RH} {O : List Frag} {w : World} (h : Holds R O w) (o : Obj) (ho : zo0 o := by first | exact rfl | exact trivial) : Holds R (single w.heap.size o :: O) (w.alloc o) := by
  have hold : ∀ k ob, w.heap[k]? = some ob → (w.alloc o).heap[k]? = some ob := fun k ob hk =>
    (by
      have hlt := (Array.getElem?_eq_some_iff.1 hk).1
      show (w.heap.push o)[k]? = _
      rw [Array.getElem?_push, if_neg (by omega)]; exact hk)
  have hfresh : ∀ k ob, w.heap[k]? = some ob → k ≠ w.heap.size := fun k ob hk e => by
    have := (Array.getElem?_eq_some_iff.1 hk).1
    omega
  refine ⟨fun k ob hk => hold k ob (h.ro k ob hk), fun f hf k ob hk => ?_, ?_, ⟨h.os.1, fun k ob hk hb => ?_⟩, h.out⟩
  · rcases List.mem_cons.1 hf with rfl | hf'
    · obtain ⟨rfl, rfl⟩ := zay hk
      refine ⟨(by show (w.heap.push _)[w.heap.size]? = _; rw [Array.getElem?_push, if_pos rfl]), ?_⟩
      cases e : R.blk w.heap.size with
      | none => rfl
      | some o' => exact absurd rfl (hfresh _ _ (h.ro _ _ e))
    · exact ⟨hold k ob (h.own f hf' k ob hk).1, (h.own f hf' k ob hk).2⟩
  · refine List.pairwise_cons.2 ⟨fun f hf k => ?_, h.sep⟩
    by_cases e : k = w.heap.size
    · right
      cases e' : f k with
      | none => rfl
      | some o' => exact absurd e (hfresh _ _ (h.own f hf k o' e').1)
    · exact .inl (za6 e)
  · by_cases e : k = w.heap.size
    · subst e
      rw [show (w.alloc o).heap[w.heap.size]? = some o from (by show (w.heap.push _)[w.heap.size]? = _; rw [Array.getElem?_push, if_pos rfl])] at hb
      exact Option.some.inj hb ▸ ho
    · refine h.os.2 k ob hk ?_
      have hb' : (w.heap.push o)[k]? = some ob := hb
      rw [Array.getElem?_push, if_neg e] at hb'
      exact hb'
theorem z0c {R : RH} {O : List Frag} {w : World} {i : Nat} {f : Frag} {k : Nat} {o : Obj} (h : Holds R O w) (hi : O[i]? = some f) (hk : f k = some o) : w.heap[k]? = some o :=
  (h.own f (List.mem_of_getElem? hi) k o hk).1
theorem z0a {α : Type} : ∀ (O : List α) (i : Nat) (f : α), O[i]? = some f → O.Perm (f :: O.eraseIdx i)
  | [], i, f, h => by simp at h
  | x :: O, 0, f, h => by simp at h; subst h; exact List.Perm.refl _
  | x :: O, i + 1, f, h => by
    have h' : O[i]? = some f := by simpa using h
    exact ((z0a O i f h').cons x).trans (List.Perm.swap f x _)
theorem z6y {R : RH} {O : List Frag} {w w' : World} {i r : Nat} {o o' : Obj} (h : Holds R O w) (hi : O[i]? = some (single r o)) (hs : w'.heap[r]? = some o')
    (hk : ∀ k, k ≠ r → w'.heap[k]? = w.heap[k]?) (hos : w'.os = w.os) (hout : w'.output = w.output) (ho : zo0 o' := by first | exact rfl | exact trivial) : Holds R (O.set i (single r o')) w' := by
  obtain ⟨hlt, hget⟩ := List.getElem?_eq_some_iff.1 hi
  have hp : O.Perm (single r o :: O.eraseIdx i) := z0a O i _ hi
  have hp' : (O.set i (single r o')).Perm (single r o' :: O.eraseIdx i) := by
    have := z0a (O.set i (single r o')) i (single r o') (by simp [hlt])
    rwa [List.eraseIdx_set_eq] at this
  exact yc (z3h (yc h hp) hs hk hos hout ho) hp'.symm
theorem cell_of_block {w : World} {b off : Nat} {c : Array Value} {ty : TypeId} {fr : Nat × Nat} (h : w.heap[b]? = some (.cells c ty fr)) : w.cell? ⟨b, off, none⟩ = c[off]? := by
  simp [World.cell?, h]
theorem zdl {w : World} {b off : Nat} {c : Array Value} {ty : TypeId} (h : w.heap[b]? = some (.cells c ty (0, 0))) : w.frozen? ⟨b, off, none⟩ = false := by
  simp [World.frozen?, h]
theorem addr_add (b off n : Nat) : (⟨b, off, none⟩ : Addr).add n = ⟨b, off + n, none⟩ := by
  unfold Addr.add
  split
  · rename_i h; subst h; rfl
  · rfl
theorem run_loadCellsFrom {P : Program} {w : World} {b off : Nat} {c : Array Value} {ty : TypeId} {fr : Nat × Nat} (h : w.heap[b]? = some (.cells c ty fr)) :
    ∀ (n i : Nat) (acc : Array Value), off + i + n ≤ c.size → (loadCellsFrom ⟨b, off, none⟩ i n acc).run P w = .ok (acc ++ (wu c (off + i) n).toArray) w
  | 0, i, acc, _ => by simp [loadCellsFrom, wu]
  | n + 1, i, acc, hs => by
    have hlt : off + i < c.size := by omega
    have hc : w.cell? ((⟨b, off, none⟩ : Addr).add i) = some c[off + i] := by
      rw [addr_add, cell_of_block h, Array.getElem?_eq_getElem hlt]
    simp only [loadCellsFrom, Sem.run_bind, run_load, hc, Result.andThen_ok]
    rw [run_loadCellsFrom h n (i + 1) _ (by omega)]
    congr 1
    apply Array.ext'
    have e : c.toList.drop (off + i) = c[off + i] :: c.toList.drop (off + i + 1) := by
      rw [List.drop_eq_getElem_cons (by simpa using hlt)]; simp
    simp [wu, e, Nat.add_assoc]
theorem run_loadCells {P : Program} {w : World} {b off n : Nat} {c : Array Value} {ty : TypeId} {fr : Nat × Nat} (h : w.heap[b]? = some (.cells c ty fr)) (hs : off + n ≤ c.size) :
    (loadCells ⟨b, off, none⟩ n).run P w = .ok (wu c off n).toArray w := by
  have := run_loadCellsFrom (P := P) h n 0 #[] (by omega)
  simpa [loadCells] using this
structure TyOk (P : Program) (t : TypeId) {α : Type} (T : Ty α) : Prop where
  agg : ∀ w, (isAgg t).run P w = .ok T.agg w
  size : ∀ w, (sizeOf t).run P w = .ok T.size w
theorem z1i {P : Program} {t : TypeId} {α : Type} {T : Ty α} {d : TypeDesc} {i : TypeInfo} (hu : P.underlying t = some d) (hi : P.info? t = some i)
    (ha : (match d with | .struct _ | .array _ _ => true | _ => false) = T.agg) (hs : i.size = T.size) : TyOk P t T := by
  refine ⟨fun w => ?_, fun w => ?_⟩
  · cases d <;> simp [isAgg, underlying, hu, ← ha]
  · simp [sizeOf, typeInfo, hi, hs]
theorem z3j {c : Array Value} {o k : Nat} (h : (wu c o k).length = k) (hk : k ≠ 0) : o + k ≤ c.size := by
  simp only [wu, List.length_take, List.length_drop, Array.length_toList] at h
  omega
theorem z6o {P : Program} {w : World} {α : Type} {T : Ty α} {t : TypeId} {b off : Nat} {c : Array Value} {ty : TypeId} {fr : Nat × Nat} {R : RH} {x : α} (ht : TyOk P t T)
    (hb : w.heap[b]? = some (.cells c ty fr)) (hr : T.rep R (wu c off T.size) x) : (loadVar t ⟨b, off, none⟩).run P w = .ok (T.mk' (wu c off T.size)) w := by
  unfold loadVar Ty.mk'
  simp only [Sem.run_bind, ht.agg, Result.andThen_ok]
  cases ha : T.agg
  · have h1 := T.one ha
    have hlen := T.len hr
    rw [h1] at hlen hr
    have hle := z3j hlen (by simp)
    have hlt : off < c.size := by omega
    simp only [Bool.false_eq_true, if_false, run_load, cell_of_block hb, Array.getElem?_eq_getElem hlt]
    have e : c.toList.drop off = c[off] :: c.toList.drop (off + 1) := by
      rw [List.drop_eq_getElem_cons (by simpa using hlt)]; simp
    simp [wu, e, h1]
  · simp only [if_true, Sem.run_bind, ht.size, Result.andThen_ok]
    have hlen := T.len hr
    by_cases h0 : T.size = 0
    · rw [h0] at *
      simp [loadCells, loadCellsFrom, wu]
    · rw [run_loadCells hb (z3j hlen h0)]
      rfl
end GV
end Go.Proofs.Ytplgbkaollfmkaa

namespace Go.Proofs.Ytplgbkaollfmkaa
namespace GV
open Go.IntWalk
section vals
variable {P : Program} {ρ : Option Nat} {l : Nat → Value} {R : RH} {O : List Frag} {dst : Option Tmp} {ty : TypeId} {pos : String} {after : Array Edge} {g : Option (Nat × Bool)}
theorem qw {o : Oper} (h : ∀ c, o.op ≠ .defer c) (r : Operand → Value) : o.semAt ρ r = execOp r o := Oper.semAt_eq ρ r o h
theorem z8 {x : Operand} {v : Value} (hx : ev l x = v) : Val P ρ ⟨dst, .move x, ty, pos, after, g⟩ l R O v := by
  intro A w _; rw [qw (by intro c h; cases h)]; subst hx; rfl
theorem ze {x : Operand} {v : Value} (hx : ev l x = v) : Val P ρ ⟨dst, .assign x, ty, pos, after, g⟩ l R O v := by
  intro A w _; rw [qw (by intro c h; cases h)]; subst hx; rfl
theorem z4v {c x y : Operand} {b : Bool} {v : Value} (hc : ev l c = .bool b) (hv : (bif b then ev l x else ev l y) = v) : Val P ρ ⟨dst, .pick c x y, ty, pos, after, g⟩ l R O v := by
  intro A w _; rw [qw (by intro c h; cases h)]; subst hv
  simp only [execOp, hc]
  cases b <;> rfl
theorem ib {t : TypeId} {x : Operand} {b : Bool} (hx : ev l x = .bool b) : Val P ρ ⟨dst, .unOp .not t x, ty, pos, after, g⟩ l R O (.bool (!b)) := by
  intro A w _; rw [qw (by intro c h; cases h)]
  simp only [execOp, hx]; rfl
theorem sw {w : World} {op : BinOp} {t t' : TypeId} {x y : Operand} {k : IntKind} {m n : Int} {v : Value} (hx : ev l x = .int k m) (hy : ev l y = .int k n)
    (hop : (binOp op t (.int k m) (.int k n)).run P w = .ok v w) :
    (execOp (ev l) (⟨dst, .binOp op t x y t', ty, pos, after, g⟩ : Oper)).run P w = .ok (.value v) w := by
  have he : (eqGuard op t x y (.int k m) (.int k n)).run P w = .ok () w := by
    cases op <;> rfl
  simp only [execOp, hx, hy, Sem.run_bind, he, Result.andThen_ok, hop]
  rfl
theorem jc {t t' : TypeId} {x y : Operand} {m n : Int} (hx : ev l x = .int .i64 m) (hy : ev l y = .int .i64 n) (hb : -9223372036854775808 ≤ m + n ∧ m + n ≤ 9223372036854775807) :
    Val P ρ ⟨dst, .binOp .add t x y t', ty, pos, after, g⟩ l R O (.int .i64 (m + n)) := by
  intro A w _; rw [qw (by intro c h; cases h)]
  refine sw hx hy ?_
  show Result.ok (Value.int .i64 (IntKind.i64.wrap (m + n))) w = _
  rw [i64_in _ hb]
theorem z9d {t t' : TypeId} {x y : Operand} {m n : Int} (hx : ev l x = .int .i64 m) (hy : ev l y = .int .i64 n) (hb : -9223372036854775808 ≤ m - n ∧ m - n ≤ 9223372036854775807) :
    Val P ρ ⟨dst, .binOp .sub t x y t', ty, pos, after, g⟩ l R O (.int .i64 (m - n)) := by
  intro A w _; rw [qw (by intro c h; cases h)]
  refine sw hx hy ?_
  show Result.ok (Value.int .i64 (IntKind.i64.wrap (m - n))) w = _
  rw [i64_in _ hb]
theorem zqc {k : IntKind} {t t' : TypeId} {x y : Operand} {m n : Int} (hx : ev l x = .int k m) (hy : ev l y = .int k n) (hn : n ≠ 0) :
    Val P ρ ⟨dst, .binOp .quo t x y t', ty, pos, after, g⟩ l R O (.int k (k.wrap (m.tdiv n))) := by
  intro A w _; rw [qw (by intro c h; cases h)]
  refine sw hx hy ?_
  show (if k ≠ k then _ else _ : Sem Value).run P w = _
  rw [if_neg (by simp)]
  show (Op.intDiv .quo k m n).run P w = _
  simp only [Op.intDiv, if_neg hn]; rfl
theorem zpy {k : IntKind} {t t' : TypeId} {x y : Operand} {m n : Int} (hx : ev l x = .int k m) (hy : ev l y = .int k n) (hn : n ≠ 0) :
    Val P ρ ⟨dst, .binOp .rem t x y t', ty, pos, after, g⟩ l R O (.int k (m.tmod n)) := by
  intro A w _; rw [qw (by intro c h; cases h)]
  refine sw hx hy ?_
  show (if k ≠ k then _ else _ : Sem Value).run P w = _
  rw [if_neg (by simp)]
  show (Op.intDiv .rem k m n).run P w = _
  simp only [Op.intDiv, if_neg hn]; rfl
theorem zmx {t t' : TypeId} {x y : Operand} {m n : Int} (hx : ev l x = .int .i64 m) (hy : ev l y = .int .i64 n) (hb : 0 ≤ m ∧ m ≤ 9223372036854775807 ∧ 1 ≤ n) :
    Val P ρ ⟨dst, .binOp .quo t x y t', ty, pos, after, g⟩ l R O (.int .i64 (m / n)) := by
  have := zqc (P := P) (ρ := ρ) (R := R) (O := O) (dst := dst) (ty := ty) (pos := pos) (after := after) (g := g) (t := t) (t' := t') hx hy (by omega)
  rwa [i64_quo m n hb] at this
theorem zhj {k : IntKind} {t t' : TypeId} {x y : Operand} {m n : Int} (hx : ev l x = .int k m) (hy : ev l y = .int k n) (hb : 0 ≤ m ∧ 1 ≤ n) :
    Val P ρ ⟨dst, .binOp .rem t x y t', ty, pos, after, g⟩ l R O (.int k (m % n)) := by
  have := zpy (P := P) (ρ := ρ) (R := R) (O := O) (dst := dst) (ty := ty) (pos := pos) (after := after) (g := g) (t := t) (t' := t') hx hy (by omega)
  rwa [rem_in m n hb.1] at this
theorem jh {k : IntKind} {t t' : TypeId} {x y : Operand} {m n : Int} (hx : ev l x = .int k m) (hy : ev l y = .int k n) :
    Val P ρ ⟨dst, .binOp .lss t x y t', ty, pos, after, g⟩ l R O (.bool (decide (m < n))) := by
  intro A w _; rw [qw (by intro c h; cases h)]
  refine sw hx hy ?_
  show (if k ≠ k then _ else _ : Sem Value).run P w = _
  rw [if_neg (by simp)]; rfl
theorem zqn {k : IntKind} {t t' : TypeId} {x y : Operand} {m n : Int} (hx : ev l x = .int k m) (hy : ev l y = .int k n) :
    Val P ρ ⟨dst, .binOp .leq t x y t', ty, pos, after, g⟩ l R O (.bool (decide (m ≤ n))) := by
  intro A w _; rw [qw (by intro c h; cases h)]
  refine sw hx hy ?_
  show (if k ≠ k then _ else _ : Sem Value).run P w = _
  rw [if_neg (by simp)]; rfl
theorem z1f {k : IntKind} {t t' : TypeId} {x y : Operand} {m n : Int} (hx : ev l x = .int k m) (hy : ev l y = .int k n) :
    Val P ρ ⟨dst, .binOp .gtr t x y t', ty, pos, after, g⟩ l R O (.bool (decide (n < m))) := by
  intro A w _; rw [qw (by intro c h; cases h)]
  refine sw hx hy ?_
  show (if k ≠ k then _ else _ : Sem Value).run P w = _
  rw [if_neg (by simp)]; rfl
theorem z3c {k : IntKind} {t t' : TypeId} {x y : Operand} {m n : Int} (hx : ev l x = .int k m) (hy : ev l y = .int k n) :
    Val P ρ ⟨dst, .binOp .geq t x y t', ty, pos, after, g⟩ l R O (.bool (decide (n ≤ m))) := by
  intro A w _; rw [qw (by intro c h; cases h)]
  refine sw hx hy ?_
  show (if k ≠ k then _ else _ : Sem Value).run P w = _
  rw [if_neg (by simp)]; rfl
theorem az {k : IntKind} {t t' : TypeId} {x y : Operand} {m n : Int} (hx : ev l x = .int k m) (hy : ev l y = .int k n) :
    Val P ρ ⟨dst, .binOp .eql t x y t', ty, pos, after, g⟩ l R O (.bool (decide (m = n))) := by
  intro A w _; rw [qw (by intro c h; cases h)]
  refine sw hx hy ?_
  show (if k ≠ k then _ else _ : Sem Value).run P w = _
  rw [if_neg (by simp)]; rfl
theorem uw {k : IntKind} {t t' : TypeId} {x y : Operand} {m n : Int} (hx : ev l x = .int k m) (hy : ev l y = .int k n) :
    Val P ρ ⟨dst, .binOp .neq t x y t', ty, pos, after, g⟩ l R O (.bool (decide (m ≠ n))) := by
  intro A w _; rw [qw (by intro c h; cases h)]
  refine sw hx hy ?_
  show (if k ≠ k then _ else _ : Sem Value).run P w = _
  rw [if_neg (by simp)]
  show Result.ok (Value.bool (m != n)) w = _
  congr 2
  rw [Bool.eq_iff_iff]; simp
def zep (P : Program) (t : TypeId) : Prop := ∀ (a b c d : Int) (x y : Operand) (w : World),
  ((do eqGuard .eql t x y (.agg #[.int .i64 a, .int .i64 b]) (.agg #[.int .i64 c, .int .i64 d]); binOp .eql t (.agg #[.int .i64 a, .int .i64 b]) (.agg #[.int .i64 c, .int .i64 d])) : Sem Value).run P w = .ok (.bool (a == c && b == d)) w
theorem zg4 {t t' : TypeId} {x y : Operand} {a b c d : Int} (hok : zep P t) (hx : ev l x = .agg #[.int .i64 a, .int .i64 b]) (hy : ev l y = .agg #[.int .i64 c, .int .i64 d]) :
    Val P ρ ⟨dst, .binOp .eql t x y t', ty, pos, after, g⟩ l R O (.bool (decide (a = c ∧ b = d))) := by
  intro A w _; rw [qw (by intro c h; cases h)]
  have := hok a b c d x y w
  have e : (a == c && b == d) = decide (a = c ∧ b = d) := by rw [Bool.eq_iff_iff]; simp
  rw [e] at this
  simp only [execOp, hx, hy]
  rw [Sem.run_bind, this]
  rfl
theorem zmq {t t' : TypeId} {x y : Operand} {a b c d : Int} (hok : zep P t) (hx : ev l x = .agg #[.int .i64 a, .int .i64 b]) (hy : ev l y = .agg #[.int .i64 c, .int .i64 d]) :
    Val P ρ ⟨dst, .binOp .neq t x y t', ty, pos, after, g⟩ l R O (.bool (decide (¬ (a = c ∧ b = d)))) := by
  intro A w _; rw [qw (by intro c h; cases h)]
  have h0 := hok a b c d x y w
  have e : (a == c && b == d) = decide (a = c ∧ b = d) := by rw [Bool.eq_iff_iff]; simp
  rw [e] at h0
  simp only [execOp, hx, hy]
  rw [Sem.run_bind] at h0 ⊢
  have hg : ((eqGuard .neq t x y (.agg #[.int .i64 a, .int .i64 b]) (.agg #[.int .i64 c, .int .i64 d])).run P w) = ((eqGuard .eql t x y (.agg #[.int .i64 a, .int .i64 b]) (.agg #[.int .i64 c, .int .i64 d])).run P w) := rfl
  rw [Sem.run_bind, hg]
  cases hr : (eqGuard .eql t x y (.agg #[.int .i64 a, .int .i64 b]) (.agg #[.int .i64 c, .int .i64 d])).run P w with
  | halt x y => rw [hr] at h0; cases h0
  | ok u w1 =>
    rw [hr] at h0
    simp only [Result.andThen_ok] at h0 ⊢
    have h1 : ((Op.equal t (.agg #[.int .i64 a, .int .i64 b]) (.agg #[.int .i64 c, .int .i64 d])).run P w1).andThen (fun r w' => Result.ok (Value.bool r) w') = .ok (.bool (decide (a = c ∧ b = d))) w := by
      have : (binOp .eql t (.agg #[.int .i64 a, .int .i64 b]) (.agg #[.int .i64 c, .int .i64 d]) : Sem Value) = (do pure (.bool (← Op.equal t (.agg #[.int .i64 a, .int .i64 b]) (.agg #[.int .i64 c, .int .i64 d])))) := rfl
      rw [this, Sem.run_bind] at h0
      exact h0
    have h2 : (binOp .neq t (.agg #[.int .i64 a, .int .i64 b]) (.agg #[.int .i64 c, .int .i64 d]) : Sem Value) = (do pure (.bool (!(← Op.equal t (.agg #[.int .i64 a, .int .i64 b]) (.agg #[.int .i64 c, .int .i64 d]))))) := rfl
    rw [h2, Sem.run_bind]
    cases he : (Op.equal t (.agg #[.int .i64 a, .int .i64 b]) (.agg #[.int .i64 c, .int .i64 d])).run P w1 with
    | halt x y => rw [he] at h1; cases h1
    | ok r w2 =>
      rw [he] at h1
      simp only [Result.andThen_ok, Result.ok.injEq, Value.bool.injEq] at h1
      obtain ⟨rfl, rfl⟩ := h1
      simp [Result.andThen]
theorem zjm {t : TypeId} {at' : Array TypeId} {e : TypeId} {x : Operand} {p : Option Addr} {n c : Nat} (ht : at'[0]? = some t) (hu : P.underlying t = some (.slice e)) (hx : ev l x = .slice p n c) :
    Val P ρ ⟨dst, .call ⟨.builtin .len, #[x], at'⟩, ty, pos, after, g⟩ l R O (.int .i64 n) := by
  intro A w _; rw [qw (by intro c h; cases h)]
  simp [execOp, resolve, invoke, builtin, Builtin.len_, ht, underlying, hu, hx, goInt]
theorem qi {α : Type} {T : Ty α} {t : TypeId} {at' : Array TypeId} {e : TypeId} {x : Operand} {v : Value} {X : List α} (ht : at'[0]? = some t) (hu : P.underlying t = some (.slice e)) (hx : ev l x = v)
    (hr : VRep (yj T) R v X) : Val P ρ ⟨dst, .call ⟨.builtin .len, #[x], at'⟩, ty, pos, after, g⟩ l R O (.int .i64 X.length) := by
  obtain ⟨p, n, rfl, _⟩ := bv.1 hr
  exact zjm ht hu hx
theorem z8u {α : Type} {T : Ty α} {f : Frag} {v : Value} {X : List α} (h : ORep T R f v X) : ∃ p, v = .slice p X.length (capOf v) ∧ X.length ≤ capOf v := by
  rcases h with ⟨rfl, rfl, _⟩ | ⟨b, pre, cs, cap, ty, rfl, _, hc, _⟩
  · exact ⟨none, rfl, Nat.le_refl _⟩
  · exact ⟨_, rfl, hc⟩
theorem lm {α : Type} {T : Ty α} {t : TypeId} {at' : Array TypeId} {e : TypeId} {x : Operand} {v : Value} {X : List α} {f : Frag} (ht : at'[0]? = some t) (hu : P.underlying t = some (.slice e)) (hx : ev l x = v)
    (hr : ORep T R f v X) : Val P ρ ⟨dst, .call ⟨.builtin .len, #[x], at'⟩, ty, pos, after, g⟩ l R O (.int .i64 X.length) := by
  obtain ⟨p, h, _⟩ := z8u hr
  exact zjm ht hu (hx.trans h)
theorem qo {x : Operand} {i : Nat} {vs : Array Value} {v : Value} (hx : ev l x = .tuple vs) (hv : vs[i]? = some v) : Val P ρ ⟨dst, .extract x i, ty, pos, after, g⟩ l R O v := by
  intro A w _; rw [qw (by intro c h; cases h)]
  simp [execOp, hx, Instr.extract, hv]
theorem zfm {fn : Fn} {first captured : Array Operand} {fs cs : Array Value} (hf : first.map (ev l) = fs) (hc : captured.map (ev l) = cs) :
    Val P ρ ⟨dst, .makeFunc fn first captured, ty, pos, after, g⟩ l R O (.func fn fs cs) := by
  intro A w _; rw [qw (by intro c h; cases h)]; subst hf; subst hc; rfl
theorem zlf {t : TypeId} {parts : Array (Nat × Operand)} {ps : Array (Nat × Value)} {v : Value} (hp : (parts.map fun (i, x) => (i, ev l x)) = ps) (h : ∀ w, (Instr.build t ps).run P w = .ok v w) :
    Val P ρ ⟨dst, .build t parts, ty, pos, after, g⟩ l R O v := by
  intro A w _; rw [qw (by intro c h; cases h)]; subst hp
  simp only [execOp, Sem.run_bind, h, Result.andThen_ok]; rfl
theorem zad {α : Type} {T : Ty α} {t : TypeId} {x : Operand} {v : Value} {y : α} (ht : TyOk P t T) (hx : ev l x = v) (hp : PRep T R v y) :
    ∃ u, VRep T R u y ∧ ∀ (dst : Option Tmp) (ty : TypeId) (pos : String) (after : Array Edge) (g : Option (Nat × Bool)), Val P ρ ⟨dst, .load t x, ty, pos, after, g⟩ l R O u := by
  obtain ⟨b, off, c, ty', fr, rfl, hb, hr⟩ := hp
  refine ⟨T.mk' (wu c off T.size), ⟨_, hr, rfl⟩, fun dst ty pos after g A w hh => ?_⟩
  rw [qw (by intro c h; cases h)]
  simp only [execOp, hx, Instr.loadAt, Instr.sureAddr, Sem.run_bind, Sem.run_pure, Result.andThen_ok, z6o ht (hh.ro _ _ hb) hr]
theorem qc {t : TypeId} {x : Operand} {b off i : Nat} {cs : List Value} {bt : TypeId} {v : Value} (ht : ∀ w, (isAgg t).run P w = .ok false w) (hx : ev l x = .pointer (some ⟨b, off, none⟩))
    (hO : O[i]? = some (box b cs bt)) (hv : cs[off]? = some v) : Val P ρ ⟨dst, .load t x, ty, pos, after, g⟩ l R O v := by
  intro A w hh; rw [qw (by intro c h; cases h)]
  have hblk : w.heap[b]? = some (.cells cs.toArray bt (0, 0)) := z0c hh (i := i) (by rw [List.getElem?_append_left (by exact (List.getElem?_eq_some_iff.1 hO).1)]; exact hO) (uj _ _)
  simp [execOp, hx, Instr.loadAt, Instr.sureAddr, loadVar, ht, cell_of_block hblk, hv]
theorem yl {t : TypeId} {x : Operand} {b off i n : Nat} {cs vs : List Value} {bt : TypeId} (ht : ∀ w, (isAgg t).run P w = .ok true w) (hs : ∀ w, (sizeOf t).run P w = .ok n w) (hx : ev l x = .pointer (some ⟨b, off, none⟩))
    (hO : O[i]? = some (box b cs bt)) (hv : (cs.drop off).take n = vs) (hn : vs.length = n) : Val P ρ ⟨dst, .load t x, ty, pos, after, g⟩ l R O (.agg vs.toArray) := by
  intro A w hh; rw [qw (by intro c h; cases h)]
  have hblk : w.heap[b]? = some (.cells cs.toArray bt (0, 0)) := z0c hh (i := i) (by rw [List.getElem?_append_left (by exact (List.getElem?_eq_some_iff.1 hO).1)]; exact hO) (uj _ _)
  have hle : off + n ≤ cs.toArray.size ∨ n = 0 := by
    subst hv
    simp only [List.length_take, List.length_drop] at hn
    simp only [List.size_toArray]
    omega
  have hload : (loadCells ⟨b, off, none⟩ n).run P w = .ok vs.toArray w := by
    rcases hle with hle | hle
    · rw [run_loadCells hblk hle]; simp [wu, hv]
    · subst hle
      have : vs = [] := List.length_eq_zero_iff.1 hn
      subst this
      simp [loadCells, loadCellsFrom]
  simp [execOp, hx, Instr.loadAt, Instr.sureAddr, loadVar, ht, hs, hload]
structure FieldOk (P : Program) (s : TypeId) (f o : Nat) : Prop where
  run : ∀ (b off : Nat) (w : World), (Instr.fieldAt s (.pointer (some ⟨b, off, none⟩)) f).run P w = .ok (.pointer (some ⟨b, off + o, none⟩)) w
theorem wy {P : Program} {s : TypeId} {f o : Nat} {fs : Array Field} {fd : Field} {i : TypeInfo} (hu : P.underlying s = some (.struct fs)) (hf : fs[f]? = some fd) (ho : fd.offset = o) (hi : P.info? fd.type = some i)
    (h0 : (i.size == 0) = false) : FieldOk P s f o := by
  refine ⟨fun b off w => ?_⟩
  have h1 : i.size ≠ 0 := by simpa using h0
  simp [Instr.fieldAt, underlying, hu, hf, Instr.sureAddr, fieldPlace, sizeOf, typeInfo, hi, h1, addr_add, ho]
theorem zz {s : TypeId} {x : Operand} {f o b off : Nat} (hf : FieldOk P s f o) (hx : ev l x = .pointer (some ⟨b, off, none⟩)) :
    Val P ρ ⟨dst, .fieldAddr s x f, ty, pos, after, g⟩ l R O (.pointer (some ⟨b, off + o, none⟩)) := by
  intro A w _; rw [qw (by intro c h; cases h)]
  simp [execOp, hx, hf.run]
theorem zde {α β : Type} {A : Ty α} {B : Ty β} {s : TypeId} {x : Operand} {f o : Nat} {v : Value} {y : α} {pr : α → β} (hf : FieldOk P s f o) (hpart : Part A o B pr) (hx : ev l x = v) (hp : PRep A R v y) :
    ∃ u, PRep B R u (pr y) ∧ ∀ (dst : Option Tmp) (ty : TypeId) (pos : String) (after : Array Edge) (g : Option (Nat × Bool)), Val P ρ ⟨dst, .fieldAddr s x f, ty, pos, after, g⟩ l R O u := by
  obtain ⟨b, off, c, ty', fr, rfl, hb, hr⟩ := hp
  refine ⟨_, ⟨b, off + o, c, ty', fr, rfl, hb, ?_⟩, fun dst ty pos after g => zz hf hx⟩
  have := hpart.2 R _ _ hr
  rwa [z92 hpart.1] at this
structure SlOk (P : Program) (t e : TypeId) {α : Type} (T : Ty α) : Prop where
  u : P.underlying t = some (.slice e)
  e : TyOk P e T
theorem z6l {t e : TypeId} {b off n c i : Nat} {k : IntKind} {sz : Nat} {w : World} (hu : P.underlying t = some (.slice e)) (hs : ∀ w, (sizeOf e).run P w = .ok sz w) (hi : i < n) :
    (Instr.indexAt t (.slice (some ⟨b, off, none⟩) n c) (.int k i)).run P w = .ok (.pointer (some ⟨b, off + i * sz, none⟩)) w := by
  have h1 : (0 : Int) ≤ (i : Int) ∧ (i : Int) < (n : Int) := ⟨by omega, by omega⟩
  simp only [Instr.indexAt, asIntOf, Sem.run_bind, Sem.run_pure, Result.andThen_ok, underlying, run_program, hu]
  simp only [h1, and_self, if_true, Sem.run_bind, hs, Result.andThen_ok, Sem.run_pure, Int.toNat_natCast, addr_add]
theorem zc7 {α : Type} {T : Ty α} {t e : TypeId} {x ix : Operand} {v : Value} {X : List α} {k : IntKind} {i : Nat} {y : α} (ht : SlOk P t e T) (hx : ev l x = v) (hr : VRep (yj T) R v X)
    (hi : ev l ix = .int k i) (hy : X[i]? = some y) :
    ∃ u, PRep T R u y ∧ ∀ (dst : Option Tmp) (ty : TypeId) (pos : String) (after : Array Edge) (g : Option (Nat × Bool)), Val P ρ ⟨dst, .indexAddr t x ix, ty, pos, after, g⟩ l R O u := by
  obtain ⟨p, n, rfl, _, _, hs⟩ := bv.1 hr
  have hlt : i < X.length := (List.getElem?_eq_some_iff.1 hy).1
  rcases hs with rfl | ⟨b, off, c, ty', fr, rfl, hb, hel⟩
  · simp at hlt
  refine ⟨_, ⟨b, off + i * T.size, c, ty', fr, rfl, hb, hel i y hy⟩, fun dst ty pos after g A w hh => ?_⟩
  rw [qw (by intro c h; cases h)]
  simp [execOp, hx, hi, z6l ht.u ht.e.size hlt]
theorem zd8 {α : Type} {T : Ty α} {t e : TypeId} {x ix : Operand} {v : Value} {X : List α} {k : IntKind} {i : Nat} {f : Frag} (ht : SlOk P t e T) (hx : ev l x = v) (hr : ORep T R f v X)
    (hi : ev l ix = .int k i) (hy : i < X.length) :
    ∃ b off, v = .slice (some ⟨b, off, none⟩) X.length (capOf v) ∧
      ∀ (dst : Option Tmp) (ty : TypeId) (pos : String) (after : Array Edge) (g : Option (Nat × Bool)), Val P ρ ⟨dst, .indexAddr t x ix, ty, pos, after, g⟩ l R O (.pointer (some ⟨b, off + i * T.size, none⟩)) := by
  rcases hr with ⟨rfl, rfl, _⟩ | ⟨b, pre, cs, cap, ty', rfl, rfl, hc, hlen, hcell, hel⟩
  · simp at hy
  refine ⟨b, pre.length, rfl, fun dst ty pos after g A w hh => ?_⟩
  rw [qw (by intro c h; cases h)]
  have := z6l (P := P) (b := b) (off := pre.length) (c := cap) (k := k) (w := w) ht.u ht.e.size hy
  simp [execOp, hx, hi, this]
end vals
end GV
end Go.Proofs.Ytplgbkaollfmkaa

namespace Go.Proofs.Ytplgbkaollfmkaa
namespace GV
open Go.IntWalk
section effs
variable {P : Program} {ρ : Option Nat} {l : Nat → Value} {R : RH} {O : List Frag} {dst : Option Tmp} {ty : TypeId} {pos : String} {after : Array Edge} {g : Option (Nat × Bool)}
theorem z0g {A : List Frag} {w : World} (h : Holds R (O ++ A) w) (o : Obj) (ho : zo0 o := by first | exact rfl | exact trivial) : Holds R ((single w.heap.size o :: O) ++ A) (w.alloc o) := z2t h o ho
theorem zen {e : TypeId} {zs : List Value} (hz : ∀ w, ∃ z, (zeroValue e).run P w = .ok z w ∧ z.cells = zs.toArray) :
    Eff P ρ ⟨dst, .alloc e, ty, pos, after, g⟩ l R O (fun v R' O' => R' = R ∧ ∃ b, v = .pointer (some ⟨b, 0, none⟩) ∧ O' = box b zs e :: O) := by
  intro A w hh; rw [qw (by intro c h; cases h)]
  obtain ⟨z, h1, h2⟩ := hz w
  simp only [execOp, Instr.alloc, Sem.run_bind, h1, Result.andThen_ok, newVar, newRow, run_newObj, Sem.run_pure, h2]
  exact ⟨R, _, RH.le.refl _, z0g hh _, rfl, _, rfl, rfl⟩
theorem zjf {e : TypeId} {x : Operand} {v : Value} {cs : List Value} (hx : ev l x = v) (hv : v.cells = cs.toArray) :
    Eff P ρ ⟨dst, .box e x, ty, pos, after, g⟩ l R O (fun v' R' O' => R' = R ∧ ∃ b, v' = .pointer (some ⟨b, 0, none⟩) ∧ O' = box b cs e :: O) := by
  intro A w hh; rw [qw (by intro c h; cases h)]
  simp only [execOp, Instr.box, Sem.run_bind, Result.andThen_ok, newVar, newRow, run_newObj, Sem.run_pure, hx, hv]
  exact ⟨R, _, RH.le.refl _, z0g hh _, rfl, _, rfl, rfl⟩
theorem zf8 {b : Nat} {o : Obj} (h : R.blk b = none) : (R.add (single b o)).blk b = some o := by simp [RH.add, h, uj]
theorem z6u {A : List Frag} {b : Nat} {o : Obj} {w : World} (h : Holds R (single b o :: A) w) : R.blk b = none := (h.own _ (List.mem_cons_self ..) b o (uj b o)).2
theorem znl {α : Type} {T : Ty α} {e : TypeId} {x : Operand} {v : Value} {y : α} (hx : ev l x = v) (hr : VRep T R v y) :
    Eff P ρ ⟨dst, .box e x, ty, pos, after, g⟩ l R O (fun v' R' O' => O' = O ∧ PRep T R' v' y) := by
  intro A w hh; rw [qw (by intro c h; cases h)]
  obtain ⟨cs, hr, rfl⟩ := hr
  simp only [execOp, Instr.box, Sem.run_bind, Result.andThen_ok, newVar, newRow, run_newObj, Sem.run_pure, hx, zhh hr]
  have hn := z0g hh (.cells cs.toArray e (0, 0))
  refine ⟨_, O, RH.le_add _ _, z1e hn, rfl, _, 0, _, e, (0, 0), rfl, zf8 (z6u hn), ?_⟩
  have : wu cs.toArray 0 T.size = cs := by simp [wu, ← T.len hr]
  rw [this]
  exact T.mono (RH.le_add _ _) hr
def over (cs : List Value) (off : Nat) (vs : List Value) : List Value := cs.take off ++ vs ++ cs.drop (off + vs.length)
theorem zer {cs vs : List Value} {o : Nat} {v : Value} (h : o < cs.length) : over (cs.set o v) (o + 1) vs = over cs o (v :: vs) := by
  unfold over
  have e1 : (cs.set o v).take (o + 1) = cs.take o ++ [v] := by
    apply List.ext_getElem?
    intro j
    simp only [List.getElem?_take, List.getElem?_set, List.getElem?_append, List.length_take, List.getElem?_singleton]
    by_cases h1 : j < o
    · rw [if_pos (by omega), if_neg (by omega), if_pos (by omega), if_pos h1]
    · by_cases h2 : j = o
      · subst h2
        rw [if_pos (by omega), if_pos rfl, if_pos h, if_neg (by omega), if_pos (by omega)]
      · rw [if_neg (by omega), if_neg (by omega), if_neg (by omega)]
  have e2 : (cs.set o v).drop (o + 1 + vs.length) = cs.drop (o + (v :: vs).length) := by
    rw [List.drop_set_of_lt (by omega), List.length_cons]
    congr 1
    omega
  rw [e1, e2]
  simp
theorem z1p {b : Nat} {bt : TypeId} : ∀ (vs : List Value) (cs : List Value) (off i : Nat) (w : World), w.heap[b]? = some (.cells cs.toArray bt (0, 0)) → off + i + vs.length ≤ cs.length →
    (∀ v ∈ vs, v.oneCell' = true) → ∃ w', (storeCells ⟨b, off, none⟩ vs i).run P w = .ok () w' ∧ w'.heap[b]? = some (.cells (over cs (off + i) vs).toArray bt (0, 0)) ∧ (∀ k, k ≠ b → w'.heap[k]? = w.heap[k]?) ∧ w'.os = w.os ∧ w'.output = w.output
  | [], cs, off, i, w, hb, _, _ => ⟨w, rfl, by simpa [over] using hb, fun _ _ => rfl, rfl, rfl⟩
  | v :: vs, cs, off, i, w, hb, hl, hv => by
    have hlt : off + i < cs.length := by simp at hl; omega
    have hc : w.cell? ((⟨b, off, none⟩ : Addr).add i) = some cs[off + i] := by rw [addr_add, cell_of_block hb]; simp [hlt]
    have hfz : w.frozen? ((⟨b, off, none⟩ : Addr).add i) = false := by rw [addr_add]; exact zdl hb
    have hb1 : (w.setCell ((⟨b, off, none⟩ : Addr).add i) v).heap[b]? = some (.cells (cs.set (off + i) v).toArray bt (0, 0)) := by
      obtain ⟨h1, h2⟩ := Array.getElem?_eq_some_iff.1 hb
      rw [addr_add]
      show (w.heap.modify b _)[b]? = _
      rw [Array.getElem?_eq_getElem (by rw [Array.size_modify]; exact h1), Array.getElem_modify_self, h2]
      simp
    have hk1 : ∀ k, k ≠ b → (w.setCell ((⟨b, off, none⟩ : Addr).add i) v).heap[k]? = w.heap[k]? := fun k hk => by
      rw [addr_add]
      show (w.heap.modify b _)[k]? = _
      rw [Array.getElem?_modify, if_neg (fun e => hk e.symm)]
    obtain ⟨w', h1, h2, h3, h4, h5⟩ := z1p vs (cs.set (off + i) v) off (i + 1) _ hb1 (by simp at hl ⊢; omega) (fun u hu => hv u (List.mem_cons_of_mem _ hu))
    refine ⟨w', ?_, ?_, fun k hk => (h3 k hk).trans (hk1 k hk), h4, h5⟩
    · simp only [storeCells, Sem.run_bind, run_store _ _ _ _ _ (hv v (List.mem_cons_self ..)), hc, hfz, Bool.false_eq_true, if_false, Result.andThen_ok]
      exact h1
    · rw [h2]
      rw [show off + (i + 1) = off + i + 1 from by omega, zer hlt]
theorem z1a {t : TypeId} {x y : Operand} {b off i n : Nat} {cs vs : List Value} {bt : TypeId} {v : Value} (hs : ∀ w, (sizeOf t).run P w = .ok n w) (hx : ev l x = .pointer (some ⟨b, off, none⟩)) (hy : ev l y = v)
    (hv : v.cells = vs.toArray) (hn : vs.length = n) (hO : O[i]? = some (box b cs bt)) (hl : off + vs.length ≤ cs.length) (h1 : ∀ v ∈ vs, v.oneCell' = true) :
    Eff P ρ ⟨dst, .store t x y, ty, pos, after, g⟩ l R O (fun v' R' O' => v' = undef ∧ R' = R ∧ O' = O.set i (box b (over cs off vs) bt)) := by
  intro A w hh; rw [qw (by intro c h; cases h)]
  have hlt : i < O.length := (List.getElem?_eq_some_iff.1 hO).1
  have hO' : (O ++ A)[i]? = some (box b cs bt) := by rw [List.getElem?_append_left hlt]; exact hO
  have hblk : w.heap[b]? = some (.cells cs.toArray bt (0, 0)) := z0c hh hO' (uj _ _)
  obtain ⟨w', h2, h3, h4, h5, h6⟩ := z1p (P := P) vs cs off 0 w hblk (by omega) h1
  have hrun : (Instr.storeAt t (.pointer (some ⟨b, off, none⟩)) v).run P w = .ok () w' := by
    simp only [Instr.storeAt, Instr.sureAddr, Sem.run_bind, Sem.run_pure, Result.andThen_ok, storeVar, hs, hv]
    rw [if_neg (by simp [hn])]
    exact h2
  have hex : (execOp (ev l) (⟨dst, .store t x y, ty, pos, after, g⟩ : Oper)).run P w = .ok .skip w' := by
    simp only [execOp, hx, hy, Sem.run_bind, hrun, Result.andThen_ok]
    rfl
  rw [hex]
  refine ⟨R, _, RH.le.refl _, ?_, rfl, rfl, rfl⟩
  have := z6y hh hO' h3 h4 h5 h6
  rwa [List.set_append_left _ _ hlt] at this
/-! ### Calls -/
def Enters (P : Program) (f : FuncId) : Prop := ∀ (args : Array Value) (w : World), (callFunc f args).run P w = .ok (.enter f args) w
theorem enters_of {f : FuncId} {fn : Func} (hf : P.funcs[f]? = some fn) (hb : fn.body.isNone = false) (hn : (fn.name == "runtime.NumGoroutine") = false) : Enters P f := by
  intro args w
  have hb' : fn.body.isNone = true → False := fun h => by rw [hb] at h; cases h
  simp only [callFunc, Sem.run_bind, run_program, Result.andThen_ok, hf, hn, Bool.false_eq_true, if_false, hb, Sem.run_pure]
theorem zez {c : Operand} {args : Array Operand} {at' : Array TypeId} {f : FuncId} {fs cs vs : Array Value} {w : World} (he : Enters P f) (hc : ev l c = .func (.func f) fs cs) (ha : args.map (ev l) = vs) :
    (execOp (ev l) (⟨dst, .call ⟨.value c, args, at'⟩, ty, pos, after, g⟩ : Oper)).run P w = .ok (.enter f (fs ++ vs ++ cs)) w := by
  simp only [execOp, resolve, hc, ha, Deferred.ofValue, Sem.run_bind, Sem.run_pure, Result.andThen_ok, invoke, he (fs ++ vs ++ cs) w]
theorem zam {f : FuncId} {c : Operand} {args : Array Operand} {at' : Array TypeId} {fs cs vs as : Array Value} {post : Value → RH → Prop} (he : Enters P f) (hc : ev l c = .func (.func f) fs cs) (ha : args.map (ev l) = vs)
    (has : fs ++ vs ++ cs = as) (h : CallP P f as R post) :
    Eff P ρ ⟨dst, .call ⟨.value c, args, at'⟩, ty, pos, after, g⟩ l R O (fun v R' O' => O' = O ∧ post v R') := by
  intro A w hh; rw [qw (by intro c h; cases h), zez he hc ha]
  subst has
  exact Calls.mono (h _ w hh) fun _ _ ⟨v, e, R', a, b, c⟩ => ⟨v, e, R', O, a, b, rfl, c⟩
/-! ### New arrays -/
theorem zq1 {α : Type} {T : Ty α} {z : α} {zs : List Value} (hz : T.rep R zs z) (n : Nat) :
    ∀ i x, (List.replicate n z)[i]? = some x → T.rep R (((madeCells zs.toArray (n * T.size)).toList.drop (i * T.size)).take T.size) x := by
  intro i x hx
  rw [List.getElem?_replicate] at hx
  split at hx
  · rename_i hi
    cases hx
    have hl := T.len hz
    have : ((madeCells zs.toArray (n * T.size)).toList.drop (i * T.size)).take T.size = zs := by
      apply List.ext_getElem?
      intro k
      rw [List.getElem?_take]
      split
      · rename_i hk
        have hlt : i * T.size + k < n * T.size := by
          have : (i + 1) * T.size ≤ n * T.size := Nat.mul_le_mul_right _ hi
          rw [Nat.add_mul] at this
          omega
        have hmod : (i * T.size + k) % T.size = k := by rw [Nat.add_comm, Nat.add_mul_mod_self_right, Nat.mod_eq_of_lt hk]
        rw [List.getElem?_drop, Array.getElem?_toList, madeCells, Array.getElem?_map, Array.getElem?_range]
        rw [if_pos hlt]
        simp only [Option.map_some, List.size_toArray, hl, hmod]
        rw [List.getElem?_eq_getElem (by omega)]
        simp [hl, hk]
      · rename_i hk
        rw [List.getElem?_eq_none (by omega)]
    rw [this]; exact hz
  · cases hx
theorem zea {α : Type} {T : Ty α} {z : α} {zs : List Value} (hz : T.rep R zs z) (n : Nat) : ∀ v ∈ (madeCells zs.toArray (n * T.size)).toList, v.oneCell' = true := by
  intro v hv
  obtain ⟨j, hj⟩ := List.getElem?_of_mem hv
  rw [Array.getElem?_toList, madeCells, Array.getElem?_map, Array.getElem?_range] at hj
  split at hj
  · rename_i hlt
    simp only [Option.map_some, Option.some.injEq] at hj
    have hl := T.len hz
    have hpos : 0 < T.size := by
      rcases Nat.eq_zero_or_pos T.size with h | h
      · rw [h] at hlt; omega
      · exact h
    have hm : j % zs.length < zs.length := Nat.mod_lt _ (by omega)
    have e : zs.toArray[j % zs.toArray.size]! = zs[j % zs.length] := by simp [hm]
    rw [e] at hj
    subst hj
    exact T.cell hz _ (List.getElem_mem _)
  · simp at hj
structure ZeroOk (P : Program) (e : TypeId) {α : Type} (T : Ty α) (z : α) (bytes : Nat) : Prop where
  info : ∃ i zv, P.info? e = some i ∧ i.zero = some zv ∧ i.size = T.size ∧ i.bytes = bytes ∧ ∀ R, T.rep R zv.cells.toList z
theorem iw {α : Type} {T : Ty α} {z : α} {t e : TypeId} {bytes : Nat} {x y : Operand} {n c : Nat} {k k' : IntKind} (hu : P.underlying t = some (.slice e)) (hz : ZeroOk P e T z bytes) (hx : ev l x = .int k n) (hy : ev l y = .int k' c)
    (hnc : n ≤ c) (hb : bytes * c ≤ 281474976710656) (hc : c ≤ 9223372036854775807) :
    Eff P ρ ⟨dst, .makeSlice t x y, ty, pos, after, g⟩ l R O (fun v R' O' => R' = R ∧ capOf v = c ∧ ∃ f, O' = f :: O ∧ ORep T R f v (List.replicate n z)) := by
  intro A w hh; rw [qw (by intro c h; cases h)]
  obtain ⟨i, zv, h1, h2, h3, h4, h5⟩ := hz.info
  have hrun := run_make (P := P) w t e i zv hu h1 h2 k k' (n : Int) (c : Int) (by omega) (by omega) (by rw [h4]; have := hb; omega) (by omega)
  rw [Int.toNat_natCast, Int.toNat_natCast] at hrun
  have hex : (execOp (ev l) (⟨dst, .makeSlice t x y, ty, pos, after, g⟩ : Oper)).run P w = .ok (.value (.slice (some ⟨w.heap.size, 0, none⟩) n c)) (w.alloc (.cells (madeCells zv.cells (c * i.size)) e)) := by
    simp only [execOp, hx, hy, Sem.run_bind, hrun, Result.andThen_ok]
    rfl
  rw [hex]
  refine ⟨R, _, RH.le.refl _, z0g hh _, rfl, rfl, _, rfl, .inr ⟨w.heap.size, [], (madeCells zv.cells (c * i.size)).toList, c, e, by rw [List.length_replicate]; rfl, by unfold box; rw [List.nil_append, Array.toArray_toList], by rw [List.length_replicate]; exact hnc, by rw [Array.length_toList, size_madeCells, h3]; exact Nat.le_refl _, ?_, ?_⟩⟩
  · have := zea (h5 R) c
    rw [h3]; simpa using this
  · intro j x hj
    have h6 : (List.replicate c z)[j]? = some x := by
      rw [List.getElem?_replicate] at hj ⊢
      split at hj
      · rw [if_pos (by omega)]; exact hj
      · cases hj
    have := zq1 (h5 R) c j x h6
    rw [h3]; simpa using this
end effs
end GV
end Go.Proofs.Ytplgbkaollfmkaa

namespace Go.Proofs.Ytplgbkaollfmkaa
namespace GV
open Go.IntWalk
section arr
variable {P : Program} {ρ : Option Nat} {l : Nat → Value} {R : RH} {O : List Frag} {dst : Option Tmp} {ty : TypeId} {pos : String} {after : Array Edge} {g : Option (Nat × Bool)}
def Seq {α : Type} (T : Ty α) (R : RH) (cs : List Value) (X : List α) : Prop :=
  ∃ css : List (List Value), cs = css.flatten ∧ css.length = X.length ∧ ∀ (i : Nat) (c : List Value) (x : α), css[i]? = some c → X[i]? = some x → T.rep R c x
theorem Seq.nil {α : Type} {T : Ty α} : Seq T R [] [] := ⟨[], rfl, rfl, fun i c x h => by simp at h⟩
theorem Seq.cons {α : Type} {T : Ty α} {c cs : List Value} {x : α} {X : List α} (h : T.rep R c x) (hs : Seq T R cs X) : Seq T R (c ++ cs) (x :: X) := by
  obtain ⟨css, rfl, hl, hr⟩ := hs
  refine ⟨c :: css, by simp, by simp [hl], fun i c' x' h1 h2 => ?_⟩
  cases i with
  | zero => simp at h1 h2; subst h1; subst h2; exact h
  | succ i => simp at h1 h2; exact hr i c' x' h1 h2
theorem Seq.append {α : Type} {T : Ty α} {cs ds : List Value} {X Y : List α} (h : Seq T R cs X) (k : Seq T R ds Y) : Seq T R (cs ++ ds) (X ++ Y) := by
  obtain ⟨css, rfl, hl, hr⟩ := h
  obtain ⟨dss, rfl, kl, kr⟩ := k
  refine ⟨css ++ dss, by simp, by simp [hl, kl], fun i c x h1 h2 => ?_⟩
  rw [List.getElem?_append] at h1 h2
  rw [← hl] at h2
  split at h1
  · rename_i hi; rw [if_pos hi] at h2; exact hr i c x h1 h2
  · rename_i hi; rw [if_neg hi] at h2; exact kr _ c x h1 h2
theorem Seq.len {α : Type} {T : Ty α} : ∀ {X : List α} {cs : List Value}, Seq T R cs X → cs.length = X.length * T.size
  | [], cs, ⟨css, e, hl, hr⟩ => by
    have : css = [] := List.length_eq_zero_iff.1 hl
    subst this; subst e; simp
  | x :: X, cs, ⟨css, e, hl, hr⟩ => by
    match css, hl with
    | c :: css, hl =>
      subst e
      have h0 := T.len (hr 0 c x rfl rfl)
      have ih := Seq.len (T := T) (X := X) (cs := css.flatten) ⟨css, rfl, by simpa using hl, fun i c' x' h1 h2 => hr (i + 1) c' x' (by simpa using h1) (by simpa using h2)⟩
      simp [h0, ih, Nat.add_mul]; omega
theorem Seq.cell {α : Type} {T : Ty α} {X : List α} {cs : List Value} (h : Seq T R cs X) : ∀ v ∈ cs, v.oneCell' = true := by
  obtain ⟨css, rfl, hl, hr⟩ := h
  intro v hv
  obtain ⟨c, hc, hv⟩ := List.mem_flatten.1 hv
  obtain ⟨i, hi⟩ := List.getElem?_of_mem hc
  have hlt : i < X.length := by rw [← hl]; exact (List.getElem?_eq_some_iff.1 hi).1
  exact T.cell (hr i c X[i] hi (List.getElem?_eq_getElem hlt)) v hv
theorem Seq.at {α : Type} {T : Ty α} : ∀ {X : List α} {cs rest : List Value} {i : Nat} {x : α}, Seq T R cs X → X[i]? = some x → T.rep R (((cs ++ rest).drop (i * T.size)).take T.size) x
  | [], cs, rest, i, x, h, hx => by simp at hx
  | y :: X, cs, rest, i, x, ⟨css, e, hl, hr⟩, hx => by
    match css, hl with
    | c :: css, hl =>
      subst e
      have h0 := T.len (hr 0 c y rfl rfl)
      cases i with
      | zero =>
        simp only [List.getElem?_cons_zero, Option.some.injEq] at hx
        subst hx
        rw [Nat.zero_mul, List.drop_zero, List.flatten_cons, List.append_assoc, ← h0, List.take_left]
        exact hr 0 c y rfl rfl
      | succ i =>
        have ih := Seq.at (T := T) (X := X) (cs := css.flatten) (rest := rest) (i := i) (x := x) ⟨css, rfl, by simpa using hl, fun i c' x' h1 h2 => hr (i + 1) c' x' (by simpa using h1) (by simpa using h2)⟩ (by simpa using hx)
        rw [List.flatten_cons, List.append_assoc, Nat.add_mul, Nat.one_mul, Nat.add_comm, ← List.drop_drop]
        rw [show List.drop T.size (c ++ (css.flatten ++ rest)) = css.flatten ++ rest from by rw [← h0, List.drop_left]]
        exact ih
theorem Seq.of_at {α : Type} {T : Ty α} : ∀ {X : List α} {cs : List Value}, (∀ i x, X[i]? = some x → T.rep R ((cs.drop (i * T.size)).take T.size) x) → Seq T R (cs.take (X.length * T.size)) X
  | [], cs, _ => by simpa using (Seq.nil (T := T) (R := R))
  | x :: X, cs, h => by
    have h0 := h 0 x rfl
    rw [Nat.zero_mul, List.drop_zero] at h0
    have ih := Seq.of_at (T := T) (X := X) (cs := cs.drop T.size) (fun i y hy => by
      have := h (i + 1) y (by simpa using hy)
      rwa [Nat.add_mul, Nat.one_mul, Nat.add_comm, ← List.drop_drop] at this)
    have e : cs.take ((x :: X).length * T.size) = cs.take T.size ++ (cs.drop T.size).take (X.length * T.size) := by
      rw [List.length_cons, Nat.add_mul, Nat.one_mul, Nat.add_comm, List.take_add]
    rw [e]
    exact Seq.cons h0 ih
theorem zda {pre cs vs : List Value} {o : Nat} : over (pre ++ cs) (pre.length + o) vs = pre ++ over cs o vs := by
  simp [over, List.take_append, List.drop_append, Nat.add_assoc, List.take_of_length_le]
theorem zc6 {α : Type} {T : Ty α} {b : Nat} {pre cs rest : List Value} {bt : TypeId} {X : List α} {cap : Nat} (h : Seq T R cs X) (hc : X.length ≤ cap) (hl : cap * T.size ≤ (cs ++ rest).length) (hr : ∀ v ∈ rest, v.oneCell' = true) (hp : ∀ v ∈ pre, v.oneCell' = true) :
    ORep T R (box b (pre ++ (cs ++ rest)) bt) (.slice (some ⟨b, pre.length, none⟩) X.length cap) X :=
  .inr ⟨b, pre, cs ++ rest, cap, bt, rfl, rfl, hc, hl, fun v hv => by
    rcases List.mem_append.1 hv with hv | hv
    · exact hp v hv
    rcases List.mem_append.1 hv with hv | hv
    · exact h.cell v hv
    · exact hr v hv, fun i x hx => h.at hx⟩
theorem z6r {α : Type} {T : Ty α} {b : Nat} {cs rest : List Value} {bt : TypeId} {X : List α} {cap : Nat} (h : Seq T R cs X) (hc : X.length ≤ cap) (hl : cap * T.size ≤ (cs ++ rest).length) (hr : ∀ v ∈ rest, v.oneCell' = true) :
    ORep T R (box b (cs ++ rest) bt) (.slice (some ⟨b, 0, none⟩) X.length cap) X := zc6 (pre := []) h hc hl hr (fun v hv => by cases hv)
theorem z5e {α : Type} {T : Ty α} {v : Value} {X : List α} (h : VRep (yj T) R v X) :
    ∃ cs p n, v = .slice p X.length n ∧ Seq T R cs X ∧ ∀ (w : World), (∀ k o, R.blk k = some o → w.heap[k]? = some o) → (Builtin.firstCells T.size X.length v).run P w = .ok cs.toArray w := by
  obtain ⟨p, n, rfl, hn, hp, hs⟩ := bv.1 h
  rcases hs with rfl | ⟨b, off, c, ty, fr, rfl, hb, hel⟩
  · refine ⟨[], p, n, rfl, Seq.nil, fun w hh => ?_⟩
    cases p with
    | none => rfl
    | some a => simp [Builtin.firstCells, loadCells, loadCellsFrom]
  · have hseq : Seq T R (wu c off (X.length * T.size)) X := by
      have := Seq.of_at (T := T) (R := R) (X := X) (cs := c.toList.drop off) (fun i x hx => by
        have := hel i x hx
        rwa [wu, ← List.drop_drop] at this)
      exact this
    refine ⟨_, _, n, rfl, hseq, fun w hh => ?_⟩
    simp only [Builtin.firstCells]
    by_cases h0 : X.length * T.size = 0
    · rw [h0]; simp [loadCells, loadCellsFrom, wu]
    · exact run_loadCells (hh _ _ hb) (z3j hseq.len h0)
theorem foldl_set (vs : List Value) : ∀ (j : Nat) (cells : Array Value) (off : Nat), (vs.zipIdx j).foldl (fun (cs : Array Value) (x : Value × Nat) => cs.setIfInBounds (off + x.2) x.1) cells = (vs.zipIdx (off + j)).foldl (fun (cs : Array Value) (x : Value × Nat) => cs.setIfInBounds x.2 x.1) cells := by
  induction vs with
  | nil => intros; rfl
  | cons v vs ih =>
    intro j cells off
    simp only [List.zipIdx_cons, List.foldl_cons]
    rw [ih, Nat.add_assoc]
theorem z8v (vs : List Value) : ∀ (cells : List Value) (o : Nat), o + vs.length ≤ cells.length → (vs.zipIdx o).foldl (fun (cs : Array Value) (x : Value × Nat) => cs.setIfInBounds x.2 x.1) cells.toArray = (over cells o vs).toArray := by
  induction vs with
  | nil => intro cells o _; simp [over]
  | cons v vs ih =>
    intro cells o h
    simp only [List.zipIdx_cons, List.foldl_cons]
    rw [show cells.toArray.setIfInBounds o v = (cells.set o v).toArray from by simp]
    rw [ih _ _ (by simp at h ⊢; omega), zer (by simp at h; omega)]
theorem zhs {sz : Nat} : ∀ (vs : List (List Value)) (k : Nat) (done rest : List Value), (∀ v ∈ vs, v.length = sz) → done.length = k * sz → rest.length = vs.length * sz → ∀ (ps : List (Nat × Value)),
    ps.map (fun p => (p.1, p.2.cells)) = (vs.zipIdx k).map (fun x => (x.2, x.1.toArray)) → Instr.fill (fun i => some (i * sz, sz)) (done ++ rest).toArray ps = some (done ++ vs.flatten).toArray
  | [], k, done, rest, _, _, hr, ps, hp => by
    have : ps = [] := by simpa using hp
    subst this
    have : rest = [] := List.length_eq_zero_iff.1 (by simpa using hr)
    subst this
    rfl
  | v :: vs, k, done, rest, hv, hd, hr, ps, hp => by
    match ps, hp with
    | (i, p) :: ps, hp =>
      simp only [List.map_cons, List.zipIdx_cons, List.cons.injEq, Prod.mk.injEq] at hp
      obtain ⟨⟨rfl, hc⟩, hp⟩ := hp
      have hvl := hv v (List.mem_cons_self ..)
      simp only [List.length_cons, Nat.add_mul, Nat.one_mul] at hr
      simp only [Instr.fill, hc, List.size_toArray, hvl]
      rw [if_neg (by simp [hd, hr])]
      have hfold : Array.foldl (fun (cs : Array Value) (x : Value × Nat) => cs.setIfInBounds (i * sz + x.2) x.1) (done ++ rest).toArray v.toArray.zipIdx = ((done ++ v) ++ rest.drop sz).toArray := by
        rw [← Array.foldl_toList]
        have : v.toArray.zipIdx.toList = v.zipIdx 0 := by simp
        rw [this, foldl_set, Nat.add_zero, z8v _ _ _ (by simp [hd, hvl]; omega)]
        congr 1
        unfold over
        rw [← hd, List.take_left, hvl, List.drop_append, List.drop_eq_nil_of_le (by omega)]
        simp
      have := zhs vs (i + 1) (done ++ v) (rest.drop sz) (fun u hu => hv u (List.mem_cons_of_mem _ hu)) (by simp [hd, hvl, Nat.add_mul]) (by rw [List.length_drop]; omega) ps hp
      rw [List.flatten_cons, ← List.append_assoc, ← this]
      exact congrArg (fun c => Instr.fill (fun i => some (i * sz, sz)) c ps) hfold
theorem z6p {α : Type} {T : Ty α} {t e : TypeId} {z : α} {bytes n : Nat} {parts : Array (Nat × Operand)} {ps : List (Nat × Value)} {css : List (List Value)} {X : List α} (hu : P.underlying t = some (.slice e)) (hz : ZeroOk P e T z bytes)
    (hp : (parts.map fun (i, x) => (i, ev l x)) = ps.toArray) (hps : ps.map (fun p => (p.1, p.2.cells)) = css.zipIdx.map (fun x => (x.2, x.1.toArray))) (hX : ∀ (i : Nat) (c : List Value) (x : α), css[i]? = some c → X[i]? = some x → T.rep R c x)
    (hl : css.length = X.length) (hn : X.length = n) (hbig : n * T.size ≤ 16777216) :
    Eff P ρ ⟨dst, .buildSlice t n parts, ty, pos, after, g⟩ l R O (fun v R' O' => R' = R ∧ capOf v = X.length ∧ ∃ f, O' = f :: O ∧ ORep T R f v X) := by
  intro A w hh; rw [qw (by intro c h; cases h)]
  obtain ⟨i, zv, h1, h2, h3, h4, h5⟩ := hz.info
  have hseq : Seq T R css.flatten X := ⟨css, rfl, hl, hX⟩
  have hlen := hseq.len
  have hv : ∀ c ∈ css, c.length = T.size := fun c hc => by
    obtain ⟨j, hj⟩ := List.getElem?_of_mem hc
    have hlt : j < X.length := by rw [← hl]; exact (List.getElem?_eq_some_iff.1 hj).1
    exact T.len (hX j c X[j] hj (List.getElem?_eq_getElem hlt))
  have hfill : ∀ cells : Array Value, cells.size = n * T.size → Instr.fill (fun i => some (i * T.size, T.size)) cells ps = some css.flatten.toArray := fun cells hc => by
    have := zhs (sz := T.size) css 0 [] cells.toList hv (by simp) (by simp [hc, hl, hn]) ps hps
    simpa using this
  have hsize : (sizeOf e).run P w = .ok T.size w := by simp [sizeOf, typeInfo, h1, h3]
  have hrun : (Instr.buildSlice t n ps.toArray).run P w = .ok (.slice (some ⟨w.heap.size, 0, none⟩) n n) (w.alloc (.cells css.flatten.toArray e (0, 0))) := by
    have hbig' : ¬ (16777216 < n * T.size) := by omega
    simp only [Instr.buildSlice, Sem.run_bind, underlying, run_program, Result.andThen_ok, hu, hsize, Sem.run_pure]
    by_cases h0 : n * T.size = 0
    · simp [h0, hfill, newRow]
    · simp [h0, hbig', hfill, newRow, zeroValue, typeInfo, h1, h2]
  have hex : (execOp (ev l) (⟨dst, .buildSlice t n parts, ty, pos, after, g⟩ : Oper)).run P w = .ok (.value (.slice (some ⟨w.heap.size, 0, none⟩) n n)) (w.alloc (.cells css.flatten.toArray e (0, 0))) := by
    simp only [execOp, hp, Sem.run_bind, hrun, Result.andThen_ok]
    rfl
  rw [hex]
  refine ⟨R, _, RH.le.refl _, z0g hh _, rfl, hn.symm, _, rfl, ?_⟩
  have := z6r (b := w.heap.size) (rest := []) (bt := e) (cap := n) hseq (by omega) (by rw [List.append_nil, hlen, hn]; exact Nat.le_refl _) (by simp)
  rw [List.append_nil, hn] at this
  exact this
theorem ziw {need cap bytes : Nat} (h : cap < need) (hb : need * bytes ≤ 140737488355328) : ¬ (281474976710656 < Builtin.nextslicecap need cap * bytes) := by
  have := growslice_fits h hb
  omega
theorem z5i {A : List Frag} {w : World} (h : Holds R A w) : Holds R A w.drew := ⟨h.ro, h.own, h.sep, h.os, h.out⟩
theorem z9p {α : Type} {T : Ty α} {z : α} {zv : Value} (hz : T.rep R zv.cells.toList z) (n : Nat) : (∀ v ∈ (Builtin.zeroCells zv.cells n).toList, v.oneCell' = true) ∧ (Builtin.zeroCells zv.cells n).toList.length = n * T.size := by
  have hl := T.len hz
  have e : Builtin.zeroCells zv.cells n = madeCells zv.cells.toList.toArray (n * T.size) := by
    rw [Array.toArray_toList]
    simp only [Builtin.zeroCells, madeCells, ← hl, Array.length_toList]
  refine ⟨fun v hv => zea hz n v (by rw [e] at hv; exact hv), by rw [Array.length_toList, size_zeroCells, ← hl, Array.length_toList]⟩
section app
variable {α : Type} {T : Ty α} {z : α} {bytes : Nat} {t e : TypeId} {i : TypeInfo} {zv : Value} {w : World}
theorem z9i (ht : P.underlying t = some (.slice e)) (hi : P.info? e = some i) (hzv : i.zero = some zv) (hs : i.size = T.size) (hby : i.bytes = bytes)
    {s : Value} {base : Option Addr} {n cap : Nat} {olds : List Value} (hs0 : s = .slice base n cap) (hold : ∀ w', w'.heap = w.heap → (Builtin.firstCells T.size n s).run P w' = .ok olds.toArray w')
    {u : Value} {p : Option Addr} {m c : Nat} {news : List Value} (hu0 : u = .slice p m c) (hnew : ∀ w', w'.heap = w.heap → (Builtin.firstCells T.size m u).run P w' = .ok news.toArray w')
    (hg : cap < n + m) (h63 : n + m ≤ 9223372036854775807) (hfit : (n + m) * bytes ≤ 140737488355328) :
    (Builtin.append_ #[t, t] ty #[s, u]).run P w = .ok (.slice (some ⟨w.heap.size, 0, none⟩) (n + m) (grownCap w (n + m) cap e))
        (w.drew.alloc (.cells (olds.toArray ++ news.toArray ++ Builtin.zeroCells zv.cells (grownCap w (n + m) cap e - (n + m))) e)) := by
  subst hs0; subst hu0
  have hn : ¬ (n + m ≤ cap) := by omega
  have h63' : ¬ (9223372036854775807 < ((n : Int) + (m : Int))) := by omega
  have h48' : ¬ (281474976710656 < Builtin.nextslicecap (n + m) cap * i.bytes) := by rw [hby]; exact ziw hg hfit
  have hf := hnew w.drew rfl
  have hfo := hold w.drew rfl
  simp [Builtin.append_, run_underlying ht, sizeOf, typeInfo, zeroValue, hi, hzv, hs, Builtin.lenOf, hn, h63', h48', Question.forced, hf, hfo, newRow, grownCap]
  congr 2
  apply Array.ext'
  simp [List.append_assoc]
theorem z9c (ht : P.underlying t = some (.slice e)) (hi : P.info? e = some i) (hs : i.size = T.size)
    {b off n cap : Nat} {u : Value} {p : Option Addr} {m c : Nat} {news : List Value} (hu0 : u = .slice p m c) (hnew : (Builtin.firstCells T.size m u).run P w = .ok news.toArray w)
    (hg : n + m ≤ cap) {w' : World} (hst : (storeCells ⟨b, off + n * T.size, none⟩ news 0).run P w = .ok () w') :
    (Builtin.append_ #[t, t] ty #[.slice (some ⟨b, off, none⟩) n cap, u]).run P w = .ok (.slice (some ⟨b, off, none⟩) (n + m) cap) w' := by
  subst hu0
  simp [Builtin.append_, run_underlying ht, sizeOf, typeInfo, hi, hs, Builtin.lenOf, hg, hnew, addr_add, hst]
theorem z5c (ht : P.underlying t = some (.slice e)) (hi : P.info? e = some i) (hs : i.size = T.size) {u : Value} {p : Option Addr} {c : Nat} (hu0 : u = .slice p 0 c) (hnew : (Builtin.firstCells T.size 0 u).run P w = .ok #[] w) :
    (Builtin.append_ #[t, t] ty #[.slice none 0 0, u]).run P w = .ok (.slice none 0 0) w := by
  subst hu0
  simp [Builtin.append_, run_underlying ht, sizeOf, typeInfo, hi, hs, Builtin.lenOf, hnew]
end app
theorem z15 {t : TypeId} {x y : Operand} {v u r : Value} {w w' : World} (hx : ev l x = v) (hy : ev l y = u) (h : (Builtin.append_ #[t, t] ty #[v, u]).run P w = .ok r w') :
    (execOp (ev l) (⟨dst, .call ⟨.builtin .append, #[x, y], #[t, t]⟩, ty, pos, after, g⟩ : Oper)).run P w = .ok (.value r) w' := by
  have ha : (#[x, y] : Array Operand).map (ev l) = #[v, u] := by simp [hx, hy]
  simp only [execOp, resolve, ha, Sem.run_bind, Sem.run_pure, Result.andThen_ok, invoke, builtin, h]
theorem z8j {α : Type} {T : Ty α} {z : α} {bytes : Nat} {t e : TypeId} {x y : Operand} {v u : Value} {X Y : List α} {i : Nat} {f : Frag}
    (hu : P.underlying t = some (.slice e)) (hz : ZeroOk P e T z bytes) (hx : ev l x = v) (hy : ev l y = u) (hO : O[i]? = some f) (hv : ORep T R f v X) (hu' : VRep (yj T) R u Y)
    (hb : (X.length + Y.length) * bytes ≤ 140737488355328) (hm : X.length + Y.length ≤ 9223372036854775807) :
    Eff P ρ ⟨dst, .call ⟨.builtin .append, #[x, y], #[t, t]⟩, ty, pos, after, g⟩ l R O (fun v' R' O' => R' = R ∧ ∃ f', O' = O.set i f' ∧ ORep T R f' v' (X ++ Y)) := by
  intro A w hh; rw [qw (by intro c h; cases h)]
  obtain ⟨inf, zv, k1, k2, k3, k4, k5⟩ := hz.info
  obtain ⟨cy, p, n, rfl, hsy, hload⟩ := z5e hu'
  have hilt : i < O.length := (List.getElem?_eq_some_iff.1 hO).1
  have hO' : (O ++ A)[i]? = some f := by rw [List.getElem?_append_left hilt]; exact hO
  have hcy : cy.length = Y.length * T.size := hsy.len
  have hnew : ∀ w', w'.heap = w.heap → (Builtin.firstCells T.size Y.length (.slice p Y.length n)).run P w' = .ok cy.toArray w' := fun w' hw' =>
    hload w' fun k o hk => by rw [hw']; exact hh.ro k o hk
  have grow : ∀ {base : Option Addr} {cap : Nat} {olds : List Value}, v = .slice base X.length cap → (∀ w', w'.heap = w.heap → (Builtin.firstCells T.size X.length v).run P w' = .ok olds.toArray w') → Seq T R olds X → cap < X.length + Y.length →
      Out P (fun v' w' => ∃ R' O', R.le R' ∧ Holds R' (O' ++ A) w' ∧ R' = R ∧ ∃ f', O' = O.set i f' ∧ ORep T R f' v' (X ++ Y)) ((execOp (ev l) (⟨dst, .call ⟨.builtin .append, #[x, y], #[t, t]⟩, ty, pos, after, g⟩ : Oper)).run P w) := by
    intro base cap olds hv0 hold hso hg
    rw [z15 hx hy (z9i (T := T) hu k1 k2 k3 k4 hv0 hold rfl hnew hg hm hb)]
    have hcap := grownCap_ge w (X.length + Y.length) cap e
    obtain ⟨hzc, hzl⟩ := z9p (k5 R) (grownCap w (X.length + Y.length) cap e - (X.length + Y.length))
    have hal := z2t (z5i hh) (.cells ((olds ++ cy) ++ (Builtin.zeroCells zv.cells (grownCap w (X.length + Y.length) cap e - (X.length + Y.length))).toList).toArray e (0, 0))
    have hor := z6r (b := w.heap.size) (bt := e) (cap := grownCap w (X.length + Y.length) cap e) (hso.append hsy) (rest := (Builtin.zeroCells zv.cells (grownCap w (X.length + Y.length) cap e - (X.length + Y.length))).toList)
      (by rw [List.length_append]; exact hcap) (by rw [List.length_append, List.length_append, hso.len, hcy, hzl, ← Nat.add_mul, ← Nat.add_mul]; exact Nat.mul_le_mul_right _ (by omega)) hzc
    refine ⟨R, O.set i _, RH.le.refl _, ?_, rfl, _, rfl, by rw [List.length_append] at hor; exact hor⟩
    have h1 : Holds R (single w.heap.size (.cells ((olds ++ cy) ++ (Builtin.zeroCells zv.cells (grownCap w (X.length + Y.length) cap e - (X.length + Y.length))).toList).toArray e (0, 0)) :: (O ++ A)) (w.drew.alloc (.cells (olds.toArray ++ cy.toArray ++ Builtin.zeroCells zv.cells (grownCap w (X.length + Y.length) cap e - (X.length + Y.length))) e (0, 0))) := by
      have e1 : (olds.toArray ++ cy.toArray ++ Builtin.zeroCells zv.cells (grownCap w (X.length + Y.length) cap e - (X.length + Y.length))) = ((olds ++ cy) ++ (Builtin.zeroCells zv.cells (grownCap w (X.length + Y.length) cap e - (X.length + Y.length))).toList).toArray := by
        apply Array.ext'; simp
      rw [e1]
      exact hal
    have hp1 : (single w.heap.size (.cells ((olds ++ cy) ++ (Builtin.zeroCells zv.cells (grownCap w (X.length + Y.length) cap e - (X.length + Y.length))).toList).toArray e (0, 0)) :: (O ++ A)).Perm
        (f :: (O.set i (box w.heap.size ((olds ++ cy) ++ (Builtin.zeroCells zv.cells (grownCap w (X.length + Y.length) cap e - (X.length + Y.length))).toList) e) ++ A)) := by
      have q1 := (z0a O i f hO).append_right A
      have q2 := (z0a (O.set i (box w.heap.size ((olds ++ cy) ++ (Builtin.zeroCells zv.cells (grownCap w (X.length + Y.length) cap e - (X.length + Y.length))).toList) e)) i _ (by rw [List.getElem?_set_self hilt])).append_right A
      rw [List.eraseIdx_set_eq] at q2
      exact (q1.cons _).trans ((List.Perm.swap f _ _).trans (q2.symm.cons f))
    exact z7z (yc h1 hp1)
  rcases hv with ⟨rfl, rfl, rfl⟩ | ⟨b, pre, cs, cap, bt, rfl, rfl, hc, hcl, hcc, hel⟩
  · -- onto nil
    by_cases hY : Y = []
    · subst hY
      have h0 := hnew w rfl
      have : cy = [] := List.length_eq_zero_iff.1 (by simpa using hcy)
      subst this
      rw [z15 hx hy (z5c hu k1 k3 rfl h0)]
      refine ⟨R, O, RH.le.refl _, hh, rfl, emp, ?_, .inl ⟨rfl, rfl, rfl⟩⟩
      apply List.ext_getElem?
      intro j
      rw [List.getElem?_set]
      split
      · rename_i e; subst e; exact hO
      · rfl
    · have hpos : 0 < Y.length := List.length_pos_iff.2 hY
      exact grow (base := none) (cap := 0) (olds := []) rfl (fun w' _ => rfl) Seq.nil (by simpa using hpos)
  · have hblk : w.heap[b]? = some (.cells (pre ++ cs).toArray bt (0, 0)) := z0c hh hO' (uj _ _)
    by_cases hroom : X.length + Y.length ≤ cap
    · have hle0 : X.length * T.size + cy.length ≤ cs.length := by
        rw [hcy, ← Nat.add_mul]; exact Nat.le_trans (Nat.mul_le_mul_right _ hroom) hcl
      have hle : pre.length + X.length * T.size + 0 + cy.length ≤ (pre ++ cs).length := by rw [List.length_append]; omega
      obtain ⟨w', h2, h3, h4, h5, h6⟩ := z1p (P := P) cy (pre ++ cs) (pre.length + X.length * T.size) 0 w hblk hle hsy.cell
      rw [z15 hx hy (z9c (T := T) hu k1 k3 rfl (hnew w rfl) hroom h2)]
      have hset := z6y hh hO' h3 h4 h5 h6
      rw [List.set_append_left _ _ hilt] at hset
      refine ⟨R, _, RH.le.refl _, hset, rfl, _, rfl, ?_⟩
      have hsx := Seq.of_at hel
      have e1 : over (pre ++ cs) (pre.length + X.length * T.size + 0) cy = pre ++ ((cs.take (X.length * T.size) ++ cy) ++ cs.drop (X.length * T.size + cy.length)) := by
        rw [Nat.add_zero, zda]; simp [over]
      have hor := zc6 (pre := pre) (b := b) (bt := bt) (cap := cap) (hsx.append hsy) (rest := cs.drop (X.length * T.size + cy.length)) (by rw [List.length_append]; exact hroom)
        (by simp only [List.length_append, List.length_take, List.length_drop]; omega) (fun v hv => hcc v (List.mem_append.2 (.inr (List.mem_of_mem_drop hv)))) (fun v hv => hcc v (List.mem_append.2 (.inl hv)))
      rw [← e1, List.length_append] at hor
      exact hor
    · refine grow (base := some ⟨b, pre.length, none⟩) (cap := cap) (olds := cs.take (X.length * T.size)) rfl (fun w' hw' => ?_) (Seq.of_at hel) (by omega)
      simp only [Builtin.firstCells]
      have hb' : w'.heap[b]? = some (.cells (pre ++ cs).toArray bt (0, 0)) := by rw [hw']; exact hblk
      rw [run_loadCells hb' (by rw [List.size_toArray, List.length_append]; exact Nat.add_le_add_left (Nat.le_trans (Nat.mul_le_mul_right _ hc) hcl) _)]
      have := z2o (pre := pre) (cs := cs) (o := 0) (k := X.length * T.size)
      rw [Nat.add_zero] at this
      rw [this]; simp [wu]
end arr
end GV
end Go.Proofs.Ytplgbkaollfmkaa

namespace Go.Proofs.Ytplgbkaollfmkaa
namespace GV
open Go.IntWalk
section conv
variable {P : Program} {ρ : Option Nat} {n : Nat} {Q : Po} {l : Nat → Value} {D : List Nat} {R : RH} {O : List Frag} {ops : Array Oper} {os : List Oper} {c : Code}
theorem zpf {R' : RH} {O' : List Frag} (h : ∀ A w, Holds R (O ++ A) w → Holds R' (O' ++ A) w) (k : wg P ρ n c Q l D R' O') : wg P ρ n c Q l D R O := fun a w hf hh => k a w hf (h _ w hh)
theorem z6n {i : Nat} {f : Frag} (hi : O[i]? = some f) (A : List Frag) (w : World) (h : Holds R (O ++ A) w) : Holds (R.add f) (O.eraseIdx i ++ A) w :=
  z1e (yc h ((z0a O i f hi).append_right A))
theorem z2p {α : Type} {T : Ty α} {f : Frag} {v : Value} {X : List α} {A : List Frag} {w : World} (h : ORep T R f v X) (hh : Holds R (f :: A) w) : VRep (yj T) (R.add f) v X := by
  rcases h with ⟨rfl, rfl, rfl⟩ | ⟨b, pre, cs, cap, bt, rfl, rfl, hc, hcl, hcc, hel⟩
  · exact zdc
  · refine bv.2 ⟨_, cap, rfl, hc, fun e => by (cases e), .inr ⟨b, pre.length, (pre ++ cs).toArray, bt, (0, 0), rfl, zf8 (z6u hh), fun i x hx => ?_⟩⟩
    rw [z2o]
    exact T.mono (RH.le_add _ _) (by simpa [wu] using hel i x hx)
theorem z6t {i : Nat} {f : Frag} {A : List Frag} {w : World} (hi : O[i]? = some f) (h : Holds R (O ++ A) w) : Holds R (f :: (O.eraseIdx i ++ A)) w :=
  yc h ((z0a O i f hi).append_right A)
theorem ny {α : Type} {T : Ty α} {i : Nat} {f : Frag} {v : Value} {X : List α} (hi : O[i]? = some f) (h : ORep T R f v X)
    (k : ∀ R', RH.le R R' → VRep (yj T) R' v X → wg P ρ n c Q l D R' (O.eraseIdx i)) : wg P ρ n c Q l D R O := fun a w hf hh =>
  k (R.add f) (RH.le_add _ _) (z2p h (z6t hi hh)) a w hf (z6n hi _ w hh)
theorem uo {α : Type} {T : Ty α} {i : Nat} {f : Frag} {v : Value} {X : List α} (hi : O[i]? = some f) (h : ORep T R f v X)
    (k : ∀ R', RH.le R R' → VRep (yj T) R' v X → wo P ρ n ops Q os l D R' (O.eraseIdx i)) : wo P ρ n ops Q os l D R O := fun a w hf hh =>
  k (R.add f) (RH.le_add _ _) (z2p h (z6t hi hh)) a w hf (z6n hi _ w hh)
theorem zic {i b : Nat} {cs : List Value} {bt : TypeId} (hi : O[i]? = some (box b cs bt)) (k : ∀ R', RH.le R R' → R'.blk b = some (.cells cs.toArray bt (0, 0)) → wg P ρ n c Q l D R' (O.eraseIdx i)) : wg P ρ n c Q l D R O := fun a w hf hh =>
  k (R.add _) (RH.le_add _ _) (zf8 (z6u (z6t hi hh))) a w hf (z6n hi _ w hh)
theorem zgf {α : Type} {T : Ty α} {b : Nat} {cs : List Value} {bt : TypeId} {fr : Nat × Nat} {x : α} (hb : R.blk b = some (.cells cs.toArray bt fr)) (h : T.rep R cs x) : PRep T R (.pointer (some ⟨b, 0, none⟩)) x :=
  ⟨b, 0, _, bt, fr, rfl, hb, by
    have : wu cs.toArray 0 T.size = cs := by simp [wu, ← T.len h]
    rw [this]; exact h⟩
def z1g (l : Nat → Value) : List (Nat × Value) → Nat → Value
  | [] => l
  | (d, v) :: r => upd (z1g l r) d v
theorem zed {l : Nat → Value} : ∀ {L : List (Nat × Value)}, (∀ p ∈ L, l p.1 = p.2) → l = z1g l L
  | [], _ => rfl
  | (d, v) :: r, h => by
    have h1 : l d = v := h (d, v) (List.mem_cons_self ..)
    have h2 := zed (l := l) (L := r) (fun p hp => h p (List.mem_cons_of_mem _ hp))
    show l = upd (z1g l r) d v
    rw [← h2, ← h1, zmh]
/-! ### Results -/
def zng (P : Program) (l : Nat → Value) (R : RH) (O : List Frag) : ResultVar → Value → Prop
  | .tmp t, v => l t = v
  | .cell a t, v => ∃ p, l a = .pointer (some p) ∧ ∀ w, Holds R O w → (loadVar t p).run P w = .ok v w
def zm1 : List Value → Value
  | [v] => v
  | vs => .tuple vs.toArray
def zby (P : Program) (l : Nat → Value) (R : RH) (O : List Frag) : List ResultVar → List Value → Prop
  | [], [] => True
  | r :: rs, v :: vs => zng P l R O r v ∧ zby P l R O rs vs
  | _, _ => False
def zd5 (tmps : Array Value) : ResultVar → Sem Value
  | .tmp t => pure (tmps.getD t undef)
  | .cell a t => do loadVar t (← asAddr (tmps.getD a undef))
theorem ziu (fn : Func) (tmps : Array Value) : results fn tmps = (do let vs ← fn.results.mapM (zd5 tmps); pure (if h : vs.size = 1 then vs[0] else .tuple vs)) := rfl
theorem zc1 {fn : Func} {rs : List ResultVar} {vs : List Value} (hfn : fn.results = rs.toArray) (h : zby P l R O rs vs) :
    ∀ (tmps : Array Value), (∀ i, tmps.getD i undef = l i) → ∀ w, Holds R O w → (results fn tmps).run P w = .ok (zm1 vs) w := by
  intro tmps ht w hh
  have key : ∀ (rs : List ResultVar) (vs : List Value), zby P l R O rs vs → (rs.mapM (zd5 tmps)).run P w = .ok vs w := by
    intro rs
    induction rs with
    | nil => intro vs h; cases vs with
      | nil => rfl
      | cons v vs => exact h.elim
    | cons r rs ih => intro vs h; cases vs with
      | nil => exact h.elim
      | cons v vs =>
        obtain ⟨h1, h2⟩ := h
        have hr : (zd5 tmps r).run P w = .ok v w := by
          cases r with
          | tmp t => simp only [zng] at h1; rw [← ht t] at h1; simp only [zd5, Sem.run_pure, h1]
          | cell a t =>
            obtain ⟨p, hp, hl⟩ := h1
            rw [← ht a] at hp
            simp only [zd5, Sem.run_bind, hp, asAddr, Sem.run_pure, Result.andThen_ok, hl w hh]
        simp only [List.mapM_cons, Sem.run_bind, hr, Result.andThen_ok, ih vs h2, Sem.run_pure]
  rw [ziu, hfn, Sem.run_bind, List.mapM_toArray, Sem.run_map, key rs vs h]
  simp only [Result.andThen_ok, Sem.run_pure]
  congr 1
  match vs with
  | [] => rfl
  | [v] => rfl
  | v :: u :: vs => simp [zm1]
theorem zy {fn : Func} {R0 : RH} {A J : List Frag} {post : Value → RH → List Frag → Prop} {rs : List ResultVar} {vs : List Value} (hle : RH.le R0 R) (hO : O = J ++ A) (hfn : fn.results = rs.toArray) (h : zby P l R O rs vs)
    (hp : post (zm1 vs) R []) : z5y P fn R0 A post .ret l D R O := by
  refine ⟨zm1 vs, R, [], hle, fun w hh => ?_, hp, zc1 hfn h⟩
  subst hO
  exact ⟨hh.ro, fun f hf => hh.own f (List.mem_append.2 (.inr hf)), (List.pairwise_append.1 hh.sep).2.1, hh.os, hh.out⟩
theorem tq {fn : Func} {R0 : RH} {A J O' : List Frag} {post : Value → RH → List Frag → Prop} {rs : List ResultVar} {vs : List Value} (hle : RH.le R0 R) (hO : O.Perm (J ++ (O' ++ A))) (hfn : fn.results = rs.toArray) (h : zby P l R O rs vs)
    (hp : post (zm1 vs) R O') : z5y P fn R0 A post .ret l D R O := by
  refine ⟨zm1 vs, R, O', hle, fun w hh => ?_, hp, zc1 hfn h⟩
  have hh := yc hh hO
  exact ⟨hh.ro, fun f hf => hh.own f (List.mem_append.2 (.inr hf)), (List.pairwise_append.1 hh.sep).2.1, hh.os, hh.out⟩
end conv
section slices
variable {P : Program} {ρ : Option Nat} {l : Nat → Value} {R : RH} {O : List Frag} {dst : Option Tmp} {ty : TypeId} {pos : String} {after : Array Edge} {g : Option (Nat × Bool)}
theorem zaw {t e : TypeId} {p : Option Addr} {n c sz lo hi mx : Nat} {x : Operand} {xlo xhi xmx : Option Operand} {w : World} (hu : P.underlying t = some (.slice e)) (hs : ∀ w, (sizeOf e).run P w = .ok sz w) (hx : ev l x = .slice p n c)
    (hlo : xlo.map (ev l) = none ∧ lo = 0 ∨ ∃ k, xlo.map (ev l) = some (.int k lo)) (hhi : xhi.map (ev l) = none ∧ hi = n ∧ xmx = none ∨ ∃ k, xhi.map (ev l) = some (.int k hi))
    (hmx : xmx.map (ev l) = none ∧ mx = c ∨ ∃ k, xmx.map (ev l) = some (.int k mx)) (h1 : lo ≤ hi) (h2 : hi ≤ mx) (h3 : mx ≤ c) (h4 : xmx = none → hi ≤ c) :
    (execOp (ev l) (⟨dst, .slice t x xlo xhi xmx, ty, pos, after, g⟩ : Oper)).run P w = .ok (.value (.slice (if mx = lo then p else p.map (·.add (lo * sz))) (hi - lo) (mx - lo))) w := by
  have hb : ∀ (k : IntKind) (m y : Nat) (code : BoundsCode), m ≤ y → (Instr.sliceBound (.int k (m : Int)) y code).run P w = .ok m w := fun k m y code h => by
    have : (0 : Int) ≤ (m : Int) ∧ (m : Int) ≤ (y : Int) := ⟨by omega, by omega⟩
    simp only [Instr.sliceBound, asIntOf, Sem.run_bind, Sem.run_pure, Result.andThen_ok, this, and_self, if_true, Int.toNat_natCast]
  have hbs : (Instr.sliceBounds true n c (xlo.map (ev l)) (xhi.map (ev l)) (xmx.map (ev l))).run P w = .ok (lo, hi, mx) w := by
    unfold Instr.sliceBounds
    rcases hmx with ⟨em, rfl⟩ | ⟨km, em⟩
    · rw [em]
      rcases hhi with ⟨eh, rfl, _⟩ | ⟨kh, eh⟩
      · rw [eh]
        rcases hlo with ⟨el, rfl⟩ | ⟨kl, el⟩
        · rw [el]; simp
        · rw [el]; simp [hb _ _ _ _ h1]
      · rw [eh]
        rcases hlo with ⟨el, rfl⟩ | ⟨kl, el⟩
        · rw [el]; simp [hb _ _ _ _ h2]
        · rw [el]; simp [hb _ _ _ _ h1, hb _ _ _ _ h2]
    · rw [em]
      rcases hhi with ⟨eh, rfl, en⟩ | ⟨kh, eh⟩
      · rw [en] at em; cases em
      · rw [eh]
        rcases hlo with ⟨el, rfl⟩ | ⟨kl, el⟩
        · rw [el]; simp [hb _ _ _ _ h2, hb _ _ _ _ h3]
        · rw [el]; simp [hb _ _ _ _ h1, hb _ _ _ _ h2, hb _ _ _ _ h3]
  simp only [execOp, hx, Instr.sliceAt, Instr.slice, Sem.run_bind, underlying, run_program, hu, Result.andThen_ok, Sem.run_pure, hbs, hs]
theorem zcf {α : Type} {T : Ty α} {t e : TypeId} {lo hi mx : Nat} {x : Operand} {xlo xhi xmx : Option Operand} {v : Value} {X : List α} (ht : SlOk P t e T) (hx : ev l x = v) (hr : VRep (yj T) R v X)
    (hlo : xlo.map (ev l) = none ∧ lo = 0 ∨ ∃ k, xlo.map (ev l) = some (.int k lo)) (hhi : xhi.map (ev l) = none ∧ hi = X.length ∧ xmx = none ∨ ∃ k, xhi.map (ev l) = some (.int k hi))
    (hmx : xmx.map (ev l) = none ∧ mx = capOf v ∨ ∃ k, xmx.map (ev l) = some (.int k mx)) (h1 : lo ≤ hi) (h2 : hi ≤ X.length) (h3 : hi ≤ mx) (h4 : mx ≤ capOf v) :
    ∃ u, VRep (yj T) R u ((X.drop lo).take (hi - lo)) ∧ capOf u = mx - lo ∧ ∀ (dst : Option Tmp) (ty : TypeId) (pos : String) (after : Array Edge) (g : Option (Nat × Bool)), Val P ρ ⟨dst, .slice t x xlo xhi xmx, ty, pos, after, g⟩ l R O u := by
  obtain ⟨p, n, rfl, hn, hp, hs⟩ := bv.1 hr
  simp only [capOf] at *
  refine ⟨.slice (if mx = lo then p else p.map (·.add (lo * T.size))) (hi - lo) (mx - lo), ?_, rfl, fun dst ty pos after g A w hh => ?_⟩
  · have hlen : ((X.drop lo).take (hi - lo)).length = hi - lo := by simp; omega
    refine bv.2 ⟨_, mx - lo, by rw [hlen], by rw [hlen]; omega, fun e => ?_, ?_⟩
    · have : X = [] := by
        split at e
        · exact hp e
        · cases p with
          | none => exact hp rfl
          | some a => cases e
      subst this; simp
    · rcases hs with rfl | ⟨b, off, c, bt, fr, rfl, hb, hel⟩
      · left; simp
      · by_cases hm : mx = lo
        · left
          have : hi - lo = 0 := by omega
          rw [this, List.take_zero]
        · right
          refine ⟨b, off + lo * T.size, c, bt, fr, by rw [if_neg hm]; simp [addr_add], hb, fun i x hx => ?_⟩
          rw [List.getElem?_take] at hx
          split at hx
          · rw [List.getElem?_drop] at hx
            have := hel (lo + i) x hx
            rwa [Nat.add_mul, ← Nat.add_assoc] at this
          · cases hx
  · rw [qw (by intro c h; cases h)]
    exact zaw ht.u ht.e.size hx hlo hhi hmx h1 h3 h4 (fun _ => by omega)
theorem ze3 {α : Type} {T : Ty α} {t : TypeId} {x : Operand} {f : Frag} {v : Value} {X : List α} {i j b off : Nat} {y : α} (ht : TyOk P t T) (hv : ORep T R f v X) (hb : v = .slice (some ⟨b, off, none⟩) X.length (capOf v)) (hO : O[j]? = some f)
    (hx : ev l x = .pointer (some ⟨b, off + i * T.size, none⟩)) (hy : X[i]? = some y) :
    ∃ u, VRep T R u y ∧ ∀ (dst : Option Tmp) (ty : TypeId) (pos : String) (after : Array Edge) (g : Option (Nat × Bool)), Val P ρ ⟨dst, .load t x, ty, pos, after, g⟩ l R O u := by
  rcases hv with ⟨rfl, rfl, _⟩ | ⟨b', pre, cs, cap, bt, rfl, rfl, hc, hcl, hcc, hel⟩
  · simp at hy
  · simp only [capOf, Value.slice.injEq, Option.some.injEq, Addr.mk.injEq, and_true] at hb
    obtain ⟨rfl, rfl⟩ := hb
    have hr : T.rep R (wu (pre ++ cs).toArray (pre.length + i * T.size) T.size) y := by rw [z2o]; simpa [wu] using hel i y hy
    refine ⟨T.mk' (wu (pre ++ cs).toArray (pre.length + i * T.size) T.size), ⟨_, hr, rfl⟩, fun dst ty pos after g A w hh => ?_⟩
    rw [qw (by intro c h; cases h)]
    have hblk : w.heap[b']? = some (.cells (pre ++ cs).toArray bt (0, 0)) := z0c hh (i := j) (by rw [List.getElem?_append_left (by exact (List.getElem?_eq_some_iff.1 hO).1)]; exact hO) (uj _ _)
    simp only [execOp, hx, Instr.loadAt, Instr.sureAddr, Sem.run_bind, Sem.run_pure, Result.andThen_ok, z6o ht hblk (R := R) (x := y) hr]
theorem zcy {α : Type} {T : Ty α} {t : TypeId} {x y : Operand} {f : Frag} {v u : Value} {X : List α} {i j b off : Nat} {z : α} (ht : TyOk P t T) (hv : ORep T R f v X) (hb : v = .slice (some ⟨b, off, none⟩) X.length (capOf v)) (hO : O[j]? = some f)
    (hx : ev l x = .pointer (some ⟨b, off + i * T.size, none⟩)) (hi : i < X.length) (hy : ev l y = u) (hz : VRep T R u z) :
    Eff P ρ ⟨dst, .store t x y, ty, pos, after, g⟩ l R O (fun v' R' O' => v' = undef ∧ R' = R ∧ ∃ f', O' = O.set j f' ∧ ORep T R f' v (X.set i z)) := by
  rcases hv with ⟨rfl, rfl, _⟩ | ⟨b', pre, cs, cap, bt, rfl, rfl, hc, hcl, hcc, hel⟩
  · simp at hi
  · simp only [capOf, Value.slice.injEq, Option.some.injEq, Addr.mk.injEq, and_true] at hb
    obtain ⟨rfl, rfl⟩ := hb
    obtain ⟨vs, hvs, rfl⟩ := hz
    have hlen := T.len hvs
    have hroom : i * T.size + T.size ≤ cs.length := by
      have : (i + 1) * T.size ≤ cap * T.size := Nat.mul_le_mul_right _ (by omega)
      rw [Nat.add_mul, Nat.one_mul] at this
      omega
    refine (z1a (dst := dst) (ty := ty) (pos := pos) (after := after) (g := g) ht.size hx hy (zhh hvs) hlen hO (by rw [List.length_append]; omega) (T.cell hvs)).mono ?_
    rintro v' R' O' _ ⟨rfl, rfl, rfl⟩
    refine ⟨rfl, rfl, _, rfl, .inr ⟨b', pre, over cs (i * T.size) vs, cap, bt, by rw [List.length_set], by rw [zda], by rw [List.length_set]; exact hc, ?_, ?_, fun k x hk => ?_⟩⟩
    · simp only [over, List.length_append, List.length_take, List.length_drop]; omega
    · intro v hv
      simp only [over, List.mem_append] at hv
      rcases hv with hv | (hv | hv) | hv
      · exact hcc v (List.mem_append.2 (.inl hv))
      · exact hcc v (List.mem_append.2 (.inr (List.mem_of_mem_take hv)))
      · exact T.cell hvs v hv
      · exact hcc v (List.mem_append.2 (.inr (List.mem_of_mem_drop hv)))
    · rw [List.getElem?_set] at hk
      by_cases hik : i = k
      · subst hik
        rw [if_pos rfl, if_pos hi] at hk
        cases hk
        have : ((over cs (i * T.size) vs).drop (i * T.size)).take T.size = vs := by
          unfold over
          rw [List.append_assoc, List.drop_append, List.drop_eq_nil_of_le (by rw [List.length_take]; exact Nat.min_le_left _ _), List.length_take, Nat.min_eq_left (by omega), Nat.sub_self, List.drop_zero, List.nil_append, ← hlen, List.take_left]
        rw [this]; exact hvs
      · rw [if_neg hik] at hk
        have h1 := hel k x hk
        have : ((over cs (i * T.size) vs).drop (k * T.size)).take T.size = (cs.drop (k * T.size)).take T.size := by
          apply List.ext_getElem?
          intro j
          rw [List.getElem?_take, List.getElem?_take]
          split
          · rename_i hj
            rw [List.getElem?_drop, List.getElem?_drop]
            unfold over
            have hne : k * T.size + j < i * T.size ∨ i * T.size + T.size ≤ k * T.size + j := by
              rcases Nat.lt_or_ge k i with hlt | hge
              · left
                have : (k + 1) * T.size ≤ i * T.size := Nat.mul_le_mul_right _ hlt
                rw [Nat.add_mul, Nat.one_mul] at this; omega
              · right
                have : (i + 1) * T.size ≤ k * T.size := Nat.mul_le_mul_right _ (by omega)
                rw [Nat.add_mul, Nat.one_mul] at this; omega
            rw [List.append_assoc, List.getElem?_append, List.length_take, Nat.min_eq_left (by omega)]
            rcases hne with hlt | hge
            · rw [if_pos hlt, List.getElem?_take, if_pos hlt]
            · rw [if_neg (by omega), List.getElem?_append, hlen, if_neg (by omega), List.getElem?_drop]
              congr 1; omega
          · rfl
        rw [this]; exact h1
end slices
end GV
end Go.Proofs.Ytplgbkaollfmkaa
