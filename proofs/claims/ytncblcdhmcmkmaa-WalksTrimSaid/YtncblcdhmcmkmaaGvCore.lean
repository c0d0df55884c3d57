/- The core of a small program logic over the fenced walk: a heap that is only read, owned fragments beside it, frames as functions. -/
import Derived.WalkKit
import Derived.RangeFuncLeaves
import Derived.RangeFuncCalls
import Derived.OrdersIn
namespace Go.Proofs.Ytncblcdhmcmkmaa
namespace GV
set_option linter.unusedVariables false

abbrev Frag := Nat → Option Obj

/-- What is known of memory and never written any more; the outside world. -/
def Unfr : Obj → Prop := fun _ => True
/-- (Of new blocks nothing is asked.) -/
def NF (lo : Nat) (w : World) : Prop := ∀ k o, lo ≤ k → w.heap[k]? = some o → Unfr o
structure RH where
  blk : Frag
  os : Os × Nat
  out : Array (Nat × ByteArray)

structure RH.le (a b : RH) : Prop where
  blk : ∀ k o, a.blk k = some o → b.blk k = some o
  os : b.os = a.os
  out : b.out = a.out

theorem RH.le.refl (a : RH) : RH.le a a := ⟨fun _ _ h => h, rfl, rfl⟩
theorem RH.le.trans {a b c : RH} (h : RH.le a b) (k : RH.le b c) : RH.le a c :=
  ⟨fun i o x => k.blk i o (h.blk i o x), k.os.trans h.os, k.out.trans h.out⟩

structure Holds (R : RH) (O : List Frag) (w : World) : Prop where
  ro : ∀ k o, R.blk k = some o → w.heap[k]? = some o
  own : ∀ f ∈ O, ∀ k o, f k = some o → w.heap[k]? = some o ∧ R.blk k = none
  sep : O.Pairwise fun f g => ∀ k, f k = none ∨ g k = none
  os : w.os = R.os.1 ∧ NF R.os.2 w
  out : w.output = R.out

def single (b : Nat) (o : Obj) : Frag := fun k => bif Nat.beq k b then some o else none
theorem single_same (b : Nat) (o : Obj) : single b o b = some o := by simp [single]
theorem single_some {b k : Nat} {o o' : Obj} (h : single b o k = some o') : k = b ∧ o' = o := by
  unfold single at h
  cases e : Nat.beq k b
  · rw [e] at h; cases h
  · rw [e] at h; simp at h; exact ⟨Nat.eq_of_beq_eq_true e, h.symm⟩
theorem single_other {b k : Nat} {o : Obj} (h : k ≠ b) : single b o k = none := by
  unfold single
  cases e : Nat.beq k b
  · rfl
  · exact absurd (Nat.eq_of_beq_eq_true e) h
def emp : Frag := fun _ => none

def upd (l : Nat → Value) (d : Nat) (v : Value) : Nat → Value := fun i => bif Nat.beq i d then v else l i
def ev (l : Nat → Value) : Operand → Value
  | .tmp t => l t
  | .const v => v
  | .global g => .pointer (some ⟨g, 0, none⟩)
  | .func f => .func (.func f) #[] #[]
def putD (l : Nat → Value) : Option Nat → Value → Nat → Value
  | some d, v => upd l d v
  | none, _ => l
theorem upd_self (l : Nat → Value) (d : Nat) : upd l d (l d) = l := by
  funext i
  unfold upd
  cases e : Nat.beq i d
  · rfl
  · rw [Nat.eq_of_beq_eq_true e]; rfl

structure Fr (n : Nat) (l : Nat → Value) (D : List Nat) (a : Act) : Prop where
  size : a.tmps.size = n
  get : ∀ i, a.tmps.getD i undef = l i
  defers : a.defers = D.map fun r => ({ target := .collected r, args := #[] } : Deferred)

theorem Fr.eval {n : Nat} {l : Nat → Value} {D : List Nat} {a : Act} (h : Fr n l D a) : a.eval = ev l := by
  funext x
  cases x with
  | tmp t => exact h.get t
  | const v => rfl
  | global g => rfl
  | func f => rfl
theorem Fr.put {n : Nat} {l : Nat → Value} {D : List Nat} {a : Act} (h : Fr n l D a) {d : Option Nat} (hd : ∀ t, d = some t → t < n) (v : Value) :
    Fr n (putD l d v) D (a.put d v) := by
  cases d with
  | none => exact h
  | some t =>
    have ht : t < a.tmps.size := h.size ▸ hd t rfl
    refine ⟨by simp [Act.put, h.size], fun i => ?_, h.defers⟩
    show (a.tmps.setIfInBounds t v).getD i undef = upd l t v i
    unfold upd
    cases e : Nat.beq i t
    · have hne : t ≠ i := fun he => by subst he; simp at e
      rw [show (bif false then v else l i) = l i from rfl, ← h.get i]
      simp only [Array.getD_eq_getD_getElem?, Array.getElem?_setIfInBounds]
      rw [if_neg hne]
    · have hi := Nat.eq_of_beq_eq_true e
      subst hi
      simp only [Array.getD_eq_getD_getElem?, Array.getElem?_setIfInBounds]
      simp [ht]

def dfrag (r : Nat) : Frag := single r (.deferred (some []))

abbrev Po := Exit → (Nat → Value) → List Nat → RH → List Frag → Prop

def wide (ρ : Option Nat) : Fence := { Fence.wide with round := ρ }
theorem wide_room (ρ : Option Nat) (k : Nat) : (wide ρ).room k := fun d hd => by cases hd
def lift (n : Nat) (Q : Po) : Exit → Act → World → Prop := fun e a w =>
  ∃ l D R O, Fr n l D a ∧ Holds R (O ++ D.map dfrag) w ∧ Q e l D R O

/-- The code, from this frame and this memory, ends as Q says. -/
def wg (P : Program) (ρ : Option Nat) (n : Nat) (c : Code) (Q : Po) (l : Nat → Value) (D : List Nat) (R : RH) (O : List Frag) : Prop :=
  ∀ a w, Fr n l D a → Holds R (O ++ D.map dfrag) w → c.wpIn (wide ρ) 0 P (lift n Q) a w

def thn (K : (Nat → Value) → List Nat → RH → List Frag → Prop) (Q : Po) : Po
  | .normal, l, D, R, O => K l D R O
  | e, l, D, R, O => Q e l D R O

section rules
variable {P : Program} {ρ : Option Nat} {n : Nat} {Q : Po} {l : Nat → Value} {D : List Nat} {R : RH} {O : List Frag}

theorem wg_mono {c : Code} {Q' : Po} (h : wg P ρ n c Q l D R O) (hq : ∀ e l D R O, Q e l D R O → Q' e l D R O) : wg P ρ n c Q' l D R O :=
  fun a w hf hh => wpIn_mono (h a w hf hh) fun _ _ _ ⟨l', D', R', O', x, y, z⟩ => ⟨l', D', R', O', x, y, hq _ _ _ _ _ z⟩
theorem wg_skip (h : Q .normal l D R O) : wg P ρ n .skip Q l D R O := fun _ _ hf hh => wpIn_skip ⟨l, D, R, O, hf, hh, h⟩
theorem wg_exit {id : Nat} (h : Q (.exit id) l D R O) : wg P ρ n (.exit id) Q l D R O := fun _ _ hf hh => wpIn_exit ⟨l, D, R, O, hf, hh, h⟩
theorem wg_ret (h : Q .ret l D R O) : wg P ρ n .ret Q l D R O := fun _ _ hf hh => wpIn_ret ⟨l, D, R, O, hf, hh, h⟩
theorem wg_seq {x y : Code} (h : wg P ρ n x (thn (wg P ρ n y Q) Q) l D R O) : wg P ρ n (.seq x y) Q l D R O :=
  fun a w hf hh => wpIn_seq (wpIn_mono (h a w hf hh) fun e a' w' ⟨l', D', R', O', x, y, z⟩ => by
    cases e with
    | normal => exact z a' w' x y
    | _ => exact ⟨l', D', R', O', x, y, z⟩)
theorem wg_cond {c : Operand} {x y : Code} {t : Bool} (hc : ev l c = .bool t) (ht : t = true → wg P ρ n x Q l D R O) (hf : t = false → wg P ρ n y Q l D R O) :
    wg P ρ n (.cond c x y) Q l D R O := by
  intro a w hfr hh
  have hc' : a.eval c = .bool t := by rw [hfr.eval]; exact hc
  exact wpIn_cond_split hc' (fun e => ht e a w hfr hh) (fun e => hf e a w hfr hh)
def inBlk (id : Nat) (Q : Po) : Po
  | .exit id', l, D, R, O => bif Nat.beq id' id then Q .normal l D R O else Q (.exit id') l D R O
  | e, l, D, R, O => Q e l D R O
theorem wg_block {id : Nat} {c : Code} (h : wg P ρ n c (inBlk id Q) l D R O) : wg P ρ n (.block id c) Q l D R O :=
  fun a w hf hh => wpIn_block (wpIn_mono (h a w hf hh) fun e a' w' ⟨l', D', R', O', x, y, z⟩ => by
    cases e with
    | exit id' =>
      simp only [Exit.inBlock]
      simp only [inBlk] at z
      split
      · rename_i hid; subst hid; rw [Nat.beq_refl] at z; exact ⟨l', D', R', O', x, y, z⟩
      · rename_i hid
        have : Nat.beq id' id = false := by
          cases hb : Nat.beq id' id
          · rfl
          · exact absurd (Nat.eq_of_beq_eq_true hb) hid
        rw [this] at z; exact ⟨l', D', R', O', x, y, z⟩
    | _ => exact ⟨l', D', R', O', x, y, z⟩)
/-- A loop: I holds at each head, with a number that falls. -/
theorem wg_loop {c : Code} (I : Nat → (Nat → Value) → List Nat → RH → List Frag → Prop) (k0 : Nat) (h0 : I k0 l D R O)
    (round : ∀ k l D R O, I k l D R O → wg P ρ n c (thn (fun l' D' R' O' => ∃ k' < k, I k' l' D' R' O') Q) l D R O) : wg P ρ n (.loop c) Q l D R O := by
  intro a w hf hh
  intro b kk cs hro hb hr
  have key : ∀ (k : Nat) (a : Act) (w : World), (∃ l D R O, Fr n l D a ∧ Holds R (O ++ D.map dfrag) w ∧ I k l D R O) →
      ∃ e a' w', lift n Q e a' w' ∧ ArrivesIn (Machine.fenced P (wide ρ)) P (lone (b.atR a (.code c :: .inLoop c :: kk)) cs w) b kk cs e a' w' := by
    intro k
    induction k using Nat.strongRecOn with
    | _ k ih =>
      intro a w ⟨l, D, R, O, hf, hh, hI⟩
      obtain ⟨e, a₁, w₁, hq, harr⟩ := round k l D R O hI a w hf hh b (.inLoop c :: kk) cs hro hb hr
      obtain ⟨l1, D1, R1, O1, hf1, hh1, hq1⟩ := hq
      cases e with
      | normal =>
        obtain ⟨k', hlt, hI'⟩ := hq1
        obtain ⟨e₂, a₂, w₂, hq₂, harr₂⟩ := ih k' hlt a₁ w₁ ⟨l1, D1, R1, O1, hf1, hh1, hI'⟩
        refine ⟨e₂, a₂, w₂, hq₂, ?_⟩
        have h1 : StepsIn (Machine.fenced P (wide ρ)) P (lone (b.atR a (.code c :: .inLoop c :: kk)) cs w) (lone (b.atR a₁ (.inLoop c :: kk)) cs w₁) := harr
        exact .of_steps (StepsIn.trans h1 (.one (fenced_calm hb hr rfl) stepR_inLoop)) harr₂
      | exit id => exact ⟨_, a₁, w₁, ⟨l1, D1, R1, O1, hf1, hh1, hq1⟩, .pass (x := .inLoop c) rfl (fun _ _ => .inl (by simp)) harr⟩
      | goto l => exact ⟨_, a₁, w₁, ⟨l1, D1, R1, O1, hf1, hh1, hq1⟩, .pass (x := .inLoop c) rfl (fun _ _ => .inl (by simp)) harr⟩
      | ret => exact ⟨_, a₁, w₁, ⟨l1, D1, R1, O1, hf1, hh1, hq1⟩, .pass (x := .inLoop c) rfl (fun _ _ => .inl (by simp)) harr⟩
      | panic ch => exact ⟨_, a₁, w₁, ⟨l1, D1, R1, O1, hf1, hh1, hq1⟩, .pass (x := .inLoop c) rfl (fun _ _ => .inl (by simp)) harr⟩
      | outgrown => exact ⟨_, a₁, w₁, ⟨l1, D1, R1, O1, hf1, hh1, hq1⟩, .pass (x := .inLoop c) rfl (fun _ _ => .inl (by simp)) harr⟩
  obtain ⟨e, a', w', hq, harr⟩ := key k0 a w ⟨l, D, R, O, hf, hh, h0⟩
  exact ⟨e, a', w', hq, .of_steps (.one (fenced_calm hb hr rfl) stepR_loop) harr⟩
end rules

/-! ### Operations -/
/-- What an operation's run leads to. -/
def Out (P : Program) (K : Value → World → Prop) : Result Next → Prop
  | .ok (.value v) w => K v w
  | .ok .skip w => K undef w
  | .ok (.enter f args) w => Calls P f args w fun e w' => ∃ v, e = .returned v ∧ K v w'
  | .ok (.round l f tmps as b) w => RoundIn Fence.wide 0 P l f tmps as b w fun e w' => ∃ v, e = .returned v ∧ K v w'
  | _ => False

/-- An operation's effect: whatever else is owned (A) stays. -/
def Eff (P : Program) (ρ : Option Nat) (o : Oper) (l : Nat → Value) (R : RH) (O : List Frag) (φ : Value → RH → List Frag → Prop) : Prop :=
  ∀ A w, Holds R (O ++ A) w → Out P (fun v w' => ∃ R' O', R.le R' ∧ Holds R' (O' ++ A) w' ∧ φ v R' O') ((o.semAt ρ (ev l)).run P w)

/-- An operation that only computes, or reads: its value. -/
def Val (P : Program) (ρ : Option Nat) (o : Oper) (l : Nat → Value) (R : RH) (O : List Frag) (v : Value) : Prop :=
  ∀ A w, Holds R (O ++ A) w → (o.semAt ρ (ev l)).run P w = .ok (.value v) w

theorem Eff.mono {P : Program} {ρ : Option Nat} {o : Oper} {l : Nat → Value} {R : RH} {O : List Frag} {φ ψ : Value → RH → List Frag → Prop}
    (h : Eff P ρ o l R O φ) (hp : ∀ v R' O', R.le R' → φ v R' O' → ψ v R' O') : Eff P ρ o l R O ψ := by
  intro A w hh
  have := h A w hh
  generalize (o.semAt ρ (ev l)).run P w = r at *
  cases r with
  | halt x y => exact this
  | ok nx w1 =>
    cases nx with
    | value v => obtain ⟨R', O', a, b, c⟩ := this; exact ⟨R', O', a, b, hp _ _ _ a c⟩
    | skip => obtain ⟨R', O', a, b, c⟩ := this; exact ⟨R', O', a, b, hp _ _ _ a c⟩
    | enter f args => exact Calls.mono this fun e w' ⟨v, he, R', O', a, b, c⟩ => ⟨v, he, R', O', a, b, hp _ _ _ a c⟩
    | round l f tmps as b => exact RoundIn.mono this fun e w' ⟨v, he, R', O', a, b, c⟩ => ⟨v, he, R', O', a, b, hp _ _ _ a c⟩
    | _ => exact this
theorem Val.eff {P : Program} {ρ : Option Nat} {o : Oper} {l : Nat → Value} {R : RH} {O : List Frag} {v : Value} (h : Val P ρ o l R O v) :
    Eff P ρ o l R O (fun v' R' O' => v' = v ∧ R' = R ∧ O' = O) := by
  intro A w hh
  rw [h A w hh]
  exact ⟨R, O, RH.le.refl _, hh, rfl, rfl, rfl⟩

/-- The operations that are left of a region, in the text's order. -/
def wlo (F : Fence) (n : Nat) (P : Program) (ops : Array Oper) (Q : Exit → Act → World → Prop) : List Oper → Act → World → Prop
  | [], a, w => Q .normal a w
  | o :: rest, a, w => if Region.wanted o (yielded ops a.tmps) then o.wpIn F n P a w (wlo F n P ops Q rest) Q
      else (∀ f, o.about P w a.eval = some f → F.fn f) ∧ wlo F n P ops Q rest (a.put o.dst undef) w

theorem wpOpsIn_of_wlo {F : Fence} {n : Nat} {P : Program} {ops : Array Oper} {Q : Exit → Act → World → Prop} :
    ∀ (rest : List Oper) (k : Nat), (∀ j, rest[j]? = ops[k + j]?) → ∀ (a : Act) (w : World), wlo F n P ops Q rest a w → wpOpsIn F n P ops Q (List.range' k rest.length) a w
  | [], k, _, a, w, h => h
  | o :: rest, k, hk, a, w, h => by
    have h0 : ops[k]? = some o := by have := hk 0; simpa using this.symm
    have hrest : ∀ j, rest[j]? = ops[(k + 1) + j]? := fun j => by have := hk (j + 1); rw [show k + (j + 1) = k + 1 + j from by omega] at this; simpa using this
    simp only [List.length_cons, List.range'_succ, wpOpsIn, h0]
    simp only [wlo] at h
    split
    · rename_i hw
      rw [if_pos hw] at h
      exact Oper.wpIn_mono (fun a w => wpOpsIn_of_wlo rest (k + 1) hrest a w) h
    · rename_i hw
      rw [if_neg hw] at h
      exact ⟨h.1, wpOpsIn_of_wlo rest (k + 1) hrest _ _ h.2⟩

def wo (P : Program) (ρ : Option Nat) (n : Nat) (ops : Array Oper) (Q : Po) (os : List Oper) (l : Nat → Value) (D : List Nat) (R : RH) (O : List Frag) : Prop :=
  ∀ a w, Fr n l D a → Holds R (O ++ D.map dfrag) w → wlo (wide ρ) 0 P ops (lift n Q) os a w

section ops
variable {P : Program} {ρ : Option Nat} {n : Nat} {Q : Po} {l : Nat → Value} {D : List Nat} {R : RH} {O : List Frag} {ops : Array Oper} {rest : List Oper}

theorem wg_region {id : Nat} {os : List Oper} (h : wo P ρ n os.toArray Q os l D R O) : wg P ρ n (.region id os.toArray false) Q l D R O := by
  intro a w hf hh
  refine wpIn_region ?_
  have := wpOpsIn_of_wlo os 0 (fun j => by simp) a w (h a w hf hh)
  simpa [List.range_eq_range'] using this

theorem wo_nil (h : Q .normal l D R O) : wo P ρ n ops Q [] l D R O := fun _ _ hf hh => ⟨l, D, R, O, hf, hh, h⟩

theorem Calls.callsIn {f : FuncId} {args : Array Value} {w : World} {K : Ending → World → Prop} {m : Nat} (ρ : Option Nat) (h : Calls P f args w K) : CallsIn (wide ρ) m P f args w K :=
  (callsIn_wide.2 h : CallsIn Fence.wide m P f args w K)
theorem RoundIn.wide {m : Nat} {l : Nat} {f : FuncId} {tmps : Array Value} {as b : Code} {w : World} {K : Ending → World → Prop} (ρ : Option Nat) (h : RoundIn Fence.wide 0 P l f tmps as b w K) :
    RoundIn (wide ρ) m P l f tmps as b w K :=
  ⟨trivial, fun c cs _ => h.2 c cs (wide_room none _)⟩

theorem wpIn_of_eff {o : Oper} {φ : Value → RH → List Frag → Prop} {K : Act → World → Prop} {Q' : Exit → Act → World → Prop} {a : Act} {w : World} {A : List Frag}
    (hf : Fr n l D a) (hh : Holds R (O ++ A) w) (h : Eff P ρ o l R O φ)
    (hk : ∀ v R' O' w', R.le R' → Holds R' (O' ++ A) w' → φ v R' O' → K (a.put o.dst v) w') : o.wpIn (wide ρ) 0 P a w K Q' := by
  refine ⟨fun _ _ => trivial, ?_⟩
  have := h A w hh
  rw [hf.eval]
  show Oper.uponIn (wide ρ) 0 P o a K Q' ((o.semAt ρ (ev l)).run P w)
  generalize (o.semAt ρ (ev l)).run P w = r at *
  cases r with
  | halt x y => exact this.elim
  | ok nx w1 =>
    cases nx with
    | value v => obtain ⟨R', O', a, b, c⟩ := this; exact hk v R' O' w1 a b c
    | skip => obtain ⟨R', O', a, b, c⟩ := this; exact hk undef R' O' w1 a b c
    | enter f args =>
      refine ⟨fun h => (by cases h), Calls.callsIn ρ (Calls.mono this ?_)⟩
      rintro e w' ⟨v, rfl, R', O', a, b, c⟩
      exact hk v R' O' w' a b c
    | round l f tmps as b =>
      refine ⟨fun h => (by cases h), RoundIn.wide ρ (RoundIn.mono this ?_)⟩
      rintro e w' ⟨v, rfl, R', O', a, b, c⟩
      exact hk v R' O' w' a b c
    | _ => exact this.elim

theorem wanted_none {o : Oper} {y : Nat → Option Bool} (h : o.guard = none) : Region.wanted o y = true := by simp [Region.wanted, h]

theorem wo_eff {o : Oper} {φ : Value → RH → List Frag → Prop} (hg : o.guard = none) (hd : ∀ t, o.dst = some t → t < n) (h : Eff P ρ o l R O φ)
    (hk : ∀ v R' O', R.le R' → φ v R' O' → wo P ρ n ops Q rest (putD l o.dst v) D R' O') : wo P ρ n ops Q (o :: rest) l D R O := by
  intro a w hf hh
  simp only [wlo, wanted_none hg, if_true]
  exact wpIn_of_eff hf hh h fun v R' O' w' hle hh' hp => hk v R' O' hle hp _ _ (hf.put hd v) hh'

/-- An operation that has a slot and a value. -/
theorem wo_val {o : Oper} {d : Nat} {v : Value} (hg : o.guard = none) (hdst : o.dst = some d) (hd : Nat.blt d n = true) (h : Val P ρ o l R O v)
    (hk : wo P ρ n ops Q rest (upd l d v) D R O) : wo P ρ n ops Q (o :: rest) l D R O := by
  refine wo_eff hg (fun t ht => ?_) h.eff ?_
  · rw [hdst] at ht; cases ht; simpa using hd
  · rintro _ _ _ _ ⟨rfl, rfl, rfl⟩
    rw [hdst]; exact hk

def guardSlot (ops : Array Oper) (j : Nat) : Option Nat := (ops[j]?).bind (·.dst)

theorem yielded_eq {a : Act} {j s : Nat} {b : Bool} (hf : Fr n l D a) (hs : guardSlot ops j = some s) (hsn : s < n) (hv : l s = .bool b) : yielded ops a.tmps j = some b := by
  unfold yielded
  unfold guardSlot at hs
  rw [hs]
  have hg := hf.get s
  rw [hv, Array.getD_eq_getD_getElem?] at hg
  simp only [Option.bind_some]
  cases h : a.tmps[s]? with
  | none =>
    have := hf.size
    rw [Array.getElem?_eq_none_iff] at h
    omega
  | some u => rw [h] at hg; simp at hg; rw [hg]

end ops

/-! ### Contracts -/
/-- A call that makes at most new memory. -/
def CallP (P : Program) (f : FuncId) (args : Array Value) (R : RH) (post : Value → RH → Prop) : Prop :=
  ∀ A w, Holds R A w → Calls P f args w fun e w' => ∃ v, e = .returned v ∧ ∃ R', R.le R' ∧ Holds R' A w' ∧ post v R'
/-- A call that may also turn what it owns. -/
def CallG (P : Program) (f : FuncId) (args : Array Value) (R : RH) (O : List Frag) (post : Value → RH → List Frag → Prop) : Prop :=
  ∀ A w, Holds R (O ++ A) w → Calls P f args w fun e w' => ∃ v, e = .returned v ∧ ∃ R' O', R.le R' ∧ Holds R' (O' ++ A) w' ∧ post v R' O'

theorem CallP.mono {P : Program} {f : FuncId} {args : Array Value} {R : RH} {post post' : Value → RH → Prop} (h : CallP P f args R post) (hp : ∀ v R', R.le R' → post v R' → post' v R') : CallP P f args R post' :=
  fun A w hh => Calls.mono (h A w hh) fun _ _ ⟨v, he, R', a, b, c⟩ => ⟨v, he, R', a, b, hp v R' a c⟩
theorem CallG.mono {P : Program} {f : FuncId} {args : Array Value} {R : RH} {O : List Frag} {post post' : Value → RH → List Frag → Prop} (h : CallG P f args R O post)
    (hp : ∀ v R' O', R.le R' → post v R' O' → post' v R' O') : CallG P f args R O post' :=
  fun A w hh => Calls.mono (h A w hh) fun _ _ ⟨v, he, R', O', a, b, c⟩ => ⟨v, he, R', O', a, b, hp v R' O' a c⟩
theorem CallP.toG {P : Program} {f : FuncId} {args : Array Value} {R : RH} {O : List Frag} {post : Value → RH → Prop} (h : CallP P f args R post) : CallG P f args R O (fun v R' O' => O' = O ∧ post v R') :=
  fun A w hh => Calls.mono (h (O ++ A) w hh) fun _ _ ⟨v, he, R', a, b, c⟩ => ⟨v, he, R', O, a, b, rfl, c⟩
theorem CallG.toP {P : Program} {f : FuncId} {args : Array Value} {R : RH} {post : Value → RH → Prop} (h : CallG P f args R [] (fun v R' O' => O' = [] ∧ post v R')) : CallP P f args R post :=
  fun A w hh => Calls.mono (h A w hh) fun _ _ ⟨v, he, R', O', a, b, c, d⟩ => ⟨v, he, R', a, by subst c; exact b, d⟩

theorem holds_perm {R : RH} {O O' : List Frag} {w : World} (h : Holds R O w) (hp : O.Perm O') : Holds R O' w :=
  ⟨h.ro, fun f hf => h.own f (hp.mem_iff.2 hf), (hp.pairwise_iff (fun {x y} hxy k => (hxy k).symm)).1 h.sep, h.os, h.out⟩

theorem putObj_heap_same {w : World} {r : Nat} {o o' : Obj} (h : w.heap[r]? = some o) : (w.putObj r o').heap[r]? = some o' := by
  have hlt : r < w.heap.size := (Array.getElem?_eq_some_iff.1 h).1
  simp only [World.putObj]
  rw [Array.getElem?_setIfInBounds]
  simp [hlt]
theorem holds_turn {R : RH} {O : List Frag} {w w' : World} {r : Nat} {o o' : Obj} (h : Holds R (single r o :: O) w) (hs : w'.heap[r]? = some o')
    (hk : ∀ k, k ≠ r → w'.heap[k]? = w.heap[k]?) (hos : w'.os = w.os) (hout : w'.output = w.output) (ho : Unfr o' := by first | exact rfl | exact trivial) : Holds R (single r o' :: O) w' := by
  have h0 := h.own (single r o) (List.mem_cons_self ..) r o (single_same r o)
  refine ⟨fun k ob hb => ?_, fun f hf k ob hb => ?_, ?_, ⟨hos.trans h.os.1, fun k ob hk' hb => ?_⟩, hout.trans h.out⟩
  · have hne : k ≠ r := fun e => by subst e; rw [h0.2] at hb; cases hb
    rw [hk k hne]; exact h.ro k ob hb
  · rcases List.mem_cons.1 hf with rfl | hf'
    · obtain ⟨rfl, rfl⟩ := single_some hb
      exact ⟨hs, h0.2⟩
    · have h1 := h.own f (List.mem_cons_of_mem _ hf') k ob hb
      have hne : k ≠ r := by
        intro e
        subst e
        rcases (List.pairwise_cons.1 h.sep).1 f hf' k with h2 | h2
        · rw [single_same] at h2; cases h2
        · rw [h2] at hb; cases hb
      exact ⟨(hk k hne).trans h1.1, h1.2⟩
  · refine List.pairwise_cons.2 ⟨fun f hf k => ?_, (List.pairwise_cons.1 h.sep).2⟩
    rcases (List.pairwise_cons.1 h.sep).1 f hf k with h2 | h2
    · left
      by_cases e : k = r
      · subst e; rw [single_same] at h2; cases h2
      · exact single_other e
    · exact .inr h2
  · by_cases e : k = r
    · subst e; rw [hs] at hb; exact Option.some.inj hb ▸ ho
    · rw [hk k e] at hb; exact h.os.2 k ob hk' hb
theorem holds_drop {R : RH} {f : Frag} {O : List Frag} {w : World} (h : Holds R (f :: O) w) : Holds R O w :=
  ⟨h.ro, fun g hg => h.own g (List.mem_cons_of_mem _ hg), (List.pairwise_cons.1 h.sep).2, h.os, h.out⟩

/-- The frame with which a function begins: its arguments, then nothing. -/
def args0 (args : List Value) : Nat → Value := fun i => args.getD i undef

theorem leaves_marks {P : Program} {fn : Func} {tmps : Array Value} {K : Ending → World → Prop} {R : RH} {O : List Frag}
    (hres : ∀ w, Holds R O w → ∃ v, (results fn tmps).run P w = .ok v w ∧ K (.returned v) w) :
    ∀ (D : List Nat) (w : World), Holds R (D.map dfrag ++ O) w →
      LeavesInM Fence.wide 0 P fn tmps K (D.map fun r => ({ target := .collected r, args := #[] } : Deferred)) .returning w
  | [], w, hh => hres w hh
  | r :: D, w, hh => by
    refine ⟨by simp, .inl ⟨r, _, rfl, run_takeDeferred ((hh.own (dfrag r) (List.mem_cons_self ..) r _ (single_same r _)).1), ?_⟩⟩
    refine leaves_marks hres D _ (holds_drop (f := single r (.deferred none)) (holds_turn hh (putObj_heap_same ((hh.own (dfrag r) (List.mem_cons_self ..) r _ (single_same r _)).1)) (fun k hk => ?_) rfl rfl))
    simp only [World.putObj]
    rw [Array.getElem?_setIfInBounds, if_neg (fun e => hk e.symm)]

/-- What a function's body must come to: its results, read off the frame (and memory). -/
def bodyQ (P : Program) (fn : Func) (R0 : RH) (A : List Frag) (post : Value → RH → List Frag → Prop) : Po
  | .normal, l, _, R, O | .ret, l, _, R, O => ∃ v R' O', R0.le R' ∧ (∀ w, Holds R O w → Holds R' (O' ++ A) w) ∧ post v R' O' ∧
      ∀ (tmps : Array Value), (∀ i, tmps.getD i undef = l i) → ∀ w, Holds R O w → (results fn tmps).run P w = .ok v w
  | _, _, _, _, _ => False

theorem callG_of_wg {P : Program} {f : FuncId} {fn : Func} {c : Code} {args : List Value} {R : RH} {O : List Frag} {post : Value → RH → List Frag → Prop}
    (hf : P.funcs[f]? = some fn) (hb : fn.body = some c) (hn : Nat.ble args.length fn.ntmps = true)
    (h : ∀ A, wg P none fn.ntmps c (bodyQ P fn R A post) (args0 args) [] R (O ++ A)) : CallG P f args.toArray R O post := by
  have hn' : args.length ≤ fn.ntmps := by simpa using hn
  intro A w hh
  refine (callsIn_wide (n := 0)).1 (callsIn_of_wp_marks (F := Fence.wide) hf hb trivial ?_)
  have hfr : Fr fn.ntmps (args0 args) [] { tmps := args.toArray ++ Array.replicate (fn.ntmps - args.toArray.size) undef, defers := [] } := by
    refine ⟨by simp; omega, fun i => ?_, rfl⟩
    simp only [args0, Array.getD_eq_getD_getElem?, List.getD_eq_getElem?_getD, Array.getElem?_append, List.size_toArray, List.getElem?_toArray]
    split
    · rfl
    · rename_i hi
      rw [List.getElem?_eq_none (by omega)]
      simp only [Array.getElem?_replicate]
      split <;> rfl
  have hend : ∀ (l : Nat → Value) (D : List Nat) (R1 : RH) (O1 : List Frag) (a' : Act) (w' : World), Fr fn.ntmps l D a' → Holds R1 (O1 ++ D.map dfrag) w' → bodyQ P fn R A post .ret l D R1 O1 →
      LeavesInM Fence.wide 0 P fn a'.tmps (fun e w' => ∃ v, e = .returned v ∧ ∃ R' O', R.le R' ∧ Holds R' (O' ++ A) w' ∧ post v R' O') a'.defers .returning w' := by
    rintro l D R1 O1 a' w' hf1 hh1 ⟨v, R', O', hle, hmv, hp, hres⟩
    rw [hf1.defers]
    refine leaves_marks (R := R1) (O := O1) (fun w2 h2 => ⟨v, hres _ hf1.get w2 h2, v, rfl, R', O', hle, hmv w2 h2, hp⟩) D w' (holds_perm hh1 List.perm_append_comm)
  refine wpIn_mono (h A _ w hfr (by simpa using hh)) ?_
  rintro e a' w' ⟨l, D, R1, O1, hf1, hh1, hq⟩
  cases e with
  | normal => exact hend l D R1 O1 a' w' hf1 hh1 hq
  | ret => exact hend l D R1 O1 a' w' hf1 hh1 hq
  | exit _ => exact hq.elim
  | goto _ => exact hq.elim
  | panic _ => exact hq.elim
  | outgrown => exact hq.elim

/-- The same for a call that makes at most new memory. -/
theorem callP_of_wg {P : Program} {f : FuncId} {fn : Func} {c : Code} {args : List Value} {R : RH} {post : Value → RH → Prop}
    (hf : P.funcs[f]? = some fn) (hb : fn.body = some c) (hn : Nat.ble args.length fn.ntmps = true)
    (h : ∀ A, wg P none fn.ntmps c (bodyQ P fn R A (fun v R' O' => O' = [] ∧ post v R')) (args0 args) [] R A) : CallP P f args.toArray R post :=
  (callG_of_wg (O := []) hf hb hn h).toP
end GV
end Go.Proofs.Ytncblcdhmcmkmaa
