/- Laws for printed walks that follow a plain program step by step. -/
import Derived.Test.YtncblcdhmcmkmaaGvNest
namespace Go.Proofs.Ytncblcdhmcmkmaa
namespace GV
set_option linter.unusedVariables false
set_option linter.unusedSectionVars false

/-! ### The plain programs' own words -/
/-- Goes on where c holds. -/
def gd {α : Type} (c : Prop) [Decidable c] (k : Option α) : Option α := if c then k else none
def bd {α β : Type} (x : Option α) (k : α → Option β) : Option β := x.bind k
inductive Ex (α β : Type) where
  | go (a : α) : Ex α β
  | rt (b : β) : Ex α β
def Ex.on {α β γ : Type} (x : Ex α β) (f : α → Option γ) (g : β → Option γ) : Option γ :=
  match x with
  | .go a => f a
  | .rt b => g b
abbrev in64 (x : Int) : Prop := -9223372036854775808 ≤ x ∧ x ≤ 9223372036854775807
abbrev okI {α : Type} (X : List α) (i : Int) : Prop := 0 ≤ i ∧ i < (X.length : Int)
def ix {α : Type} [Inhabited α] (X : List α) (i : Int) : α := X.getD i.toNat default
def up {α : Type} (X : List α) (i : Int) (y : α) : List α := X.set i.toNat y
abbrev fits {α β : Type} (b : Nat) (X : List α) (Y : List β) : Prop := (X.length + Y.length) * b ≤ 140737488355328 ∧ X.length + Y.length ≤ 9223372036854775807
/-- X[lo:hi]. -/
def cut {α : Type} (X : List α) (lo hi : Int) : List α := (X.drop lo.toNat).take (hi.toNat - lo.toNat)
abbrev okS {α : Type} (X : List α) (lo hi : Int) : Prop := 0 ≤ lo ∧ lo ≤ hi ∧ hi ≤ (X.length : Int)
/-- What a guarded operation comes to. -/
def gop {α : Type} (b : Bool) (x : Option α) : Option (Option α) := bif b then x.map some else some none
def mk {α : Type} (n : Int) (z : α) : List α := List.replicate n.toNat z
abbrev okM (b : Nat) (n : Int) : Prop := 0 ≤ n ∧ (b : Int) * n ≤ 281474976710656 ∧ n ≤ 9223372036854775807

theorem gd_some {α : Type} {c : Prop} [Decidable c] {k : Option α} {r : α} (h : gd c k = some r) : c ∧ k = some r := by
  unfold gd at h
  by_cases hc : c
  · rw [if_pos hc] at h; exact ⟨hc, h⟩
  · rw [if_neg hc] at h; cases h
theorem gd_pos {α : Type} {c : Prop} [Decidable c] {k : Option α} (h : c) : gd c k = k := if_pos h
theorem bd_some {α β : Type} {x : Option α} {k : α → Option β} {r : β} (h : bd x k = some r) : ∃ y, x = some y ∧ k y = some r := by
  unfold bd at h
  cases x with
  | none => cases h
  | some y => exact ⟨y, rfl, h⟩
theorem sel_t {α : Type} {b : Bool} {x y : Option α} {r : α} (e : b = true) (h : cond b x y = some r) : x = some r := by subst e; exact h
theorem sel_f {α : Type} {b : Bool} {x y : Option α} {r : α} (e : b = false) (h : cond b x y = some r) : y = some r := by subst e; exact h
theorem on_go {α β γ : Type} {a : α} {f : α → Option γ} {g : β → Option γ} {r : γ} (h : Ex.on (.go a) f g = some r) : f a = some r := h
theorem on_rt {α β γ : Type} {o : Ex α β} {b : β} {f : α → Option γ} {g : β → Option γ} {r : γ} (c : some (Ex.rt b) = some o) (h : Ex.on o f g = some r) : g b = some r := by
  obtain rfl := Option.some.inj c; exact h
theorem none_elim {α : Type} {r : α} {p : Prop} (h : none = some r) : p := by cases h
theorem gop_some {α : Type} {b : Bool} {x : Option α} {y : Option α} (h : gop b x = some y) : (b = true → ∃ z, x = some z ∧ y = some z) ∧ (b = false → y = none) := by
  unfold gop at h
  cases b
  · exact ⟨fun e => by (cases e), fun _ => (Option.some.inj h).symm⟩
  · refine ⟨fun _ => ?_, fun e => by (cases e)⟩
    cases x with
    | none => cases h
    | some z => exact ⟨z, rfl, (Option.some.inj h).symm⟩
theorem okI_lt {α : Type} {X : List α} {i : Int} (h : okI X i) : i.toNat < X.length := by have := h.1; have := h.2; omega
theorem okM_b {b : Nat} {n : Int} (h : okM b n) : b * n.toNat ≤ 281474976710656 := by
  obtain ⟨h1, h2, _⟩ := h
  have e : ((b * n.toNat : Nat) : Int) = (b : Int) * n := by rw [Int.natCast_mul, Int.toNat_of_nonneg h1]
  omega
theorem okM_n {b : Nat} {n : Int} (h : okM b n) : n.toNat ≤ 9223372036854775807 := by have := h.1; have := h.2.2; omega

/-! ### Slices, with or without room -/
def tSl {α : Type} (t : Bool) (T : Ty α) : Ty (List α) where
  size := 1
  agg := false
  rep R cs X := (tSlice T).rep R cs X ∧ (t = true → ∃ p, cs = [.slice p X.length X.length])
  len h := (tSlice T).len h.1
  mono hle h := ⟨(tSlice T).mono hle h.1, h.2⟩
  one _ := rfl
  cell h := (tSlice T).cell h.1
section sl
variable {α : Type} {T : Ty α} {t : Bool} {R : RH} {v : Value} {X : List α}
theorem sl_s (h : VRep (tSl t T) R v X) : VRep (tSlice T) R v X := let ⟨cs, a, b⟩ := h; ⟨cs, a.1, b⟩
theorem sl_c (h : VRep (tSl true T) R v X) : capOf v = X.length := by
  obtain ⟨cs, ⟨_, h⟩, rfl⟩ := h
  obtain ⟨p, rfl⟩ := h rfl
  rfl
theorem sl_f (h : VRep (tSlice T) R v X) : VRep (tSl false T) R v X := let ⟨cs, a, b⟩ := h; ⟨cs, ⟨a, fun e => by (cases e)⟩, b⟩
theorem sl_t (h : VRep (tSlice T) R v X) (hc : capOf v = X.length) : VRep (tSl t T) R v X := by
  obtain ⟨p, n, rfl, hn, hp, hs⟩ := vrep_slice.1 h
  simp only [capOf] at hc
  subst hc
  exact ⟨_, ⟨⟨p, _, rfl, hn, hp, hs⟩, fun _ => ⟨p, rfl⟩⟩, rfl⟩
theorem sl_nil : VRep (tSl t T) R (.slice none 0 0) [] := sl_t vrep_nil rfl
end sl
theorem rep_one {α : Type} {T : Ty α} {R : RH} {v : Value} {x : α} (ha : T.agg = false) (h : VRep T R v x) : T.rep R [v] x := by
  obtain ⟨cs, hr, rfl⟩ := h
  have h1 := T.one ha
  have h2 := T.len hr
  rw [h1] at h2
  match cs, h2 with
  | [c], _ => simpa [Ty.mk', ha] using hr
theorem one_rep {α : Type} {T : Ty α} {R : RH} {cs : List Value} {x : α} (ha : T.agg = false) (h : T.rep R cs x) : ∃ u, cs = [u] ∧ VRep T R u x := by
  have h1 := T.one ha
  have h2 := T.len h
  rw [h1] at h2
  match cs, h2 with
  | [c], _ => exact ⟨c, rfl, [c], h, by simp [Ty.mk', ha]⟩
theorem sl_cells {α : Type} {T : Ty α} {t : Bool} {R : RH} {v : Value} {X : List α} (h : VRep (tSl t T) R v X) : v.cells = ([v] : List Value).toArray := vrep_cells (sl_s h)
theorem sl_one {α : Type} {T : Ty α} {t : Bool} {R : RH} {v : Value} {X : List α} (h : VRep (tSl t T) R v X) : v.oneCell' = true := vrep_one (sl_s h)

/-- What reads in one way reads in the other, too. -/
def Sub {α : Type} (A B : Ty α) : Prop := A.agg = B.agg ∧ A.size = B.size ∧ ∀ R cs x, A.rep R cs x → B.rep R cs x
theorem Sub.refl {α : Type} {A : Ty α} : Sub A A := ⟨rfl, rfl, fun _ _ _ h => h⟩
theorem Sub.v {α : Type} {A B : Ty α} {R : RH} {v : Value} {x : α} (s : Sub A B) (h : VRep A R v x) : VRep B R v x :=
  let ⟨cs, a, b⟩ := h; ⟨cs, s.2.2 _ _ _ a, by rw [b]; unfold Ty.mk'; rw [s.1]⟩
theorem sub_slice {α : Type} {A B : Ty α} (s : Sub A B) : Sub (tSlice A) (tSlice B) := ⟨rfl, rfl, by
  rintro R cs X ⟨p, n, rfl, hn, hp, h⟩
  refine ⟨p, n, rfl, hn, hp, ?_⟩
  rcases h with h | ⟨b, off, c, ty, fr, h1, h2, h3⟩
  · exact .inl h
  · exact .inr ⟨b, off, c, ty, fr, h1, h2, fun i x hx => by rw [← s.2.1]; exact s.2.2 _ _ _ (h3 i x hx)⟩⟩
theorem sub_sl {α : Type} {A B : Ty α} {t t' : Bool} (s : Sub A B) (ht : t' = true → t = true) : Sub (tSl t A) (tSl t' B) := ⟨rfl, rfl, fun R cs X h => ⟨(sub_slice s).2.2 R cs X h.1, fun e => h.2 (ht e)⟩⟩
theorem sub_pair {α β : Type} {A A' : Ty α} {B B' : Ty β} (s : Sub A A') (t : Sub B B') : Sub (tPair A B) (tPair A' B') :=
  ⟨rfl, by show A.size + B.size = A'.size + B'.size; rw [s.2.1, t.2.1], fun R cs x ⟨ca, cb, e, h1, h2⟩ => ⟨ca, cb, e, s.2.2 _ _ _ h1, t.2.2 _ _ _ h2⟩⟩
theorem sub_as {α β : Type} {A B : Ty α} {f : β → α} (s : Sub A B) : Sub (A.as f) (B.as f) := ⟨s.1, s.2.1, fun R cs x h => s.2.2 R cs (f x) h⟩
/-! ### Ways that meet, loops -/
theorem pk {O O' : List Frag} {f : Frag} (i : Nat) (h : O[i]? = some f) (k : (O.eraseIdx i).Perm O') : O.Perm (f :: O') := (perm_erase O i f h).trans (k.cons f)
theorem holds_junk {R : RH} {O J F A : List Frag} {w : World} (hp : O.Perm (J ++ F)) (h : Holds R (O ++ A) w) : Holds R (F ++ A) w := by
  have h1 := holds_perm h (hp.append_right A)
  rw [List.append_assoc] at h1
  exact ⟨h1.ro, fun f hf => h1.own f (List.mem_append.2 (.inr hf)), (List.pairwise_append.1 h1.sep).2.1, h1.os, h1.out⟩
theorem wg_junk {P : Program} {ρ : Option Nat} {n : Nat} {c : Code} {Q : Po} {l : Nat → Value} {D : List Nat} {R : RH} {O J F : List Frag} (hp : O.Perm (J ++ F)) (h : wg P ρ n c Q l D R F) : wg P ρ n c Q l D R O :=
  fun a w hf hh => h a w hf (holds_junk hp hh)
theorem mask_eq {W : List Nat} {l' l : Nat → Value} {S : List (Nat × Value)} (ho : Off W l' l) (hs : AllS l' S) : l' = setl (mask W l' l) S := by
  rw [← mask_of_off ho]; exact setl_self (allS_mem hs)
/-- Where ways meet: what is known there. -/
def Meet {γ : Type} (dk : Bool) (D : List Nat) (W : List Nat) (l : Nat → Value) (R : RH) (S : γ → List (Nat × Value)) (F : γ → List Frag) (K : γ → RH → Prop) : (Nat → Value) → List Nat → RH → List Frag → Prop :=
  fun l' D' R' O' => (dk = true → D' = D) ∧ RH.le R R' ∧ Off W l' l ∧ ∃ g, AllS l' (S g) ∧ (∃ J, O'.Perm (J ++ F g)) ∧ K g R'
section meet
variable {P : Program} {ρ : Option Nat} {n : Nat} {Q : Po} {l : Nat → Value} {D : List Nat} {R : RH} {O : List Frag} {γ : Type}
theorem wg_meet {x y : Code} (dk : Bool) (W : List Nat) (S : γ → List (Nat × Value)) (F : γ → List Frag) (K : γ → RH → Prop)
    (hx : wg P ρ n x (thn (Meet dk D W l R S F K) Q) l D R O)
    (hy : ∀ g j D' R', (dk = true → D' = D) → RH.le R R' → K g R' → wg P ρ n y Q (setl (mask W j l) (S g)) D' R' (F g)) : wg P ρ n (.seq x y) Q l D R O := by
  refine wg_seq (wg_mono hx ?_)
  intro e l' D' R' O' h
  cases e with
  | normal =>
    obtain ⟨hD, hle, ho, g, hs, ⟨J, hp⟩, hk⟩ := h
    refine wg_junk hp ?_
    rw [mask_eq ho hs]
    exact hy g l' D' R' hD hle hk
  | _ => exact h
/-- The same ahead of a round's end. -/
theorem wg_meetT {x : Code} {Y : (Nat → Value) → List Nat → RH → List Frag → Prop} (dk : Bool) (W : List Nat) (S : γ → List (Nat × Value)) (F : γ → List Frag) (K : γ → RH → Prop)
    (hY : ∀ l D R O J F, O.Perm (J ++ F) → Y l D R F → Y l D R O)
    (hx : wg P ρ n x (thn (Meet dk D W l R S F K) Q) l D R O)
    (hy : ∀ g j D' R', (dk = true → D' = D) → RH.le R R' → K g R' → Y (setl (mask W j l) (S g)) D' R' (F g)) : wg P ρ n x (thn Y Q) l D R O := by
  refine wg_mono hx ?_
  intro e l' D' R' O' h
  cases e with
  | normal =>
    obtain ⟨hD, hle, ho, g, hs, ⟨J, hp⟩, hk⟩ := h
    refine hY _ _ _ _ J _ hp ?_
    rw [mask_eq ho hs]
    exact hy g l' D' R' hD hle hk
  | _ => exact h
/-- A round's end. -/
def Round (dk : Bool) (D : List Nat) (W : List Nat) (l : Nat → Value) (R : RH) (S : γ → List (Nat × Value)) (F : γ → List Frag) (K : γ → RH → Prop) (μ : γ → Nat) (m : Nat) : (Nat → Value) → List Nat → RH → List Frag → Prop :=
  fun l' D' R' O' => (dk = true → D' = D) ∧ RH.le R R' ∧ Off W l' l ∧ ∃ g, μ g < m ∧ AllS l' (S g) ∧ (∃ J, O'.Perm (J ++ F g)) ∧ K g R'
theorem perm_junk {O J J' F F' : List Frag} (h : O.Perm (J ++ F)) (k : F.Perm (J' ++ F')) : O.Perm ((J ++ J') ++ F') := by
  rw [List.append_assoc]; exact h.trans (List.Perm.append_left J k)
theorem round_conv {dk : Bool} {W : List Nat} {S : γ → List (Nat × Value)} {F : γ → List Frag} {K : γ → RH → Prop} {μ : γ → Nat} {m : Nat} : ∀ (l1 : Nat → Value) (D1 : List Nat) (R1 : RH) (O J F1 : List Frag), O.Perm (J ++ F1) → Round dk D W l R S F K μ m l1 D1 R1 F1 → Round dk D W l R S F K μ m l1 D1 R1 O :=
  fun _ _ _ _ J _ hp ⟨z, a, b, g, c, d, ⟨J', hp'⟩, e⟩ => ⟨z, a, b, g, c, d, ⟨J ++ J', perm_junk hp hp'⟩, e⟩
theorem wg_loopS {c : Code} (dk : Bool) (W : List Nat) (S : γ → List (Nat × Value)) (F : γ → List Frag) (K : γ → RH → Prop) (μ : γ → Nat) (g0 : γ)
    (hS : AllS l (S g0)) (hO : ∃ J, O.Perm (J ++ F g0)) (hK : K g0 R) (hW : ∀ g, ((S g).all fun p => W.elem p.1) = true)
    (round : ∀ g j D' R', (dk = true → D' = D) → RH.le R R' → K g R' → wg P ρ n c (thn (Round dk D' W (setl (mask W j l) (S g)) R' S F K μ (μ g)) Q) (setl (mask W j l) (S g)) D' R' (F g)) : wg P ρ n (.loop c) Q l D R O := by
  refine wg_loop (fun k l1 D1 R1 O1 => (dk = true → D1 = D) ∧ RH.le R R1 ∧ Off W l1 l ∧ ∃ g, k = μ g ∧ AllS l1 (S g) ∧ (∃ J, O1.Perm (J ++ F g)) ∧ K g R1) (μ g0) ⟨fun _ => rfl, RH.le.refl _, off_self, g0, rfl, hS, hO, hK⟩ ?_
  rintro k l1 D1 R1 O1 ⟨hD, hle, hoff, g, rfl, hSg, ⟨J, hp⟩, hk⟩
  refine wg_junk hp ?_
  rw [mask_eq hoff hSg]
  refine wg_mono (round g l1 D1 R1 hD hle hk) ?_
  intro e l' D' R'' O'' h
  cases e with
  | normal =>
    obtain ⟨hD', hle', hoff', g', hlt, hS', hJ, hI'⟩ := h
    exact ⟨_, hlt, fun e => (hD' e).trans (hD e), hle.trans hle', off_trans hoff' (off_setl (hW g) off_mask), g', rfl, hS', hJ, hI'⟩
  | _ => exact h
end meet

/-! ### What is lent -/
def RH.lend (R : RH) (O : List Frag) : RH := { R with blk := fun k => match R.blk k with | some o => some o | none => O.findSome? fun f => f k }
theorem RH.le_lend (R : RH) (O : List Frag) : RH.le R (R.lend O) := ⟨fun k o h => by simp [RH.lend, h], rfl, rfl⟩
theorem find_own {f : Frag} {k : Nat} {o : Obj} : ∀ {O : List Frag}, f ∈ O → f k = some o → (O.Pairwise fun f g => ∀ k, f k = none ∨ g k = none) → O.findSome? (fun f => f k) = some o
  | g :: O, hf, hk, hp => by
    obtain ⟨h1, h2⟩ := List.pairwise_cons.1 hp
    rw [List.findSome?_cons]
    rcases List.mem_cons.1 hf with rfl | hf
    · rw [hk]
    · have : g k = none := by
        rcases h1 f hf k with h | h
        · exact h
        · rw [h] at hk; cases hk
      rw [this]
      exact find_own hf hk h2
theorem holds_lend {R : RH} {O A : List Frag} {w : World} (h : Holds R (O ++ A) w) : Holds (R.lend O) A w ∧ ∀ f ∈ O, ∀ k o, f k = some o → (R.lend O).blk k = some o := by
  have hp := List.pairwise_append.1 h.sep
  refine ⟨⟨fun k o hk => ?_, fun g hg k o hk => ?_, hp.2.1, h.os, h.out⟩, fun f hf k o hk => ?_⟩
  · cases e : R.blk k with
    | some o' => simp only [RH.lend, e, Option.some.injEq] at hk; subst hk; exact h.ro k _ e
    | none =>
      simp only [RH.lend, e] at hk
      obtain ⟨f, hf, hfk⟩ := List.exists_of_findSome?_eq_some hk
      exact (h.own f (List.mem_append.2 (.inl hf)) k o hfk).1
  · have h1 := h.own g (List.mem_append.2 (.inr hg)) k o hk
    refine ⟨h1.1, ?_⟩
    simp only [RH.lend, h1.2]
    rw [List.findSome?_eq_none_iff]
    intro f hf
    rcases hp.2.2 f hf g hg k with h2 | h2
    · exact h2
    · rw [h2] at hk; cases hk
  · have h1 := (h.own f (List.mem_append.2 (.inl hf)) k o hk).2
    simp only [RH.lend, h1]
    exact find_own hf hk hp.1
/-- All that is owned is lent for the time of a call whose result does not lie in memory. -/
theorem eff_lend {P : Program} {ρ : Option Nat} {l : Nat → Value} {R : RH} {O : List Frag} {dst : Option Tmp} {ty : TypeId} {pos : String} {after : Array Go.Edge} {g : Option (Nat × Bool)} {f : FuncId} {c : Operand} {args : List Operand} {at' : Array TypeId} {cs vs : List Value} {φ : Value → Prop}
    (he : Enters P f) (hc : ev l c = .func (.func f) #[] cs.toArray) (ha : args.map (ev l) = vs) (h : ∀ R1, RH.le R R1 → (∀ f ∈ O, ∀ k o, f k = some o → R1.blk k = some o) → CallP P f (vs ++ cs).toArray R1 fun v _ => φ v) :
    Eff P ρ ⟨dst, .call ⟨.value c, args.toArray, at'⟩, ty, pos, after, g⟩ l R O (fun v R' O' => O' = O ∧ R' = R ∧ φ v) := by
  intro A w hh; rw [sem_plain (by intro c h; cases h), run_callv he hc (args_arr ha)]
  obtain ⟨h1, h2⟩ := holds_lend hh
  have h3 := h (R.lend O) (RH.le_lend _ _) h2 A w h1
  rw [show (#[] ++ vs.toArray ++ cs.toArray : Array Value) = (vs ++ cs).toArray from by simp]
  refine Calls.mono h3 ?_
  rintro e w' ⟨v, rfl, R', hle, hh', hv⟩
  refine ⟨v, rfl, R, O, RH.le.refl _, ?_, rfl, rfl, hv⟩
  have hp := List.pairwise_append.1 hh.sep
  refine ⟨fun k o hk => hh'.ro k o (hle.blk k o ((RH.le_lend R O).blk k o hk)), fun g hg k o hk => ?_, hh.sep, by have := hh'.os; rw [hle.os] at this; exact this, hh'.out.trans hle.out⟩
  rcases List.mem_append.1 hg with hg | hg
  · exact ⟨hh'.ro k o (hle.blk k o (h2 g hg k o hk)), (hh.own g (List.mem_append.2 (.inl hg)) k o hk).2⟩
  · exact ⟨(hh'.own g hg k o hk).1, (hh.own g (List.mem_append.2 (.inr hg)) k o hk).2⟩
theorem lent_o {α : Type} {T : Ty α} {R R1 : RH} {O : List Frag} {f : Frag} {v : Value} {X : List α} (i : Nat) (hi : O[i]? = some f) (h : ORep T R f v X) (hle : RH.le R R1) (hl : ∀ f ∈ O, ∀ k o, f k = some o → R1.blk k = some o) : VRep (tSlice T) R1 v X := by
  rcases h with ⟨rfl, rfl, rfl⟩ | ⟨b, pre, cs, cap, bt, rfl, rfl, hc, hcl, hcc, hel⟩
  · exact vrep_nil
  · refine vrep_slice.2 ⟨_, cap, rfl, hc, fun e => by (cases e), .inr ⟨b, pre.length, (pre ++ cs).toArray, bt, (0, 0), rfl, hl _ (List.mem_of_getElem? hi) b _ (single_same _ _), fun i x hx => ?_⟩⟩
    rw [cellsAt_pre]
    exact T.mono hle (by simpa [cellsAt] using hel i x hx)
theorem lent_b {R1 : RH} {O : List Frag} {b : Nat} {cs : List Value} {bt : TypeId} (i : Nat) (hi : O[i]? = some (box b cs bt)) (hl : ∀ f ∈ O, ∀ k o, f k = some o → R1.blk k = some o) : R1.blk b = some (.cells cs.toArray bt (0, 0)) :=
  hl _ (List.mem_of_getElem? hi) b _ (single_same _ _)
theorem wo_lend {P : Program} {ρ : Option Nat} {n : Nat} {Q : Po} {l : Nat → Value} {D : List Nat} {R : RH} {O : List Frag} {ops : Array Oper} {rest : List Oper} {ty : TypeId} {pos : String} {after : Array Go.Edge} {d : Nat} {f : FuncId} {c : Operand} {args : List Operand} {at' : Array TypeId} {cs vs : List Value} {φ : Value → Prop}
    (hd : Nat.blt d n = true) (he : Enters P f) (hc : ev l c = .func (.func f) #[] cs.toArray) (ha : args.map (ev l) = vs) (h : ∀ R1, RH.le R R1 → (∀ f ∈ O, ∀ k o, f k = some o → R1.blk k = some o) → CallP P f (vs ++ cs).toArray R1 fun v _ => φ v)
    (hk : ∀ v, φ v → wo P ρ n ops Q rest (upd l d v) D R O) : wo P ρ n ops Q (⟨some d, .call ⟨.value c, args.toArray, at'⟩, ty, pos, after, none⟩ :: rest) l D R O := by
  refine wo_eff rfl (fun t ht => by cases ht; simpa using hd) (eff_lend he hc ha h) ?_
  rintro v R' O' _ ⟨rfl, rfl, hv⟩
  exact hk v hv
/-! ### Function values -/
def FOk1 (P : Program) (R : RH) (v : Value) {α β : Type} (A : Ty α) (B : Ty β) (f : α → Option β) : Prop :=
  ∀ R1, RH.le R R1 → ∀ x u y, VRep A R1 u x → f x = some y → CallV P v [u].toArray R1 [] (fun v' R' O' => O' = [] ∧ VRep B R' v' y)
theorem FOk1.mono {P : Program} {R R' : RH} {v : Value} {α β : Type} {A : Ty α} {B : Ty β} {f : α → Option β} (h : FOk1 P R v A B f) (hle : RH.le R R') : FOk1 P R' v A B f := fun R1 h1 => h R1 (hle.trans h1)
theorem fok1_of {P : Program} {R : RH} {f : FuncId} {cs : List Value} {α β : Type} {A : Ty α} {B : Ty β} {F : α → Option β} (he : Enters P f)
    (h : ∀ R1, RH.le R R1 → ∀ x u y, VRep A R1 u x → F x = some y → CallP P f (u :: cs).toArray R1 (fun v R' => VRep B R' v y)) : FOk1 P R (.func (.func f) #[] cs.toArray) A B F :=
  fun R1 hle x u y hu hy => CallV.mono (callV_func he (by simp) ((h R1 hle x u y hu hy).toG)) fun _ _ _ _ h => h
def FOk2 (P : Program) (R : RH) (v : Value) {α β γ : Type} (A : Ty α) (B : Ty β) (C : Ty γ) (f : α → β → Option γ) : Prop :=
  ∀ R1, RH.le R R1 → ∀ x y u w z, VRep A R1 u x → VRep B R1 w y → f x y = some z → CallV P v [u, w].toArray R1 [] (fun v' R' O' => O' = [] ∧ VRep C R' v' z)
theorem FOk2.mono {P : Program} {R R' : RH} {v : Value} {α β γ : Type} {A : Ty α} {B : Ty β} {C : Ty γ} {f : α → β → Option γ} (h : FOk2 P R v A B C f) (hle : RH.le R R') : FOk2 P R' v A B C f := fun R1 h1 => h R1 (hle.trans h1)
theorem fok2_of {P : Program} {R : RH} {f : FuncId} {cs : List Value} {α β γ : Type} {A : Ty α} {B : Ty β} {C : Ty γ} {F : α → β → Option γ} (he : Enters P f)
    (h : ∀ R1, RH.le R R1 → ∀ x y u w z, VRep A R1 u x → VRep B R1 w y → F x y = some z → CallP P f (u :: w :: cs).toArray R1 (fun v R' => VRep C R' v z)) : FOk2 P R (.func (.func f) #[] cs.toArray) A B C F :=
  fun R1 hle x y u w z hu hw hy => CallV.mono (callV_func he (by simp) ((h R1 hle x y u w z hu hw hy).toG)) fun _ _ _ _ h => h
theorem wo_callF {P : Program} {ρ : Option Nat} {n : Nat} {Q : Po} {l : Nat → Value} {D : List Nat} {R : RH} {O : List Frag} {ops : Array Oper} {rest : List Oper} {ty : TypeId} {pos : String} {after : Array Go.Edge} {d : Nat}
    {c : Operand} {args : List Operand} {at' : Array TypeId} {fv : Value} {vs : List Value} {φ : Value → RH → Prop} (hd : Nat.blt d n = true) (hc : ev l c = fv) (ha : args.map (ev l) = vs) (h : CallV P fv vs.toArray R [] (fun v R' O => O = [] ∧ φ v R'))
    (hk : ∀ v R', RH.le R R' → φ v R' → wo P ρ n ops Q rest (upd l d v) D R' O) : wo P ρ n ops Q (⟨some d, .call ⟨.value c, args.toArray, at'⟩, ty, pos, after, none⟩ :: rest) l D R O :=
  wo_callV (Oc := []) (Or := O) hd hc ha (List.Perm.refl O) h fun v R' Oc' hle ⟨hO, hv⟩ => by subst hO; exact hk v R' hle hv
theorem gop_def {α : Type} [Inhabited α] {b : Bool} {x : Option α} {y : Option α} (h : gop b x = some y) (e : b = true) : x = some (y.getD default) := by
  obtain ⟨z, h1, h2⟩ := (gop_some h).1 e
  rw [h1, h2]; rfl
theorem okS_1 {α : Type} {X : List α} {lo hi : Int} (h : okS X lo hi) : lo.toNat ≤ hi.toNat := by have := h.1; have := h.2.1; omega
theorem okS_2 {α : Type} {X : List α} {lo hi : Int} (h : okS X lo hi) : hi.toNat ≤ X.length := by have := h.1; have := h.2.1; have := h.2.2; omega
theorem okS_0 {α : Type} {X : List α} {lo hi : Int} (h : okS X lo hi) : 0 ≤ hi := Int.le_trans h.1 h.2.1
theorem orep_len {α : Type} {T : Ty α} {R : RH} {f : Frag} {v : Value} {X : List α} (h : ORep T R f v X) : X.length ≤ capOf v := let ⟨_, _, h⟩ := orep_slice h; h
end GV
end Go.Proofs.Ytncblcdhmcmkmaa
