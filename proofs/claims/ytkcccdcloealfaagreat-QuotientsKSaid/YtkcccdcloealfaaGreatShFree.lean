
import Derived.Test.YtkcccdcloealfaaGreatGvNest
set_option linter.unusedVariables false
set_option linter.unusedSimpArgs false
namespace Go.Proofs.YtkcccdcloealfaaGreat
namespace GV
/-! ### The plain programs' own words -/
def gd {α : Type} (c : Prop) [Decidable c] (k : Option α) : Option α := if c then k else none
def bd {α β : Type} (x : Option α) (k : α → Option β) : Option β := x.bind k
inductive Ex (α β : Type) where
  | go (a : α) : Ex α β
  | rt (b : β) : Ex α β
def Ex.on {α β γ : Type} (x : Ex α β) (f : α → Option γ) (g : β → Option γ) : Option γ :=
  match x with
  | .go a => f a
  | .rt b => g b
abbrev in64 (x : Int) : Prop := -9223372036854775808 ≤ x ∧ x ≤ 9223372036854775807
abbrev okI {α : Type} (X : List α) (i : Int) : Prop := 0 ≤ i ∧ i < (X.length : Int)
def ix {α : Type} [Inhabited α] (X : List α) (i : Int) : α := X.getD i.toNat default
def up {α : Type} (X : List α) (i : Int) (y : α) : List α := X.set i.toNat y
abbrev fits {α β : Type} (b : Nat) (X : List α) (Y : List β) : Prop := (X.length + Y.length) * b ≤ 140737488355328 ∧ X.length + Y.length ≤ 9223372036854775807
def cut {α : Type} (X : List α) (lo hi : Int) : List α := (X.drop lo.toNat).take (hi.toNat - lo.toNat)
abbrev okS {α : Type} (X : List α) (lo hi : Int) : Prop := 0 ≤ lo ∧ lo ≤ hi ∧ hi ≤ (X.length : Int)
def gop {α : Type} (b : Bool) (x : Option α) : Option (Option α) := bif b then x.map some else some none
def mk {α : Type} (n : Int) (z : α) : List α := List.replicate n.toNat z
abbrev okM (b : Nat) (n : Int) : Prop := 0 ≤ n ∧ (b : Int) * n ≤ 281474976710656 ∧ n ≤ 9223372036854775807
theorem zm {α : Type} {c : Prop} [Decidable c] {k : Option α} {r : α} (h : gd c k = some r) : c ∧ k = some r := by
  unfold gd at h
  by_cases hc : c
  · rw [if_pos hc] at h; exact ⟨hc, h⟩
  · rw [if_neg hc] at h; cases h
theorem zq {α : Type} {c : Prop} [Decidable c] {k : Option α} (h : c) : gd c k = k := if_pos h
theorem zo {α β : Type} {x : Option α} {k : α → Option β} {r : β} (h : bd x k = some r) : ∃ y, x = some y ∧ k y = some r := by
  unfold bd at h
  cases x with
  | none => cases h
  | some y => exact ⟨y, rfl, h⟩
theorem j5 {α : Type} {b : Bool} {x y : Option α} {r : α} (e : b = true) (h : cond b x y = some r) : x = some r := by subst e; exact h
theorem j6 {α : Type} {b : Bool} {x y : Option α} {r : α} (e : b = false) (h : cond b x y = some r) : y = some r := by subst e; exact h
theorem z4a {α β γ : Type} {a : α} {f : α → Option γ} {g : β → Option γ} {r : γ} (h : Ex.on (.go a) f g = some r) : f a = some r := h
theorem z2f {α β γ : Type} {o : Ex α β} {b : β} {f : α → Option γ} {g : β → Option γ} {r : γ} (c : some (Ex.rt b) = some o) (h : Ex.on o f g = some r) : g b = some r := by
  obtain rfl := Option.some.inj c; exact h
theorem qz {α : Type} {r : α} {p : Prop} (h : none = some r) : p := by cases h
theorem zwj {α : Type} {b : Bool} {x : Option α} {y : Option α} (h : gop b x = some y) : (b = true → ∃ z, x = some z ∧ y = some z) ∧ (b = false → y = none) := by
  unfold gop at h
  cases b
  · exact ⟨fun e => by (cases e), fun _ => (Option.some.inj h).symm⟩
  · refine ⟨fun _ => ?_, fun e => by (cases e)⟩
    cases x with
    | none => cases h
    | some z => exact ⟨z, rfl, (Option.some.inj h).symm⟩
theorem qc {α : Type} {X : List α} {i : Int} (h : okI X i) : i.toNat < X.length := by have := h.1; have := h.2; omega
theorem zao {b : Nat} {n : Int} (h : okM b n) : b * n.toNat ≤ 281474976710656 := by
  obtain ⟨h1, h2, _⟩ := h
  have e : ((b * n.toNat : Nat) : Int) = (b : Int) * n := by rw [Int.natCast_mul, Int.toNat_of_nonneg h1]
  omega
theorem zas {b : Nat} {n : Int} (h : okM b n) : n.toNat ≤ 9223372036854775807 := by have := h.1; have := h.2.2; omega
/-! ### Slices, with or without room -/
def tSl {α : Type} (t : Bool) (T : Ty α) : Ty (List α) where
  size := 1
  agg := false
  rep R cs X := (yw T).rep R cs X ∧ (t = true → ∃ p, cs = [.slice p X.length X.length])
  len h := (yw T).len h.1
  mono hle h := ⟨(yw T).mono hle h.1, h.2⟩
  one _ := rfl
  cell h := (yw T).cell h.1
section sl
variable {α : Type} {T : Ty α} {t : Bool} {R : RH} {v : Value} {X : List α}
theorem j3 (h : VRep (tSl t T) R v X) : VRep (yw T) R v X := let ⟨cs, a, b⟩ := h; ⟨cs, a.1, b⟩
theorem q62 (h : VRep (tSl true T) R v X) : capOf v = X.length := by
  obtain ⟨cs, ⟨_, h⟩, rfl⟩ := h
  obtain ⟨p, rfl⟩ := h rfl
  rfl
theorem z6i (h : VRep (yw T) R v X) : VRep (tSl false T) R v X := let ⟨cs, a, b⟩ := h; ⟨cs, ⟨a, fun e => by (cases e)⟩, b⟩
theorem z1s (h : VRep (yw T) R v X) (hc : capOf v = X.length) : VRep (tSl t T) R v X := by
  obtain ⟨p, n, rfl, hn, hp, hs⟩ := aj.1 h
  simp only [capOf] at hc
  subst hc
  exact ⟨_, ⟨⟨p, _, rfl, hn, hp, hs⟩, fun _ => ⟨p, rfl⟩⟩, rfl⟩
theorem z4n : VRep (tSl t T) R (.slice none 0 0) [] := z1s zdd rfl
end sl
theorem jr {α : Type} {T : Ty α} {R : RH} {v : Value} {x : α} (ha : T.agg = false) (h : VRep T R v x) : T.rep R [v] x := by
  obtain ⟨cs, hr, rfl⟩ := h
  have h1 := T.one ha
  have h2 := T.len hr
  rw [h1] at h2
  match cs, h2 with
  | [c], _ => simpa [Ty.mk', ha] using hr
theorem zm7 {α : Type} {T : Ty α} {R : RH} {cs : List Value} {x : α} (ha : T.agg = false) (h : T.rep R cs x) : ∃ u, cs = [u] ∧ VRep T R u x := by
  have h1 := T.one ha
  have h2 := T.len h
  rw [h1] at h2
  match cs, h2 with
  | [c], _ => exact ⟨c, rfl, [c], h, by simp [Ty.mk', ha]⟩
theorem z3z {α : Type} {T : Ty α} {t : Bool} {R : RH} {v : Value} {X : List α} (h : VRep (tSl t T) R v X) : v.cells = ([v] : List Value).toArray := zqc (j3 h)
theorem z3i {α : Type} {T : Ty α} {t : Bool} {R : RH} {v : Value} {X : List α} (h : VRep (tSl t T) R v X) : v.oneCell' = true := zx1 (j3 h)
def Sub {α : Type} (A B : Ty α) : Prop := A.agg = B.agg ∧ A.size = B.size ∧ ∀ R cs x, A.rep R cs x → B.rep R cs x
theorem Sub.refl {α : Type} {A : Ty α} : Sub A A := ⟨rfl, rfl, fun _ _ _ h => h⟩
theorem Sub.v {α : Type} {A B : Ty α} {R : RH} {v : Value} {x : α} (s : Sub A B) (h : VRep A R v x) : VRep B R v x :=
  let ⟨cs, a, b⟩ := h; ⟨cs, s.2.2 _ _ _ a, by rw [b]; unfold Ty.mk'; rw [s.1]⟩
theorem ztu {α : Type} {A B : Ty α} (s : Sub A B) : Sub (yw A) (yw B) := ⟨rfl, rfl, by
  rintro R cs X ⟨p, n, rfl, hn, hp, h⟩
  refine ⟨p, n, rfl, hn, hp, ?_⟩
  rcases h with h | ⟨b, off, c, ty, fr, h1, h2, h3⟩
  · exact .inl h
  · exact .inr ⟨b, off, c, ty, fr, h1, h2, fun i x hx => by rw [← s.2.1]; exact s.2.2 _ _ _ (h3 i x hx)⟩⟩
theorem ky {α : Type} {A B : Ty α} {t t' : Bool} (s : Sub A B) (ht : t' = true → t = true) : Sub (tSl t A) (tSl t' B) := ⟨rfl, rfl, fun R cs X h => ⟨(ztu s).2.2 R cs X h.1, fun e => h.2 (ht e)⟩⟩
theorem zb7 {α β : Type} {A A' : Ty α} {B B' : Ty β} (s : Sub A A') (t : Sub B B') : Sub (z0q A B) (z0q A' B') :=
  ⟨rfl, by show A.size + B.size = A'.size + B'.size; rw [s.2.1, t.2.1], fun R cs x ⟨ca, cb, e, h1, h2⟩ => ⟨ca, cb, e, s.2.2 _ _ _ h1, t.2.2 _ _ _ h2⟩⟩
theorem zr3 {α β : Type} {A B : Ty α} {f : β → α} (s : Sub A B) : Sub (A.as f) (B.as f) := ⟨s.1, s.2.1, fun R cs x h => s.2.2 R cs (f x) h⟩
/-! ### Ways that meet, loops -/
theorem pk {O O' : List Frag} {f : Frag} (i : Nat) (h : O[i]? = some f) (k : (O.eraseIdx i).Perm O') : O.Perm (f :: O') := (z4r O i f h).trans (k.cons f)
theorem zf1 {R : RH} {O J F A : List Frag} {w : World} (hp : O.Perm (J ++ F)) (h : Holds R (O ++ A) w) : Holds R (F ++ A) w := by
  have h1 := yo h (hp.append_right A)
  rw [List.append_assoc] at h1
  exact ⟨h1.ro, fun f hf => h1.own f (List.mem_append.2 (.inr hf)), (List.pairwise_append.1 h1.sep).2.1, h1.os, h1.out⟩
theorem ze3 {P : Program} {ρ : Option Nat} {n : Nat} {c : Code} {Q : Po} {l : Nat → Value} {D : List Nat} {R : RH} {O J F : List Frag} (hp : O.Perm (J ++ F)) (h : wg P ρ n c Q l D R F) : wg P ρ n c Q l D R O :=
  fun a w hf hh => h a w hf (zf1 hp hh)
theorem znp {W : List Nat} {l' l : Nat → Value} {S : List (Nat × Value)} (ho : Off W l' l) (hs : zrh l' S) : l' = z6j (mask W l' l) S := by
  rw [← zo7 ho]; exact zlx (zom hs)
def q3n {γ : Type} (dk : Bool) (D : List Nat) (W : List Nat) (l : Nat → Value) (R : RH) (S : γ → List (Nat × Value)) (F : γ → List Frag) (K : γ → RH → Prop) : (Nat → Value) → List Nat → RH → List Frag → Prop :=
  fun l' D' R' O' => (dk = true → D' = D) ∧ RH.le R R' ∧ Off W l' l ∧ ∃ g, zrh l' (S g) ∧ (∃ J, O'.Perm (J ++ F g)) ∧ K g R'
section meet
variable {P : Program} {ρ : Option Nat} {n : Nat} {Q : Po} {l : Nat → Value} {D : List Nat} {R : RH} {O : List Frag} {γ : Type}
theorem je {x y : Code} (dk : Bool) (W : List Nat) (S : γ → List (Nat × Value)) (F : γ → List Frag) (K : γ → RH → Prop)
    (hx : wg P ρ n x (thn (q3n dk D W l R S F K) Q) l D R O)
    (hy : ∀ g j D' R', (dk = true → D' = D) → RH.le R R' → K g R' → wg P ρ n y Q (z6j (mask W j l) (S g)) D' R' (F g)) : wg P ρ n (.seq x y) Q l D R O := by
  refine zf (ze6 hx ?_)
  intro e l' D' R' O' h
  cases e with
  | normal =>
    obtain ⟨hD, hle, ho, g, hs, ⟨J, hp⟩, hk⟩ := h
    refine ze3 hp ?_
    rw [znp ho hs]
    exact hy g l' D' R' hD hle hk
  | _ => exact h
theorem zvu {x : Code} {Y : (Nat → Value) → List Nat → RH → List Frag → Prop} (dk : Bool) (W : List Nat) (S : γ → List (Nat × Value)) (F : γ → List Frag) (K : γ → RH → Prop)
    (hY : ∀ l D R O J F, O.Perm (J ++ F) → Y l D R F → Y l D R O)
    (hx : wg P ρ n x (thn (q3n dk D W l R S F K) Q) l D R O)
    (hy : ∀ g j D' R', (dk = true → D' = D) → RH.le R R' → K g R' → Y (z6j (mask W j l) (S g)) D' R' (F g)) : wg P ρ n x (thn Y Q) l D R O := by
  refine ze6 hx ?_
  intro e l' D' R' O' h
  cases e with
  | normal =>
    obtain ⟨hD, hle, ho, g, hs, ⟨J, hp⟩, hk⟩ := h
    refine hY _ _ _ _ J _ hp ?_
    rw [znp ho hs]
    exact hy g l' D' R' hD hle hk
  | _ => exact h
def zxl (dk : Bool) (D : List Nat) (W : List Nat) (l : Nat → Value) (R : RH) (S : γ → List (Nat × Value)) (F : γ → List Frag) (K : γ → RH → Prop) (μ : γ → Nat) (m : Nat) : (Nat → Value) → List Nat → RH → List Frag → Prop :=
  fun l' D' R' O' => (dk = true → D' = D) ∧ RH.le R R' ∧ Off W l' l ∧ ∃ g, μ g < m ∧ zrh l' (S g) ∧ (∃ J, O'.Perm (J ++ F g)) ∧ K g R'
theorem zua {O J J' F F' : List Frag} (h : O.Perm (J ++ F)) (k : F.Perm (J' ++ F')) : O.Perm ((J ++ J') ++ F') := by
  rw [List.append_assoc]; exact h.trans (List.Perm.append_left J k)
theorem zrd {dk : Bool} {W : List Nat} {S : γ → List (Nat × Value)} {F : γ → List Frag} {K : γ → RH → Prop} {μ : γ → Nat} {m : Nat} : ∀ (l1 : Nat → Value) (D1 : List Nat) (R1 : RH) (O J F1 : List Frag), O.Perm (J ++ F1) → zxl dk D W l R S F K μ m l1 D1 R1 F1 → zxl dk D W l R S F K μ m l1 D1 R1 O :=
  fun _ _ _ _ J _ hp ⟨z, a, b, g, c, d, ⟨J', hp'⟩, e⟩ => ⟨z, a, b, g, c, d, ⟨J ++ J', zua hp hp'⟩, e⟩
theorem jf {c : Code} (dk : Bool) (W : List Nat) (S : γ → List (Nat × Value)) (F : γ → List Frag) (K : γ → RH → Prop) (μ : γ → Nat) (g0 : γ)
    (hS : zrh l (S g0)) (hO : ∃ J, O.Perm (J ++ F g0)) (hK : K g0 R) (hW : ∀ g, ((S g).all fun p => W.elem p.1) = true)
    (round : ∀ g j D' R', (dk = true → D' = D) → RH.le R R' → K g R' → wg P ρ n c (thn (zxl dk D' W (z6j (mask W j l) (S g)) R' S F K μ (μ g)) Q) (z6j (mask W j l) (S g)) D' R' (F g)) : wg P ρ n (.loop c) Q l D R O := by
  refine zse (fun k l1 D1 R1 O1 => (dk = true → D1 = D) ∧ RH.le R R1 ∧ Off W l1 l ∧ ∃ g, k = μ g ∧ zrh l1 (S g) ∧ (∃ J, O1.Perm (J ++ F g)) ∧ K g R1) (μ g0) ⟨fun _ => rfl, RH.le.refl _, zov, g0, rfl, hS, hO, hK⟩ ?_
  rintro k l1 D1 R1 O1 ⟨hD, hle, hoff, g, rfl, hSg, ⟨J, hp⟩, hk⟩
  refine ze3 hp ?_
  rw [znp hoff hSg]
  refine ze6 (round g l1 D1 R1 hD hle hk) ?_
  intro e l' D' R'' O'' h
  cases e with
  | normal =>
    obtain ⟨hD', hle', hoff', g', hlt, hS', hJ, hI'⟩ := h
    exact ⟨_, hlt, fun e => (hD' e).trans (hD e), hle.trans hle', zkz hoff' (zj5 (hW g) zog), g', rfl, hS', hJ, hI'⟩
  | _ => exact h
end meet
/-! ### What is lent -/
def RH.lend (R : RH) (O : List Frag) : RH := { R with blk := fun k => match R.blk k with | some o => some o | none => O.findSome? fun f => f k }
theorem RH.le_lend (R : RH) (O : List Frag) : RH.le R (R.lend O) := ⟨fun k o h => by simp [RH.lend, h], rfl, rfl⟩
theorem zpl {f : Frag} {k : Nat} {o : Obj} : ∀ {O : List Frag}, f ∈ O → f k = some o → (O.Pairwise fun f g => ∀ k, f k = none ∨ g k = none) → O.findSome? (fun f => f k) = some o
  | g :: O, hf, hk, hp => by
    obtain ⟨h1, h2⟩ := List.pairwise_cons.1 hp
    rw [List.findSome?_cons]
    rcases List.mem_cons.1 hf with rfl | hf
    · rw [hk]
    · have : g k = none := by
        rcases h1 f hf k with h | h
        · exact h
        · rw [h] at hk; cases hk
      rw [this]
      exact zpl hf hk h2
theorem zqo {R : RH} {O A : List Frag} {w : World} (h : Holds R (O ++ A) w) : Holds (R.lend O) A w ∧ ∀ f ∈ O, ∀ k o, f k = some o → (R.lend O).blk k = some o := by
  have hp := List.pairwise_append.1 h.sep
  refine ⟨⟨fun k o hk => ?_, fun g hg k o hk => ?_, hp.2.1, h.os, h.out⟩, fun f hf k o hk => ?_⟩
  · cases e : R.blk k with
    | some o' => simp only [RH.lend, e, Option.some.injEq] at hk; subst hk; exact h.ro k _ e
    | none =>
      simp only [RH.lend, e] at hk
      obtain ⟨f, hf, hfk⟩ := List.exists_of_findSome?_eq_some hk
      exact (h.own f (List.mem_append.2 (.inl hf)) k o hfk).1
  · have h1 := h.own g (List.mem_append.2 (.inr hg)) k o hk
    refine ⟨h1.1, ?_⟩
    simp only [RH.lend, h1.2]
    rw [List.findSome?_eq_none_iff]
    intro f hf
    rcases hp.2.2 f hf g hg k with h2 | h2
    · exact h2
    · rw [h2] at hk; cases hk
  · have h1 := (h.own f (List.mem_append.2 (.inl hf)) k o hk).2
    simp only [RH.lend, h1]
    exact zpl hf hk hp.1
theorem zpq {P : Program} {ρ : Option Nat} {l : Nat → Value} {R : RH} {O : List Frag} {dst : Option Tmp} {ty : TypeId} {pos : String} {after : Array Go.Edge} {g : Option (Nat × Bool)} {f : FuncId} {c : Operand} {args : List Operand} {at' : Array TypeId} {cs vs : List Value} {φ : Value → Prop}
    (he : Enters P f) (hc : ev l c = .func (.func f) #[] cs.toArray) (ha : args.map (ev l) = vs) (h : ∀ R1, RH.le R R1 → (∀ f ∈ O, ∀ k o, f k = some o → R1.blk k = some o) → CallP P f (vs ++ cs).toArray R1 fun v _ => φ v) :
    Eff P ρ ⟨dst, .call ⟨.value c, args.toArray, at'⟩, ty, pos, after, g⟩ l R O (fun v R' O' => O' = O ∧ R' = R ∧ φ v) := by
  intro A w hh; rw [jm (by intro c h; cases h), zld he hc (z9v ha)]
  obtain ⟨h1, h2⟩ := zqo hh
  have h3 := h (R.lend O) (RH.le_lend _ _) h2 A w h1
  rw [show (#[] ++ vs.toArray ++ cs.toArray : Array Value) = (vs ++ cs).toArray from by simp]
  refine Calls.mono h3 ?_
  rintro e w' ⟨v, rfl, R', hle, hh', hv⟩
  refine ⟨v, rfl, R, O, RH.le.refl _, ?_, rfl, rfl, hv⟩
  have hp := List.pairwise_append.1 hh.sep
  refine ⟨fun k o hk => hh'.ro k o (hle.blk k o ((RH.le_lend R O).blk k o hk)), fun g hg k o hk => ?_, hh.sep, by have := hh'.os; rw [hle.os] at this; exact this, hh'.out.trans hle.out⟩
  rcases List.mem_append.1 hg with hg | hg
  · exact ⟨hh'.ro k o (hle.blk k o (h2 g hg k o hk)), (hh.own g (List.mem_append.2 (.inl hg)) k o hk).2⟩
  · exact ⟨(hh'.own g hg k o hk).1, (hh.own g (List.mem_append.2 (.inr hg)) k o hk).2⟩
theorem za0 {α : Type} {T : Ty α} {R R1 : RH} {O : List Frag} {f : Frag} {v : Value} {X : List α} (i : Nat) (hi : O[i]? = some f) (h : ORep T R f v X) (hle : RH.le R R1) (hl : ∀ f ∈ O, ∀ k o, f k = some o → R1.blk k = some o) : VRep (yw T) R1 v X := by
  rcases h with ⟨rfl, rfl, rfl⟩ | ⟨b, pre, cs, cap, bt, rfl, rfl, hc, hcl, hcc, hel⟩
  · exact zdd
  · refine aj.2 ⟨_, cap, rfl, hc, fun e => by (cases e), .inr ⟨b, pre.length, (pre ++ cs).toArray, bt, (0, 0), rfl, hl _ (List.mem_of_getElem? hi) b _ (uh _ _), fun i x hx => ?_⟩⟩
    rw [z3v]
    exact T.mono hle (by simpa [ym] using hel i x hx)
theorem q2b {R1 : RH} {O : List Frag} {b : Nat} {cs : List Value} {bt : TypeId} (i : Nat) (hi : O[i]? = some (box b cs bt)) (hl : ∀ f ∈ O, ∀ k o, f k = some o → R1.blk k = some o) : R1.blk b = some (.cells cs.toArray bt (0, 0)) :=
  hl _ (List.mem_of_getElem? hi) b _ (uh _ _)
theorem zg3 {P : Program} {ρ : Option Nat} {n : Nat} {Q : Po} {l : Nat → Value} {D : List Nat} {R : RH} {O : List Frag} {ops : Array Oper} {rest : List Oper} {ty : TypeId} {pos : String} {after : Array Go.Edge} {d : Nat} {f : FuncId} {c : Operand} {args : List Operand} {at' : Array TypeId} {cs vs : List Value} {φ : Value → Prop}
    (hd : Nat.blt d n = true) (he : Enters P f) (hc : ev l c = .func (.func f) #[] cs.toArray) (ha : args.map (ev l) = vs) (h : ∀ R1, RH.le R R1 → (∀ f ∈ O, ∀ k o, f k = some o → R1.blk k = some o) → CallP P f (vs ++ cs).toArray R1 fun v _ => φ v)
    (hk : ∀ v, φ v → wo P ρ n ops Q rest (upd l d v) D R O) : wo P ρ n ops Q (⟨some d, .call ⟨.value c, args.toArray, at'⟩, ty, pos, after, none⟩ :: rest) l D R O := by
  refine zm9 rfl (fun t ht => by cases ht; simpa using hd) (zpq he hc ha h) ?_
  rintro v R' O' _ ⟨rfl, rfl, hv⟩
  exact hk v hv
/-! ### Function values -/
def FOk1 (P : Program) (R : RH) (v : Value) {α β : Type} (A : Ty α) (B : Ty β) (f : α → Option β) : Prop :=
  ∀ R1, RH.le R R1 → ∀ x u y, VRep A R1 u x → f x = some y → CallV P v [u].toArray R1 [] (fun v' R' O' => O' = [] ∧ VRep B R' v' y)
theorem FOk1.mono {P : Program} {R R' : RH} {v : Value} {α β : Type} {A : Ty α} {B : Ty β} {f : α → Option β} (h : FOk1 P R v A B f) (hle : RH.le R R') : FOk1 P R' v A B f := fun R1 h1 => h R1 (hle.trans h1)
theorem zsx {P : Program} {R : RH} {f : FuncId} {cs : List Value} {α β : Type} {A : Ty α} {B : Ty β} {F : α → Option β} (he : Enters P f)
    (h : ∀ R1, RH.le R R1 → ∀ x u y, VRep A R1 u x → F x = some y → CallP P f (u :: cs).toArray R1 (fun v R' => VRep B R' v y)) : FOk1 P R (.func (.func f) #[] cs.toArray) A B F :=
  fun R1 hle x u y hu hy => CallV.mono (zf4 he (by simp) ((h R1 hle x u y hu hy).toG)) fun _ _ _ _ h => h
def FOk2 (P : Program) (R : RH) (v : Value) {α β γ : Type} (A : Ty α) (B : Ty β) (C : Ty γ) (f : α → β → Option γ) : Prop :=
  ∀ R1, RH.le R R1 → ∀ x y u w z, VRep A R1 u x → VRep B R1 w y → f x y = some z → CallV P v [u, w].toArray R1 [] (fun v' R' O' => O' = [] ∧ VRep C R' v' z)
theorem FOk2.mono {P : Program} {R R' : RH} {v : Value} {α β γ : Type} {A : Ty α} {B : Ty β} {C : Ty γ} {f : α → β → Option γ} (h : FOk2 P R v A B C f) (hle : RH.le R R') : FOk2 P R' v A B C f := fun R1 h1 => h R1 (hle.trans h1)
theorem q05 {P : Program} {R : RH} {f : FuncId} {cs : List Value} {α β γ : Type} {A : Ty α} {B : Ty β} {C : Ty γ} {F : α → β → Option γ} (he : Enters P f)
    (h : ∀ R1, RH.le R R1 → ∀ x y u w z, VRep A R1 u x → VRep B R1 w y → F x y = some z → CallP P f (u :: w :: cs).toArray R1 (fun v R' => VRep C R' v z)) : FOk2 P R (.func (.func f) #[] cs.toArray) A B C F :=
  fun R1 hle x y u w z hu hw hy => CallV.mono (zf4 he (by simp) ((h R1 hle x y u w z hu hw hy).toG)) fun _ _ _ _ h => h
theorem zjh {P : Program} {ρ : Option Nat} {n : Nat} {Q : Po} {l : Nat → Value} {D : List Nat} {R : RH} {O : List Frag} {ops : Array Oper} {rest : List Oper} {ty : TypeId} {pos : String} {after : Array Go.Edge} {d : Nat}
    {c : Operand} {args : List Operand} {at' : Array TypeId} {fv : Value} {vs : List Value} {φ : Value → RH → Prop} (hd : Nat.blt d n = true) (hc : ev l c = fv) (ha : args.map (ev l) = vs) (h : CallV P fv vs.toArray R [] (fun v R' O => O = [] ∧ φ v R'))
    (hk : ∀ v R', RH.le R R' → φ v R' → wo P ρ n ops Q rest (upd l d v) D R' O) : wo P ρ n ops Q (⟨some d, .call ⟨.value c, args.toArray, at'⟩, ty, pos, after, none⟩ :: rest) l D R O :=
  zis (Oc := []) (Or := O) hd hc ha (List.Perm.refl O) h fun v R' Oc' hle ⟨hO, hv⟩ => by subst hO; exact hk v R' hle hv
theorem oq {α : Type} [Inhabited α] {b : Bool} {x : Option α} {y : Option α} (h : gop b x = some y) (e : b = true) : x = some (y.getD default) := by
  obtain ⟨z, h1, h2⟩ := (zwj h).1 e
  rw [h1, h2]; rfl
theorem zdg {α : Type} {X : List α} {lo hi : Int} (h : okS X lo hi) : lo.toNat ≤ hi.toNat := by have := h.1; have := h.2.1; omega
theorem z7c {α : Type} {X : List α} {lo hi : Int} (h : okS X lo hi) : hi.toNat ≤ X.length := by have := h.1; have := h.2.1; have := h.2.2; omega
theorem zhn {α : Type} {X : List α} {lo hi : Int} (h : okS X lo hi) : 0 ≤ hi := Int.le_trans h.1 h.2.1
theorem kg {W : List Nat} {l l0 : Nat → Value} (h : Off W l l0 := by repeat (first | exact zov | refine zsb rfl ?_ | refine zj5 rfl ?_ | refine zmp rfl ?_)) : Off W l l0 := h
theorem zvy {α : Type} {T : Ty α} {R : RH} {f : Frag} {v : Value} {X : List α} (h : ORep T R f v X) : X.length ≤ capOf v := let ⟨_, _, h⟩ := z7p h; h
end GV
end Go.Proofs.YtkcccdcloealfaaGreat

namespace Go.Proofs.YtkcccdcloealfaaGreat
namespace GV
def zmz {α : Type} (t : Bool) (Vs : List Value) (X : List (List α)) (no : Nat → Prop) : Prop := t = true → ∀ j, j < X.length → ¬ no j → capOf (Vs.getD j default) = (X.getD j default).length
def N2 {α : Type} (t : Bool) (T : Ty α) (R : RH) (F : Frag) (v : Value) (Vs : List Value) (X : List (List α)) : Prop :=
  ∃ f0 Fs, Vs.length = X.length ∧ ORep tHdr R f0 v Vs ∧ Has F f0 ∧ Rows T R F Vs X Fs (fun _ => False) ∧ (∀ j, j < X.length → Apart f0 (Fs.getD j emp)) ∧ zmz t Vs X (fun _ => False)
def N2h {α : Type} (t : Bool) (T : Ty α) (k : Nat) (R : RH) (F : Frag) (v : Value) (Vs : List Value) (X : List (List α)) : Prop :=
  ∃ f0 Fs, Vs.length = X.length ∧ ORep tHdr R f0 v Vs ∧ Has F f0 ∧ Rows T R F Vs X Fs (fun j => j = k) ∧ (∀ j, j < X.length → j ≠ k → Apart f0 (Fs.getD j emp)) ∧ zmz t Vs X (fun j => j = k)
section n2
variable {α : Type} {t : Bool} {T : Ty α} {R R' : RH} {F : Frag} {v : Value} {Vs : List Value} {X : List (List α)}
theorem N2.mono (h : N2 t T R F v Vs X) (hle : RH.le R R') : N2 t T R' F v Vs X := let ⟨f0, Fs, a, b, c, d, e, g⟩ := h; ⟨f0, Fs, a, b.mono hle, c, d.mono hle, e, g⟩
theorem N2h.mono {k : Nat} (h : N2h t T k R F v Vs X) (hle : RH.le R R') : N2h t T k R' F v Vs X := let ⟨f0, Fs, a, b, c, d, e, g⟩ := h; ⟨f0, Fs, a, b.mono hle, c, d.mono hle, e, g⟩
theorem N2.o (h : N2 t T R F v Vs X) : ∃ f0, ORep tHdr R f0 v Vs ∧ Has F f0 ∧ Vs.length = X.length := let ⟨f0, Fs, a, b, c, d, e, g⟩ := h; ⟨f0, b, c, a⟩
theorem N2h.o {k : Nat} (h : N2h t T k R F v Vs X) : ∃ f0, ORep tHdr R f0 v Vs ∧ Has F f0 ∧ Vs.length = X.length := let ⟨f0, Fs, a, b, c, d, e, g⟩ := h; ⟨f0, b, c, a⟩
theorem N2.row (h : N2 t T R F v Vs X) {k : Nat} (hk : k < X.length) : ∃ fk, ORep T R fk (Vs.getD k default) (X.getD k default) ∧ Has F fk :=
  let ⟨f0, Fs, a, b, c, d, e, g⟩ := h; ⟨_, d.2.1 k hk (fun h => h)⟩
theorem N2.hole (h : N2 t T R F v Vs X) {k : Nat} (hk : k < X.length) : ∃ fk, ORep T R fk (Vs.getD k default) (X.getD k default) ∧ Has F fk ∧ N2h t T k R (minus F fk) v Vs X := by
  obtain ⟨f0, Fs, hl, h0, hF0, ⟨hr1, hr2, hr3⟩, hap, ht⟩ := h
  have n : ∀ j, ¬ (fun (_ : Nat) => False) j := fun _ h => h
  refine ⟨Fs.getD k emp, (hr2 k hk (n k)).1, (hr2 k hk (n k)).2, f0, Fs, hl, h0, zh4 hF0 (hap k hk).symm, ⟨hr1, fun j hj hjk => ⟨(hr2 j hj (n j)).1, zh4 (hr2 j hj (n j)).2 (hr3 k j hk hj (n k) (n j) (fun e => hjk e.symm))⟩, fun i j hi hj hik hjk hij => hr3 i j hi hj (n i) (n j) hij⟩, fun j hj _ => hap j hj, fun e j hj _ => ht e j hj (n j)⟩
theorem N2h.fill {k : Nat} {G fk : Frag} {u : Value} {Y : List α} (h : N2h t T k R G v Vs X) (hk : k < X.length) (hf : ORep T R fk (Vs.getD k default) Y) (ha : Apart fk G) (ht' : t = true → capOf (Vs.getD k default) = Y.length) :
    N2 t T R (z2u fk G) v Vs (X.set k Y) := by
  obtain ⟨f0, Fs, hl, h0, hG0, ⟨hr1, hr2, hr3⟩, hap, ht⟩ := h
  have hx := fun j => z6o (X := X) (j := j) (y := Y) (d := default) hk
  have hg := fun j => z6o (X := Fs) (j := j) (y := fk) (d := emp) (k := k) (by omega)
  refine ⟨f0, Fs.set k fk, by simp [hl], h0, (z6a ha).trans hG0, ⟨by simp [hr1], fun j hj _ => ?_, fun i j hi hj _ _ hij => ?_⟩, fun j hj => ?_, fun e j hj _ => ?_⟩
  · have hj' : j < X.length := by simpa using hj
    rw [hg, hx]
    by_cases e : j = k
    · subst e; rw [if_pos rfl, if_pos rfl]; exact ⟨hf, zbj⟩
    · rw [if_neg e, if_neg e]; exact ⟨(hr2 j hj' e).1, (z6a ha).trans (hr2 j hj' e).2⟩
  · have hi' : i < X.length := by simpa using hi
    have hj' : j < X.length := by simpa using hj
    rw [hg, hg]
    by_cases e1 : i = k
    · rw [if_pos e1, if_neg (fun e => hij (e1.trans e.symm))]
      exact (hr2 j hj' (fun e => hij (e1.trans e.symm))).2.apart ha
    · by_cases e2 : j = k
      · rw [if_neg e1, if_pos e2]; exact ((hr2 i hi' e1).2.apart ha).symm
      · rw [if_neg e1, if_neg e2]; exact hr3 i j hi' hj' e1 e2 hij
  · have hj' : j < X.length := by simpa using hj
    rw [hg]
    by_cases e : j = k
    · rw [if_pos e]; exact (hG0.apart ha).symm
    · rw [if_neg e]; exact hap j hj' e
  · have hj' : j < X.length := by simpa using hj
    rw [hx]
    by_cases e' : j = k
    · subst e'; rw [if_pos rfl]; exact ht' e
    · rw [if_neg e']; exact ht e j hj' e'
theorem zql : N2 t T R emp (.slice none 0 0) [] ([] : List (List α)) :=
  ⟨emp, [], rfl, .inl ⟨rfl, rfl, rfl⟩, zpi, ⟨rfl, fun j hj => by simp at hj, fun i j hi => by simp at hi⟩, fun j hj => by simp at hj, fun _ j hj => by simp at hj⟩
theorem zgk {β : Type} {m j : Nat} {y d : β} (h : j < m) : (List.replicate m y).getD j d = y := by simp [List.getD_eq_getElem?_getD, h]
theorem zeb {β : Type} {m j : Nat} {y : β} : (List.replicate m y).getD j y = y := by simp only [List.getD_eq_getElem?_getD, List.getElem?_replicate]; split <;> rfl
theorem zzi {f : Frag} {m : Nat} (h : ORep tHdr R f v (List.replicate m (Value.slice none 0 0))) : N2 t T R f v (List.replicate m (Value.slice none 0 0)) (List.replicate m ([] : List α)) := by
  refine ⟨f, List.replicate m emp, by simp, h, zpi, ⟨by simp, fun j hj _ => ?_, fun i j hi hj _ _ _ => ?_⟩, fun j hj => ?_, fun _ j hj _ => ?_⟩
  · have hj' : j < m := by simpa using hj
    rw [zeb, zgk hj', zgk hj']
    exact ⟨.inl ⟨rfl, rfl, rfl⟩, zzr⟩
  · rw [zeb, zeb]; exact apart_emp
  · rw [zeb]; exact apart_emp.symm
  · have hj' : j < m := by simpa using hj
    rw [zgk hj', zgk hj']; rfl
end n2
theorem zoe {R : RH} {f g : Frag} {O : List Frag} {w : World} (h : Holds R (f :: g :: O) w) : Apart f g := fun k => (List.pairwise_cons.1 h.sep).1 g (by simp) k
theorem zfk {P : Program} {ρ : Option Nat} {o : Oper} {l : Nat → Value} {R : RH} {O O1 Or : List Frag} {φ1 φ : Value → RH → List Frag → Prop} (hin : ∀ A w, Holds R (O ++ A) w → Holds R (O1 ++ (Or ++ A)) w)
    (h : Eff P ρ o l R O1 φ1) (hout : ∀ v R' O1', RH.le R R' → φ1 v R' O1' → ∀ A w, Holds R' (O1' ++ (Or ++ A)) w → ∃ O', Holds R' (O' ++ A) w ∧ φ v R' O') : Eff P ρ o l R O φ := by
  intro A w hh
  refine zba (h (Or ++ A) w (hin A w hh)) ?_
  rintro v w' ⟨R', O1', hle, hh', hp⟩
  obtain ⟨O', h1, h2⟩ := hout v R' O1' hle hp A w' hh'
  exact ⟨R', O', hle, h1, h2⟩
section vals
variable {P : Program} {ρ : Option Nat} {l : Nat → Value} {R : RH} {O : List Frag} {dst : Option Tmp} {ty : TypeId} {pos : String} {after : Array Go.Edge} {g : Option (Nat × Bool)}
theorem zlb {α : Type} {T : Ty α} {t : TypeId} {x : Operand} {f F : Frag} {v u : Value} {X : List α} {i j : Nat} {y : α} (ht : TyOk P t T) (hv : ORep T R f v X) (hF : Has F f) (hO : O[j]? = some F)
    (hx : ev l x = u) (hp : z5e T v X u i) (hy : X[i]? = some y) :
    ∃ u, VRep T R u y ∧ ∀ (dst : Option Tmp) (ty : TypeId) (pos : String) (after : Array Go.Edge) (g : Option (Nat × Bool)), Val P ρ ⟨dst, .load t x, ty, pos, after, g⟩ l R O u := by
  obtain ⟨b, off, hb, rfl⟩ := hp
  rcases hv with ⟨rfl, rfl, _⟩ | ⟨b', pre, cs, cap, bt, rfl, rfl, hc, hcl, hcc, hel⟩
  · simp at hy
  · simp only [capOf, Value.slice.injEq, Option.some.injEq, Addr.mk.injEq, and_true] at hb
    obtain ⟨rfl, rfl⟩ := hb
    have hr : T.rep R (ym (pre ++ cs).toArray (pre.length + i * T.size) T.size) y := by rw [z3v]; simpa [ym] using hel i y hy
    refine ⟨T.mk' (ym (pre ++ cs).toArray (pre.length + i * T.size) T.size), ⟨_, hr, rfl⟩, fun dst ty pos after g A w hh => ?_⟩
    rw [jm (by intro c h; cases h)]
    have hblk : w.heap[b']? = some (.cells (pre ++ cs).toArray bt (0, 0)) := z1z hh (i := j) (by rw [List.getElem?_append_left (by exact (List.getElem?_eq_some_iff.1 hO).1)]; exact hO) (hF _ _ (uh _ _))
    simp only [execOp, hx, Instr.loadAt, Instr.sureAddr, Sem.run_bind, Sem.run_pure, Result.andThen_ok, zau ht hblk (R := R) (x := y) hr]
end vals
end GV
end Go.Proofs.YtkcccdcloealfaaGreat

namespace Go.Proofs.YtkcccdcloealfaaGreat
namespace GV
open Go.IntWalk
def zoh (P : Program) (f : FuncId) (cs : List Value) (R : RH) {α : Type} (enc : α → List Value → RH → Prop) (IT : (σ : Type) → (α → σ → Option (Bool × σ)) → σ → Option σ) : Prop :=
  ∀ (yv : Value) (σ : Type) (B : α → σ → Option (Bool × σ)) (I : σ → RH → List Frag → Prop) (R1 : RH) (O : List Frag) (s0 s1 : σ), RH.le R R1 →
    (∀ s R2 R3 O2, RH.le R2 R3 → I s R2 O2 → I s R3 O2) → I s0 R1 O → IT σ B s0 = some s1 →
    (∀ x s b s' R2 O2 vs, RH.le R1 R2 → enc x vs R2 → I s R2 O2 → B x s = some (b, s') → CallV P yv vs.toArray R2 O2 (fun v R3 O3 => v = .bool b ∧ I s' R3 O3)) →
    CallG P f (yv :: cs).toArray R1 O (fun v R' O' => I s1 R' O')
theorem zec {P : Program} {ρ : Option Nat} {n : Nat} {Q : Po} {l : Nat → Value} {D : List Nat} {R : RH} {O : List Frag} {ops : Array Oper} {rest : List Oper} {ty : TypeId} {pos : String} {after : Array Go.Edge} {d : Nat}
    {c : Operand} {args : List Operand} {at' : Array TypeId} {fv : Value} {vs : List Value} {J Oc A : List Frag} {b : Bool} {I : RH → List Frag → Prop} (hd : Nat.blt d n = true) (hc : ev l c = fv) (ha : args.map (ev l) = vs) (hO : O = J ++ (Oc ++ A))
    (h : CallV P fv vs.toArray R Oc (fun v R' O' => v = .bool b ∧ I R' O'))
    (hk : ∀ R' Oc', RH.le R R' → I R' Oc' → wo P ρ n ops Q rest (upd l d (.bool b)) D R' (J ++ (Oc' ++ A))) : wo P ρ n ops Q (⟨some d, .call ⟨.value c, args.toArray, at'⟩, ty, pos, after, none⟩ :: rest) l D R O :=
  zis (Oc := Oc) (Or := J ++ A) hd hc ha (by subst hO; exact zlf) h fun v R' Oc' hle ⟨hv, hI⟩ => by subst hv; exact zzk zlf (hk R' Oc' hle hI)
def q6j {σ : Type} (R0 : RH) (lb n : Nat) (l : Nat → Value) (ps : List Nat) (assign body : Code) (I : σ → RH → List Frag → Prop) (E : σ → Code → RH → List Frag → Prop) (s : σ) (R : RH) (O : List Frag) : Prop :=
  RH.le R0 R ∧ ∃ L Oc', O = zdk lb L :: Oc' ∧ ((q29 L n l ps assign body ∧ L.state = .ready ∧ L.pending = none ∧ I s R Oc') ∨ (∃ c, L.state = .done ∧ L.pending = some c ∧ E s c R Oc'))
theorem CallG.mono2 {P : Program} {f : FuncId} {args : Array Value} {R : RH} {O : List Frag} {post post' : Value → RH → List Frag → Prop} (h : CallG P f args R O post)
    (hp : ∀ v R' O', RH.le R R' → post v R' O' → ∃ J O'', O'.Perm (J ++ O'') ∧ post' v R' O'') : CallG P f args R O post' := fun A w hh =>
  Calls.mono (h A w hh) fun e w' ⟨v, he, R', O', a, b, c⟩ => let ⟨J, O'', hpm, hq⟩ := hp v R' O' a c; ⟨v, he, R', O'', a, zf1 hpm b, hq⟩
theorem zfz {P : Program} {n : Nat} {Q : Po} {l : Nat → Value} {D : List Nat} {R : RH} {O : List Frag} {gv : Operand} {ps : List Nat} {assign body : Code} {f : FuncId} {cs : List Value} {Oc Or : List Frag} {α σ : Type} {enc : α → List Value → RH → Prop}
    {IT : (σ : Type) → (α → σ → Option (Bool × σ)) → σ → Option σ} (B : α → σ → Option (Bool × σ)) (I : σ → RH → List Frag → Prop) (E : σ → Code → RH → List Frag → Prop) (s0 s1 : σ)
    (hg : ev l gv = .func (.func f) #[] cs.toArray) (he : Enters P f) (hit : zoh P f cs R enc IT) (hp : O.Perm (Oc ++ Or)) (hpn : (ps.all fun p => Nat.blt p n) = true)
    (hlen : ∀ x R vs, enc x vs R → vs.length = ps.length) (hmI : ∀ s R2 R3 O2, RH.le R2 R3 → I s R2 O2 → I s R3 O2) (hmE : ∀ s c R2 R3 O2, RH.le R2 R3 → E s c R2 O2 → E s c R3 O2)
    (hst : ∀ s c R O x, E s c R O → B x s = none) (h0 : I s0 R Oc) (hrun : IT σ B s0 = some s1)
    (hround : ∀ x s b s' lb R1 vs Oc1, RH.le R R1 → enc x vs R1 → I s R1 Oc1 → B x s = some (b, s') → ∀ X, wg P (some lb) n assign (fun e l1 D1 R2 O1 => e = .normal ∧ D1 = [] ∧ RH.le R1 R2 ∧ ∃ Oa, O1.Perm (Oa ++ X) ∧
      ∀ X', wg P (some lb) n body (zxp R1 X' (fun p R3 O3 => match p with | none => b = true ∧ I s' R3 O3 | some c => b = false ∧ E s' c R3 O3)) l1 [] R2 (Oa ++ X')) (zia (ps.zip vs) l) [] R1 (Oc1 ++ X))
    (hend : ∀ dd R1 Oc1, RH.le R R1 → I s1 R1 Oc1 → ∃ J F, Oc1.Perm (J ++ F) ∧ Q .normal l (dd :: D) R1 (F ++ Or))
    (hexit : ∀ c dd R1 Oc1, RH.le R R1 → E s1 c R1 Oc1 → wg P none n c Q l (dd :: D) R1 (Oc1 ++ Or)) : wg P none n (.rangeFunc gv ps.toArray assign body) Q l D R O := by
  refine zms (f := f) (fs := #[]) (cs := cs.toArray) hg he hp fun lb dd fn t hft => ?_
  have hargs : (#[] ++ #[Value.func (Fn.yield lb) #[] #[]] ++ cs.toArray : Array Value) = (Value.func (Fn.yield lb) #[] #[] :: cs).toArray := by simp
  rw [hargs]
  have hpn' : ∀ p ∈ ps, p < n := fun p hp => by simpa [Nat.blt_eq] using List.all_eq_true.1 hpn p hp
  refine CallG.mono2 (hit (.func (.yield lb) #[] #[]) σ B (q6j R lb n l ps assign body I E) R _ s0 s1 (RH.le.refl _) ?_ ⟨RH.le.refl _, _, _, rfl, .inl ⟨⟨hft, rfl, rfl, rfl⟩, rfl, rfl, h0⟩⟩ hrun ?_) ?_
  · rintro s R2 R3 O2 hle ⟨h1, L, Oc', h2, h3⟩
    refine ⟨h1.trans hle, L, Oc', h2, ?_⟩
    rcases h3 with ⟨a, b, c, d⟩ | ⟨c, a, b, d⟩
    · exact .inl ⟨a, b, c, hmI _ _ _ _ hle d⟩
    · exact .inr ⟨c, a, b, hmE _ _ _ _ _ hle d⟩
  · rintro x s b s' R2 O2 vs hle hA ⟨h1, L, Oc', rfl, h3⟩ hB
    rcases h3 with ⟨⟨hfr, hps, has, hbd⟩, hst', hpe, hI⟩ | ⟨c, _, _, hE⟩
    · refine CallV.mono (zpa (n := n) (l := l) (ps := ps) (RP := fun p R3 O3 => RH.le R R3 ∧ (match p with | none => b = true ∧ I s' R3 O3 | some c => b = false ∧ E s' c R3 O3)) hst' hps (hlen x R2 vs hA).symm hpn' hfr ?_) ?_
      · intro X
        have := hround x s b s' lb R2 vs Oc' h1 hA hI hB X
        rw [has, hbd]
        refine ze6 this ?_
        rintro e l1 D1 R3 O1 ⟨he', hD, hle3, Oa, hpa, hb⟩
        refine ⟨he', hD, hle3, Oa, hpa, fun X' => ze6 (hb X') ?_⟩
        intro e l2 D2 R4 O4 hq
        cases e with
        | normal => obtain ⟨a, b, O', c, d⟩ := hq; exact ⟨a, b, O', c, h1.trans b, d⟩
        | ret => obtain ⟨a, b, O', c, d⟩ := hq; exact ⟨a, b, O', c, h1.trans b, d⟩
        | exit id => obtain ⟨a, b, O', c, d⟩ := hq; exact ⟨a, b, O', c, h1.trans b, d⟩
        | goto _ => exact hq
        | panic _ => exact hq
        | outgrown => exact hq
      · rintro v R' O' hle2 ⟨pend, O'', rfl, rfl, hle3, hrp⟩
        cases pend with
        | none => obtain ⟨rfl, hI'⟩ := hrp; exact ⟨rfl, hle3, _, _, rfl, .inl ⟨⟨hfr, hps, has, hbd⟩, rfl, rfl, hI'⟩⟩
        | some c => obtain ⟨rfl, hE'⟩ := hrp; exact ⟨rfl, hle3, _, _, rfl, .inr ⟨c, rfl, rfl, hE'⟩⟩
    · rw [hst s c R2 Oc' x hE] at hB; cases hB
  · rintro v R' O' hle ⟨h1, L, Oc', rfl, h3⟩
    rcases h3 with ⟨hL, hst', hpe, hI⟩ | ⟨c, hst', hpe, hE⟩
    · obtain ⟨J, F, hp1, hq⟩ := hend dd R' Oc' h1 hI
      refine ⟨J, zdk lb L :: F, (hp1.cons _).trans List.perm_middle.symm, L, F, rfl, by rw [hst']; exact fun h => (by cases h), ?_⟩
      rw [hpe]; exact hq
    · refine ⟨[], _, List.Perm.refl _, L, Oc', rfl, by rw [hst']; exact fun h => (by cases h), ?_⟩
      rw [hpe]; exact hexit c dd R' Oc' h1 hE
theorem zfm {O J F X : List Frag} (h : O.Perm (J ++ F)) : (O ++ X).Perm (J ++ (F ++ X)) := by rw [← List.append_assoc]; exact h.append_right X
section more
variable {P : Program} {ρ : Option Nat} {n : Nat} {Q : Po} {l : Nat → Value} {D : List Nat} {R : RH} {O : List Frag} {ops : Array Oper} {rest : List Oper} {dst : Option Tmp} {ty : TypeId} {pos : String} {after : Array Go.Edge} {g : Option (Nat × Bool)} {d : Nat}
theorem z2p {s t : TypeId} {x : Operand} {k : IntKind} {ds : TypeDesc} {m : Int} (hs : P.underlying s = some ds) (hd : P.underlying t = some (.int .i64)) (hx : ev l x = .int k m) (hb : in64 m) :
    Val P ρ ⟨dst, .convert s t x, ty, pos, after, g⟩ l R O (.int .i64 m) := by
  have := zf3 (P := P) (ρ := ρ) (R := R) (O := O) (dst := dst) (ty := ty) (pos := pos) (after := after) (g := g) hs hd hx
  rwa [i64_in _ hb] at this
structure ArrOk (P : Program) (t : TypeId) (m sz : Nat) : Prop where
  run : ∀ (b off i : Nat) (k : IntKind) (w : World), i < m → (Instr.indexAt t (.pointer (some ⟨b, off, none⟩)) (.int k i)).run P w = .ok (.pointer (some ⟨b, off + i * sz, none⟩)) w
theorem zjy {t e : TypeId} {m sz : Nat} (hu : P.underlying t = some (.array m e)) (hs : ∀ w, (sizeOf e).run P w = .ok sz w) : ArrOk P t m sz := by
  refine ⟨fun b off i k w hi => ?_⟩
  have h1 : (0 : Int) ≤ (i : Int) ∧ (i : Int) < (m : Int) := ⟨by omega, by omega⟩
  simp only [Instr.indexAt, asIntOf, Instr.sureAddr, Sem.run_bind, Sem.run_pure, Result.andThen_ok, underlying, run_program, hu]
  simp only [h1, and_self, if_true, Sem.run_bind, hs, Result.andThen_ok, Sem.run_pure, Int.toNat_natCast, addr_add]
theorem z8f {t : TypeId} {m sz i b off : Nat} {x ix : Operand} {k : IntKind} (ha : ArrOk P t m sz) (hx : ev l x = .pointer (some ⟨b, off, none⟩)) (hi : ev l ix = .int k i) (hm : i < m) :
    Val P ρ ⟨dst, .indexAddr t x ix, ty, pos, after, g⟩ l R O (.pointer (some ⟨b, off + i * sz, none⟩)) := by
  intro A w hh; rw [jm (by intro c h; cases h)]
  simp [execOp, hx, hi, ha.run b off i k w hm]
theorem z8h {f : FuncId} {c : Operand} {args : List Operand} {at' : Array TypeId} {cs vs : List Value} {Oc Or : List Frag} {post : Value → RH → List Frag → Prop} (hd : Nat.blt d n = true) (he : Enters P f) (hc : ev l c = .func (.func f) #[] cs.toArray) (ha : args.map (ev l) = vs) (hp : O.Perm (Oc ++ Or))
    (h : CallG P f (vs ++ cs).toArray R Oc post) (hk : ∀ v R' Oc', RH.le R R' → post v R' Oc' → wo P ρ n ops Q rest (upd l d v) D R' (Oc' ++ Or)) : wo P ρ n ops Q (⟨some d, .call ⟨.value c, args.toArray, at'⟩, ty, pos, after, none⟩ :: rest) l D R O :=
  zis hd hc ha hp (zf4 he (by simp) h) hk
theorem zl3 {f : FuncId} {c : Operand} {args : List Operand} {at' : Array TypeId} {cs vs : List Value} {post : Value → RH → Prop} (he : Enters P f) (hc : ev l c = .func (.func f) #[] cs.toArray) (ha : args.map (ev l) = vs) (h : CallP P f (vs ++ cs).toArray R post) :
    Eff P ρ ⟨dst, .call ⟨.value c, args.toArray, at'⟩, ty, pos, after, g⟩ l R O (fun v R' O' => O' = O ∧ post v R') :=
  zh3 he hc (z9v ha) (by simp) h
theorem zki {f : FuncId} {c : Operand} {args : List Operand} {at' : Array TypeId} {cs vs : List Value} {post : Value → RH → Prop} (hd : Nat.blt d n = true) (he : Enters P f) (hc : ev l c = .func (.func f) #[] cs.toArray) (ha : args.map (ev l) = vs) (h : CallP P f (vs ++ cs).toArray R post)
    (hk : ∀ v R', RH.le R R' → post v R' → wo P ρ n ops Q rest (upd l d v) D R' O) : wo P ρ n ops Q (⟨some d, .call ⟨.value c, args.toArray, at'⟩, ty, pos, after, none⟩ :: rest) l D R O :=
  z5p hd (zl3 he hc ha h) fun v R' O' hle ⟨hO, hp⟩ => by subst hO; exact hk v R' hle hp
theorem zpp {f : FuncId} {c : Operand} {args : List Operand} {at' : Array TypeId} {cs vs : List Value} {post φ : Value → RH → Prop} (he : Enters P f) (hc : ev l c = .func (.func f) #[] cs.toArray) (ha : args.map (ev l) = vs) (h : CallP P f (vs ++ cs).toArray R post) (hp : ∀ v R', post v R' → φ v R') :
    Eff P ρ ⟨dst, .call ⟨.value c, args.toArray, at'⟩, ty, pos, after, g⟩ l R O (fun v' R' O' => O' = O ∧ φ v' R') :=
  (zl3 he hc ha h).mono fun v R' O' _ ⟨a, b⟩ => ⟨a, hp _ _ b⟩
theorem zih {f : FuncId} {c : Operand} {args : List Operand} {at' : Array TypeId} {cs vs : List Value} {φ : Value → Prop} (he : Enters P f) (hc : ev l c = .func (.func f) #[] cs.toArray) (ha : args.map (ev l) = vs)
    (h : ∀ R1, RH.le R R1 → (∀ f ∈ O, ∀ k o, f k = some o → R1.blk k = some o) → CallP P f (vs ++ cs).toArray R1 fun v _ => φ v) :
    Eff P ρ ⟨dst, .call ⟨.value c, args.toArray, at'⟩, ty, pos, after, g⟩ l R O (fun v R' O' => O' = O ∧ φ v) :=
  (zpq he hc ha h).mono fun v R' O' _ ⟨a, _, b⟩ => ⟨a, b⟩
theorem zkg {α : Type} {T : Ty α} {t : TypeId} {at' : Array TypeId} {e : TypeId} {x : Operand} {v : Value} {X : List α} (ht : at'[0]? = some t) (hu : P.underlying t = some (.slice e)) (hx : ev l x = v) (hr : VRep (tSl true T) R v X) :
    Val P ρ ⟨dst, .call ⟨.builtin .cap, #[x], at'⟩, ty, pos, after, g⟩ l R O (.int .i64 X.length) := by
  have := zwt (P := P) (ρ := ρ) (O := O) (dst := dst) (ty := ty) (pos := pos) (after := after) (g := g) ht hu hx (j3 hr)
  rwa [q62 hr] at this
theorem zmt {α : Type} {X : List α} {lo hi : Int} (h : okS X lo hi) : (cut X lo hi).length = hi.toNat - lo.toNat := by
  obtain ⟨h1, h2, h3⟩ := h
  simp only [cut, List.length_take, List.length_drop]; omega
theorem ztp {α : Type} {T : Ty α} {t e : TypeId} {lo hi mx : Nat} {x : Operand} {xlo xhi xmx : Option Operand} {v : Value} {X X' : List α} (ht : SlOk P t e T) (hx : ev l x = v) (hr : VRep (yw T) R v X)
    (hlo : xlo.map (ev l) = none ∧ lo = 0 ∨ ∃ k, xlo.map (ev l) = some (.int k lo)) (hhi : xhi.map (ev l) = none ∧ hi = X.length ∧ xmx = none ∨ ∃ k, xhi.map (ev l) = some (.int k hi))
    (hmx : xmx.map (ev l) = none ∧ mx = capOf v ∨ ∃ k, xmx.map (ev l) = some (.int k mx)) (h1 : lo ≤ hi) (h2 : hi ≤ X.length) (h3 : X.length ≤ capOf v → hi ≤ mx) (h4 : X.length ≤ capOf v → mx ≤ capOf v) (hX : (X.drop lo).take (hi - lo) = X') :
    Eff P ρ ⟨dst, .slice t x xlo xhi xmx, ty, pos, after, g⟩ l R O (fun v' R' O' => O' = O ∧ phR (tSl false T) X' v' R') :=
  (zue ht hx hr hlo hhi hmx h1 h2 h3 h4 hX).mono fun _ _ _ _ ⟨a, b⟩ => ⟨a, z6i b⟩
theorem Eff.frzT {o : Oper} {α : Type} {T : Ty α} {X : List α} (h : Eff P ρ o l R O fun v R' O' => capOf v = X.length ∧ ∃ f, O' = f :: O ∧ ORep T R' f v X) : Eff P ρ o l R O fun v R' O' => O' = O ∧ phR (tSl true T) X v R' := by
  intro A w hh
  refine zba (h A w hh) ?_
  rintro v w' ⟨R', O', hle, hh', hc, f, rfl, ho⟩
  exact ⟨R'.add f, O, hle.trans (RH.le_add _ _), z90 hh', rfl, z1s (zai ho hh') hc⟩
theorem z96 {α : Type} {T : Ty α} {t e : TypeId} {z : α} {bytes m : Nat} {parts : List (Nat × Operand)} {ps : List (Nat × Value)} {css : List (List Value)} {X : List α} (hu : P.underlying t = some (.slice e)) (hz : ZeroOk P e T z bytes)
    (hp : (parts.map fun x => (x.1, ev l x.2)) = ps) (hps : ps.map (fun p => (p.1, p.2.cells)) = css.zipIdx.map (fun x => (x.2, x.1.toArray))) (hX : ∀ (i : Nat) (c : List Value) (x : α), css[i]? = some c → X[i]? = some x → T.rep R c x)
    (hl : css.length = X.length) (hn : X.length = m) (hbig : m * T.size ≤ 16777216) : Eff P ρ ⟨dst, .buildSlice t m parts.toArray, ty, pos, after, g⟩ l R O fun v R' O' => O' = O ∧ phR (tSl true T) X v R' :=
  Eff.frzT ((zdo hu hz (by rw [List.map_toArray]; exact congrArg List.toArray hp) hps hX hl hn hbig).mono fun v R' O' _ ⟨hR, hc, f, hO, h⟩ => by subst hR; exact ⟨hc, f, hO, h⟩)
abbrev okQ (a b : Int) : Prop := 0 ≤ a ∧ a ≤ 9223372036854775807 ∧ 1 ≤ b
abbrev okR (a b : Int) : Prop := 0 ≤ a ∧ 1 ≤ b
end more
end GV
end Go.Proofs.YtkcccdcloealfaaGreat

namespace Go.Proofs.YtkcccdcloealfaaGreat
namespace GV
def zcr (φs : List (List Value → Value → RH → Prop)) (k : Nat) : List Value → Value → RH → Prop := φs.getD k fun _ _ _ => True
def zbb (os : List Oper) (E : List Nat) (l : Nat → Value) : List Value := E.map fun e => match mh os e with | some d => l d | none => undef
def zi5 (E : List Nat) (listed : Array Bool) : List Bool := E.map fun e => listed.getD e false
def zwq (os : List Oper) (φs : List (List Value → Value → RH → Prop)) (es : List Value) (l : Nat → Value) (R : RH) : List Go.Edge → Prop
  | [] => True
  | e :: r => (match mh os e.on with | some d => Region.binds .any e = true → zcr φs e.on es (l d) R | none => True) ∧ zwq os φs es l R r
def kn (os : List Oper) (E : List Nat) (i : Nat) (o : Oper) (fl : List Bool) : Bool :=
  (E.zip fl).all fun x => (!(forced os o i).contains x.1 || x.2) && (match os[x.1]? with | some oe => !(forced os oe x.1).contains i || !x.2 | none => true)
def zxx (os : List Oper) (E : List Nat) (k : Nat) (o : Oper) (p : Nat) : Bool := match E[p]? with | some e => Nat.beq e k || (forced os o k).contains e | none => true
def zlj (o : Oper) (es : List Value) (p : Nat) (v : Value) : List Value := match o.dst with | some _ => es.set p v | none => es
def agB (os : List Oper) (i s : Nat) : Bool := bif (zgp os).contains s then os.zipIdx.any (fun x => match x.1.dst with | some d => Nat.beq d s && !((forced os x.1 x.2).contains i) | none => false) else false
def AgI (os : List Oper) (i : Nat) (l0 l : Nat → Value) : Prop := ∀ s, agB os i s = false → l s = l0 s
section defs
variable (P : Program) (ρ : Option Nat) (os : List Oper) (E : List Nat) (φs : List (List Value → Value → RH → Prop)) (W : List Bool → List Value → RH → List Frag → Prop) (l0 : Nat → Value) (R0 : RH)
def q12 (k : Nat) (o : Oper) : Prop := ∀ l R fl O, RH.le R0 R → AgI os k l0 l → zwq os φs (zbb os E l) l R o.after.toList → kn os E k o fl = true → W fl (zbb os E l) R O →
  Eff P ρ o l R O fun v R' O' => O' = O ∧ zcr φs k (zbb os E l) v R'
def q4b (k : Nat) (o : Oper) (p : Nat) : Prop := ∀ l R fl O, RH.le R0 R → AgI os k l0 l → zwq os φs (zbb os E l) l R o.after.toList → kn os E k o fl = true → fl.getD p true = false → W fl (zbb os E l) R O →
  Eff P ρ o l R O fun v R' O' => zcr φs k (zlj o (zbb os E l) p v) v R' ∧ W (fl.set p true) (zlj o (zbb os E l) p v) R' O'
def zs7 : Nat → List Oper → Prop
  | _, [] => True
  | k, o :: r => (match E.idxOf? k with | some p => q4b P ρ os E φs W l0 R0 k o p | none => q12 P ρ os E φs W l0 R0 k o) ∧ zs7 (k + 1) r
def FSt : Nat → List Oper → Prop
  | _, [] => True
  | k, o :: r => (∀ es es' v R, (∀ p, zxx os E k o p = true → es.getD p undef = es'.getD p undef) → zcr φs k es v R → zcr φs k es' v R) ∧ FSt (k + 1) r
def zmg (n : Nat) : Bool :=
  (os.zipIdx.all fun (o, i) => o.guard.isNone && (match o.dst with | some d => Nat.blt d n | none => E.contains i)) && decide (zgp os).Nodup &&
  (os.zipIdx.all fun (o, i) => o.after.all fun e => !Region.binds .any e || Nat.blt e.on i) && decide E.Nodup && E.all fun e => Nat.blt e os.length
def zyi (K : List (Nat × Value) → Prop) : List Oper → Prop
  | [] => K []
  | o :: r => match o.dst with
    | none => zyi K r
    | some d => ∀ v, zyi (fun acc => K ((d, v) :: acc)) r
def look (acc : List (Nat × Value)) (d : Nat) : Value := match acc with
  | [] => undef
  | (e, v) :: r => bif Nat.beq e d then v else look r d
def esA (acc : List (Nat × Value)) : List Value := E.map fun e => match mh os e with | some d => look acc d | none => undef
def zw7 (es : List Value) (acc : List (Nat × Value)) (R : RH) (K : Prop) : Nat → List Oper → Prop
  | _, [] => K
  | k, o :: r => match o.dst with
    | none => zw7 es acc R K (k + 1) r
    | some d => zcr φs k es (look acc d) R → zw7 es acc R K (k + 1) r
end defs
section free
variable {P : Program} {ρ : Option Nat} {n : Nat} {Q : Po} {D : List Nat} {os : List Oper} {E : List Nat} {φs : List (List Value → Value → RH → Prop)} {W : List Bool → List Value → RH → List Frag → Prop} {l0 : Nat → Value} {R0 : RH} {O : List Frag}
theorem zlh : ∀ (r : List Oper) (k : Nat), zs7 P ρ os E φs W l0 R0 k r → ∀ (i : Nat) (o : Oper), r[i]? = some o → (match E.idxOf? (k + i) with | some p => q4b P ρ os E φs W l0 R0 (k + i) o p | none => q12 P ρ os E φs W l0 R0 (k + i) o)
  | [], k, _, i, o, h => by simp at h
  | o' :: r, k, hO, i, o, h => by
    cases i with
    | zero => simp at h; subst h; exact hO.1
    | succ i =>
      have := zlh r (k + 1) hO.2 i o (by simpa using h)
      rwa [show k + 1 + i = k + (i + 1) from by omega] at this
theorem zsq : ∀ (r : List Oper) (k : Nat), FSt os E φs k r → ∀ (i : Nat) (o : Oper), r[i]? = some o → ∀ es es' v R, (∀ p, zxx os E (k + i) o p = true → es.getD p undef = es'.getD p undef) → zcr φs (k + i) es v R → zcr φs (k + i) es' v R
  | [], k, _, i, o, h => by simp at h
  | o' :: r, k, hO, i, o, h => by
    cases i with
    | zero => simp at h; subst h; exact hO.1
    | succ i =>
      have := zsq r (k + 1) hO.2 i o (by simpa using h)
      rwa [show k + 1 + i = k + (i + 1) from by omega] at this
theorem zs9 {es : List Value} {l : Nat → Value} {R : RH} : ∀ (r : List Go.Edge), (∀ e ∈ r, Region.binds .any e = true → ∀ d, mh os e.on = some d → zcr φs e.on es (l d) R) → zwq os φs es l R r
  | [], _ => trivial
  | e :: r, h => ⟨by
      cases hd : mh os e.on with
      | none => trivial
      | some d => exact fun hb => h e (List.mem_cons_self ..) hb d hd, zs9 r fun e' he' => h e' (List.mem_cons_of_mem _ he')⟩
theorem zhy (h : zmg os E n = true) : (∀ (i : Nat) o, os[i]? = some o → o.guard = none ∧ (∀ d, o.dst = some d → d < n) ∧ (o.dst = none → i ∈ E)) ∧ (zgp os).Nodup ∧
    (∀ (i : Nat) o, os[i]? = some o → ∀ e ∈ o.after, Region.binds .any e = true → e.on < i) ∧ E.Nodup ∧ ∀ e ∈ E, e < os.length := by
  simp only [zmg, Bool.and_eq_true, List.all_eq_true, decide_eq_true_eq] at h
  obtain ⟨⟨⟨⟨h1, h2⟩, h3⟩, h4⟩, h5⟩ := h
  have mem : ∀ (i : Nat) o, os[i]? = some o → (o, i) ∈ os.zipIdx := fun i o ho => by
    rw [List.mem_iff_getElem?]; exact ⟨i, by rw [List.getElem?_zipIdx, ho]; simp⟩
  refine ⟨fun i o ho => ?_, h2, fun i o ho e he hb => ?_, h4, fun e he => by simpa using h5 e he⟩
  · obtain ⟨g1, g2⟩ := h1 _ (mem i o ho)
    refine ⟨by simpa using g1, fun d hd => ?_, fun hd => ?_⟩
    · rw [hd] at g2; simpa using g2
    · rw [hd] at g2; simpa using g2
  · have := h3 _ (mem i o ho)
    simp only [Array.all_eq_true_iff_forall_mem] at this
    simpa [hb] using this e he
structure FJ (os : List Oper) (E : List Nat) (φs : List (List Value → Value → RH → Prop)) (W : List Bool → List Value → RH → List Frag → Prop) (l0 : Nat → Value) (R0 : RH) (n : Nat) (D : List Nat) (listed : Array Bool) (a : Act) (w : World) : Prop where
  ex : ∃ l R O, Fr n l D a ∧ Holds R (O ++ D.map z5o) w ∧ RH.le R0 R ∧ W (zi5 E listed) (zbb os E l) R O ∧ Agree os l0 l ∧ (∀ i d, listed.getD i false = true → mh os i = some d → zcr φs i (zbb os E l) (l d) R) ∧ (∀ i d, listed.getD i false = false → mh os i = some d → l d = l0 d)
  closed : zc4 os listed
theorem zqi {E : List Nat} {i : Nat} (h : E.idxOf? i = none) : i ∉ E := by
  intro hm
  have := List.idxOf?_eq_none_iff.1 h
  exact this hm
theorem zrc {E : List Nat} {i p : Nat} (h : E.idxOf? i = some p) : E[p]? = some i := by
  have h' := h
  unfold List.idxOf? at h'
  obtain ⟨hlt, hp, _⟩ := List.findIdx?_eq_some_iff_getElem.1 h'
  rw [List.getElem?_eq_getElem hlt]
  have : E[p] = i := by simpa using hp
  rw [this]
theorem q5b {listed : Array Bool} (hc : zc4 os listed) {i : Nat} {o : Oper} (ho : os[i]? = some o) (hun : listed.getD i false = false) (hdep : ∀ e ∈ o.after, Region.binds .any e = true → listed.getD e.on false = true) : kn os E i o (zi5 E listed) = true := by
  unfold kn zi5
  rw [List.all_eq_true]
  rintro ⟨e, b⟩ hx
  have hb : b = listed.getD e false := by
    rw [List.mem_iff_getElem?] at hx
    obtain ⟨p, hp⟩ := hx
    rw [List.getElem?_zip_eq_some] at hp
    obtain ⟨h1, h2⟩ := hp
    rw [List.getElem?_map, h1] at h2
    simpa using h2.symm
  subst hb
  simp only [Bool.and_eq_true, Bool.or_eq_true, Bool.not_eq_true']
  refine ⟨?_, ?_⟩
  · by_cases h : (forced os o i).contains e = true
    · exact .inr (z4c hc hdep e (by simpa using h))
    · exact .inl (by simpa using h)
  · cases he : os[e]? with
    | none => rfl
    | some oe =>
      simp only [Bool.or_eq_true, Bool.not_eq_true']
      by_cases h : listed.getD e false = true
      · left
        cases hf : (forced os oe e).contains i with
        | false => rfl
        | true =>
          have := z4c hc (hc e oe he h) i (by simpa using hf)
          rw [this] at hun; cases hun
      · exact .inr (by simpa using h)
theorem zjq {l : Nat → Value} {i d : Nat} {v : Value} (hn : (zgp os).Nodup) (hi : i ∉ E) (hd : mh os i = some d) : zbb os E (upd l d v) = zbb os E l := by
  unfold zbb
  refine List.map_congr_left fun e he => ?_
  cases h : mh os e with
  | none => rfl
  | some d' =>
    have hne : d' ≠ d := fun e' => by subst e'; exact hi (zdy hn hd h ▸ he)
    show upd l d v d' = l d'
    unfold upd
    cases hb : Nat.beq d' d
    · rfl
    · exact absurd (Nat.eq_of_beq_eq_true hb) hne
theorem ztd {l : Nat → Value} {i p d : Nat} {v : Value} (hn : (zgp os).Nodup) (hE : E.Nodup) (hp : E[p]? = some i) (hd : mh os i = some d) : zbb os E (upd l d v) = (zbb os E l).set p v := by
  unfold zbb
  apply List.ext_getElem?
  intro j
  rw [List.getElem?_set, List.getElem?_map]
  have hlt : p < E.length := (List.getElem?_eq_some_iff.1 hp).1
  by_cases e : p = j
  · subst e
    rw [if_pos rfl, if_pos (by simpa using hlt), hp]
    simp [hd, upd]
  · rw [if_neg e, List.getElem?_map]
    cases hj : E[j]? with
    | none => rfl
    | some e' =>
      simp only [Option.map_some, Option.some.injEq]
      have hne : e' ≠ i := fun h => by
        subst h
        have h1 := (List.getElem?_eq_some_iff.1 hj).1
        exact e ((List.getElem?_inj hlt hE).1 (hp.trans hj.symm))
      cases h : mh os e' with
      | none => rfl
      | some d' =>
        have : d' ≠ d := fun h' => by subst h'; exact hne (zdy hn h hd)
        show upd l d v d' = l d'
        unfold upd
        cases hb : Nat.beq d' d
        · rfl
        · exact absurd (Nat.eq_of_beq_eq_true hb) this
theorem zqa {listed : Array Bool} {i : Nat} (hi : i ∉ E) : zi5 E (listed.setIfInBounds i true) = zi5 E listed :=
  List.map_congr_left fun e he => getD_set_ne false (fun h => hi (h ▸ he))
theorem zlr {listed : Array Bool} {i p : Nat} (hs : i < listed.size) (hE : E.Nodup) (hp : E[p]? = some i) : zi5 E (listed.setIfInBounds i true) = (zi5 E listed).set p true := by
  unfold zi5
  apply List.ext_getElem?
  intro j
  have hlt : p < E.length := (List.getElem?_eq_some_iff.1 hp).1
  rw [List.getElem?_set, List.getElem?_map]
  by_cases e : p = j
  · subst e
    rw [if_pos rfl, if_pos (by simpa using hlt), hp]
    simp only [Option.map_some]
    rw [z5v hs]
  · rw [if_neg e, List.getElem?_map]
    cases hj : E[j]? with
    | none => rfl
    | some e' =>
      simp only [Option.map_some, Option.some.injEq]
      refine getD_set_ne false fun h => ?_
      subst h
      exact e ((List.getElem?_inj hlt hE).1 (hp.trans hj.symm))
theorem zv2 {es : List Value} {p q : Nat} {v : Value} (h : p ≠ q) : (es.set p v).getD q undef = es.getD q undef := by
  simp [List.getD_eq_getElem?_getD, h]
theorem zp0 {listed : Array Bool} {i : Nat} {o : Oper} (hc : zc4 os listed) (ho : os[i]? = some o) (hun : listed.getD i false = false) (hdep : ∀ e ∈ o.after, Region.binds .any e = true → listed.getD e.on false = true) : zc4 os (listed.setIfInBounds i true) := by
  intro k o' ho' hk e he hb
  have hup : ∀ j, listed.getD j false = true → (listed.setIfInBounds i true).getD j false = true := fun j hj' => by
    by_cases e' : j = i
    · subst e'; rw [hj'] at hun; cases hun
    · rw [getD_set_ne false (Ne.symm e')]; exact hj'
  by_cases ek : k = i
  · subst ek
    rw [ho] at ho'
    obtain rfl := Option.some.inj ho'
    exact hup _ (hdep e he hb)
  · rw [getD_set_ne false (Ne.symm ek)] at hk
    exact hup _ (hc k o' ho' hk e he hb)
theorem zvb (hok : zmg os E n = true) (hmono : ∀ k es v R R', RH.le R R' → zcr φs k es v R → zcr φs k es v R') (hW : ∀ fl es R R' O, RH.le R R' → W fl es R O → W fl es R' O) (hst : FSt os E φs 0 os) (hobl : zs7 P ρ os E φs W l0 R0 0 os)
    {listed : Array Bool} {a : Act} {w : World} {i : Nat} {o : Oper} (hsz : listed.size = os.length) (hi : os[i]? = some o)
    (hj : FJ os E φs W l0 R0 n D listed a w) (hun : listed.getD i true = false) (hdep : ∀ e ∈ o.after, Region.binds .any e = true → listed.getD e.on false = true) :
    wpOpIn (wide ρ) 0 P os.toArray (lift n Q) i (FJ os E φs W l0 R0 n D (listed.setIfInBounds i true)) a w := by
  obtain ⟨s1, s2, s3, s4, s5⟩ := zhy hok
  obtain ⟨⟨l, R, O', hf, hh, hle, hos, hag, hφ, hun0⟩, hcl⟩ := hj
  obtain ⟨hg, hdst, hms⟩ := s1 i o hi
  have hlt : i < os.length := (List.getElem?_eq_some_iff.1 hi).1
  have hio : os.toArray[i]? = some o := by simp [hi]
  have hun' : listed.getD i false = false := by
    rw [Array.getD_eq_getD_getElem?, Array.getElem?_eq_getElem (by omega)] at hun ⊢
    simpa using hun
  have hkn := q5b (E := E) hcl hi hun' hdep
  have hfd : zwq os φs (zbb os E l) l R o.after.toList := zs9 _ fun e he hb d' hd' => hφ e.on d' (hdep e (by simpa using he) hb) hd'
  have hst' := zlh os 0 hobl i o hi
  rw [Nat.zero_add] at hst'
  have hlist : ∀ k, k ≠ i → (listed.setIfInBounds i true).getD k false = listed.getD k false := fun k hk => getD_set_ne false (Ne.symm hk)
  have hcl' := zp0 hcl hi hun' hdep
  have hagree : ∀ d v, mh os i = some d → Agree os l0 (upd l d v) := fun d v hdi s hs => by
    have hne : s ≠ d := fun e => by subst e; have := zmc hdi; simp [this] at hs
    have : upd l d v s = l s := by
      unfold upd
      cases hb : Nat.beq s d
      · rfl
      · exact absurd (Nat.eq_of_beq_eq_true hb) hne
    rw [this]; exact hag s hs
  have hother : ∀ d v k d', mh os i = some d → k ≠ i → mh os k = some d' → upd l d v d' = l d' := fun d v k d' hdi hk hd' => by
    have hne : d' ≠ d := fun e => by subst e; exact hk (zdy s2 hd' hdi)
    unfold upd
    cases hb : Nat.beq d' d
    · rfl
    · exact absurd (Nat.eq_of_beq_eq_true hb) hne
  have hkeep : ∀ d v, mh os i = some d → ∀ k d', (listed.setIfInBounds i true).getD k false = false → mh os k = some d' → upd l d v d' = l0 d' := fun d v hdi k d' hk hd' => by
    by_cases e : k = i
    · subst e; rw [z5v (by omega)] at hk; cases hk
    · rw [hother d v k d' hdi e hd']; exact hun0 k d' (by rw [hlist k e] at hk; exact hk) hd'
  have hkeep0 : ∀ k d', (listed.setIfInBounds i true).getD k false = false → mh os k = some d' → l d' = l0 d' := fun k d' hk hd' => by
    by_cases e : k = i
    · subst e; rw [z5v (by omega)] at hk; cases hk
    · exact hun0 k d' (by rw [hlist k e] at hk; exact hk) hd'
  have hagI : AgI os i l0 l := fun s hs => by
    by_cases hm : (zgp os).contains s = true
    · have hm' : s ∈ zgp os := by simpa using hm
      obtain ⟨oj, hoj, hjd⟩ := List.mem_filterMap.1 hm'
      obtain ⟨j, hj⟩ := List.mem_iff_getElem?.1 hoj
      unfold agB at hs
      rw [hm] at hs
      simp only [cond_true, List.any_eq_false] at hs
      have h1 := hs (oj, j) (by rw [List.mem_iff_getElem?]; exact ⟨j, by rw [List.getElem?_zipIdx, hj]; simp⟩)
      simp only [hjd] at h1
      have h2 : (forced os oj j).contains i = true := by
        cases hc : (forced os oj j).contains i with
        | true => rfl
        | false => rw [hc] at h1; simp at h1
      cases hjl : listed.getD j false with
      | true =>
        have := z4c hcl (hcl j oj hj hjl) i (by simpa using h2)
        rw [this] at hun'; cases hun'
      | false => exact hun0 j s hjl (by simp [mh, hj, hjd])
    · exact hag s (by simpa using hm)
  unfold wpOpIn
  rw [hio]
  simp only [z8n hg, if_true]
  cases hE : E.idxOf? i with
  | none =>
    rw [hE] at hst'
    have hni := zqi hE
    have hds : ∃ d, o.dst = some d := by
      cases hd : o.dst with
      | none => exact absurd (hms hd) hni
      | some d => exact ⟨d, rfl⟩
    obtain ⟨d, hd⟩ := hds
    have hdi : mh os i = some d := by simp [mh, hi, hd]
    refine z8c (A := D.map z5o) hf hh (hst' l R _ O' hle hagI hfd hkn hos) ?_
    rintro v R' O'' w' hle' hh' ⟨rfl, hp⟩
    have hput : Fr n (upd l d v) D (a.put o.dst v) := by have := hf.put (d := o.dst) (fun t ht => hdst t ht) v; rw [hd] at this ⊢; exact this
    refine ⟨⟨upd l d v, R', O'', hput, hh', hle.trans hle', ?_, hagree d v hdi, fun k d' hk hd' => ?_, hkeep d v hdi⟩, hcl'⟩
    · rw [zqa hni, zjq s2 hni hdi]; exact hW _ _ _ _ _ hle' hos
    · rw [zjq s2 hni hdi]
      by_cases e : k = i
      · subst e; rw [hdi] at hd'; cases hd'
        have : upd l d v d = v := by simp [upd]
        rw [this]; exact hp
      · rw [hother d v k d' hdi e hd']
        exact hmono _ _ _ _ _ hle' (hφ k d' (by rw [hlist k e] at hk; exact hk) hd')
  | some p =>
    rw [hE] at hst'
    have hp := zrc hE
    have hplt : p < E.length := (List.getElem?_eq_some_iff.1 hp).1
    have hfl : (zi5 E listed).getD p true = false := by
      unfold zi5
      rw [List.getD_eq_getElem?_getD, List.getElem?_map, hp]
      simpa using hun'
    have hold : ∀ (es' : List Value) (R' : RH), RH.le R R' → (∀ q, q ≠ p → (zbb os E l).getD q undef = es'.getD q undef) → ∀ k d', k ≠ i → listed.getD k false = true → mh os k = some d' → zcr φs k es' (l d') R' := by
      intro es' R' hle' hes k d' hk hkl hd'
      have hok' : ∃ ok, os[k]? = some ok := by
        cases h : os[k]? with
        | none => simp [mh, h] at hd'
        | some ok => exact ⟨ok, rfl⟩
      obtain ⟨ok, hok'⟩ := hok'
      have := zsq os 0 hst k ok hok' (zbb os E l) es' (l d') R'
      rw [Nat.zero_add] at this
      refine this (fun q hq => ?_) (hmono _ _ _ _ _ hle' (hφ k d' hkl hd'))
      by_cases e : q = p
      · subst e
        exfalso
        unfold zxx at hq
        rw [hp] at hq
        simp only [Bool.or_eq_true] at hq
        rcases hq with hq | hq
        · exact hk (Nat.eq_of_beq_eq_true hq).symm
        · have := z4c hcl (hcl k ok hok' hkl) i (by simpa using hq)
          rw [this] at hun'; cases hun'
      · exact hes q e
    refine z8c (A := D.map z5o) hf hh (hst' l R _ O' hle hagI hfd hkn hfl hos) ?_
    rintro v R' O'' w' hle' hh' ⟨hpv, hw'⟩
    cases hd : o.dst with
    | none =>
      have hdi : mh os i = none := by simp [mh, hi, hd]
      have he : ∀ es, zlj o es p v = es := fun es => by simp [zlj, hd]
      rw [he] at hw'
      refine ⟨⟨l, R', O'', ?_, hh', hle.trans hle', ?_, hag, fun k d' hk hd' => ?_, hkeep0⟩, hcl'⟩
      · have := hf.put (d := o.dst) (fun t ht => hdst t ht) v; rw [hd] at this; exact this
      · rw [zlr (by omega) s4 hp]; exact hw'
      · have hne : k ≠ i := fun e => by subst e; rw [hdi] at hd'; cases hd'
        exact hold _ _ hle' (fun _ _ => rfl) k d' hne (by rw [hlist k hne] at hk; exact hk) hd'
    | some d =>
      have hdi : mh os i = some d := by simp [mh, hi, hd]
      have hput : Fr n (upd l d v) D (a.put (some d) v) := by have := hf.put (d := o.dst) (fun t ht => hdst t ht) v; rw [hd] at this; exact this
      have hes := ztd (l := l) (v := v) s2 s4 hp hdi
      have he : ∀ es, zlj o es p v = es.set p v := fun es => by simp [zlj, hd]
      rw [he] at hw' hpv
      refine ⟨⟨upd l d v, R', O'', hput, hh', hle.trans hle', ?_, hagree d v hdi, fun k d' hk hd' => ?_, hkeep d v hdi⟩, hcl'⟩
      · rw [zlr (by omega) s4 hp, hes]; exact hw'
      · rw [hes]
        by_cases e : k = i
        · subst e; rw [hdi] at hd'; cases hd'
          have : upd l d v d = v := by simp [upd]
          rw [this]; exact hpv
        · rw [hother d v k d' hdi e hd']
          exact hold _ _ hle' (fun q hq => (zv2 (Ne.symm hq)).symm) k d' e (by rw [hlist k e] at hk; exact hk) hd'
theorem zje {l : Nat → Value} : ∀ (r : List Oper) (K : List (Nat × Value) → Prop), zyi K r → K (r.filterMap fun o => o.dst.map fun d => (d, l d))
  | [], K, h => h
  | o :: r, K, h => by
    unfold zyi at h
    cases hd : o.dst with
    | none => rw [hd] at h; simpa [List.filterMap_cons, hd] using zje (l := l) r K h
    | some d => rw [hd] at h; simpa [List.filterMap_cons, hd] using zje (l := l) r _ (h (l d))
theorem zie {l : Nat → Value} {d : Nat} : ∀ (r : List Oper), d ∈ r.filterMap (·.dst) → look (r.filterMap fun o => o.dst.map fun d => (d, l d)) d = l d
  | [], h => by simp at h
  | o :: r, h => by
    cases hd : o.dst with
    | none =>
      simp only [List.filterMap_cons, hd, Option.map_none] at h ⊢
      exact zie r h
    | some d' =>
      simp only [List.filterMap_cons, hd, Option.map_some] at h ⊢
      unfold look
      cases hb : Nat.beq d' d
      · have hne : d' ≠ d := fun e => by subst e; simp at hb
        rcases List.mem_cons.1 h with e | h
        · exact absurd e.symm hne
        · exact zie r h
      · rw [Nat.eq_of_beq_eq_true hb]; rfl
theorem q1p {l : Nat → Value} : esA os E (os.filterMap fun o => o.dst.map fun d => (d, l d)) = zbb os E l := by
  unfold esA zbb
  refine List.map_congr_left fun e _ => ?_
  cases h : mh os e with
  | none => rfl
  | some d => exact zie os (zmc h)
theorem zik {es : List Value} {acc : List (Nat × Value)} {R : RH} {K : Prop} : ∀ (r : List Oper) (k : Nat), zw7 φs es acc R K k r → (∀ i o d, r[i]? = some o → o.dst = some d → zcr φs (k + i) es (look acc d) R) → K
  | [], k, h, _ => h
  | o :: r, k, h, hφ => by
    have hφ' : ∀ i o' d, r[i]? = some o' → o'.dst = some d → zcr φs (k + 1 + i) es (look acc d) R := fun i o' d hi hd' => by
      have := hφ (i + 1) o' d (by simpa using hi) hd'; rwa [show k + (i + 1) = k + 1 + i from by omega] at this
    unfold zw7 at h
    cases hd : o.dst with
    | none => rw [hd] at h; exact zik r (k + 1) h hφ'
    | some d => rw [hd] at h; exact zik r (k + 1) (h (hφ 0 o d rfl hd)) hφ'
def q39 (φs : List (List Value → Value → RH → Prop)) : Prop := ∀ k es v R R', RH.le R R' → zcr φs k es v R → zcr φs k es v R'
def q0r (φ : List Value → Value → RH → Prop) : Prop := ∀ es v R R', RH.le R R' → φ es v R → φ es v R'
def zrs : List (List Value → Value → RH → Prop) → Prop
  | [] => True
  | φ :: r => q0r φ ∧ zrs r
theorem zp5 : ∀ {φs : List (List Value → Value → RH → Prop)}, zrs φs → q39 φs
  | [], _ => fun k es v R R' _ _ => by simp [zcr]
  | φ :: r, h => fun k es v R R' hle hp => by
    cases k with
    | zero => exact h.1 es v R R' hle hp
    | succ k => exact zp5 (φs := r) h.2 k es v R R' hle hp
theorem ul {φ : Value → RH → Prop} (h : zpz φ) : q0r (fun _ => φ) := fun _ v R R' hle k => h v R R' hle k
theorem ze8 {id : Nat} (E : List Nat) (φs : List (List Value → Value → RH → Prop)) (W : List Bool → List Value → RH → List Frag → Prop) (hm : P.follows .mixedOrders = true) (hok : zmg os E n = true) (hmono : zrs φs)
    (hW : ∀ fl es R R' O, RH.le R R' → W fl es R O → W fl es R' O) (hst : FSt os E φs 0 os) (h0 : ∀ es, W (E.map fun _ => false) es R0 O) (hobl : zs7 P ρ os E φs W l0 R0 0 os)
    (hend : ∀ R, RH.le R0 R → zyi (fun acc => zw7 φs (esA os E acc) acc R (∀ O', W (E.map fun _ => true) (esA os E acc) R O' → ∃ J F, O'.Perm (J ++ F) ∧ wo P ρ n #[] Q [] (z6j l0 acc) D R F) 0 os) os) : wg P ρ n (.region id os.toArray true) Q l0 D R0 O := by
  intro a w hf hh
  refine wpIn_region_any hm ?_
  obtain ⟨s1, s2, s3, s4, s5⟩ := zhy hok
  have hmono' := zp5 hmono
  have hno : ∀ (k : Nat), (Array.replicate os.toArray.size false).getD k false = false := fun k => by
    rw [Array.getD_eq_getD_getElem?, Array.getElem?_replicate]; split <;> rfl
  have hready : ∀ (listed : Array Bool), listed.size = os.length → Region.ready .any os.toArray listed = [] → ∀ k, k < os.length → listed.getD k false = true := by
    intro listed hsz hr k
    induction k using Nat.strongRecOn with
    | _ k ih =>
      intro hk
      have ho : os.toArray[k]? = some (os[k]'hk) := by simp [hk]
      cases hb : listed.getD k false with
      | true => rfl
      | false =>
        have : k ∈ Region.ready .any os.toArray listed := mem_ready.2 ⟨by
          rw [Array.getD_eq_getD_getElem?, Array.getElem?_eq_getElem (by omega)] at hb ⊢
          exact hb, _, ho, fun e he hbind => by
            have hlt := s3 k _ (by simp [hk]) e he hbind
            exact ih e.on hlt (by omega)⟩
        rw [hr] at this
        cases this
  have hdone : ∀ (listed : Array Bool) (a : Act) (w : World), listed.size = os.length → FJ os E φs W l0 R0 n D listed a w → Region.ready .any os.toArray listed = [] → lift n Q .normal a w := by
    intro listed a w hsz hj hr
    have hall := hready listed hsz hr
    obtain ⟨⟨l, R, O', hf, hh, hle, hos, hag, hφ, _⟩, _⟩ := hj
    have hfl : zi5 E listed = E.map fun _ => true := List.map_congr_left fun e he => hall e (s5 e he)
    rw [hfl] at hos
    have h1 := zje (l := l) os _ (hend R hle)
    rw [q1p] at h1
    have h2 := zik os 0 h1 (fun i o d hi hd => by
      rw [Nat.zero_add, zie os (List.mem_filterMap.2 ⟨o, List.mem_of_getElem? hi, hd⟩)]
      exact hφ i d (hall i (List.getElem?_eq_some_iff.1 hi).1) (by simp [mh, hi, hd])) O' hos
    obtain ⟨J, F, hp, h3⟩ := h2
    rw [← zot hag] at h3
    exact h3 a w hf (zf1 hp hh)
  have main : ∀ (fuel : Nat) (listed : Array Bool) (a : Act) (w : World), listed.size = os.length → ((List.range os.length).filter fun i => !listed.getD i true).length ≤ fuel → FJ os E φs W l0 R0 n D listed a w →
      wpAnyIn (wide ρ) 0 P .any os.toArray (lift n Q) fuel listed a w := by
    intro fuel
    induction fuel with
    | zero =>
      intro listed a w hsz hfu hp
      have hr : Region.ready .any os.toArray listed = [] := by
        cases hr : Region.ready .any os.toArray listed with
        | nil => rfl
        | cons x xs =>
          have hx : x ∈ Region.ready .any os.toArray listed := by rw [hr]; exact List.mem_cons_self ..
          obtain ⟨hun, o, ho, _⟩ := mem_ready.1 hx
          have : x ∈ ((List.range os.length).filter fun i => !listed.getD i true) := by
            rw [List.mem_filter, List.mem_range]
            exact ⟨by have := (Array.getElem?_eq_some_iff.1 ho).1; simpa using this, by rw [hun]; rfl⟩
          have := List.length_pos_of_mem this
          omega
      exact ⟨hr, hdone listed a w hsz hp hr⟩
    | succ fuel ih =>
      intro listed a w hsz hfu hp
      refine ⟨hdone listed a w hsz hp, fun i hi => ?_⟩
      obtain ⟨hun, o, ho, hdep⟩ := mem_ready.1 hi
      have hil : i < os.length := by have := (Array.getElem?_eq_some_iff.1 ho).1; simpa using this
      refine wpOpIn_mono (fun a' w' h' => ih _ a' w' (by simpa using hsz) ?_ h') (zvb hok hmono' hW hst hobl hsz (by simpa using ho) hp hun hdep)
      have hsub : ((List.range os.length).filter fun k => !(listed.setIfInBounds i true).getD k true) = (((List.range os.length).filter fun k => !listed.getD k true).filter fun k => k != i) := by
        rw [List.filter_filter]
        refine List.filter_congr fun k _ => ?_
        by_cases e : k = i
        · subst e; rw [z5v (by omega)]; simp
        · rw [getD_set_ne true (Ne.symm e)]; simp [e]
      rw [hsub]
      have hmem : i ∈ ((List.range os.length).filter fun k => !listed.getD k true) := by
        rw [List.mem_filter, List.mem_range]
        exact ⟨hil, by rw [hun]; rfl⟩
      have : (((List.range os.length).filter fun k => !listed.getD k true).filter fun k => k != i).length < ((List.range os.length).filter fun k => !listed.getD k true).length := List.length_filter_lt_length_iff_exists.2 ⟨i, hmem, show ¬ ((i != i) = true) by simp⟩
      omega
  refine main _ _ a _ (by simp) (by
    refine Nat.le_trans (List.length_filter_le _ _) ?_
    simp) ⟨⟨l0, R0, O, hf, zer hh, RH.le.refl _, ?_, fun _ _ => rfl, fun i d hi => (by rw [hno] at hi; cases hi), fun _ _ _ _ => rfl⟩, fun k o' _ hk => by rw [hno] at hk; cases hk⟩
  have hfl : zi5 E (Array.replicate os.toArray.size false) = E.map fun _ => false := List.map_congr_left fun e _ => hno e
  rw [hfl]; exact h0 _
theorem ru {o : Oper} {l : Nat → Value} {R : RH} {O O1 : List Frag} {φ : Value → RH → List Frag → Prop} (hp : O.Perm O1) (h : Eff P ρ o l R O1 φ) : Eff P ρ o l R O φ := fun A w hh => h A w (yo hh (hp.append_right A))
theorem z9b {o : Oper} {l : Nat → Value} {R : RH} {O O1 : List Frag} {φ : Value → RH → Prop} (hp : O.Perm O1) (h : Eff P ρ o l R O1 (fun v R' O' => O' = O1 ∧ φ v R')) : Eff P ρ o l R O (fun v R' O' => O' = O ∧ φ v R') := fun A w hh => by
  refine zba (h A w (yo hh (hp.append_right A))) ?_
  rintro v w' ⟨R', O', hle, hh', rfl, hv⟩
  exact ⟨R', O, hle, yo hh' (hp.symm.append_right A), rfl, hv⟩
theorem zhu {dst : Option Tmp} {ty : TypeId} {pos : String} {after : Array Go.Edge} {g : Option (Nat × Bool)} {l : Nat → Value} {R : RH} {O : List Frag} {α : Type} {T : Ty α} {t : TypeId} {x y : Operand} {f : Frag} {v u w : Value} {X : List α} {i j : Nat} {z : α} (ht : TyOk P t T) (hv : ORep T R f v X) (hO : O[j]? = some f) (hx : ev l x = u) (hp : z5e T v X u i) (hi : i < X.length)
    (hy : ev l y = w) (hz : VRep T R w z) : Eff P ρ ⟨dst, .store t x y, ty, pos, after, g⟩ l R O (fun _ R' O' => R' = R ∧ ∃ f', O' = O.set j f' ∧ ORep T R f' v (X.set i z)) := by
  obtain ⟨b, off, h1, rfl⟩ := hp
  exact (zjv ht hv h1 hO hx hi hy hz).mono fun _ _ _ _ ⟨_, h⟩ => h
theorem z8k {i : Nat} {o : Oper} {fl : List Bool} {p : Prop} (h : kn os E i o fl = true) (k : kn os E i o fl = false) : p := by rw [k] at h; cases h
end free
end GV
end Go.Proofs.YtkcccdcloealfaaGreat
