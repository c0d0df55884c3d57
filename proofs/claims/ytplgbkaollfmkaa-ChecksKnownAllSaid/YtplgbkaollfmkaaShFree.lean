
import Derived.Test.YtplgbkaollfmkaaGvNest
set_option linter.unusedVariables false
set_option linter.unusedSimpArgs false
namespace Go.Proofs.Ytplgbkaollfmkaa
namespace GV
/-! ### The plain programs' own words -/
def gd {α : Type} (c : Prop) [Decidable c] (k : Option α) : Option α := if c then k else none
def bd {α β : Type} (x : Option α) (k : α → Option β) : Option β := x.bind k
inductive Ex (α β : Type) where
  | go (a : α) : Ex α β
  | rt (b : β) : Ex α β
def Ex.on {α β γ : Type} (x : Ex α β) (f : α → Option γ) (g : β → Option γ) : Option γ :=
  match x with
  | .go a => f a
  | .rt b => g b
abbrev in64 (x : Int) : Prop := -9223372036854775808 ≤ x ∧ x ≤ 9223372036854775807
abbrev okI {α : Type} (X : List α) (i : Int) : Prop := 0 ≤ i ∧ i < (X.length : Int)
def ix {α : Type} [Inhabited α] (X : List α) (i : Int) : α := X.getD i.toNat default
def up {α : Type} (X : List α) (i : Int) (y : α) : List α := X.set i.toNat y
abbrev fits {α β : Type} (b : Nat) (X : List α) (Y : List β) : Prop := (X.length + Y.length) * b ≤ 140737488355328 ∧ X.length + Y.length ≤ 9223372036854775807
def cut {α : Type} (X : List α) (lo hi : Int) : List α := (X.drop lo.toNat).take (hi.toNat - lo.toNat)
abbrev okS {α : Type} (X : List α) (lo hi : Int) : Prop := 0 ≤ lo ∧ lo ≤ hi ∧ hi ≤ (X.length : Int)
def gop {α : Type} (b : Bool) (x : Option α) : Option (Option α) := bif b then x.map some else some none
def mk {α : Type} (n : Int) (z : α) : List α := List.replicate n.toNat z
abbrev okM (b : Nat) (n : Int) : Prop := 0 ≤ n ∧ (b : Int) * n ≤ 281474976710656 ∧ n ≤ 9223372036854775807
theorem zn {α : Type} {c : Prop} [Decidable c] {k : Option α} {r : α} (h : gd c k = some r) : c ∧ k = some r := by
  unfold gd at h
  by_cases hc : c
  · rw [if_pos hc] at h; exact ⟨hc, h⟩
  · rw [if_neg hc] at h; cases h
theorem zu {α : Type} {c : Prop} [Decidable c] {k : Option α} (h : c) : gd c k = k := if_pos h
theorem zt {α β : Type} {x : Option α} {k : α → Option β} {r : β} (h : bd x k = some r) : ∃ y, x = some y ∧ k y = some r := by
  unfold bd at h
  cases x with
  | none => cases h
  | some y => exact ⟨y, rfl, h⟩
theorem j4 {α : Type} {b : Bool} {x y : Option α} {r : α} (e : b = true) (h : cond b x y = some r) : x = some r := by subst e; exact h
theorem j3 {α : Type} {b : Bool} {x y : Option α} {r : α} (e : b = false) (h : cond b x y = some r) : y = some r := by subst e; exact h
theorem z4f {α β γ : Type} {a : α} {f : α → Option γ} {g : β → Option γ} {r : γ} (h : Ex.on (.go a) f g = some r) : f a = some r := h
theorem z3r {α β γ : Type} {o : Ex α β} {b : β} {f : α → Option γ} {g : β → Option γ} {r : γ} (c : some (Ex.rt b) = some o) (h : Ex.on o f g = some r) : g b = some r := by
  obtain rfl := Option.some.inj c; exact h
theorem j6 {α : Type} {r : α} {p : Prop} (h : none = some r) : p := by cases h
theorem zov {α : Type} {b : Bool} {x : Option α} {y : Option α} (h : gop b x = some y) : (b = true → ∃ z, x = some z ∧ y = some z) ∧ (b = false → y = none) := by
  unfold gop at h
  cases b
  · exact ⟨fun e => by (cases e), fun _ => (Option.some.inj h).symm⟩
  · refine ⟨fun _ => ?_, fun e => by (cases e)⟩
    cases x with
    | none => cases h
    | some z => exact ⟨z, rfl, (Option.some.inj h).symm⟩
theorem qd {α : Type} {X : List α} {i : Int} (h : okI X i) : i.toNat < X.length := by have := h.1; have := h.2; omega
theorem fw {b : Nat} {n : Int} (h : okM b n) : b * n.toNat ≤ 281474976710656 := by
  obtain ⟨h1, h2, _⟩ := h
  have e : ((b * n.toNat : Nat) : Int) = (b : Int) * n := by rw [Int.natCast_mul, Int.toNat_of_nonneg h1]
  omega
theorem fq {b : Nat} {n : Int} (h : okM b n) : n.toNat ≤ 9223372036854775807 := by have := h.1; have := h.2.2; omega
/-! ### Slices, with or without room -/
def tSl {α : Type} (t : Bool) (T : Ty α) : Ty (List α) where
  size := 1
  agg := false
  rep R cs X := (yj T).rep R cs X ∧ (t = true → ∃ p, cs = [.slice p X.length X.length])
  len h := (yj T).len h.1
  mono hle h := ⟨(yj T).mono hle h.1, h.2⟩
  one _ := rfl
  cell h := (yj T).cell h.1
section sl
variable {α : Type} {T : Ty α} {t : Bool} {R : RH} {v : Value} {X : List α}
theorem ja (h : VRep (tSl t T) R v X) : VRep (yj T) R v X := let ⟨cs, a, b⟩ := h; ⟨cs, a.1, b⟩
theorem zuy (h : VRep (tSl true T) R v X) : capOf v = X.length := by
  obtain ⟨cs, ⟨_, h⟩, rfl⟩ := h
  obtain ⟨p, rfl⟩ := h rfl
  rfl
theorem z7j (h : VRep (yj T) R v X) : VRep (tSl false T) R v X := let ⟨cs, a, b⟩ := h; ⟨cs, ⟨a, fun e => by (cases e)⟩, b⟩
theorem ll (h : VRep (yj T) R v X) (hc : capOf v = X.length) : VRep (tSl t T) R v X := by
  obtain ⟨p, n, rfl, hn, hp, hs⟩ := bv.1 h
  simp only [capOf] at hc
  subst hc
  exact ⟨_, ⟨⟨p, _, rfl, hn, hp, hs⟩, fun _ => ⟨p, rfl⟩⟩, rfl⟩
theorem ic : VRep (tSl t T) R (.slice none 0 0) [] := ll zdc rfl
end sl
theorem ko {α : Type} {T : Ty α} {R : RH} {v : Value} {x : α} (ha : T.agg = false) (h : VRep T R v x) : T.rep R [v] x := by
  obtain ⟨cs, hr, rfl⟩ := h
  have h1 := T.one ha
  have h2 := T.len hr
  rw [h1] at h2
  match cs, h2 with
  | [c], _ => simpa [Ty.mk', ha] using hr
theorem zfd {α : Type} {T : Ty α} {R : RH} {cs : List Value} {x : α} (ha : T.agg = false) (h : T.rep R cs x) : ∃ u, cs = [u] ∧ VRep T R u x := by
  have h1 := T.one ha
  have h2 := T.len h
  rw [h1] at h2
  match cs, h2 with
  | [c], _ => exact ⟨c, rfl, [c], h, by simp [Ty.mk', ha]⟩
theorem xu {α : Type} {T : Ty α} {t : Bool} {R : RH} {v : Value} {X : List α} (h : VRep (tSl t T) R v X) : v.cells = ([v] : List Value).toArray := zj1 (ja h)
theorem z0z {α : Type} {T : Ty α} {t : Bool} {R : RH} {v : Value} {X : List α} (h : VRep (tSl t T) R v X) : v.oneCell' = true := znk (ja h)
def Sub {α : Type} (A B : Ty α) : Prop := A.agg = B.agg ∧ A.size = B.size ∧ ∀ R cs x, A.rep R cs x → B.rep R cs x
theorem Sub.refl {α : Type} {A : Ty α} : Sub A A := ⟨rfl, rfl, fun _ _ _ h => h⟩
theorem Sub.v {α : Type} {A B : Ty α} {R : RH} {v : Value} {x : α} (s : Sub A B) (h : VRep A R v x) : VRep B R v x :=
  let ⟨cs, a, b⟩ := h; ⟨cs, s.2.2 _ _ _ a, by rw [b]; unfold Ty.mk'; rw [s.1]⟩
theorem zk6 {α : Type} {A B : Ty α} (s : Sub A B) : Sub (yj A) (yj B) := ⟨rfl, rfl, by
  rintro R cs X ⟨p, n, rfl, hn, hp, h⟩
  refine ⟨p, n, rfl, hn, hp, ?_⟩
  rcases h with h | ⟨b, off, c, ty, fr, h1, h2, h3⟩
  · exact .inl h
  · exact .inr ⟨b, off, c, ty, fr, h1, h2, fun i x hx => by rw [← s.2.1]; exact s.2.2 _ _ _ (h3 i x hx)⟩⟩
theorem j5 {α : Type} {A B : Ty α} {t t' : Bool} (s : Sub A B) (ht : t' = true → t = true) : Sub (tSl t A) (tSl t' B) := ⟨rfl, rfl, fun R cs X h => ⟨(zk6 s).2.2 R cs X h.1, fun e => h.2 (ht e)⟩⟩
theorem z2i {α β : Type} {A A' : Ty α} {B B' : Ty β} (s : Sub A A') (t : Sub B B') : Sub (z0k A B) (z0k A' B') :=
  ⟨rfl, by show A.size + B.size = A'.size + B'.size; rw [s.2.1, t.2.1], fun R cs x ⟨ca, cb, e, h1, h2⟩ => ⟨ca, cb, e, s.2.2 _ _ _ h1, t.2.2 _ _ _ h2⟩⟩
theorem zf7 {α β : Type} {A B : Ty α} {f : β → α} (s : Sub A B) : Sub (A.as f) (B.as f) := ⟨s.1, s.2.1, fun R cs x h => s.2.2 R cs (f x) h⟩
/-! ### Ways that meet, loops -/
theorem pk {O O' : List Frag} {f : Frag} (i : Nat) (h : O[i]? = some f) (k : (O.eraseIdx i).Perm O') : O.Perm (f :: O') := (z0a O i f h).trans (k.cons f)
theorem z8d {R : RH} {O J F A : List Frag} {w : World} (hp : O.Perm (J ++ F)) (h : Holds R (O ++ A) w) : Holds R (F ++ A) w := by
  have h1 := yc h (hp.append_right A)
  rw [List.append_assoc] at h1
  exact ⟨h1.ro, fun f hf => h1.own f (List.mem_append.2 (.inr hf)), (List.pairwise_append.1 h1.sep).2.1, h1.os, h1.out⟩
theorem z8y {P : Program} {ρ : Option Nat} {n : Nat} {c : Code} {Q : Po} {l : Nat → Value} {D : List Nat} {R : RH} {O J F : List Frag} (hp : O.Perm (J ++ F)) (h : wg P ρ n c Q l D R F) : wg P ρ n c Q l D R O :=
  fun a w hf hh => h a w hf (z8d hp hh)
theorem zjj {W : List Nat} {l' l : Nat → Value} {S : List (Nat × Value)} (ho : Off W l' l) (hs : zib l' S) : l' = z1g (mask W l' l) S := by
  rw [← zg1 ho]; exact zed (zg5 hs)
def zto {γ : Type} (dk : Bool) (D : List Nat) (W : List Nat) (l : Nat → Value) (R : RH) (S : γ → List (Nat × Value)) (F : γ → List Frag) (K : γ → RH → Prop) : (Nat → Value) → List Nat → RH → List Frag → Prop :=
  fun l' D' R' O' => (dk = true → D' = D) ∧ RH.le R R' ∧ Off W l' l ∧ ∃ g, zib l' (S g) ∧ (∃ J, O'.Perm (J ++ F g)) ∧ K g R'
section meet
variable {P : Program} {ρ : Option Nat} {n : Nat} {Q : Po} {l : Nat → Value} {D : List Nat} {R : RH} {O : List Frag} {γ : Type}
theorem jk {x y : Code} (dk : Bool) (W : List Nat) (S : γ → List (Nat × Value)) (F : γ → List Frag) (K : γ → RH → Prop)
    (hx : wg P ρ n x (thn (zto dk D W l R S F K) Q) l D R O)
    (hy : ∀ g j D' R', (dk = true → D' = D) → RH.le R R' → K g R' → wg P ρ n y Q (z1g (mask W j l) (S g)) D' R' (F g)) : wg P ρ n (.seq x y) Q l D R O := by
  refine zg (za4 hx ?_)
  intro e l' D' R' O' h
  cases e with
  | normal =>
    obtain ⟨hD, hle, ho, g, hs, ⟨J, hp⟩, hk⟩ := h
    refine z8y hp ?_
    rw [zjj ho hs]
    exact hy g l' D' R' hD hle hk
  | _ => exact h
def zt3 (dk : Bool) (D : List Nat) (W : List Nat) (l : Nat → Value) (R : RH) (S : γ → List (Nat × Value)) (F : γ → List Frag) (K : γ → RH → Prop) (μ : γ → Nat) (m : Nat) : (Nat → Value) → List Nat → RH → List Frag → Prop :=
  fun l' D' R' O' => (dk = true → D' = D) ∧ RH.le R R' ∧ Off W l' l ∧ ∃ g, μ g < m ∧ zib l' (S g) ∧ (∃ J, O'.Perm (J ++ F g)) ∧ K g R'
theorem jo {c : Code} (dk : Bool) (W : List Nat) (S : γ → List (Nat × Value)) (F : γ → List Frag) (K : γ → RH → Prop) (μ : γ → Nat) (g0 : γ)
    (hS : zib l (S g0)) (hO : ∃ J, O.Perm (J ++ F g0)) (hK : K g0 R) (hW : ∀ g, ((S g).all fun p => W.elem p.1) = true)
    (round : ∀ g j D' R', (dk = true → D' = D) → RH.le R R' → K g R' → wg P ρ n c (thn (zt3 dk D' W (z1g (mask W j l) (S g)) R' S F K μ (μ g)) Q) (z1g (mask W j l) (S g)) D' R' (F g)) : wg P ρ n (.loop c) Q l D R O := by
  refine zju (fun k l1 D1 R1 O1 => (dk = true → D1 = D) ∧ RH.le R R1 ∧ Off W l1 l ∧ ∃ g, k = μ g ∧ zib l1 (S g) ∧ (∃ J, O1.Perm (J ++ F g)) ∧ K g R1) (μ g0) ⟨fun _ => rfl, RH.le.refl _, zh0, g0, rfl, hS, hO, hK⟩ ?_
  rintro k l1 D1 R1 O1 ⟨hD, hle, hoff, g, rfl, hSg, ⟨J, hp⟩, hk⟩
  refine z8y hp ?_
  rw [zjj hoff hSg]
  refine za4 (round g l1 D1 R1 hD hle hk) ?_
  intro e l' D' R'' O'' h
  cases e with
  | normal =>
    obtain ⟨hD', hle', hoff', g', hlt, hS', hJ, hI'⟩ := h
    exact ⟨_, hlt, fun e => (hD' e).trans (hD e), hle.trans hle', zek hoff' (zcw (hW g) zgv), g', rfl, hS', hJ, hI'⟩
  | _ => exact h
end meet
/-! ### What is lent -/
def RH.lend (R : RH) (O : List Frag) : RH := { R with blk := fun k => match R.blk k with | some o => some o | none => O.findSome? fun f => f k }
theorem RH.le_lend (R : RH) (O : List Frag) : RH.le R (R.lend O) := ⟨fun k o h => by simp [RH.lend, h], rfl, rfl⟩
theorem zh8 {f : Frag} {k : Nat} {o : Obj} : ∀ {O : List Frag}, f ∈ O → f k = some o → (O.Pairwise fun f g => ∀ k, f k = none ∨ g k = none) → O.findSome? (fun f => f k) = some o
  | g :: O, hf, hk, hp => by
    obtain ⟨h1, h2⟩ := List.pairwise_cons.1 hp
    rw [List.findSome?_cons]
    rcases List.mem_cons.1 hf with rfl | hf
    · rw [hk]
    · have : g k = none := by
        rcases h1 f hf k with h | h
        · exact h
        · rw [h] at hk; cases hk
      rw [this]
      exact zh8 hf hk h2
theorem zhv {R : RH} {O A : List Frag} {w : World} (h : Holds R (O ++ A) w) : Holds (R.lend O) A w ∧ ∀ f ∈ O, ∀ k o, f k = some o → (R.lend O).blk k = some o := by
  have hp := List.pairwise_append.1 h.sep
  refine ⟨⟨fun k o hk => ?_, fun g hg k o hk => ?_, hp.2.1, h.os, h.out⟩, fun f hf k o hk => ?_⟩
  · cases e : R.blk k with
    | some o' => simp only [RH.lend, e, Option.some.injEq] at hk; subst hk; exact h.ro k _ e
    | none =>
      simp only [RH.lend, e] at hk
      obtain ⟨f, hf, hfk⟩ := List.exists_of_findSome?_eq_some hk
      exact (h.own f (List.mem_append.2 (.inl hf)) k o hfk).1
  · have h1 := h.own g (List.mem_append.2 (.inr hg)) k o hk
    refine ⟨h1.1, ?_⟩
    simp only [RH.lend, h1.2]
    rw [List.findSome?_eq_none_iff]
    intro f hf
    rcases hp.2.2 f hf g hg k with h2 | h2
    · exact h2
    · rw [h2] at hk; cases hk
  · have h1 := (h.own f (List.mem_append.2 (.inl hf)) k o hk).2
    simp only [RH.lend, h1]
    exact zh8 hf hk hp.1
theorem znw {P : Program} {ρ : Option Nat} {l : Nat → Value} {R : RH} {O : List Frag} {dst : Option Tmp} {ty : TypeId} {pos : String} {after : Array Go.Edge} {g : Option (Nat × Bool)} {f : FuncId} {c : Operand} {args : List Operand} {at' : Array TypeId} {cs vs : List Value} {φ : Value → Prop}
    (he : Enters P f) (hc : ev l c = .func (.func f) #[] cs.toArray) (ha : args.map (ev l) = vs) (h : ∀ R1, RH.le R R1 → (∀ f ∈ O, ∀ k o, f k = some o → R1.blk k = some o) → CallP P f (vs ++ cs).toArray R1 fun v _ => φ v) :
    Eff P ρ ⟨dst, .call ⟨.value c, args.toArray, at'⟩, ty, pos, after, g⟩ l R O (fun v R' O' => O' = O ∧ R' = R ∧ φ v) := by
  intro A w hh; rw [qw (by intro c h; cases h), zez he hc (z3s ha)]
  obtain ⟨h1, h2⟩ := zhv hh
  have h3 := h (R.lend O) (RH.le_lend _ _) h2 A w h1
  rw [show (#[] ++ vs.toArray ++ cs.toArray : Array Value) = (vs ++ cs).toArray from by simp]
  refine Calls.mono h3 ?_
  rintro e w' ⟨v, rfl, R', hle, hh', hv⟩
  refine ⟨v, rfl, R, O, RH.le.refl _, ?_, rfl, rfl, hv⟩
  have hp := List.pairwise_append.1 hh.sep
  refine ⟨fun k o hk => hh'.ro k o (hle.blk k o ((RH.le_lend R O).blk k o hk)), fun g hg k o hk => ?_, hh.sep, by have := hh'.os; rw [hle.os] at this; exact this, hh'.out.trans hle.out⟩
  rcases List.mem_append.1 hg with hg | hg
  · exact ⟨hh'.ro k o (hle.blk k o (h2 g hg k o hk)), (hh.own g (List.mem_append.2 (.inl hg)) k o hk).2⟩
  · exact ⟨(hh'.own g hg k o hk).1, (hh.own g (List.mem_append.2 (.inr hg)) k o hk).2⟩
theorem zod {α : Type} {T : Ty α} {R R1 : RH} {O : List Frag} {f : Frag} {v : Value} {X : List α} (i : Nat) (hi : O[i]? = some f) (h : ORep T R f v X) (hle : RH.le R R1) (hl : ∀ f ∈ O, ∀ k o, f k = some o → R1.blk k = some o) : VRep (yj T) R1 v X := by
  rcases h with ⟨rfl, rfl, rfl⟩ | ⟨b, pre, cs, cap, bt, rfl, rfl, hc, hcl, hcc, hel⟩
  · exact zdc
  · refine bv.2 ⟨_, cap, rfl, hc, fun e => by (cases e), .inr ⟨b, pre.length, (pre ++ cs).toArray, bt, (0, 0), rfl, hl _ (List.mem_of_getElem? hi) b _ (uj _ _), fun i x hx => ?_⟩⟩
    rw [z2o]
    exact T.mono hle (by simpa [wu] using hel i x hx)
theorem zrq {R1 : RH} {O : List Frag} {b : Nat} {cs : List Value} {bt : TypeId} (i : Nat) (hi : O[i]? = some (box b cs bt)) (hl : ∀ f ∈ O, ∀ k o, f k = some o → R1.blk k = some o) : R1.blk b = some (.cells cs.toArray bt (0, 0)) :=
  hl _ (List.mem_of_getElem? hi) b _ (uj _ _)
theorem zjl {P : Program} {ρ : Option Nat} {n : Nat} {Q : Po} {l : Nat → Value} {D : List Nat} {R : RH} {O : List Frag} {ops : Array Oper} {rest : List Oper} {ty : TypeId} {pos : String} {after : Array Go.Edge} {d : Nat} {f : FuncId} {c : Operand} {args : List Operand} {at' : Array TypeId} {cs vs : List Value} {φ : Value → Prop}
    (hd : Nat.blt d n = true) (he : Enters P f) (hc : ev l c = .func (.func f) #[] cs.toArray) (ha : args.map (ev l) = vs) (h : ∀ R1, RH.le R R1 → (∀ f ∈ O, ∀ k o, f k = some o → R1.blk k = some o) → CallP P f (vs ++ cs).toArray R1 fun v _ => φ v)
    (hk : ∀ v, φ v → wo P ρ n ops Q rest (upd l d v) D R O) : wo P ρ n ops Q (⟨some d, .call ⟨.value c, args.toArray, at'⟩, ty, pos, after, none⟩ :: rest) l D R O := by
  refine zfr rfl (fun t ht => by cases ht; simpa using hd) (znw he hc ha h) ?_
  rintro v R' O' _ ⟨rfl, rfl, hv⟩
  exact hk v hv
/-! ### Function values -/
def FOk1 (P : Program) (R : RH) (v : Value) {α β : Type} (A : Ty α) (B : Ty β) (f : α → Option β) : Prop :=
  ∀ R1, RH.le R R1 → ∀ x u y, VRep A R1 u x → f x = some y → CallV P v [u].toArray R1 [] (fun v' R' O' => O' = [] ∧ VRep B R' v' y)
theorem FOk1.mono {P : Program} {R R' : RH} {v : Value} {α β : Type} {A : Ty α} {B : Ty β} {f : α → Option β} (h : FOk1 P R v A B f) (hle : RH.le R R') : FOk1 P R' v A B f := fun R1 h1 => h R1 (hle.trans h1)
theorem zbo {P : Program} {R : RH} {f : FuncId} {cs : List Value} {α β : Type} {A : Ty α} {B : Ty β} {F : α → Option β} (he : Enters P f)
    (h : ∀ R1, RH.le R R1 → ∀ x u y, VRep A R1 u x → F x = some y → CallP P f (u :: cs).toArray R1 (fun v R' => VRep B R' v y)) : FOk1 P R (.func (.func f) #[] cs.toArray) A B F :=
  fun R1 hle x u y hu hy => CallV.mono (z8w he (by simp) ((h R1 hle x u y hu hy).toG)) fun _ _ _ _ h => h
def FOk2 (P : Program) (R : RH) (v : Value) {α β γ : Type} (A : Ty α) (B : Ty β) (C : Ty γ) (f : α → β → Option γ) : Prop :=
  ∀ R1, RH.le R R1 → ∀ x y u w z, VRep A R1 u x → VRep B R1 w y → f x y = some z → CallV P v [u, w].toArray R1 [] (fun v' R' O' => O' = [] ∧ VRep C R' v' z)
theorem FOk2.mono {P : Program} {R R' : RH} {v : Value} {α β γ : Type} {A : Ty α} {B : Ty β} {C : Ty γ} {f : α → β → Option γ} (h : FOk2 P R v A B C f) (hle : RH.le R R') : FOk2 P R' v A B C f := fun R1 h1 => h R1 (hle.trans h1)
/-! ### Guarded operations in the text's order, way by way -/
section guards
variable {P : Program} {ρ : Option Nat} {n : Nat} {Q : Po} {l : Nat → Value} {D : List Nat} {R : RH} {O : List Frag} {ops : Array Oper} {rest : List Oper} {ty : TypeId} {pos : String} {after : Array Go.Edge} {dst : Option Tmp} {op : Op}
theorem zlb {os : List Oper} {b : Bool} (h1 : b = true → wo P ρ n ops Q os l D R O) (h2 : b = false → wo P ρ n ops Q os l D R O) : wo P ρ n ops Q os l D R O := by
  cases b
  · exact h2 rfl
  · exact h1 rfl
theorem zbx {j s : Nat} {want : Bool} (hs : z1y ops j = some s) (hsn : Nat.blt s n = true) (hv : l s = .bool want) (hk : wo P ρ n ops Q (⟨dst, op, ty, pos, after, none⟩ :: rest) l D R O) :
    wo P ρ n ops Q (⟨dst, op, ty, pos, after, some (j, want)⟩ :: rest) l D R O := by
  intro a w hf hh
  have hy := z8t hf hs (by simpa using hsn) hv
  have h := hk a w hf hh
  simp only [wlo] at h ⊢
  rw [if_pos (z13 rfl)] at h
  rw [if_pos (by simp [Region.wanted, hy])]
  exact h
theorem zdb {j s d : Nat} {want b : Bool} (hs : z1y ops j = some s) (hsn : Nat.blt s n = true) (hv : l s = .bool b) (hb : (b == want) = false) (hd : Nat.blt d n = true) (hk : wo P ρ n ops Q rest (upd l d undef) D R O) :
    wo P ρ n ops Q (⟨some d, op, ty, pos, after, some (j, want)⟩ :: rest) l D R O := by
  intro a w hf hh
  have hy := z8t hf hs (by simpa using hsn) hv
  have h := hk _ w (hf.put (d := some d) (fun t ht => by cases ht; simpa using hd) undef) hh
  simp only [wlo]
  rw [if_neg (by simp [Region.wanted, hy]; intro e; subst e; simp at hb)]
  exact ⟨fun _ _ => trivial, h⟩
theorem zke {c x y : Operand} {v : Value} {g : Option (Nat × Bool)} (hc : ev l c = .bool true) (hx : ev l x = v) : Val P ρ ⟨dst, .pick c x y, ty, pos, after, g⟩ l R O v := z4v hc (by rw [← hx]; rfl)
theorem zm2 {c x y : Operand} {v : Value} {g : Option (Nat × Bool)} (hc : ev l c = .bool false) (hy : ev l y = v) : Val P ρ ⟨dst, .pick c x y, ty, pos, after, g⟩ l R O v := z4v hc (by rw [← hy]; rfl)
end guards
theorem zc4 {P : Program} {ρ : Option Nat} {n : Nat} {Q : Po} {l : Nat → Value} {D : List Nat} {R : RH} {O : List Frag} {ops : Array Oper} {rest : List Oper} {ty : TypeId} {pos : String} {after : Array Go.Edge} {d : Nat}
    {c : Operand} {args : List Operand} {at' : Array TypeId} {fv : Value} {vs : List Value} {φ : Value → RH → Prop} (hd : Nat.blt d n = true) (hc : ev l c = fv) (ha : args.map (ev l) = vs) (h : CallV P fv vs.toArray R [] (fun v R' O => O = [] ∧ φ v R'))
    (hk : ∀ v R', RH.le R R' → φ v R' → wo P ρ n ops Q rest (upd l d v) D R' O) : wo P ρ n ops Q (⟨some d, .call ⟨.value c, args.toArray, at'⟩, ty, pos, after, none⟩ :: rest) l D R O :=
  z9a (Oc := []) (Or := O) hd hc ha (List.Perm.refl O) h fun v R' Oc' hle ⟨hO, hv⟩ => by subst hO; exact hk v R' hle hv
theorem rf {α : Type} [Inhabited α] {b : Bool} {x : Option α} {y : Option α} (h : gop b x = some y) (e : b = true) : x = some (y.getD default) := by
  obtain ⟨z, h1, h2⟩ := (zov h).1 e
  rw [h1, h2]; rfl
theorem zcm {α : Type} {X : List α} {lo hi : Int} (h : okS X lo hi) : lo.toNat ≤ hi.toNat := by have := h.1; have := h.2.1; omega
theorem z3v {α : Type} {X : List α} {lo hi : Int} (h : okS X lo hi) : hi.toNat ≤ X.length := by have := h.1; have := h.2.1; have := h.2.2; omega
theorem z7t {α : Type} {X : List α} {lo hi : Int} (h : okS X lo hi) : 0 ≤ hi := Int.le_trans h.1 h.2.1
theorem u6 {W : List Nat} {l l0 : Nat → Value} (h : Off W l l0 := by repeat (first | exact zh0 | refine zj6 rfl ?_ | refine zcw rfl ?_ | refine zfa rfl ?_)) : Off W l l0 := h
theorem zgn {α : Type} {T : Ty α} {R : RH} {f : Frag} {v : Value} {X : List α} (h : ORep T R f v X) : X.length ≤ capOf v := let ⟨_, _, h⟩ := z8u h; h
end GV
end Go.Proofs.Ytplgbkaollfmkaa

namespace Go.Proofs.Ytplgbkaollfmkaa
namespace GV
def zna {α : Type} (t : Bool) (Vs : List Value) (X : List (List α)) (no : Nat → Prop) : Prop := t = true → ∀ j, j < X.length → ¬ no j → capOf (Vs.getD j default) = (X.getD j default).length
def N2 {α : Type} (t : Bool) (T : Ty α) (R : RH) (F : Frag) (v : Value) (Vs : List Value) (X : List (List α)) : Prop :=
  ∃ f0 Fs, Vs.length = X.length ∧ ORep znx R f0 v Vs ∧ Has F f0 ∧ Rows T R F Vs X Fs (fun _ => False) ∧ (∀ j, j < X.length → Apart f0 (Fs.getD j emp)) ∧ zna t Vs X (fun _ => False)
def N2h {α : Type} (t : Bool) (T : Ty α) (k : Nat) (R : RH) (F : Frag) (v : Value) (Vs : List Value) (X : List (List α)) : Prop :=
  ∃ f0 Fs, Vs.length = X.length ∧ ORep znx R f0 v Vs ∧ Has F f0 ∧ Rows T R F Vs X Fs (fun j => j = k) ∧ (∀ j, j < X.length → j ≠ k → Apart f0 (Fs.getD j emp)) ∧ zna t Vs X (fun j => j = k)
section n2
variable {α : Type} {t : Bool} {T : Ty α} {R R' : RH} {F : Frag} {v : Value} {Vs : List Value} {X : List (List α)}
theorem N2.mono (h : N2 t T R F v Vs X) (hle : RH.le R R') : N2 t T R' F v Vs X := let ⟨f0, Fs, a, b, c, d, e, g⟩ := h; ⟨f0, Fs, a, b.mono hle, c, d.mono hle, e, g⟩
theorem N2h.mono {k : Nat} (h : N2h t T k R F v Vs X) (hle : RH.le R R') : N2h t T k R' F v Vs X := let ⟨f0, Fs, a, b, c, d, e, g⟩ := h; ⟨f0, Fs, a, b.mono hle, c, d.mono hle, e, g⟩
theorem N2.o (h : N2 t T R F v Vs X) : ∃ f0, ORep znx R f0 v Vs ∧ Has F f0 ∧ Vs.length = X.length := let ⟨f0, Fs, a, b, c, d, e, g⟩ := h; ⟨f0, b, c, a⟩
theorem N2h.o {k : Nat} (h : N2h t T k R F v Vs X) : ∃ f0, ORep znx R f0 v Vs ∧ Has F f0 ∧ Vs.length = X.length := let ⟨f0, Fs, a, b, c, d, e, g⟩ := h; ⟨f0, b, c, a⟩
theorem N2.row (h : N2 t T R F v Vs X) {k : Nat} (hk : k < X.length) : ∃ fk, ORep T R fk (Vs.getD k default) (X.getD k default) ∧ Has F fk :=
  let ⟨f0, Fs, a, b, c, d, e, g⟩ := h; ⟨_, d.2.1 k hk (fun h => h)⟩
theorem N2h.fill {k : Nat} {G fk : Frag} {u : Value} {Y : List α} (h : N2h t T k R G v Vs X) (hk : k < X.length) (hf : ORep T R fk (Vs.getD k default) Y) (ha : Apart fk G) (ht' : t = true → capOf (Vs.getD k default) = Y.length) :
    N2 t T R (zh7 fk G) v Vs (X.set k Y) := by
  obtain ⟨f0, Fs, hl, h0, hG0, ⟨hr1, hr2, hr3⟩, hap, ht⟩ := h
  have hx := fun j => z98 (X := X) (j := j) (y := Y) (d := default) hk
  have hg := fun j => z98 (X := Fs) (j := j) (y := fk) (d := emp) (k := k) (by omega)
  refine ⟨f0, Fs.set k fk, by simp [hl], h0, (zdv ha).trans hG0, ⟨by simp [hr1], fun j hj _ => ?_, fun i j hi hj _ _ hij => ?_⟩, fun j hj => ?_, fun e j hj _ => ?_⟩
  · have hj' : j < X.length := by simpa using hj
    rw [hg, hx]
    by_cases e : j = k
    · subst e; rw [if_pos rfl, if_pos rfl]; exact ⟨hf, zlz⟩
    · rw [if_neg e, if_neg e]; exact ⟨(hr2 j hj' e).1, (zdv ha).trans (hr2 j hj' e).2⟩
  · have hi' : i < X.length := by simpa using hi
    have hj' : j < X.length := by simpa using hj
    rw [hg, hg]
    by_cases e1 : i = k
    · rw [if_pos e1, if_neg (fun e => hij (e1.trans e.symm))]
      exact (hr2 j hj' (fun e => hij (e1.trans e.symm))).2.apart ha
    · by_cases e2 : j = k
      · rw [if_neg e1, if_pos e2]; exact ((hr2 i hi' e1).2.apart ha).symm
      · rw [if_neg e1, if_neg e2]; exact hr3 i j hi' hj' e1 e2 hij
  · have hj' : j < X.length := by simpa using hj
    rw [hg]
    by_cases e : j = k
    · rw [if_pos e]; exact (hG0.apart ha).symm
    · rw [if_neg e]; exact hap j hj' e
  · have hj' : j < X.length := by simpa using hj
    rw [hx]
    by_cases e' : j = k
    · subst e'; rw [if_pos rfl]; exact ht' e
    · rw [if_neg e']; exact ht e j hj' e'
end n2
section vals
variable {P : Program} {ρ : Option Nat} {l : Nat → Value} {R : RH} {O : List Frag} {dst : Option Tmp} {ty : TypeId} {pos : String} {after : Array Go.Edge} {g : Option (Nat × Bool)}
end vals
end GV
end Go.Proofs.Ytplgbkaollfmkaa

namespace Go.Proofs.Ytplgbkaollfmkaa
namespace GV
open Go.IntWalk
def zj5 (P : Program) (f : FuncId) (cs : List Value) (R : RH) {α : Type} (enc : α → List Value → RH → Prop) (IT : (σ : Type) → (α → σ → Option (Bool × σ)) → σ → Option σ) : Prop :=
  ∀ (yv : Value) (σ : Type) (B : α → σ → Option (Bool × σ)) (I : σ → RH → List Frag → Prop) (R1 : RH) (O : List Frag) (s0 s1 : σ), RH.le R R1 →
    (∀ s R2 R3 O2, RH.le R2 R3 → I s R2 O2 → I s R3 O2) → I s0 R1 O → IT σ B s0 = some s1 →
    (∀ x s b s' R2 O2 vs, RH.le R1 R2 → enc x vs R2 → I s R2 O2 → B x s = some (b, s') → CallV P yv vs.toArray R2 O2 (fun v R3 O3 => v = .bool b ∧ I s' R3 O3)) →
    CallG P f (yv :: cs).toArray R1 O (fun v R' O' => I s1 R' O')
theorem zah {P : Program} {ρ : Option Nat} {n : Nat} {Q : Po} {l : Nat → Value} {D : List Nat} {R : RH} {O : List Frag} {ops : Array Oper} {rest : List Oper} {ty : TypeId} {pos : String} {after : Array Go.Edge} {d : Nat}
    {c : Operand} {args : List Operand} {at' : Array TypeId} {fv : Value} {vs : List Value} {J Oc A : List Frag} {b : Bool} {I : RH → List Frag → Prop} (hd : Nat.blt d n = true) (hc : ev l c = fv) (ha : args.map (ev l) = vs) (hO : O = J ++ (Oc ++ A))
    (h : CallV P fv vs.toArray R Oc (fun v R' O' => v = .bool b ∧ I R' O'))
    (hk : ∀ R' Oc', RH.le R R' → I R' Oc' → wo P ρ n ops Q rest (upd l d (.bool b)) D R' (J ++ (Oc' ++ A))) : wo P ρ n ops Q (⟨some d, .call ⟨.value c, args.toArray, at'⟩, ty, pos, after, none⟩ :: rest) l D R O :=
  z9a (Oc := Oc) (Or := J ++ A) hd hc ha (by subst hO; exact ze0) h fun v R' Oc' hle ⟨hv, hI⟩ => by subst hv; exact zpn ze0 (hk R' Oc' hle hI)
def zuk {σ : Type} (R0 : RH) (lb n : Nat) (l : Nat → Value) (ps : List Nat) (assign body : Code) (I : σ → RH → List Frag → Prop) (E : σ → Code → RH → List Frag → Prop) (s : σ) (R : RH) (O : List Frag) : Prop :=
  RH.le R0 R ∧ ∃ L Oc', O = z6w lb L :: Oc' ∧ ((zsa L n l ps assign body ∧ L.state = .ready ∧ L.pending = none ∧ I s R Oc') ∨ (∃ c, L.state = .done ∧ L.pending = some c ∧ E s c R Oc'))
theorem CallG.mono2 {P : Program} {f : FuncId} {args : Array Value} {R : RH} {O : List Frag} {post post' : Value → RH → List Frag → Prop} (h : CallG P f args R O post)
    (hp : ∀ v R' O', RH.le R R' → post v R' O' → ∃ J O'', O'.Perm (J ++ O'') ∧ post' v R' O'') : CallG P f args R O post' := fun A w hh =>
  Calls.mono (h A w hh) fun e w' ⟨v, he, R', O', a, b, c⟩ => let ⟨J, O'', hpm, hq⟩ := hp v R' O' a c; ⟨v, he, R', O'', a, z8d hpm b, hq⟩
theorem zcn {P : Program} {n : Nat} {Q : Po} {l : Nat → Value} {D : List Nat} {R : RH} {O : List Frag} {gv : Operand} {ps : List Nat} {assign body : Code} {f : FuncId} {cs : List Value} {Oc Or : List Frag} {α σ : Type} {enc : α → List Value → RH → Prop}
    {IT : (σ : Type) → (α → σ → Option (Bool × σ)) → σ → Option σ} (B : α → σ → Option (Bool × σ)) (I : σ → RH → List Frag → Prop) (E : σ → Code → RH → List Frag → Prop) (s0 s1 : σ)
    (hg : ev l gv = .func (.func f) #[] cs.toArray) (he : Enters P f) (hit : zj5 P f cs R enc IT) (hp : O.Perm (Oc ++ Or)) (hpn : (ps.all fun p => Nat.blt p n) = true)
    (hlen : ∀ x R vs, enc x vs R → vs.length = ps.length) (hmI : ∀ s R2 R3 O2, RH.le R2 R3 → I s R2 O2 → I s R3 O2) (hmE : ∀ s c R2 R3 O2, RH.le R2 R3 → E s c R2 O2 → E s c R3 O2)
    (hst : ∀ s c R O x, E s c R O → B x s = none) (h0 : I s0 R Oc) (hrun : IT σ B s0 = some s1)
    (hround : ∀ x s b s' lb R1 vs Oc1, RH.le R R1 → enc x vs R1 → I s R1 Oc1 → B x s = some (b, s') → ∀ X, wg P (some lb) n assign (fun e l1 D1 R2 O1 => e = .normal ∧ D1 = [] ∧ RH.le R1 R2 ∧ ∃ Oa, O1.Perm (Oa ++ X) ∧
      ∀ X', wg P (some lb) n body (zo2 R1 X' (fun p R3 O3 => match p with | none => b = true ∧ I s' R3 O3 | some c => b = false ∧ E s' c R3 O3)) l1 [] R2 (Oa ++ X')) (zbq (ps.zip vs) l) [] R1 (Oc1 ++ X))
    (hend : ∀ dd R1 Oc1, RH.le R R1 → I s1 R1 Oc1 → ∃ J F, Oc1.Perm (J ++ F) ∧ Q .normal l (dd :: D) R1 (F ++ Or))
    (hexit : ∀ c dd R1 Oc1, RH.le R R1 → E s1 c R1 Oc1 → wg P none n c Q l (dd :: D) R1 (Oc1 ++ Or)) : wg P none n (.rangeFunc gv ps.toArray assign body) Q l D R O := by
  refine zfu (f := f) (fs := #[]) (cs := cs.toArray) hg he hp fun lb dd fn t hft => ?_
  have hargs : (#[] ++ #[Value.func (Fn.yield lb) #[] #[]] ++ cs.toArray : Array Value) = (Value.func (Fn.yield lb) #[] #[] :: cs).toArray := by simp
  rw [hargs]
  have hpn' : ∀ p ∈ ps, p < n := fun p hp => by simpa [Nat.blt_eq] using List.all_eq_true.1 hpn p hp
  refine CallG.mono2 (hit (.func (.yield lb) #[] #[]) σ B (zuk R lb n l ps assign body I E) R _ s0 s1 (RH.le.refl _) ?_ ⟨RH.le.refl _, _, _, rfl, .inl ⟨⟨hft, rfl, rfl, rfl⟩, rfl, rfl, h0⟩⟩ hrun ?_) ?_
  · rintro s R2 R3 O2 hle ⟨h1, L, Oc', h2, h3⟩
    refine ⟨h1.trans hle, L, Oc', h2, ?_⟩
    rcases h3 with ⟨a, b, c, d⟩ | ⟨c, a, b, d⟩
    · exact .inl ⟨a, b, c, hmI _ _ _ _ hle d⟩
    · exact .inr ⟨c, a, b, hmE _ _ _ _ _ hle d⟩
  · rintro x s b s' R2 O2 vs hle hA ⟨h1, L, Oc', rfl, h3⟩ hB
    rcases h3 with ⟨⟨hfr, hps, has, hbd⟩, hst', hpe, hI⟩ | ⟨c, _, _, hE⟩
    · refine CallV.mono (zge (n := n) (l := l) (ps := ps) (RP := fun p R3 O3 => RH.le R R3 ∧ (match p with | none => b = true ∧ I s' R3 O3 | some c => b = false ∧ E s' c R3 O3)) hst' hps (hlen x R2 vs hA).symm hpn' hfr ?_) ?_
      · intro X
        have := hround x s b s' lb R2 vs Oc' h1 hA hI hB X
        rw [has, hbd]
        refine za4 this ?_
        rintro e l1 D1 R3 O1 ⟨he', hD, hle3, Oa, hpa, hb⟩
        refine ⟨he', hD, hle3, Oa, hpa, fun X' => za4 (hb X') ?_⟩
        intro e l2 D2 R4 O4 hq
        cases e with
        | normal => obtain ⟨a, b, O', c, d⟩ := hq; exact ⟨a, b, O', c, h1.trans b, d⟩
        | ret => obtain ⟨a, b, O', c, d⟩ := hq; exact ⟨a, b, O', c, h1.trans b, d⟩
        | exit id => obtain ⟨a, b, O', c, d⟩ := hq; exact ⟨a, b, O', c, h1.trans b, d⟩
        | goto _ => exact hq
        | panic _ => exact hq
        | outgrown => exact hq
      · rintro v R' O' hle2 ⟨pend, O'', rfl, rfl, hle3, hrp⟩
        cases pend with
        | none => obtain ⟨rfl, hI'⟩ := hrp; exact ⟨rfl, hle3, _, _, rfl, .inl ⟨⟨hfr, hps, has, hbd⟩, rfl, rfl, hI'⟩⟩
        | some c => obtain ⟨rfl, hE'⟩ := hrp; exact ⟨rfl, hle3, _, _, rfl, .inr ⟨c, rfl, rfl, hE'⟩⟩
    · rw [hst s c R2 Oc' x hE] at hB; cases hB
  · rintro v R' O' hle ⟨h1, L, Oc', rfl, h3⟩
    rcases h3 with ⟨hL, hst', hpe, hI⟩ | ⟨c, hst', hpe, hE⟩
    · obtain ⟨J, F, hp1, hq⟩ := hend dd R' Oc' h1 hI
      refine ⟨J, z6w lb L :: F, (hp1.cons _).trans List.perm_middle.symm, L, F, rfl, by rw [hst']; exact fun h => (by cases h), ?_⟩
      rw [hpe]; exact hq
    · refine ⟨[], _, List.Perm.refl _, L, Oc', rfl, by rw [hst']; exact fun h => (by cases h), ?_⟩
      rw [hpe]; exact hexit c dd R' Oc' h1 hE
theorem zcj {O J F X : List Frag} (h : O.Perm (J ++ F)) : (O ++ X).Perm (J ++ (F ++ X)) := by rw [← List.append_assoc]; exact h.append_right X
section more
variable {P : Program} {ρ : Option Nat} {n : Nat} {Q : Po} {l : Nat → Value} {D : List Nat} {R : RH} {O : List Frag} {ops : Array Oper} {rest : List Oper} {dst : Option Tmp} {ty : TypeId} {pos : String} {after : Array Go.Edge} {g : Option (Nat × Bool)} {d : Nat}
structure ArrOk (P : Program) (t : TypeId) (m sz : Nat) : Prop where
  run : ∀ (b off i : Nat) (k : IntKind) (w : World), i < m → (Instr.indexAt t (.pointer (some ⟨b, off, none⟩)) (.int k i)).run P w = .ok (.pointer (some ⟨b, off + i * sz, none⟩)) w
theorem zbv {t e : TypeId} {m sz : Nat} (hu : P.underlying t = some (.array m e)) (hs : ∀ w, (sizeOf e).run P w = .ok sz w) : ArrOk P t m sz := by
  refine ⟨fun b off i k w hi => ?_⟩
  have h1 : (0 : Int) ≤ (i : Int) ∧ (i : Int) < (m : Int) := ⟨by omega, by omega⟩
  simp only [Instr.indexAt, asIntOf, Instr.sureAddr, Sem.run_bind, Sem.run_pure, Result.andThen_ok, underlying, run_program, hu]
  simp only [h1, and_self, if_true, Sem.run_bind, hs, Result.andThen_ok, Sem.run_pure, Int.toNat_natCast, addr_add]
theorem z19 {t : TypeId} {m sz i b off : Nat} {x ix : Operand} {k : IntKind} (ha : ArrOk P t m sz) (hx : ev l x = .pointer (some ⟨b, off, none⟩)) (hi : ev l ix = .int k i) (hm : i < m) :
    Val P ρ ⟨dst, .indexAddr t x ix, ty, pos, after, g⟩ l R O (.pointer (some ⟨b, off + i * sz, none⟩)) := by
  intro A w hh; rw [qw (by intro c h; cases h)]
  simp [execOp, hx, hi, ha.run b off i k w hm]
theorem z1h {f : FuncId} {c : Operand} {args : List Operand} {at' : Array TypeId} {cs vs : List Value} {Oc Or : List Frag} {post : Value → RH → List Frag → Prop} (hd : Nat.blt d n = true) (he : Enters P f) (hc : ev l c = .func (.func f) #[] cs.toArray) (ha : args.map (ev l) = vs) (hp : O.Perm (Oc ++ Or))
    (h : CallG P f (vs ++ cs).toArray R Oc post) (hk : ∀ v R' Oc', RH.le R R' → post v R' Oc' → wo P ρ n ops Q rest (upd l d v) D R' (Oc' ++ Or)) : wo P ρ n ops Q (⟨some d, .call ⟨.value c, args.toArray, at'⟩, ty, pos, after, none⟩ :: rest) l D R O :=
  z9a hd hc ha hp (z8w he (by simp) h) hk
theorem zl9 {f : FuncId} {c : Operand} {args : List Operand} {at' : Array TypeId} {cs vs : List Value} {post : Value → RH → Prop} (he : Enters P f) (hc : ev l c = .func (.func f) #[] cs.toArray) (ha : args.map (ev l) = vs) (h : CallP P f (vs ++ cs).toArray R post) :
    Eff P ρ ⟨dst, .call ⟨.value c, args.toArray, at'⟩, ty, pos, after, g⟩ l R O (fun v R' O' => O' = O ∧ post v R') :=
  zam he hc (z3s ha) (by simp) h
theorem zcl {f : FuncId} {c : Operand} {args : List Operand} {at' : Array TypeId} {cs vs : List Value} {post : Value → RH → Prop} (hd : Nat.blt d n = true) (he : Enters P f) (hc : ev l c = .func (.func f) #[] cs.toArray) (ha : args.map (ev l) = vs) (h : CallP P f (vs ++ cs).toArray R post)
    (hk : ∀ v R', RH.le R R' → post v R' → wo P ρ n ops Q rest (upd l d v) D R' O) : wo P ρ n ops Q (⟨some d, .call ⟨.value c, args.toArray, at'⟩, ty, pos, after, none⟩ :: rest) l D R O :=
  z0t hd (zl9 he hc ha h) fun v R' O' hle ⟨hO, hp⟩ => by subst hO; exact hk v R' hle hp
theorem zbr {α : Type} {X : List α} {lo hi : Int} (h : okS X lo hi) : (cut X lo hi).length = hi.toNat - lo.toNat := by
  obtain ⟨h1, h2, h3⟩ := h
  simp only [cut, List.length_take, List.length_drop]; omega
theorem ze8 {α : Type} {T : Ty α} {t e : TypeId} {lo hi mx : Nat} {x : Operand} {xlo xhi xmx : Option Operand} {v : Value} {X X' : List α} (ht : SlOk P t e T) (hx : ev l x = v) (hr : VRep (yj T) R v X)
    (hlo : xlo.map (ev l) = none ∧ lo = 0 ∨ ∃ k, xlo.map (ev l) = some (.int k lo)) (hhi : xhi.map (ev l) = none ∧ hi = X.length ∧ xmx = none ∨ ∃ k, xhi.map (ev l) = some (.int k hi))
    (hmx : xmx.map (ev l) = none ∧ mx = capOf v ∨ ∃ k, xmx.map (ev l) = some (.int k mx)) (h1 : lo ≤ hi) (h2 : hi ≤ X.length) (h3 : X.length ≤ capOf v → hi ≤ mx) (h4 : X.length ≤ capOf v → mx ≤ capOf v) (hX : (X.drop lo).take (hi - lo) = X') :
    Eff P ρ ⟨dst, .slice t x xlo xhi xmx, ty, pos, after, g⟩ l R O (fun v' R' O' => O' = O ∧ phR (tSl false T) X' v' R') :=
  (zle ht hx hr hlo hhi hmx h1 h2 h3 h4 hX).mono fun _ _ _ _ ⟨a, b⟩ => ⟨a, z7j b⟩
theorem Eff.frzT {o : Oper} {α : Type} {T : Ty α} {X : List α} (h : Eff P ρ o l R O fun v R' O' => capOf v = X.length ∧ ∃ f, O' = f :: O ∧ ORep T R' f v X) : Eff P ρ o l R O fun v R' O' => O' = O ∧ phR (tSl true T) X v R' := by
  intro A w hh
  refine z4t (h A w hh) ?_
  rintro v w' ⟨R', O', hle, hh', hc, f, rfl, ho⟩
  exact ⟨R'.add f, O, hle.trans (RH.le_add _ _), z1e hh', rfl, ll (z2p ho hh') hc⟩
theorem rq {α : Type} {T : Ty α} {t e : TypeId} {z : α} {bytes m : Nat} {parts : List (Nat × Operand)} {ps : List (Nat × Value)} {css : List (List Value)} {X : List α} (hu : P.underlying t = some (.slice e)) (hz : ZeroOk P e T z bytes)
    (hp : (parts.map fun x => (x.1, ev l x.2)) = ps) (hps : ps.map (fun p => (p.1, p.2.cells)) = css.zipIdx.map (fun x => (x.2, x.1.toArray))) (hX : ∀ (i : Nat) (c : List Value) (x : α), css[i]? = some c → X[i]? = some x → T.rep R c x)
    (hl : css.length = X.length) (hn : X.length = m) (hbig : m * T.size ≤ 16777216) : Eff P ρ ⟨dst, .buildSlice t m parts.toArray, ty, pos, after, g⟩ l R O fun v R' O' => O' = O ∧ phR (tSl true T) X v R' :=
  Eff.frzT ((z6p hu hz (by rw [List.map_toArray]; exact congrArg List.toArray hp) hps hX hl hn hbig).mono fun v R' O' _ ⟨hR, hc, f, hO, h⟩ => by subst hR; exact ⟨hc, f, hO, h⟩)
theorem zgk {a b : Int} (h : 0 ≤ a ∧ a ≤ b) : a.toNat ≤ b.toNat := by omega
abbrev okQ (a b : Int) : Prop := 0 ≤ a ∧ a ≤ 9223372036854775807 ∧ 1 ≤ b
abbrev okR (a b : Int) : Prop := 0 ≤ a ∧ 1 ≤ b
end more
end GV
end Go.Proofs.Ytplgbkaollfmkaa

namespace Go.Proofs.Ytplgbkaollfmkaa
namespace GV
def z6a (φs : List (List Value → Value → RH → Prop)) (k : Nat) : List Value → Value → RH → Prop := φs.getD k fun _ _ _ => True
def z4u (os : List Oper) (E : List Nat) (l : Nat → Value) : List Value := E.map fun e => match vz os e with | some d => l d | none => undef
def zbd (E : List Nat) (listed : Array Bool) : List Bool := E.map fun e => listed.getD e false
def zmn (os : List Oper) (φs : List (List Value → Value → RH → Prop)) (es : List Value) (l : Nat → Value) (R : RH) : List Go.Edge → Prop
  | [] => True
  | e :: r => (match vz os e.on with | some d => Region.binds .any e = true → z6a φs e.on es (l d) R | none => True) ∧ zmn os φs es l R r
def kn (os : List Oper) (E : List Nat) (i : Nat) (o : Oper) (fl : List Bool) : Bool :=
  (E.zip fl).all fun x => (!(forced os o i).contains x.1 || x.2) && (match os[x.1]? with | some oe => !(forced os oe x.1).contains i || !x.2 | none => true)
def zof (os : List Oper) (E : List Nat) (k : Nat) (o : Oper) (p : Nat) : Bool := match E[p]? with | some e => Nat.beq e k || (forced os o k).contains e | none => true
def zeh (o : Oper) (es : List Value) (p : Nat) (v : Value) : List Value := match o.dst with | some _ => es.set p v | none => es
def agB (os : List Oper) (i s : Nat) : Bool := bif (z9r os).contains s then os.zipIdx.any (fun x => match x.1.dst with | some d => Nat.beq d s && !((forced os x.1 x.2).contains i) | none => false) else false
def AgI (os : List Oper) (i : Nat) (l0 l : Nat → Value) : Prop := ∀ s, agB os i s = false → l s = l0 s
section defs
variable (P : Program) (ρ : Option Nat) (os : List Oper) (E : List Nat) (φs : List (List Value → Value → RH → Prop)) (W : List Bool → List Value → RH → List Frag → Prop) (l0 : Nat → Value) (R0 : RH)
def zr0 (k : Nat) (o : Oper) : Prop := ∀ l R fl O, RH.le R0 R → AgI os k l0 l → zmn os φs (z4u os E l) l R o.after.toList → kn os E k o fl = true → W fl (z4u os E l) R O →
  Eff P ρ o l R O fun v R' O' => O' = O ∧ z6a φs k (z4u os E l) v R'
def ztf (k : Nat) (o : Oper) (p : Nat) : Prop := ∀ l R fl O, RH.le R0 R → AgI os k l0 l → zmn os φs (z4u os E l) l R o.after.toList → kn os E k o fl = true → fl.getD p true = false → W fl (z4u os E l) R O →
  Eff P ρ o l R O fun v R' O' => z6a φs k (zeh o (z4u os E l) p v) v R' ∧ W (fl.set p true) (zeh o (z4u os E l) p v) R' O'
def zjg : Nat → List Oper → Prop
  | _, [] => True
  | k, o :: r => (match E.idxOf? k with | some p => ztf P ρ os E φs W l0 R0 k o p | none => zr0 P ρ os E φs W l0 R0 k o) ∧ zjg (k + 1) r
def FSt : Nat → List Oper → Prop
  | _, [] => True
  | k, o :: r => (∀ es es' v R, (∀ p, zof os E k o p = true → es.getD p undef = es'.getD p undef) → z6a φs k es v R → z6a φs k es' v R) ∧ FSt (k + 1) r
def zfn (n : Nat) : Bool :=
  (os.zipIdx.all fun (o, i) => o.guard.isNone && (match o.dst with | some d => Nat.blt d n | none => E.contains i)) && decide (z9r os).Nodup &&
  (os.zipIdx.all fun (o, i) => o.after.all fun e => !Region.binds .any e || Nat.blt e.on i) && decide E.Nodup && E.all fun e => Nat.blt e os.length
def zo9 (K : List (Nat × Value) → Prop) : List Oper → Prop
  | [] => K []
  | o :: r => match o.dst with
    | none => zo9 K r
    | some d => ∀ v, zo9 (fun acc => K ((d, v) :: acc)) r
def look (acc : List (Nat × Value)) (d : Nat) : Value := match acc with
  | [] => undef
  | (e, v) :: r => bif Nat.beq e d then v else look r d
def esA (acc : List (Nat × Value)) : List Value := E.map fun e => match vz os e with | some d => look acc d | none => undef
def zmk (es : List Value) (acc : List (Nat × Value)) (R : RH) (K : Prop) : Nat → List Oper → Prop
  | _, [] => K
  | k, o :: r => match o.dst with
    | none => zmk es acc R K (k + 1) r
    | some d => z6a φs k es (look acc d) R → zmk es acc R K (k + 1) r
end defs
section free
variable {P : Program} {ρ : Option Nat} {n : Nat} {Q : Po} {D : List Nat} {os : List Oper} {E : List Nat} {φs : List (List Value → Value → RH → Prop)} {W : List Bool → List Value → RH → List Frag → Prop} {l0 : Nat → Value} {R0 : RH} {O : List Frag}
theorem ze9 : ∀ (r : List Oper) (k : Nat), zjg P ρ os E φs W l0 R0 k r → ∀ (i : Nat) (o : Oper), r[i]? = some o → (match E.idxOf? (k + i) with | some p => ztf P ρ os E φs W l0 R0 (k + i) o p | none => zr0 P ρ os E φs W l0 R0 (k + i) o)
  | [], k, _, i, o, h => by simp at h
  | o' :: r, k, hO, i, o, h => by
    cases i with
    | zero => simp at h; subst h; exact hO.1
    | succ i =>
      have := ze9 r (k + 1) hO.2 i o (by simpa using h)
      rwa [show k + 1 + i = k + (i + 1) from by omega] at this
theorem zjs : ∀ (r : List Oper) (k : Nat), FSt os E φs k r → ∀ (i : Nat) (o : Oper), r[i]? = some o → ∀ es es' v R, (∀ p, zof os E (k + i) o p = true → es.getD p undef = es'.getD p undef) → z6a φs (k + i) es v R → z6a φs (k + i) es' v R
  | [], k, _, i, o, h => by simp at h
  | o' :: r, k, hO, i, o, h => by
    cases i with
    | zero => simp at h; subst h; exact hO.1
    | succ i =>
      have := zjs r (k + 1) hO.2 i o (by simpa using h)
      rwa [show k + 1 + i = k + (i + 1) from by omega] at this
theorem zj7 {es : List Value} {l : Nat → Value} {R : RH} : ∀ (r : List Go.Edge), (∀ e ∈ r, Region.binds .any e = true → ∀ d, vz os e.on = some d → z6a φs e.on es (l d) R) → zmn os φs es l R r
  | [], _ => trivial
  | e :: r, h => ⟨by
      cases hd : vz os e.on with
      | none => trivial
      | some d => exact fun hb => h e (List.mem_cons_self ..) hb d hd, zj7 r fun e' he' => h e' (List.mem_cons_of_mem _ he')⟩
theorem zau (h : zfn os E n = true) : (∀ (i : Nat) o, os[i]? = some o → o.guard = none ∧ (∀ d, o.dst = some d → d < n) ∧ (o.dst = none → i ∈ E)) ∧ (z9r os).Nodup ∧
    (∀ (i : Nat) o, os[i]? = some o → ∀ e ∈ o.after, Region.binds .any e = true → e.on < i) ∧ E.Nodup ∧ ∀ e ∈ E, e < os.length := by
  simp only [zfn, Bool.and_eq_true, List.all_eq_true, decide_eq_true_eq] at h
  obtain ⟨⟨⟨⟨h1, h2⟩, h3⟩, h4⟩, h5⟩ := h
  have mem : ∀ (i : Nat) o, os[i]? = some o → (o, i) ∈ os.zipIdx := fun i o ho => by
    rw [List.mem_iff_getElem?]; exact ⟨i, by rw [List.getElem?_zipIdx, ho]; simp⟩
  refine ⟨fun i o ho => ?_, h2, fun i o ho e he hb => ?_, h4, fun e he => by simpa using h5 e he⟩
  · obtain ⟨g1, g2⟩ := h1 _ (mem i o ho)
    refine ⟨by simpa using g1, fun d hd => ?_, fun hd => ?_⟩
    · rw [hd] at g2; simpa using g2
    · rw [hd] at g2; simpa using g2
  · have := h3 _ (mem i o ho)
    simp only [Array.all_eq_true_iff_forall_mem] at this
    simpa [hb] using this e he
structure FJ (os : List Oper) (E : List Nat) (φs : List (List Value → Value → RH → Prop)) (W : List Bool → List Value → RH → List Frag → Prop) (l0 : Nat → Value) (R0 : RH) (n : Nat) (D : List Nat) (listed : Array Bool) (a : Act) (w : World) : Prop where
  ex : ∃ l R O, Fr n l D a ∧ Holds R (O ++ D.map z0o) w ∧ RH.le R0 R ∧ W (zbd E listed) (z4u os E l) R O ∧ Agree os l0 l ∧ (∀ i d, listed.getD i false = true → vz os i = some d → z6a φs i (z4u os E l) (l d) R) ∧ (∀ i d, listed.getD i false = false → vz os i = some d → l d = l0 d)
  closed : z5s os listed
theorem zii {E : List Nat} {i : Nat} (h : E.idxOf? i = none) : i ∉ E := by
  intro hm
  have := List.idxOf?_eq_none_iff.1 h
  exact this hm
theorem ziz {E : List Nat} {i p : Nat} (h : E.idxOf? i = some p) : E[p]? = some i := by
  have h' := h
  unfold List.idxOf? at h'
  obtain ⟨hlt, hp, _⟩ := List.findIdx?_eq_some_iff_getElem.1 h'
  rw [List.getElem?_eq_getElem hlt]
  have : E[p] = i := by simpa using hp
  rw [this]
theorem zss {listed : Array Bool} (hc : z5s os listed) {i : Nat} {o : Oper} (ho : os[i]? = some o) (hun : listed.getD i false = false) (hdep : ∀ e ∈ o.after, Region.binds .any e = true → listed.getD e.on false = true) : kn os E i o (zbd E listed) = true := by
  unfold kn zbd
  rw [List.all_eq_true]
  rintro ⟨e, b⟩ hx
  have hb : b = listed.getD e false := by
    rw [List.mem_iff_getElem?] at hx
    obtain ⟨p, hp⟩ := hx
    rw [List.getElem?_zip_eq_some] at hp
    obtain ⟨h1, h2⟩ := hp
    rw [List.getElem?_map, h1] at h2
    simpa using h2.symm
  subst hb
  simp only [Bool.and_eq_true, Bool.or_eq_true, Bool.not_eq_true']
  refine ⟨?_, ?_⟩
  · by_cases h : (forced os o i).contains e = true
    · exact .inr (z02 hc hdep e (by simpa using h))
    · exact .inl (by simpa using h)
  · cases he : os[e]? with
    | none => rfl
    | some oe =>
      simp only [Bool.or_eq_true, Bool.not_eq_true']
      by_cases h : listed.getD e false = true
      · left
        cases hf : (forced os oe e).contains i with
        | false => rfl
        | true =>
          have := z02 hc (hc e oe he h) i (by simpa using hf)
          rw [this] at hun; cases hun
      · exact .inr (by simpa using h)
theorem zd9 {l : Nat → Value} {i d : Nat} {v : Value} (hn : (z9r os).Nodup) (hi : i ∉ E) (hd : vz os i = some d) : z4u os E (upd l d v) = z4u os E l := by
  unfold z4u
  refine List.map_congr_left fun e he => ?_
  cases h : vz os e with
  | none => rfl
  | some d' =>
    have hne : d' ≠ d := fun e' => by subst e'; exact hi (z7a hn hd h ▸ he)
    show upd l d v d' = l d'
    unfold upd
    cases hb : Nat.beq d' d
    · rfl
    · exact absurd (Nat.eq_of_beq_eq_true hb) hne
theorem zl0 {l : Nat → Value} {i p d : Nat} {v : Value} (hn : (z9r os).Nodup) (hE : E.Nodup) (hp : E[p]? = some i) (hd : vz os i = some d) : z4u os E (upd l d v) = (z4u os E l).set p v := by
  unfold z4u
  apply List.ext_getElem?
  intro j
  rw [List.getElem?_set, List.getElem?_map]
  have hlt : p < E.length := (List.getElem?_eq_some_iff.1 hp).1
  by_cases e : p = j
  · subst e
    rw [if_pos rfl, if_pos (by simpa using hlt), hp]
    simp [hd, upd]
  · rw [if_neg e, List.getElem?_map]
    cases hj : E[j]? with
    | none => rfl
    | some e' =>
      simp only [Option.map_some, Option.some.injEq]
      have hne : e' ≠ i := fun h => by
        subst h
        have h1 := (List.getElem?_eq_some_iff.1 hj).1
        exact e ((List.getElem?_inj hlt hE).1 (hp.trans hj.symm))
      cases h : vz os e' with
      | none => rfl
      | some d' =>
        have : d' ≠ d := fun h' => by subst h'; exact hne (z7a hn h hd)
        show upd l d v d' = l d'
        unfold upd
        cases hb : Nat.beq d' d
        · rfl
        · exact absurd (Nat.eq_of_beq_eq_true hb) this
theorem zi2 {listed : Array Bool} {i : Nat} (hi : i ∉ E) : zbd E (listed.setIfInBounds i true) = zbd E listed :=
  List.map_congr_left fun e he => getD_set_ne false (fun h => hi (h ▸ he))
theorem zem {listed : Array Bool} {i p : Nat} (hs : i < listed.size) (hE : E.Nodup) (hp : E[p]? = some i) : zbd E (listed.setIfInBounds i true) = (zbd E listed).set p true := by
  unfold zbd
  apply List.ext_getElem?
  intro j
  have hlt : p < E.length := (List.getElem?_eq_some_iff.1 hp).1
  rw [List.getElem?_set, List.getElem?_map]
  by_cases e : p = j
  · subst e
    rw [if_pos rfl, if_pos (by simpa using hlt), hp]
    simp only [Option.map_some]
    rw [z0y hs]
  · rw [if_neg e, List.getElem?_map]
    cases hj : E[j]? with
    | none => rfl
    | some e' =>
      simp only [Option.map_some, Option.some.injEq]
      refine getD_set_ne false fun h => ?_
      subst h
      exact e ((List.getElem?_inj hlt hE).1 (hp.trans hj.symm))
theorem zlv {es : List Value} {p q : Nat} {v : Value} (h : p ≠ q) : (es.set p v).getD q undef = es.getD q undef := by
  simp [List.getD_eq_getElem?_getD, h]
theorem zhk {listed : Array Bool} {i : Nat} {o : Oper} (hc : z5s os listed) (ho : os[i]? = some o) (hun : listed.getD i false = false) (hdep : ∀ e ∈ o.after, Region.binds .any e = true → listed.getD e.on false = true) : z5s os (listed.setIfInBounds i true) := by
  intro k o' ho' hk e he hb
  have hup : ∀ j, listed.getD j false = true → (listed.setIfInBounds i true).getD j false = true := fun j hj' => by
    by_cases e' : j = i
    · subst e'; rw [hj'] at hun; cases hun
    · rw [getD_set_ne false (Ne.symm e')]; exact hj'
  by_cases ek : k = i
  · subst ek
    rw [ho] at ho'
    obtain rfl := Option.some.inj ho'
    exact hup _ (hdep e he hb)
  · rw [getD_set_ne false (Ne.symm ek)] at hk
    exact hup _ (hc k o' ho' hk e he hb)
theorem zla (hok : zfn os E n = true) (hmono : ∀ k es v R R', RH.le R R' → z6a φs k es v R → z6a φs k es v R') (hW : ∀ fl es R R' O, RH.le R R' → W fl es R O → W fl es R' O) (hst : FSt os E φs 0 os) (hobl : zjg P ρ os E φs W l0 R0 0 os)
    {listed : Array Bool} {a : Act} {w : World} {i : Nat} {o : Oper} (hsz : listed.size = os.length) (hi : os[i]? = some o)
    (hj : FJ os E φs W l0 R0 n D listed a w) (hun : listed.getD i true = false) (hdep : ∀ e ∈ o.after, Region.binds .any e = true → listed.getD e.on false = true) :
    wpOpIn (wide ρ) 0 P os.toArray (lift n Q) i (FJ os E φs W l0 R0 n D (listed.setIfInBounds i true)) a w := by
  obtain ⟨s1, s2, s3, s4, s5⟩ := zau hok
  obtain ⟨⟨l, R, O', hf, hh, hle, hos, hag, hφ, hun0⟩, hcl⟩ := hj
  obtain ⟨hg, hdst, hms⟩ := s1 i o hi
  have hlt : i < os.length := (List.getElem?_eq_some_iff.1 hi).1
  have hio : os.toArray[i]? = some o := by simp [hi]
  have hun' : listed.getD i false = false := by
    rw [Array.getD_eq_getD_getElem?, Array.getElem?_eq_getElem (by omega)] at hun ⊢
    simpa using hun
  have hkn := zss (E := E) hcl hi hun' hdep
  have hfd : zmn os φs (z4u os E l) l R o.after.toList := zj7 _ fun e he hb d' hd' => hφ e.on d' (hdep e (by simpa using he) hb) hd'
  have hst' := ze9 os 0 hobl i o hi
  rw [Nat.zero_add] at hst'
  have hlist : ∀ k, k ≠ i → (listed.setIfInBounds i true).getD k false = listed.getD k false := fun k hk => getD_set_ne false (Ne.symm hk)
  have hcl' := zhk hcl hi hun' hdep
  have hagree : ∀ d v, vz os i = some d → Agree os l0 (upd l d v) := fun d v hdi s hs => by
    have hne : s ≠ d := fun e => by subst e; have := zf6 hdi; simp [this] at hs
    have : upd l d v s = l s := by
      unfold upd
      cases hb : Nat.beq s d
      · rfl
      · exact absurd (Nat.eq_of_beq_eq_true hb) hne
    rw [this]; exact hag s hs
  have hother : ∀ d v k d', vz os i = some d → k ≠ i → vz os k = some d' → upd l d v d' = l d' := fun d v k d' hdi hk hd' => by
    have hne : d' ≠ d := fun e => by subst e; exact hk (z7a s2 hd' hdi)
    unfold upd
    cases hb : Nat.beq d' d
    · rfl
    · exact absurd (Nat.eq_of_beq_eq_true hb) hne
  have hkeep : ∀ d v, vz os i = some d → ∀ k d', (listed.setIfInBounds i true).getD k false = false → vz os k = some d' → upd l d v d' = l0 d' := fun d v hdi k d' hk hd' => by
    by_cases e : k = i
    · subst e; rw [z0y (by omega)] at hk; cases hk
    · rw [hother d v k d' hdi e hd']; exact hun0 k d' (by rw [hlist k e] at hk; exact hk) hd'
  have hkeep0 : ∀ k d', (listed.setIfInBounds i true).getD k false = false → vz os k = some d' → l d' = l0 d' := fun k d' hk hd' => by
    by_cases e : k = i
    · subst e; rw [z0y (by omega)] at hk; cases hk
    · exact hun0 k d' (by rw [hlist k e] at hk; exact hk) hd'
  have hagI : AgI os i l0 l := fun s hs => by
    by_cases hm : (z9r os).contains s = true
    · have hm' : s ∈ z9r os := by simpa using hm
      obtain ⟨oj, hoj, hjd⟩ := List.mem_filterMap.1 hm'
      obtain ⟨j, hj⟩ := List.mem_iff_getElem?.1 hoj
      unfold agB at hs
      rw [hm] at hs
      simp only [cond_true, List.any_eq_false] at hs
      have h1 := hs (oj, j) (by rw [List.mem_iff_getElem?]; exact ⟨j, by rw [List.getElem?_zipIdx, hj]; simp⟩)
      simp only [hjd] at h1
      have h2 : (forced os oj j).contains i = true := by
        cases hc : (forced os oj j).contains i with
        | true => rfl
        | false => rw [hc] at h1; simp at h1
      cases hjl : listed.getD j false with
      | true =>
        have := z02 hcl (hcl j oj hj hjl) i (by simpa using h2)
        rw [this] at hun'; cases hun'
      | false => exact hun0 j s hjl (by simp [vz, hj, hjd])
    · exact hag s (by simpa using hm)
  unfold wpOpIn
  rw [hio]
  simp only [z13 hg, if_true]
  cases hE : E.idxOf? i with
  | none =>
    rw [hE] at hst'
    have hni := zii hE
    have hds : ∃ d, o.dst = some d := by
      cases hd : o.dst with
      | none => exact absurd (hms hd) hni
      | some d => exact ⟨d, rfl⟩
    obtain ⟨d, hd⟩ := hds
    have hdi : vz os i = some d := by simp [vz, hi, hd]
    refine z2e (A := D.map z0o) hf hh (hst' l R _ O' hle hagI hfd hkn hos) ?_
    rintro v R' O'' w' hle' hh' ⟨rfl, hp⟩
    have hput : Fr n (upd l d v) D (a.put o.dst v) := by have := hf.put (d := o.dst) (fun t ht => hdst t ht) v; rw [hd] at this ⊢; exact this
    refine ⟨⟨upd l d v, R', O'', hput, hh', hle.trans hle', ?_, hagree d v hdi, fun k d' hk hd' => ?_, hkeep d v hdi⟩, hcl'⟩
    · rw [zi2 hni, zd9 s2 hni hdi]; exact hW _ _ _ _ _ hle' hos
    · rw [zd9 s2 hni hdi]
      by_cases e : k = i
      · subst e; rw [hdi] at hd'; cases hd'
        have : upd l d v d = v := by simp [upd]
        rw [this]; exact hp
      · rw [hother d v k d' hdi e hd']
        exact hmono _ _ _ _ _ hle' (hφ k d' (by rw [hlist k e] at hk; exact hk) hd')
  | some p =>
    rw [hE] at hst'
    have hp := ziz hE
    have hplt : p < E.length := (List.getElem?_eq_some_iff.1 hp).1
    have hfl : (zbd E listed).getD p true = false := by
      unfold zbd
      rw [List.getD_eq_getElem?_getD, List.getElem?_map, hp]
      simpa using hun'
    have hold : ∀ (es' : List Value) (R' : RH), RH.le R R' → (∀ q, q ≠ p → (z4u os E l).getD q undef = es'.getD q undef) → ∀ k d', k ≠ i → listed.getD k false = true → vz os k = some d' → z6a φs k es' (l d') R' := by
      intro es' R' hle' hes k d' hk hkl hd'
      have hok' : ∃ ok, os[k]? = some ok := by
        cases h : os[k]? with
        | none => simp [vz, h] at hd'
        | some ok => exact ⟨ok, rfl⟩
      obtain ⟨ok, hok'⟩ := hok'
      have := zjs os 0 hst k ok hok' (z4u os E l) es' (l d') R'
      rw [Nat.zero_add] at this
      refine this (fun q hq => ?_) (hmono _ _ _ _ _ hle' (hφ k d' hkl hd'))
      by_cases e : q = p
      · subst e
        exfalso
        unfold zof at hq
        rw [hp] at hq
        simp only [Bool.or_eq_true] at hq
        rcases hq with hq | hq
        · exact hk (Nat.eq_of_beq_eq_true hq).symm
        · have := z02 hcl (hcl k ok hok' hkl) i (by simpa using hq)
          rw [this] at hun'; cases hun'
      · exact hes q e
    refine z2e (A := D.map z0o) hf hh (hst' l R _ O' hle hagI hfd hkn hfl hos) ?_
    rintro v R' O'' w' hle' hh' ⟨hpv, hw'⟩
    cases hd : o.dst with
    | none =>
      have hdi : vz os i = none := by simp [vz, hi, hd]
      have he : ∀ es, zeh o es p v = es := fun es => by simp [zeh, hd]
      rw [he] at hw'
      refine ⟨⟨l, R', O'', ?_, hh', hle.trans hle', ?_, hag, fun k d' hk hd' => ?_, hkeep0⟩, hcl'⟩
      · have := hf.put (d := o.dst) (fun t ht => hdst t ht) v; rw [hd] at this; exact this
      · rw [zem (by omega) s4 hp]; exact hw'
      · have hne : k ≠ i := fun e => by subst e; rw [hdi] at hd'; cases hd'
        exact hold _ _ hle' (fun _ _ => rfl) k d' hne (by rw [hlist k hne] at hk; exact hk) hd'
    | some d =>
      have hdi : vz os i = some d := by simp [vz, hi, hd]
      have hput : Fr n (upd l d v) D (a.put (some d) v) := by have := hf.put (d := o.dst) (fun t ht => hdst t ht) v; rw [hd] at this; exact this
      have hes := zl0 (l := l) (v := v) s2 s4 hp hdi
      have he : ∀ es, zeh o es p v = es.set p v := fun es => by simp [zeh, hd]
      rw [he] at hw' hpv
      refine ⟨⟨upd l d v, R', O'', hput, hh', hle.trans hle', ?_, hagree d v hdi, fun k d' hk hd' => ?_, hkeep d v hdi⟩, hcl'⟩
      · rw [zem (by omega) s4 hp, hes]; exact hw'
      · rw [hes]
        by_cases e : k = i
        · subst e; rw [hdi] at hd'; cases hd'
          have : upd l d v d = v := by simp [upd]
          rw [this]; exact hpv
        · rw [hother d v k d' hdi e hd']
          exact hold _ _ hle' (fun q hq => (zlv (Ne.symm hq)).symm) k d' e (by rw [hlist k e] at hk; exact hk) hd'
theorem zc2 {l : Nat → Value} : ∀ (r : List Oper) (K : List (Nat × Value) → Prop), zo9 K r → K (r.filterMap fun o => o.dst.map fun d => (d, l d))
  | [], K, h => h
  | o :: r, K, h => by
    unfold zo9 at h
    cases hd : o.dst with
    | none => rw [hd] at h; simpa [List.filterMap_cons, hd] using zc2 (l := l) r K h
    | some d => rw [hd] at h; simpa [List.filterMap_cons, hd] using zc2 (l := l) r _ (h (l d))
theorem zbj {l : Nat → Value} {d : Nat} : ∀ (r : List Oper), d ∈ r.filterMap (·.dst) → look (r.filterMap fun o => o.dst.map fun d => (d, l d)) d = l d
  | [], h => by simp at h
  | o :: r, h => by
    cases hd : o.dst with
    | none =>
      simp only [List.filterMap_cons, hd, Option.map_none] at h ⊢
      exact zbj r h
    | some d' =>
      simp only [List.filterMap_cons, hd, Option.map_some] at h ⊢
      unfold look
      cases hb : Nat.beq d' d
      · have hne : d' ≠ d := fun e => by subst e; simp at hb
        rcases List.mem_cons.1 h with e | h
        · exact absurd e.symm hne
        · exact zbj r h
      · rw [Nat.eq_of_beq_eq_true hb]; rfl
theorem zs4 {l : Nat → Value} : esA os E (os.filterMap fun o => o.dst.map fun d => (d, l d)) = z4u os E l := by
  unfold esA z4u
  refine List.map_congr_left fun e _ => ?_
  cases h : vz os e with
  | none => rfl
  | some d => exact zbj os (zf6 h)
theorem zcg {es : List Value} {acc : List (Nat × Value)} {R : RH} {K : Prop} : ∀ (r : List Oper) (k : Nat), zmk φs es acc R K k r → (∀ i o d, r[i]? = some o → o.dst = some d → z6a φs (k + i) es (look acc d) R) → K
  | [], k, h, _ => h
  | o :: r, k, h, hφ => by
    have hφ' : ∀ i o' d, r[i]? = some o' → o'.dst = some d → z6a φs (k + 1 + i) es (look acc d) R := fun i o' d hi hd' => by
      have := hφ (i + 1) o' d (by simpa using hi) hd'; rwa [show k + (i + 1) = k + 1 + i from by omega] at this
    unfold zmk at h
    cases hd : o.dst with
    | none => rw [hd] at h; exact zcg r (k + 1) h hφ'
    | some d => rw [hd] at h; exact zcg r (k + 1) (h (hφ 0 o d rfl hd)) hφ'
def zsn (φs : List (List Value → Value → RH → Prop)) : Prop := ∀ k es v R R', RH.le R R' → z6a φs k es v R → z6a φs k es v R'
def zqz (φ : List Value → Value → RH → Prop) : Prop := ∀ es v R R', RH.le R R' → φ es v R → φ es v R'
def zi4 : List (List Value → Value → RH → Prop) → Prop
  | [] => True
  | φ :: r => zqz φ ∧ zi4 r
theorem zgl : ∀ {φs : List (List Value → Value → RH → Prop)}, zi4 φs → zsn φs
  | [], _ => fun k es v R R' _ _ => by simp [z6a]
  | φ :: r, h => fun k es v R R' hle hp => by
    cases k with
    | zero => exact h.1 es v R R' hle hp
    | succ k => exact zgl (φs := r) h.2 k es v R R' hle hp
theorem qg {φ : Value → RH → Prop} (h : zin φ) : zqz (fun _ => φ) := fun _ v R R' hle k => h v R R' hle k
theorem z4a {id : Nat} (E : List Nat) (φs : List (List Value → Value → RH → Prop)) (W : List Bool → List Value → RH → List Frag → Prop) (hm : P.follows .mixedOrders = true) (hok : zfn os E n = true) (hmono : zi4 φs)
    (hW : ∀ fl es R R' O, RH.le R R' → W fl es R O → W fl es R' O) (hst : FSt os E φs 0 os) (h0 : ∀ es, W (E.map fun _ => false) es R0 O) (hobl : zjg P ρ os E φs W l0 R0 0 os)
    (hend : ∀ R, RH.le R0 R → zo9 (fun acc => zmk φs (esA os E acc) acc R (∀ O', W (E.map fun _ => true) (esA os E acc) R O' → ∃ J F, O'.Perm (J ++ F) ∧ wo P ρ n #[] Q [] (z1g l0 acc) D R F) 0 os) os) : wg P ρ n (.region id os.toArray true) Q l0 D R0 O := by
  intro a w hf hh
  refine wpIn_region_any hm ?_
  obtain ⟨s1, s2, s3, s4, s5⟩ := zau hok
  have hmono' := zgl hmono
  have hno : ∀ (k : Nat), (Array.replicate os.toArray.size false).getD k false = false := fun k => by
    rw [Array.getD_eq_getD_getElem?, Array.getElem?_replicate]; split <;> rfl
  have hready : ∀ (listed : Array Bool), listed.size = os.length → Region.ready .any os.toArray listed = [] → ∀ k, k < os.length → listed.getD k false = true := by
    intro listed hsz hr k
    induction k using Nat.strongRecOn with
    | _ k ih =>
      intro hk
      have ho : os.toArray[k]? = some (os[k]'hk) := by simp [hk]
      cases hb : listed.getD k false with
      | true => rfl
      | false =>
        have : k ∈ Region.ready .any os.toArray listed := mem_ready.2 ⟨by
          rw [Array.getD_eq_getD_getElem?, Array.getElem?_eq_getElem (by omega)] at hb ⊢
          exact hb, _, ho, fun e he hbind => by
            have hlt := s3 k _ (by simp [hk]) e he hbind
            exact ih e.on hlt (by omega)⟩
        rw [hr] at this
        cases this
  have hdone : ∀ (listed : Array Bool) (a : Act) (w : World), listed.size = os.length → FJ os E φs W l0 R0 n D listed a w → Region.ready .any os.toArray listed = [] → lift n Q .normal a w := by
    intro listed a w hsz hj hr
    have hall := hready listed hsz hr
    obtain ⟨⟨l, R, O', hf, hh, hle, hos, hag, hφ, _⟩, _⟩ := hj
    have hfl : zbd E listed = E.map fun _ => true := List.map_congr_left fun e he => hall e (s5 e he)
    rw [hfl] at hos
    have h1 := zc2 (l := l) os _ (hend R hle)
    rw [zs4] at h1
    have h2 := zcg os 0 h1 (fun i o d hi hd => by
      rw [Nat.zero_add, zbj os (List.mem_filterMap.2 ⟨o, List.mem_of_getElem? hi, hd⟩)]
      exact hφ i d (hall i (List.getElem?_eq_some_iff.1 hi).1) (by simp [vz, hi, hd])) O' hos
    obtain ⟨J, F, hp, h3⟩ := h2
    rw [← zg2 hag] at h3
    exact h3 a w hf (z8d hp hh)
  have main : ∀ (fuel : Nat) (listed : Array Bool) (a : Act) (w : World), listed.size = os.length → ((List.range os.length).filter fun i => !listed.getD i true).length ≤ fuel → FJ os E φs W l0 R0 n D listed a w →
      wpAnyIn (wide ρ) 0 P .any os.toArray (lift n Q) fuel listed a w := by
    intro fuel
    induction fuel with
    | zero =>
      intro listed a w hsz hfu hp
      have hr : Region.ready .any os.toArray listed = [] := by
        cases hr : Region.ready .any os.toArray listed with
        | nil => rfl
        | cons x xs =>
          have hx : x ∈ Region.ready .any os.toArray listed := by rw [hr]; exact List.mem_cons_self ..
          obtain ⟨hun, o, ho, _⟩ := mem_ready.1 hx
          have : x ∈ ((List.range os.length).filter fun i => !listed.getD i true) := by
            rw [List.mem_filter, List.mem_range]
            exact ⟨by have := (Array.getElem?_eq_some_iff.1 ho).1; simpa using this, by rw [hun]; rfl⟩
          have := List.length_pos_of_mem this
          omega
      exact ⟨hr, hdone listed a w hsz hp hr⟩
    | succ fuel ih =>
      intro listed a w hsz hfu hp
      refine ⟨hdone listed a w hsz hp, fun i hi => ?_⟩
      obtain ⟨hun, o, ho, hdep⟩ := mem_ready.1 hi
      have hil : i < os.length := by have := (Array.getElem?_eq_some_iff.1 ho).1; simpa using this
      refine wpOpIn_mono (fun a' w' h' => ih _ a' w' (by simpa using hsz) ?_ h') (zla hok hmono' hW hst hobl hsz (by simpa using ho) hp hun hdep)
      have hsub : ((List.range os.length).filter fun k => !(listed.setIfInBounds i true).getD k true) = (((List.range os.length).filter fun k => !listed.getD k true).filter fun k => k != i) := by
        rw [List.filter_filter]
        refine List.filter_congr fun k _ => ?_
        by_cases e : k = i
        · subst e; rw [z0y (by omega)]; simp
        · rw [getD_set_ne true (Ne.symm e)]; simp [e]
      rw [hsub]
      have hmem : i ∈ ((List.range os.length).filter fun k => !listed.getD k true) := by
        rw [List.mem_filter, List.mem_range]
        exact ⟨hil, by rw [hun]; rfl⟩
      have : (((List.range os.length).filter fun k => !listed.getD k true).filter fun k => k != i).length < ((List.range os.length).filter fun k => !listed.getD k true).length := List.length_filter_lt_length_iff_exists.2 ⟨i, hmem, show ¬ ((i != i) = true) by simp⟩
      omega
  refine main _ _ a _ (by simp) (by
    refine Nat.le_trans (List.length_filter_le _ _) ?_
    simp) ⟨⟨l0, R0, O, hf, z5i hh, RH.le.refl _, ?_, fun _ _ => rfl, fun i d hi => (by rw [hno] at hi; cases hi), fun _ _ _ _ => rfl⟩, fun k o' _ hk => by rw [hno] at hk; cases hk⟩
  have hfl : zbd E (Array.replicate os.toArray.size false) = E.map fun _ => false := List.map_congr_left fun e _ => hno e
  rw [hfl]; exact h0 _
theorem bg {o : Oper} {l : Nat → Value} {R : RH} {O O1 : List Frag} {φ : Value → RH → List Frag → Prop} (hp : O.Perm O1) (h : Eff P ρ o l R O1 φ) : Eff P ρ o l R O φ := fun A w hh => h A w (yc hh (hp.append_right A))
theorem ae {o : Oper} {l : Nat → Value} {R : RH} {O O1 : List Frag} {φ : Value → RH → Prop} (hp : O.Perm O1) (h : Eff P ρ o l R O1 (fun v R' O' => O' = O1 ∧ φ v R')) : Eff P ρ o l R O (fun v R' O' => O' = O ∧ φ v R') := fun A w hh => by
  refine z4t (h A w (yc hh (hp.append_right A))) ?_
  rintro v w' ⟨R', O', hle, hh', rfl, hv⟩
  exact ⟨R', O, hle, yc hh' (hp.symm.append_right A), rfl, hv⟩
theorem zb2 {dst : Option Tmp} {ty : TypeId} {pos : String} {after : Array Go.Edge} {g : Option (Nat × Bool)} {l : Nat → Value} {R : RH} {O : List Frag} {α : Type} {T : Ty α} {t : TypeId} {x y : Operand} {f : Frag} {v u w : Value} {X : List α} {i j : Nat} {z : α} (ht : TyOk P t T) (hv : ORep T R f v X) (hO : O[j]? = some f) (hx : ev l x = u) (hp : z1m T v X u i) (hi : i < X.length)
    (hy : ev l y = w) (hz : VRep T R w z) : Eff P ρ ⟨dst, .store t x y, ty, pos, after, g⟩ l R O (fun _ R' O' => R' = R ∧ ∃ f', O' = O.set j f' ∧ ORep T R f' v (X.set i z)) := by
  obtain ⟨b, off, h1, rfl⟩ := hp
  exact (zcy ht hv h1 hO hx hi hy hz).mono fun _ _ _ _ ⟨_, h⟩ => h
theorem l6 {i : Nat} {o : Oper} {fl : List Bool} {p : Prop} (h : kn os E i o fl = true) (k : kn os E i o fl = false) : p := by rw [k] at h; cases h
end free
end GV
end Go.Proofs.Ytplgbkaollfmkaa
