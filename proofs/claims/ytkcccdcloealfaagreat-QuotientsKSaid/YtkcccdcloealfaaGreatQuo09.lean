import Derived.Test.YtkcccdcloealfaaGreatEqv09
import Derived.Test.YtkcccdcloealfaaGreatSpec06k
set_option linter.unusedVariables false
set_option linter.unusedSimpArgs false
namespace Go.Proofs.YtkcccdcloealfaaGreat
namespace GV
theorem zff {α : Type} {r : α → α → Prop} (hi : ∀ a, ¬ r a a) (ha : ∀ a b, r a b → ¬ r b a) : ∀ {X Y : List α}, X.Pairwise r → Y.Pairwise r → (∀ a, a ∈ X ↔ a ∈ Y) → X = Y
  | [], [], _, _, _ => rfl
  | [], y :: Y, _, _, h => by have := (h y).2 (by simp); simp at this
  | x :: X, [], _, _, h => by have := (h x).1 (by simp); simp at this
  | x :: X, y :: Y, hX, hY, h => by
    obtain ⟨x1, x2⟩ := List.pairwise_cons.1 hX
    obtain ⟨y1, y2⟩ := List.pairwise_cons.1 hY
    have e : x = y := by
      rcases List.mem_cons.1 ((h x).1 (by simp)) with e | hx
      · exact e
      · rcases List.mem_cons.1 ((h y).2 (by simp)) with e | hy
        · exact e.symm
        · exact absurd (y1 x hx) (ha _ _ (x1 y hy))
    subst e
    rw [zff hi ha x2 y2 fun a => ?_]
    constructor
    · intro hm
      rcases List.mem_cons.1 ((h a).1 (List.mem_cons_of_mem _ hm)) with e | h'
      · subst e; exact absurd (x1 _ hm) (hi _)
      · exact h'
    · intro hm
      rcases List.mem_cons.1 ((h a).2 (List.mem_cons_of_mem _ hm)) with e | h'
      · subst e; exact absurd (y1 _ hm) (hi _)
      · exact h'
theorem zm3 {a b : List Int} (h : llt a b) : ¬ llt b a := fun k => z9n _ (z98 h k)
def zha (P : List BE) : List (List Int) := P.map (·.wd)
section
variable {m : Mach} {s0 : Nat} {P : List BE}
theorem getD_map {α β : Type} [Inhabited α] [Inhabited β] {X : List α} {f : α → β} {k : Nat} (h : k < X.length) : (X.map f).getD k default = f (X.getD k default) := by
  simp [List.getD_eq_getElem?_getD, h]
theorem zc0 (h : Rch m s0 P) : (zha P).Pairwise llt := by
  unfold zha
  rw [List.pairwise_iff_getElem]
  intro i j hi hj hij
  rw [List.length_map] at hi hj
  have := h.inc i j hij hj
  rw [List.getElem_map, List.getElem_map]
  simpa [List.getD_eq_getElem?_getD, hi, hj] using this
theorem zz4 {w : List Int} : w ∈ zha P ↔ ∃ j, j < P.length ∧ (P.getD j default).wd = w := by
  unfold zha; rw [List.mem_map]
  constructor
  · rintro ⟨e, he, rfl⟩
    obtain ⟨j, hj, rfl⟩ := List.mem_iff_getElem.1 he
    exact ⟨j, hj, by simp [List.getD_eq_getElem?_getD, hj]⟩
  · rintro ⟨j, hj, rfl⟩; exact ⟨_, lg hj, rfl⟩
def zr9 (m : Mach) (s0 : Nat) (w : List Int) : Prop := WOk m.inputs w ∧ l9 m s0 w ≠ -1 ∧ ∀ v, WOk m.inputs v → l9 m s0 v = l9 m s0 w → lle w v
theorem ze9 (hm : MOk m) (h : Rch m s0 P) {w : List Int} : w ∈ zha P ↔ zr9 m s0 w := by
  rw [zz4]
  constructor
  · rintro ⟨j, hj, rfl⟩
    refine ⟨(h.wok j hj).1, by rw [h.aft j hj]; omega, fun v hv e => h.min hm hj hv (by rw [e, h.aft j hj])⟩
  · rintro ⟨h1, h2, h3⟩
    obtain ⟨j, hj, h4, h5⟩ := h.least hm _ w rfl h1 h2
    have h6 := h3 _ (h.wok j hj).1 (by rw [h.aft j hj, h4])
    refine ⟨j, hj, ?_⟩
    rcases h5 with e | e
    · exact e
    · exact absurd e (zcd h6)
theorem zyd (hm : MOk m) {P' : List BE} (h : Rch m s0 P) (h' : Rch m s0 P') : P = P' := by
  have hw : zha P = zha P' := zff z9n (fun _ _ => zm3) (zc0 h) (zc0 h') fun w => by rw [ze9 hm h, ze9 hm h']
  have hl : P.length = P'.length := by have := congrArg List.length hw; simpa [zha] using this
  have hwd : ∀ j, j < P.length → (P.getD j default).wd = (P'.getD j default).wd := fun j hj => by
    have := congrArg (fun l : List (List Int) => l.getD j default) hw
    simp only [zha] at this
    rw [getD_map (X := P) hj, getD_map (X := P') (by omega)] at this
    exact this
  have hst : ∀ j, j < P.length → (P.getD j default).st = (P'.getD j default).st := fun j hj => by
    have h1 := h.aft j hj
    have h2 := h'.aft j (by omega)
    rw [hwd j hj, h2] at h1
    omega
  refine l6 hl fun j hj => ?_
  by_cases h0 : j = 0
  · subst h0; rw [h.root, h'.root]
  · obtain ⟨q, i, hq, hi, h1, h2, h3, _⟩ := h.par j (by omega) hj
    obtain ⟨q', i', hq', hi', h1', h2', h3', _⟩ := h'.par j (by omega) (by omega)
    have e3 := hwd j hj
    rw [h3, h3'] at e3
    obtain ⟨e4, e5⟩ := List.append_inj' e3 rfl
    have e6 : i = i' := by
      have : (i : Int) = (i' : Int) := by simpa using e5
      omega
    subst e6
    have e7 : (P.getD q default).st = (P'.getD q' default).st := by
      have a1 := h.aft q (by omega)
      have a2 := h'.aft q' (by omega)
      rw [e4, a2] at a1
      omega
    have a := hwd j hj
    have b := hst j hj
    rw [e7] at h1
    have c1 : (P.getD j default).par = (P'.getD j default).par := by rw [h1, h1']
    have c2 : (P.getD j default).inp = (P'.getD j default).inp := by rw [h2, h2']
    generalize P.getD j default = x at a b c1 c2 ⊢
    generalize P'.getD j default = y at a b c1 c2 ⊢
    cases x; cases y
    simp only at a b c1 c2
    rw [a, b, c1, c2]
end
/-! ### Homomorphisms -/
def hI (h : Nat → Nat) (z : Int) : Int := if z = -1 then -1 else (h z.toNat : Int)
theorem zjw (h : Nat → Nat) : hI h (-1) = -1 := rfl
theorem z9d (h : Nat → Nat) (s : Nat) : hI h (s : Int) = (h s : Int) := by unfold hI; rw [if_neg (by omega), Int.toNat_natCast]
structure Hom (m q : Mach) (h : Nat → Nat) : Prop where
  ok : MOk m
  ok' : MOk q
  inp : q.inputs = m.inputs
  rng : ∀ s, s < m.rows.length → h s < q.rows.length
  out : ∀ s i, s < m.rows.length → i < m.inputs.toNat → ou q (h s) i = ou m s i
  to : ∀ s i, s < m.rows.length → i < m.inputs.toNat → ed q (h s) i = hI h (ed m s i)
section
variable {m q : Mach} {h : Nat → Nat}
theorem Hom.run (H : Hom m q h) : ∀ (w : List Int) {s : Nat}, s < m.rows.length → WOk m.inputs w → z2a q (h s : Int) w = z2a m (s : Int) w ∧ l9 q (h s : Int) w = hI h (l9 m (s : Int) w)
  | [], s, hs, _ => ⟨rfl, (z9d h s).symm⟩
  | c :: w, s, hs, hw => by
    have hc : 0 ≤ c ∧ c < m.inputs := hw 0 (by simp)
    obtain ⟨i, rfl⟩ := Int.eq_ofNat_of_zero_le hc.1
    have hi : i < m.inputs.toNat := by omega
    have hw' : WOk m.inputs w := fun j hj => hw (j + 1) (by simpa using hj)
    rw [z5y, z5y, zl5, zl5, H.out s i hs hi, H.to s i hs hi]
    rcases z4h H.ok hs hi with e | ⟨e1, e2⟩
    · rw [e, zjw, zio, zio, zgi, zgi, zjw]; exact ⟨rfl, rfl⟩
    · obtain ⟨t, ht⟩ := Int.eq_ofNat_of_zero_le e1
      rw [ht, z9d]
      obtain ⟨h1, h2⟩ := H.run w (s := t) (by omega) hw'
      rw [h1, h2]; exact ⟨rfl, rfl⟩
def zxo (h : Nat → Nat) (e : BE) : BE := ⟨h e.st, hI h e.par, e.inp, e.wd⟩
def z2d (h : Nat → Nat) (P : List BE) (j : Nat) : Nat := h (P.getD j default).st
def zb3 (h : Nat → Nat) (P : List BE) : List BE := (z1r (z2d h P) P.length).map fun j => zxo h (P.getD j default)
theorem zpk {P : List BE} : (zb3 h P).length = cntF (z2d h P) P.length := by unfold zb3; rw [List.length_map, z3a]
theorem zpg {P : List BE} {c : Nat} (hc : c < cntF (z2d h P) P.length) : (zb3 h P).getD c default = zxo h (P.getD ((z1r (z2d h P) P.length).getD c 0) default) := by
  unfold zb3
  rw [List.getD_eq_getElem?_getD, List.getElem?_map]
  have := (z3a (f := z2d h P) P.length).symm ▸ hc
  rw [List.getD_eq_getElem?_getD (l := z1r _ _), List.getElem?_eq_getElem this]
  rfl
theorem zii {P : List BE} {u : Nat} (hu : u < P.length) (hf : z1a (z2d h P) u = true) : cntF (z2d h P) u < cntF (z2d h P) P.length ∧ (zb3 h P).getD (cntF (z2d h P) u) default = zxo h (P.getD u default) := by
  have h1 := z94 (z2d h P) hu hf
  rw [zpg h1, zj2 hu hf]
  exact ⟨h1, rfl⟩
theorem zz0 (H : Hom m q h) {s0 : Nat} (hs : s0 < m.rows.length) {P : List BE} (hP : Rch m s0 P) : Rch q (h s0) (zb3 h P) := by
  have hm := H.ok
  have hlen := zpk (h := h) (P := P)
  have cs : ∀ c, c < (zb3 h P).length → ∃ u, u < P.length ∧ z1a (z2d h P) u = true ∧ cntF (z2d h P) u = c ∧ (zb3 h P).getD c default = zxo h (P.getD u default) := fun c hc => by
    rw [hlen] at hc
    obtain ⟨h1, h2, h3⟩ := z4u hc
    exact ⟨_, h1, h2, h3, zpg hc⟩
  have hmono : ∀ u v, u < P.length → v < P.length → lle (P.getD u default).wd (P.getD v default).wd → u ≤ v := fun u v hu hv hle => by
    rcases Nat.lt_or_ge v u with h1 | h1
    · exact absurd (hP.inc v u h1 hu) (zcd hle)
    · exact h1
  have f0 : z1a (z2d h P) 0 = true := av.2 fun t ht => by omega
  have rng : ∀ c, c < (zb3 h P).length → ((zb3 h P).getD c default).st < q.rows.length := fun c hc => by
    obtain ⟨u, hu, _, _, e⟩ := cs c hc
    rw [e]; exact H.rng _ (hP.rng u hu)
  have dis : ∀ i j, i < (zb3 h P).length → j < (zb3 h P).length → ((zb3 h P).getD i default).st = ((zb3 h P).getD j default).st → i = j := fun i j hi hj e => by
    obtain ⟨u, hu, fu, rfl, eu⟩ := cs i hi
    obtain ⟨v, hv, fv, rfl, ev⟩ := cs j hj
    rw [eu, ev] at e
    have : z6h (z2d h P) u = z6h (z2d h P) v := ziw e
    rw [zbm fu, zbm fv] at this
    rw [this]
  refine ⟨?_, ?_, ?_, rng, dis, fun j hj => ?_, fun j hj0 hj => ?_, fun i j hij hj => ?_, fun c i hc hi hne => ?_⟩
  · rw [hlen]; have := z94 (z2d h P) hP.pos f0; omega
  · have hnd : ((zb3 h P).map (·.st)).Nodup := by
      rw [List.nodup_iff_pairwise_ne, List.pairwise_iff_getElem]
      intro i j hi hj hij e
      rw [List.length_map] at hi hj
      rw [List.getElem_map, List.getElem_map] at e
      have := dis i j hi hj (by simpa [List.getD_eq_getElem?_getD, hj, hi] using e)
      omega
    have hsub : ((zb3 h P).map (·.st)) ⊆ List.range q.rows.length := by
      intro x hx
      obtain ⟨e, he, rfl⟩ := List.mem_map.1 hx
      obtain ⟨j, hj, rfl⟩ := List.mem_iff_getElem.1 he
      have := rng j hj
      rw [List.mem_range]
      simpa [List.getD_eq_getElem?_getD, hj] using this
    have := List.Nodup.length_le_of_subset hnd hsub
    simpa using this
  · obtain ⟨_, e⟩ := zii hP.pos f0
    have e2 : (zb3 h P).getD 0 default = zxo h (P.getD 0 default) := e
    rw [e2, hP.root]; rfl
  · obtain ⟨u, hu, _, _, e⟩ := cs j hj
    rw [e]
    show l9 q (h s0) (P.getD u default).wd = ((h (P.getD u default).st : Nat) : Int)
    rw [(H.run _ hs (hP.wok u hu).1).2, hP.aft u hu, z9d]
  · obtain ⟨u, hu, fu, hc, e⟩ := cs j hj
    have hu0 : 0 < u := by
      rcases Nat.eq_zero_or_pos u with e0 | e0
      · subst e0; have : cntF (z2d h P) 0 = 0 := rfl; omega
      · exact e0
    obtain ⟨r, i, hr, hi, p1, p2, p3, p4⟩ := hP.par u hu0 hu
    have fr : z1a (z2d h P) r = true := av.2 fun t ht heq => by
      have heq' : h (P.getD t default).st = h (P.getD r default).st := heq
      have hlt := hP.inc t r ht (by omega)
      have htr := hP.rng t (by omega)
      have hrr := hP.rng r (by omega)
      have e1 : hI h (ed m (P.getD t default).st i) = ((h (P.getD u default).st : Nat) : Int) := by
        rw [← H.to _ _ htr hi, heq', H.to _ _ hrr hi, p4, z9d]
      have hne : ed m (P.getD t default).st i ≠ -1 := fun e0 => by rw [e0, zjw] at e1; omega
      obtain ⟨v, hv, hst, hle⟩ := hP.cls t i (by omega) hi hne
      have hvu : llt (P.getD v default).wd (P.getD u default).wd := by rw [p3]; exact zna hle (zjm _ _ hlt)
      have hv2 : v < u := by
        have := hmono v u hv hu (.inr hvu)
        rcases Nat.lt_or_ge v u with h1 | h1
        · exact h1
        · have : v = u := by omega
          subst this; exact absurd hvu (z9n _)
      refine av.1 fu v hv2 ?_
      show h (P.getD v default).st = h (P.getD u default).st
      rw [← hst, z9d] at e1
      omega
    obtain ⟨k1, k2⟩ := zii (by omega) fr
    refine ⟨cntF (z2d h P) r, i, by rw [← hc]; exact z94 _ hr fr, by rw [H.inp]; exact hi, ?_, ?_, ?_, ?_⟩
    · rw [e, k2]; show hI h (P.getD u default).par = _; rw [p1, z9d]; rfl
    · rw [e]; exact p2
    · rw [e, k2]; exact p3
    · rw [e, k2]
      show ed q (h (P.getD r default).st) i = ((h (P.getD u default).st : Nat) : Int)
      rw [H.to _ _ (hP.rng r (by omega)) hi, p4, z9d]
  · obtain ⟨u, hu, fu, hcu, eu⟩ := cs i (by omega)
    obtain ⟨v, hv, fv, hcv, ev⟩ := cs j hj
    rw [eu, ev]
    refine hP.inc u v ?_ hv
    rcases Nat.lt_or_ge u v with h1 | h1
    · exact h1
    · have := zln (z2d h P) h1; omega
  · obtain ⟨u, hu, fu, hcu, eu⟩ := cs c hc
    rw [H.inp] at hi
    rw [eu] at hne ⊢
    have hur := hP.rng u hu
    have e1 : ed q (h (P.getD u default).st) i = hI h (ed m (P.getD u default).st i) := H.to _ _ hur hi
    have hne' : ed m (P.getD u default).st i ≠ -1 := fun e0 => hne (by show ed q (h (P.getD u default).st) i = -1; rw [e1, e0]; rfl)
    obtain ⟨v, hv, hst, hle⟩ := hP.cls u i hu hi hne'
    obtain ⟨r1, r2, r3⟩ := z3b (z2d h P) v
    have fr := z6n (z2d h P) v
    obtain ⟨k1, k2⟩ := zii (h := h) (u := z6h (z2d h P) v) (by omega) fr
    refine ⟨_, by rw [hlen]; exact k1, ?_, ?_⟩
    · rw [k2]
      show ((h (P.getD (z6h (z2d h P) v) default).st : Nat) : Int) = ed q (h (P.getD u default).st) i
      have r2' : h (P.getD (z6h (z2d h P) v) default).st = h (P.getD v default).st := r2
      rw [e1, ← hst, z9d, r2']
    · rw [k2]
      show lle (P.getD (z6h (z2d h P) v) default).wd ((P.getD u default).wd ++ [(i : Int)])
      refine zll ?_ hle
      by_cases e : z6h (z2d h P) v = v
      · rw [e]; exact .inl rfl
      · exact .inr (hP.inc _ _ (by omega) hv)
theorem q2n (H : Hom m q h) {s0 : Nat} (hs : s0 < m.rows.length) : rch q (h s0) = zb3 h (rch m s0) :=
  zyd H.ok' (zds H.ok' (H.rng _ hs)) (zz0 H hs (zds H.ok hs))
end
/-! ### Machines with the same responses -/
def Red (m : Mach) : Prop := ∀ s t, s < m.rows.length → t < m.rows.length → (∀ w, WOk m.inputs w → z2a m (s : Int) w = z2a m (t : Int) w) → s = t
def SameR (a b : Mach) : Prop := a.inputs = b.inputs ∧ a.outputs = b.outputs ∧ ∀ w, WOk a.inputs w → z2a a 0 w = z2a b 0 w
theorem SameR.symm {a b : Mach} (h : SameR a b) : SameR b a := ⟨h.1.symm, h.2.1.symm, fun w hw => (h.2.2 w (by rw [h.1]; exact hw)).symm⟩
theorem SameR.trans {a b c : Mach} (h : SameR a b) (k : SameR b c) : SameR a c := ⟨h.1.trans k.1, h.2.1.trans k.2.1, fun w hw => (h.2.2 w hw).trans (k.2.2 w (by rw [← h.1]; exact hw))⟩
theorem z9m {n : Int} {u v : List Int} (hu : WOk n u) (hv : WOk n v) : WOk n (u ++ v) := fun k hk => by
  rw [List.length_append] at hk
  by_cases h : k < u.length
  · rw [List.getD_eq_getElem?_getD, List.getElem?_append_left h, ← List.getD_eq_getElem?_getD]; exact hu k h
  · rw [List.getD_eq_getElem?_getD, List.getElem?_append_right (by omega), ← List.getD_eq_getElem?_getD]; exact hv _ (by omega)
theorem zt3 {n : Int} {i : Nat} (h : i < n.toNat) : WOk n [(i : Int)] := fun k hk => by
  have : k = 0 := by simpa using hk
  subst this
  exact ⟨by show 0 ≤ (i : Int); omega, by show (i : Int) < n; omega⟩
theorem zbc (m : Mach) (s i : Nat) : lc m (s : Int) (i : Int) = ⟨ed m s i, ou m s i⟩ := by
  unfold lc; rw [if_neg (by omega)]; rfl
section
variable {a b : Mach}
theorem zs1 {m : Mach} (hm : MOk m) {s : Int} (hs : SOk m s) {u : List Int} {i : Nat} (hu : WOk m.inputs u) (hi : i < m.inputs.toNat) : (l9 m s (u ++ [(i : Int)]) = -1 ↔ (lc m (l9 m s u) (i : Int)).out = -1) := by
  rw [z4l]
  show (lc m (l9 m s u) (i : Int)).to = -1 ↔ _
  rcases ze7 m hm s u hs hu with h | ⟨h1, h2⟩
  · rw [h]; exact ⟨fun _ => rfl, fun _ => rfl⟩
  · obtain ⟨t, ht⟩ := Int.eq_ofNat_of_zero_le h1
    rw [ht, zbc]
    exact (zgq hm (by omega) hi).1
theorem znz {m : Mach} {s : Int} {u : List Int} {i : Int} : z2a m s (u ++ [i]) = z2a m s u ++ [(lc m (l9 m s u) i).out] := by rw [z4k]; rfl
theorem zq2 (h : SameR a b) {u : List Int} {i : Nat} (hu : WOk a.inputs u) (hi : i < a.inputs.toNat) : (lc a (l9 a 0 u) (i : Int)).out = (lc b (l9 b 0 u) (i : Int)).out := by
  have h1 := h.2.2 (u ++ [(i : Int)]) (z9m hu (zt3 hi))
  rw [znz, znz] at h1
  have := List.append_inj_right' h1 rfl
  simpa using this
theorem zth (hm : MOk a) : SOk a 0 := .inr ⟨by omega, by have := hm.r1; omega⟩
theorem zbo (ha : MOk a) (hb : MOk b) (h : SameR a b) {w : List Int} (hw : WOk a.inputs w) : l9 a 0 w = -1 ↔ l9 b 0 w = -1 := by
  by_cases e : w = []
  · subst e; exact ⟨fun h => by simp [l9] at h, fun h => by simp [l9] at h⟩
  · obtain ⟨u, c, rfl⟩ : ∃ u c, w = u ++ [c] := ⟨w.dropLast, w.getLast e, (List.dropLast_concat_getLast _).symm⟩
    obtain ⟨hu, hc0, hc1⟩ := zo6 hw
    obtain ⟨i, rfl⟩ := Int.eq_ofNat_of_zero_le hc0
    have hi : i < a.inputs.toNat := by omega
    rw [zs1 ha (zth ha) hu hi, zs1 hb (zth hb) (by rw [← h.1]; exact hu) (by rw [← h.1]; exact hi), zq2 h hu hi]
theorem zow (ha : MOk a) (hb : MOk b) (rb : Red b) (h : SameR a b) {u v : List Int} (hu : WOk a.inputs u) (hv : WOk a.inputs v) (e : l9 a 0 u = l9 a 0 v) : l9 b 0 u = l9 b 0 v := by
  have hub : WOk b.inputs u := by rw [← h.1]; exact hu
  have hvb : WOk b.inputs v := by rw [← h.1]; exact hv
  by_cases hn : l9 a 0 u = -1
  · rw [(zbo ha hb h hu).1 hn, (zbo ha hb h hv).1 (by rw [← e]; exact hn)]
  · have h1 := (ze7 b hb 0 u (zth hb) hub).resolve_left fun e2 => hn ((zbo ha hb h hu).2 e2)
    have h2 := (ze7 b hb 0 v (zth hb) hvb).resolve_left fun e2 => hn (by rw [e]; exact (zbo ha hb h hv).2 e2)
    obtain ⟨s, hs⟩ := Int.eq_ofNat_of_zero_le h1.1
    obtain ⟨t, ht⟩ := Int.eq_ofNat_of_zero_le h2.1
    rw [hs] at h1 ⊢
    rw [ht] at h2 ⊢
    rw [rb s t (by omega) (by omega) fun x hx => ?_]
    have hxa : WOk a.inputs x := by rw [h.1]; exact hx
    have e1 := h.2.2 (u ++ x) (z9m hu hxa)
    have e2 := h.2.2 (v ++ x) (z9m hv hxa)
    rw [z4k, z4k, hs] at e1
    rw [z4k, z4k, ht] at e2
    have e3 := (List.append_inj e1 (by rw [z3w, z3w])).2
    have e4 := (List.append_inj e2 (by rw [z3w, z3w])).2
    rw [← e3, ← e4, e]
theorem zk9 (ha : MOk a) (hb : MOk b) (ra : Red a) (rb : Red b) (h : SameR a b) {w : List Int} : zr9 a 0 w → zr9 b 0 w := by
  rintro ⟨h1, h2, h3⟩
  refine ⟨by rw [← h.1]; exact h1, fun e => h2 ((zbo ha hb h h1).2 e), fun v hv e => h3 v (by rw [h.1]; exact hv) ?_⟩
  exact zow hb ha ra h.symm hv (by rw [← h.1]; exact h1) e
theorem zrk (ha : MOk a) (hb : MOk b) (ra : Red a) (rb : Red b) (h : SameR a b) : zha (rch a 0) = zha (rch b 0) :=
  zff z9n (fun _ _ => zm3) (zc0 (z6r ha)) (zc0 (z6r hb)) fun w => by
    rw [ze9 ha (z6r ha), ze9 hb (z6r hb)]
    exact ⟨zk9 ha hb ra rb h, zk9 hb ha rb ra h.symm⟩
theorem zqj (ha : MOk a) (hb : MOk b) (ra : Red a) (rb : Red b) (h : SameR a b) : z7i a = z7i b := by
  have hP := z6r ha
  have hQ := z6r hb
  have hw := zrk ha hb ra rb h
  have cP := z1p hP
  have cQ := z1p hQ
  unfold z7i
  generalize rch a 0 = P at hP hw cP ⊢
  generalize rch b 0 = Q at hQ hw cQ ⊢
  have hl : P.length = Q.length := by have := congrArg List.length hw; simpa [zha] using this
  have hwd : ∀ j, j < P.length → (P.getD j default).wd = (Q.getD j default).wd := fun j hj => by
    have := congrArg (fun l : List (List Int) => l.getD j default) hw
    simp only [zha] at this
    rw [getD_map (X := P) hj, getD_map (X := Q) (by omega)] at this
    exact this
  have hrow : ∀ j, j < P.length → rowP a (z2y P) (P.getD j default).st = rowP b (z2y Q) (Q.getD j default).st := fun j hj => by
    have hp := hP.rng j hj
    have hq := hQ.rng j (by omega)
    have e1 := ha.row _ hp
    have e2 := hb.row _ hq
    refine l6 ?_ fun i hi => ?_
    · rw [z9p ha hp, z9p hb hq, h.1]
    · rw [z9p ha hp] at hi
      rw [z8r ha hp hi, z8r hb hq (by rw [← h.1]; exact hi)]
      have w1 := (hP.wok j hj).1
      have w2 : WOk b.inputs (P.getD j default).wd := by rw [← h.1]; exact w1
      have a1 : l9 a 0 (P.getD j default).wd = _ := hP.aft j hj
      have a2 : l9 b 0 (Q.getD j default).wd = _ := hQ.aft j (by omega)
      rw [← hwd j hj] at a2
      have ho := zq2 h w1 hi
      rw [a1, a2, zbc, zbc] at ho
      have n1 : l9 a 0 ((P.getD j default).wd ++ [(i : Int)]) = ed a (P.getD j default).st i := by
        rw [z4l, a1]; show (lc a _ _).to = _; rw [zbc]
      have n2 : l9 b 0 ((P.getD j default).wd ++ [(i : Int)]) = ed b (Q.getD j default).st i := by
        rw [z4l, a2]; show (lc b _ _).to = _; rw [zbc]
      have wi := z9m w1 (zt3 hi)
      have hto : pos (z2y P) (ed a (P.getD j default).st i) = pos (z2y Q) (ed b (Q.getD j default).st i) := by
        by_cases e : ed a (P.getD j default).st i = -1
        · have := (zbo ha hb h wi).1 (by rw [n1]; exact e)
          rw [n2] at this
          rw [e, this]; rfl
        · obtain ⟨k, hk, hst, _⟩ := hP.cls j i hj hi e
          have e3 : l9 b 0 ((P.getD j default).wd ++ [(i : Int)]) = l9 b 0 (P.getD k default).wd := zow ha hb rb h wi (hP.wok k hk).1 (by rw [n1, show l9 a 0 (P.getD k default).wd = _ from hP.aft k hk, hst])
          have e4 : l9 b 0 (Q.getD k default).wd = _ := hQ.aft k (by omega)
          rw [n2, hwd k hk, e4] at e3
          rw [← hst, e3, z4v, z4v]
          have i1 : (z2y P).idxOf (P.getD k default).st = k := by rw [← z8m P hk]; exact z4p cP.nd (by rw [z5k]; exact hk)
          have i2 : (z2y Q).idxOf (Q.getD k default).st = k := by rw [← z8m Q (by omega)]; exact z4p cQ.nd (by rw [z5k]; omega)
          rw [i1, i2]
      rw [hto]
      congr 1
  have hrows : (z2y P).map (rowP a (z2y P)) = (z2y Q).map (rowP b (z2y Q)) := by
    have k1 : (z2y P).length = P.length := z5k P
    have k2 : (z2y Q).length = Q.length := z5k Q
    refine List.ext_getElem (by rw [List.length_map, List.length_map]; omega) fun j h1 h2 => ?_
    rw [List.length_map] at h1 h2
    have := hrow j (by omega)
    rw [List.getElem_map, List.getElem_map]
    have e1 : (z2y P)[j] = (P.getD j default).st := by rw [← z8m P (by omega)]; simp [List.getD_eq_getElem?_getD, h1]
    have e2 : (z2y Q)[j] = (Q.getD j default).st := by rw [← z8m Q (by omega)]; simp [List.getD_eq_getElem?_getD, h2]
    rw [e1, e2]; exact this
  unfold z09
  rw [hrows, h.1, h.2.1]
end
/-! ### The quotient -/
def z13 (m : Mach) : Mach := ⟨m.inputs, m.outputs, (z1r (cls m) m.rows.length).map fun u => (m.rows.getD u default).map fun e => ⟨hI (cls m) e.to, e.out⟩⟩
def lv (m : Mach) : Mach := z7i (z13 m)
section
variable {m : Mach}
theorem zc5 : (z13 m).rows.length = cntF (cls m) m.rows.length := by unfold z13; rw [List.length_map, z3a]
theorem z9z (s : Nat) : name (cls m) s = cls m s := zfo
theorem zci {s : Nat} (hs : s < m.rows.length) : cls m s < cntF (cls m) m.rows.length := by rw [← z9z]; exact zyu hs
theorem zmr {c : Nat} (hc : c < cntF (cls m) m.rows.length) : (z13 m).rows.getD c default = (m.rows.getD ((z1r (cls m) m.rows.length).getD c 0) default).map fun e => ⟨hI (cls m) e.to, e.out⟩ := by
  unfold z13
  dsimp only
  have := (z3a (f := cls m) m.rows.length).symm ▸ hc
  rw [List.getD_eq_getElem?_getD, List.getElem?_map, List.getD_eq_getElem?_getD (l := z1r _ _), List.getElem?_eq_getElem this]
  rfl
theorem zmn (hm : MOk m) {c i : Nat} (hc : c < cntF (cls m) m.rows.length) (hi : i < m.inputs.toNat) : ed (z13 m) c i = hI (cls m) (ed m ((z1r (cls m) m.rows.length).getD c 0) i) ∧ ou (z13 m) c i = ou m ((z1r (cls m) m.rows.length).getD c 0) i := by
  obtain ⟨h1, _, _⟩ := z4u hc
  have h2 := hm.row _ h1
  unfold ed ou
  rw [zmr hc, getD_map (by omega)]
  exact ⟨rfl, rfl⟩
theorem zn4 (hm : MOk m) {s : Nat} (hs : s < m.rows.length) : (z1r (cls m) m.rows.length).getD (cls m s) 0 < m.rows.length ∧ cls m ((z1r (cls m) m.rows.length).getD (cls m s) 0) = cls m s := by
  obtain ⟨h1, h2, h3⟩ := z4u (zci hs)
  refine ⟨h1, ?_⟩
  rw [← z9z, z97 h2, h3]
theorem z7u (hm : MOk m) : MOk (z13 m) := by
  have hl := zc5 (m := m)
  have h1 := hm.r1; have h2 := hm.r2; have h3 := z88 (cls m) m.rows.length
  have h4 := zci (m := m) (s := 0) (by omega)
  refine ⟨hm.i1, hm.i2, hm.o1, hm.o2, by omega, by omega, fun s hs => ?_, fun s i hs hi => ?_⟩
  · rw [hl] at hs
    obtain ⟨k1, _, _⟩ := z4u hs
    rw [zmr hs, List.length_map]
    exact hm.row _ k1
  · rw [hl] at hs
    obtain ⟨k1, _, _⟩ := z4u hs
    rw [zmr hs] at hi ⊢
    rw [List.length_map] at hi
    rw [getD_map hi]
    have h5 := hm.row _ k1
    rcases hm.edge _ i k1 hi with ⟨e1, e2⟩ | ⟨e1, e2, e3, e4⟩
    · left; rw [e1, e2]; exact ⟨rfl, rfl⟩
    · right
      obtain ⟨t, ht⟩ := Int.eq_ofNat_of_zero_le e1
      rw [ht, z9d]
      have := zci (m := m) (s := t) (by omega)
      exact ⟨by show (0 : Int) ≤ (cls m t : Int); omega, by show ((cls m t : Nat) : Int) < ((z13 m).rows.length : Int); omega, e3, e4⟩
theorem ze1 (hm : MOk m) : Hom m (z13 m) (cls m) := by
  refine ⟨hm, z7u hm, rfl, fun s hs => by rw [zc5]; exact zci hs, fun s i hs hi => ?_, fun s i hs hi => ?_⟩
  · obtain ⟨h1, h2⟩ := zn4 hm hs
    rw [(zmn hm (zci hs) hi).2]
    exact (zix hm h1 hs h2 hi).1
  · obtain ⟨h1, h2⟩ := zn4 hm hs
    obtain ⟨h3, h4, h5⟩ := zix hm h1 hs h2 hi
    rw [(zmn hm (zci hs) hi).1]
    unfold hI
    by_cases e : ed m s i = -1
    · rw [if_pos e, if_pos (h4.2 e)]
    · have e2 : ed m ((z1r (cls m) m.rows.length).getD (cls m s) 0) i ≠ -1 := fun k => e (h4.1 k)
      rw [if_neg e, if_neg e2, h5 e2]
theorem zmh (hm : MOk m) : Red (z13 m) := by
  intro c d hc hd h
  rw [zc5] at hc hd
  obtain ⟨u1, u2, u3⟩ := z4u hc
  obtain ⟨v1, v2, v3⟩ := z4u hd
  generalize (z1r (cls m) m.rows.length).getD c 0 = u at u1 u2 u3
  generalize (z1r (cls m) m.rows.length).getD d 0 = v at v1 v2 v3
  have eu : cls m u = c := by rw [← z9z, z97 u2, u3]
  have ev : cls m v = d := by rw [← z9z, z97 v2, v3]
  rw [← eu, ← ev]
  refine (zsw hm u1 v1).2 fun w hw => ?_
  rw [← ((ze1 hm).run w u1 hw).1, ← ((ze1 hm).run w v1 hw).1, eu, ev]
  exact h w hw
theorem zcx : cls m 0 = 0 := by rw [← z9z, zm4]
theorem zim (hm : MOk m) : SameR (z13 m) m := ⟨rfl, rfl, fun w hw => by
  have := ((ze1 hm).run w (s := 0) (by have := hm.r1; omega) hw).1
  rw [zcx] at this; exact this⟩
theorem zuw (hm : MOk m) : SameR (z7i m) m := ⟨rfl, rfl, fun w hw => zxi hm hw⟩
theorem zay (hm : MOk m) : MOk (lv m) := zij (z7u hm)
theorem zp9 (hm : MOk m) : SameR (lv m) m := (zuw (z7u hm)).trans (zim hm)
theorem zyn {a b : Mach} (ha : MOk a) (hb : MOk b) (h : SameR a b) : lv a = lv b :=
  zqj (z7u ha) (z7u hb) (zmh ha) (zmh hb) (((zim ha).trans h).trans (zim hb).symm)
theorem zsd (hm : MOk m) : lv (lv m) = lv m := zyn (zay hm) hm (zp9 hm)
end
end GV
end Go.Proofs.YtkcccdcloealfaaGreat
