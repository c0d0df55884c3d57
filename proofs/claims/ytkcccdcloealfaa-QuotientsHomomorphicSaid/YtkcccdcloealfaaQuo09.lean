import Derived.Test.YtkcccdcloealfaaEqv09
import Derived.Test.YtkcccdcloealfaaSpec06k
set_option linter.unusedVariables false
set_option linter.unusedSimpArgs false
namespace Go.Proofs.Ytkcccdcloealfaa
namespace GV
theorem zae {α : Type} {r : α → α → Prop} (hi : ∀ a, ¬ r a a) (ha : ∀ a b, r a b → ¬ r b a) : ∀ {X Y : List α}, X.Pairwise r → Y.Pairwise r → (∀ a, a ∈ X ↔ a ∈ Y) → X = Y
  | [], [], _, _, _ => rfl
  | [], y :: Y, _, _, h => by have := (h y).2 (by simp); simp at this
  | x :: X, [], _, _, h => by have := (h x).1 (by simp); simp at this
  | x :: X, y :: Y, hX, hY, h => by
    obtain ⟨x1, x2⟩ := List.pairwise_cons.1 hX
    obtain ⟨y1, y2⟩ := List.pairwise_cons.1 hY
    have e : x = y := by
      rcases List.mem_cons.1 ((h x).1 (by simp)) with e | hx
      · exact e
      · rcases List.mem_cons.1 ((h y).2 (by simp)) with e | hy
        · exact e.symm
        · exact absurd (y1 x hx) (ha _ _ (x1 y hy))
    subst e
    rw [zae hi ha x2 y2 fun a => ?_]
    constructor
    · intro hm
      rcases List.mem_cons.1 ((h a).1 (List.mem_cons_of_mem _ hm)) with e | h'
      · subst e; exact absurd (x1 _ hm) (hi _)
      · exact h'
    · intro hm
      rcases List.mem_cons.1 ((h a).2 (List.mem_cons_of_mem _ hm)) with e | h'
      · subst e; exact absurd (y1 _ hm) (hi _)
      · exact h'
theorem zgb {a b : List Int} (h : llt a b) : ¬ llt b a := fun k => z4n _ (z4h h k)
def zck (P : List BE) : List (List Int) := P.map (·.wd)
section
variable {m : Mach} {s0 : Nat} {P : List BE}
theorem getD_map {α β : Type} [Inhabited α] [Inhabited β] {X : List α} {f : α → β} {k : Nat} (h : k < X.length) : (X.map f).getD k default = f (X.getD k default) := by
  simp [List.getD_eq_getElem?_getD, h]
theorem z7f (h : Rch m s0 P) : (zck P).Pairwise llt := by
  unfold zck
  rw [List.pairwise_iff_getElem]
  intro i j hi hj hij
  rw [List.length_map] at hi hj
  have := h.inc i j hij hj
  rw [List.getElem_map, List.getElem_map]
  simpa [List.getD_eq_getElem?_getD, hi, hj] using this
theorem zsu {w : List Int} : w ∈ zck P ↔ ∃ j, j < P.length ∧ (P.getD j default).wd = w := by
  unfold zck; rw [List.mem_map]
  constructor
  · rintro ⟨e, he, rfl⟩
    obtain ⟨j, hj, rfl⟩ := List.mem_iff_getElem.1 he
    exact ⟨j, hj, by simp [List.getD_eq_getElem?_getD, hj]⟩
  · rintro ⟨j, hj, rfl⟩; exact ⟨_, oh hj, rfl⟩
def zl5 (m : Mach) (s0 : Nat) (w : List Int) : Prop := WOk m.inputs w ∧ nu m s0 w ≠ -1 ∧ ∀ v, WOk m.inputs v → nu m s0 v = nu m s0 w → lle w v
theorem z98 (hm : MOk m) (h : Rch m s0 P) {w : List Int} : w ∈ zck P ↔ zl5 m s0 w := by
  rw [zsu]
  constructor
  · rintro ⟨j, hj, rfl⟩
    refine ⟨(h.wok j hj).1, by rw [h.aft j hj]; omega, fun v hv e => h.min hm hj hv (by rw [e, h.aft j hj])⟩
  · rintro ⟨h1, h2, h3⟩
    obtain ⟨j, hj, h4, h5⟩ := h.least hm _ w rfl h1 h2
    have h6 := h3 _ (h.wok j hj).1 (by rw [h.aft j hj, h4])
    refine ⟨j, hj, ?_⟩
    rcases h5 with e | e
    · exact e
    · exact absurd e (zmk h6)
theorem zqt (hm : MOk m) {P' : List BE} (h : Rch m s0 P) (h' : Rch m s0 P') : P = P' := by
  have hw : zck P = zck P' := zae z4n (fun _ _ => zgb) (z7f h) (z7f h') fun w => by rw [z98 hm h, z98 hm h']
  have hl : P.length = P'.length := by have := congrArg List.length hw; simpa [zck] using this
  have hwd : ∀ j, j < P.length → (P.getD j default).wd = (P'.getD j default).wd := fun j hj => by
    have := congrArg (fun l : List (List Int) => l.getD j default) hw
    simp only [zck] at this
    rw [getD_map (X := P) hj, getD_map (X := P') (by omega)] at this
    exact this
  have hst : ∀ j, j < P.length → (P.getD j default).st = (P'.getD j default).st := fun j hj => by
    have h1 := h.aft j hj
    have h2 := h'.aft j (by omega)
    rw [hwd j hj, h2] at h1
    omega
  refine rz hl fun j hj => ?_
  by_cases h0 : j = 0
  · subst h0; rw [h.root, h'.root]
  · obtain ⟨q, i, hq, hi, h1, h2, h3, _⟩ := h.par j (by omega) hj
    obtain ⟨q', i', hq', hi', h1', h2', h3', _⟩ := h'.par j (by omega) (by omega)
    have e3 := hwd j hj
    rw [h3, h3'] at e3
    obtain ⟨e4, e5⟩ := List.append_inj' e3 rfl
    have e6 : i = i' := by
      have : (i : Int) = (i' : Int) := by simpa using e5
      omega
    subst e6
    have e7 : (P.getD q default).st = (P'.getD q' default).st := by
      have a1 := h.aft q (by omega)
      have a2 := h'.aft q' (by omega)
      rw [e4, a2] at a1
      omega
    have a := hwd j hj
    have b := hst j hj
    rw [e7] at h1
    have c1 : (P.getD j default).par = (P'.getD j default).par := by rw [h1, h1']
    have c2 : (P.getD j default).inp = (P'.getD j default).inp := by rw [h2, h2']
    generalize P.getD j default = x at a b c1 c2 ⊢
    generalize P'.getD j default = y at a b c1 c2 ⊢
    cases x; cases y
    simp only at a b c1 c2
    rw [a, b, c1, c2]
end
/-! ### Homomorphisms -/
def hI (h : Nat → Nat) (z : Int) : Int := if z = -1 then -1 else (h z.toNat : Int)
theorem zet (h : Nat → Nat) : hI h (-1) = -1 := rfl
theorem z3m (h : Nat → Nat) (s : Nat) : hI h (s : Int) = (h s : Int) := by unfold hI; rw [if_neg (by omega), Int.toNat_natCast]
structure Hom (m q : Mach) (h : Nat → Nat) : Prop where
  ok : MOk m
  ok' : MOk q
  inp : q.inputs = m.inputs
  rng : ∀ s, s < m.rows.length → h s < q.rows.length
  out : ∀ s i, s < m.rows.length → i < m.inputs.toNat → ou q (h s) i = ou m s i
  to : ∀ s i, s < m.rows.length → i < m.inputs.toNat → ed q (h s) i = hI h (ed m s i)
section
variable {m q : Mach} {h : Nat → Nat}
theorem Hom.run (H : Hom m q h) : ∀ (w : List Int) {s : Nat}, s < m.rows.length → WOk m.inputs w → z0j q (h s : Int) w = z0j m (s : Int) w ∧ nu q (h s : Int) w = hI h (nu m (s : Int) w)
  | [], s, hs, _ => ⟨rfl, (z3m h s).symm⟩
  | c :: w, s, hs, hw => by
    have hc : 0 ≤ c ∧ c < m.inputs := hw 0 (by simp)
    obtain ⟨i, rfl⟩ := Int.eq_ofNat_of_zero_le hc.1
    have hi : i < m.inputs.toNat := by omega
    have hw' : WOk m.inputs w := fun j hj => hw (j + 1) (by simpa using hj)
    rw [z1p, z1p, zg6, zg6, H.out s i hs hi, H.to s i hs hi]
    rcases z14 H.ok hs hi with e | ⟨e1, e2⟩
    · rw [e, zet, ze2, ze2, zb3, zb3, zet]; exact ⟨rfl, rfl⟩
    · obtain ⟨t, ht⟩ := Int.eq_ofNat_of_zero_le e1
      rw [ht, z3m]
      obtain ⟨h1, h2⟩ := H.run w (s := t) (by omega) hw'
      rw [h1, h2]; exact ⟨rfl, rfl⟩
def zre (h : Nat → Nat) (e : BE) : BE := ⟨h e.st, hI h e.par, e.inp, e.wd⟩
def z0s (h : Nat → Nat) (P : List BE) (j : Nat) : Nat := h (P.getD j default).st
def z6a (h : Nat → Nat) (P : List BE) : List BE := (ak (z0s h P) P.length).map fun j => zre h (P.getD j default)
theorem zjg {P : List BE} : (z6a h P).length = cntF (z0s h P) P.length := by unfold z6a; rw [List.length_map, z00]
theorem zin {P : List BE} {c : Nat} (hc : c < cntF (z0s h P) P.length) : (z6a h P).getD c default = zre h (P.getD ((ak (z0s h P) P.length).getD c 0) default) := by
  unfold z6a
  rw [List.getD_eq_getElem?_getD, List.getElem?_map]
  have := (z00 (f := z0s h P) P.length).symm ▸ hc
  rw [List.getD_eq_getElem?_getD (l := ak _ _), List.getElem?_eq_getElem this]
  rfl
theorem zdm {P : List BE} {u : Nat} (hu : u < P.length) (hf : iy (z0s h P) u = true) : cntF (z0s h P) u < cntF (z0s h P) P.length ∧ (z6a h P).getD (cntF (z0s h P) u) default = zre h (P.getD u default) := by
  have h1 := z3t (z0s h P) hu hf
  rw [zin h1, zf0 hu hf]
  exact ⟨h1, rfl⟩
theorem zso (H : Hom m q h) {s0 : Nat} (hs : s0 < m.rows.length) {P : List BE} (hP : Rch m s0 P) : Rch q (h s0) (z6a h P) := by
  have hm := H.ok
  have hlen := zjg (h := h) (P := P)
  have cs : ∀ c, c < (z6a h P).length → ∃ u, u < P.length ∧ iy (z0s h P) u = true ∧ cntF (z0s h P) u = c ∧ (z6a h P).getD c default = zre h (P.getD u default) := fun c hc => by
    rw [hlen] at hc
    obtain ⟨h1, h2, h3⟩ := z0w hc
    exact ⟨_, h1, h2, h3, zin hc⟩
  have hmono : ∀ u v, u < P.length → v < P.length → lle (P.getD u default).wd (P.getD v default).wd → u ≤ v := fun u v hu hv hle => by
    rcases Nat.lt_or_ge v u with h1 | h1
    · exact absurd (hP.inc v u h1 hu) (zmk hle)
    · exact h1
  have f0 : iy (z0s h P) 0 = true := pu.2 fun t ht => by omega
  have rng : ∀ c, c < (z6a h P).length → ((z6a h P).getD c default).st < q.rows.length := fun c hc => by
    obtain ⟨u, hu, _, _, e⟩ := cs c hc
    rw [e]; exact H.rng _ (hP.rng u hu)
  have dis : ∀ i j, i < (z6a h P).length → j < (z6a h P).length → ((z6a h P).getD i default).st = ((z6a h P).getD j default).st → i = j := fun i j hi hj e => by
    obtain ⟨u, hu, fu, rfl, eu⟩ := cs i hi
    obtain ⟨v, hv, fv, rfl, ev⟩ := cs j hj
    rw [eu, ev] at e
    have : z1t (z0s h P) u = z1t (z0s h P) v := zeo e
    rw [z5y fu, z5y fv] at this
    rw [this]
  refine ⟨?_, ?_, ?_, rng, dis, fun j hj => ?_, fun j hj0 hj => ?_, fun i j hij hj => ?_, fun c i hc hi hne => ?_⟩
  · rw [hlen]; have := z3t (z0s h P) hP.pos f0; omega
  · have hnd : ((z6a h P).map (·.st)).Nodup := by
      rw [List.nodup_iff_pairwise_ne, List.pairwise_iff_getElem]
      intro i j hi hj hij e
      rw [List.length_map] at hi hj
      rw [List.getElem_map, List.getElem_map] at e
      have := dis i j hi hj (by simpa [List.getD_eq_getElem?_getD, hj, hi] using e)
      omega
    have hsub : ((z6a h P).map (·.st)) ⊆ List.range q.rows.length := by
      intro x hx
      obtain ⟨e, he, rfl⟩ := List.mem_map.1 hx
      obtain ⟨j, hj, rfl⟩ := List.mem_iff_getElem.1 he
      have := rng j hj
      rw [List.mem_range]
      simpa [List.getD_eq_getElem?_getD, hj] using this
    have := List.Nodup.length_le_of_subset hnd hsub
    simpa using this
  · obtain ⟨_, e⟩ := zdm hP.pos f0
    have e2 : (z6a h P).getD 0 default = zre h (P.getD 0 default) := e
    rw [e2, hP.root]; rfl
  · obtain ⟨u, hu, _, _, e⟩ := cs j hj
    rw [e]
    show nu q (h s0) (P.getD u default).wd = ((h (P.getD u default).st : Nat) : Int)
    rw [(H.run _ hs (hP.wok u hu).1).2, hP.aft u hu, z3m]
  · obtain ⟨u, hu, fu, hc, e⟩ := cs j hj
    have hu0 : 0 < u := by
      rcases Nat.eq_zero_or_pos u with e0 | e0
      · subst e0; have : cntF (z0s h P) 0 = 0 := rfl; omega
      · exact e0
    obtain ⟨r, i, hr, hi, p1, p2, p3, p4⟩ := hP.par u hu0 hu
    have fr : iy (z0s h P) r = true := pu.2 fun t ht heq => by
      have heq' : h (P.getD t default).st = h (P.getD r default).st := heq
      have hlt := hP.inc t r ht (by omega)
      have htr := hP.rng t (by omega)
      have hrr := hP.rng r (by omega)
      have e1 : hI h (ed m (P.getD t default).st i) = ((h (P.getD u default).st : Nat) : Int) := by
        rw [← H.to _ _ htr hi, heq', H.to _ _ hrr hi, p4, z3m]
      have hne : ed m (P.getD t default).st i ≠ -1 := fun e0 => by rw [e0, zet] at e1; omega
      obtain ⟨v, hv, hst, hle⟩ := hP.cls t i (by omega) hi hne
      have hvu : llt (P.getD v default).wd (P.getD u default).wd := by rw [p3]; exact zlw hle (zf9 _ _ hlt)
      have hv2 : v < u := by
        have := hmono v u hv hu (.inr hvu)
        rcases Nat.lt_or_ge v u with h1 | h1
        · exact h1
        · have : v = u := by omega
          subst this; exact absurd hvu (z4n _)
      refine pu.1 fu v hv2 ?_
      show h (P.getD v default).st = h (P.getD u default).st
      rw [← hst, z3m] at e1
      omega
    obtain ⟨k1, k2⟩ := zdm (by omega) fr
    refine ⟨cntF (z0s h P) r, i, by rw [← hc]; exact z3t _ hr fr, by rw [H.inp]; exact hi, ?_, ?_, ?_, ?_⟩
    · rw [e, k2]; show hI h (P.getD u default).par = _; rw [p1, z3m]; rfl
    · rw [e]; exact p2
    · rw [e, k2]; exact p3
    · rw [e, k2]
      show ed q (h (P.getD r default).st) i = ((h (P.getD u default).st : Nat) : Int)
      rw [H.to _ _ (hP.rng r (by omega)) hi, p4, z3m]
  · obtain ⟨u, hu, fu, hcu, eu⟩ := cs i (by omega)
    obtain ⟨v, hv, fv, hcv, ev⟩ := cs j hj
    rw [eu, ev]
    refine hP.inc u v ?_ hv
    rcases Nat.lt_or_ge u v with h1 | h1
    · exact h1
    · have := zgg (z0s h P) h1; omega
  · obtain ⟨u, hu, fu, hcu, eu⟩ := cs c hc
    rw [H.inp] at hi
    rw [eu] at hne ⊢
    have hur := hP.rng u hu
    have e1 : ed q (h (P.getD u default).st) i = hI h (ed m (P.getD u default).st i) := H.to _ _ hur hi
    have hne' : ed m (P.getD u default).st i ≠ -1 := fun e0 => hne (by show ed q (h (P.getD u default).st) i = -1; rw [e1, e0]; rfl)
    obtain ⟨v, hv, hst, hle⟩ := hP.cls u i hu hi hne'
    obtain ⟨r1, r2, r3⟩ := rf (z0s h P) v
    have fr := z2e (z0s h P) v
    obtain ⟨k1, k2⟩ := zdm (h := h) (u := z1t (z0s h P) v) (by omega) fr
    refine ⟨_, by rw [hlen]; exact k1, ?_, ?_⟩
    · rw [k2]
      show ((h (P.getD (z1t (z0s h P) v) default).st : Nat) : Int) = ed q (h (P.getD u default).st) i
      have r2' : h (P.getD (z1t (z0s h P) v) default).st = h (P.getD v default).st := r2
      rw [e1, ← hst, z3m, r2']
    · rw [k2]
      show lle (P.getD (z1t (z0s h P) v) default).wd ((P.getD u default).wd ++ [(i : Int)])
      refine zfr ?_ hle
      by_cases e : z1t (z0s h P) v = v
      · rw [e]; exact .inl rfl
      · exact .inr (hP.inc _ _ (by omega) hv)
theorem zuo (H : Hom m q h) {s0 : Nat} (hs : s0 < m.rows.length) : rch q (h s0) = z6a h (rch m s0) :=
  zqt H.ok' (zar H.ok' (H.rng _ hs)) (zso H hs (zar H.ok hs))
end
/-! ### Machines with the same responses -/
def Red (m : Mach) : Prop := ∀ s t, s < m.rows.length → t < m.rows.length → (∀ w, WOk m.inputs w → z0j m (s : Int) w = z0j m (t : Int) w) → s = t
def SameR (a b : Mach) : Prop := a.inputs = b.inputs ∧ a.outputs = b.outputs ∧ ∀ w, WOk a.inputs w → z0j a 0 w = z0j b 0 w
theorem SameR.symm {a b : Mach} (h : SameR a b) : SameR b a := ⟨h.1.symm, h.2.1.symm, fun w hw => (h.2.2 w (by rw [h.1]; exact hw)).symm⟩
theorem SameR.trans {a b c : Mach} (h : SameR a b) (k : SameR b c) : SameR a c := ⟨h.1.trans k.1, h.2.1.trans k.2.1, fun w hw => (h.2.2 w hw).trans (k.2.2 w (by rw [← h.1]; exact hw))⟩
theorem z5a {n : Int} {u v : List Int} (hu : WOk n u) (hv : WOk n v) : WOk n (u ++ v) := fun k hk => by
  rw [List.length_append] at hk
  by_cases h : k < u.length
  · rw [List.getD_eq_getElem?_getD, List.getElem?_append_left h, ← List.getD_eq_getElem?_getD]; exact hu k h
  · rw [List.getD_eq_getElem?_getD, List.getElem?_append_right (by omega), ← List.getD_eq_getElem?_getD]; exact hv _ (by omega)
theorem zmf {n : Int} {i : Nat} (h : i < n.toNat) : WOk n [(i : Int)] := fun k hk => by
  have : k = 0 := by simpa using hk
  subst this
  exact ⟨by show 0 ≤ (i : Int); omega, by show (i : Int) < n; omega⟩
theorem z6n (m : Mach) (s i : Nat) : p9 m (s : Int) (i : Int) = ⟨ed m s i, ou m s i⟩ := by
  unfold p9; rw [if_neg (by omega)]; rfl
section
variable {a b : Mach}
theorem zm9 {m : Mach} (hm : MOk m) {s : Int} (hs : SOk m s) {u : List Int} {i : Nat} (hu : WOk m.inputs u) (hi : i < m.inputs.toNat) : (nu m s (u ++ [(i : Int)]) = -1 ↔ (p9 m (nu m s u) (i : Int)).out = -1) := by
  rw [z0n]
  show (p9 m (nu m s u) (i : Int)).to = -1 ↔ _
  rcases zbz m hm s u hs hu with h | ⟨h1, h2⟩
  · rw [h]; exact ⟨fun _ => rfl, fun _ => rfl⟩
  · obtain ⟨t, ht⟩ := Int.eq_ofNat_of_zero_le h1
    rw [ht, z6n]
    exact (z8j hm (by omega) hi).1
theorem zk7 {m : Mach} {s : Int} {u : List Int} {i : Int} : z0j m s (u ++ [i]) = z0j m s u ++ [(p9 m (nu m s u) i).out] := by rw [z0k]; rfl
theorem zi5 (h : SameR a b) {u : List Int} {i : Nat} (hu : WOk a.inputs u) (hi : i < a.inputs.toNat) : (p9 a (nu a 0 u) (i : Int)).out = (p9 b (nu b 0 u) (i : Int)).out := by
  have h1 := h.2.2 (u ++ [(i : Int)]) (z5a hu (zmf hi))
  rw [zk7, zk7] at h1
  have := List.append_inj_right' h1 rfl
  simpa using this
theorem zt6 (hm : MOk a) : SOk a 0 := .inr ⟨by omega, by have := hm.r1; omega⟩
theorem z6c (ha : MOk a) (hb : MOk b) (h : SameR a b) {w : List Int} (hw : WOk a.inputs w) : nu a 0 w = -1 ↔ nu b 0 w = -1 := by
  by_cases e : w = []
  · subst e; exact ⟨fun h => by simp [nu] at h, fun h => by simp [nu] at h⟩
  · obtain ⟨u, c, rfl⟩ : ∃ u c, w = u ++ [c] := ⟨w.dropLast, w.getLast e, (List.dropLast_concat_getLast _).symm⟩
    obtain ⟨hu, hc0, hc1⟩ := zjw hw
    obtain ⟨i, rfl⟩ := Int.eq_ofNat_of_zero_le hc0
    have hi : i < a.inputs.toNat := by omega
    rw [zm9 ha (zt6 ha) hu hi, zm9 hb (zt6 hb) (by rw [← h.1]; exact hu) (by rw [← h.1]; exact hi), zi5 h hu hi]
theorem zjn (ha : MOk a) (hb : MOk b) (rb : Red b) (h : SameR a b) {u v : List Int} (hu : WOk a.inputs u) (hv : WOk a.inputs v) (e : nu a 0 u = nu a 0 v) : nu b 0 u = nu b 0 v := by
  have hub : WOk b.inputs u := by rw [← h.1]; exact hu
  have hvb : WOk b.inputs v := by rw [← h.1]; exact hv
  by_cases hn : nu a 0 u = -1
  · rw [(z6c ha hb h hu).1 hn, (z6c ha hb h hv).1 (by rw [← e]; exact hn)]
  · have h1 := (zbz b hb 0 u (zt6 hb) hub).resolve_left fun e2 => hn ((z6c ha hb h hu).2 e2)
    have h2 := (zbz b hb 0 v (zt6 hb) hvb).resolve_left fun e2 => hn (by rw [e]; exact (z6c ha hb h hv).2 e2)
    obtain ⟨s, hs⟩ := Int.eq_ofNat_of_zero_le h1.1
    obtain ⟨t, ht⟩ := Int.eq_ofNat_of_zero_le h2.1
    rw [hs] at h1 ⊢
    rw [ht] at h2 ⊢
    rw [rb s t (by omega) (by omega) fun x hx => ?_]
    have hxa : WOk a.inputs x := by rw [h.1]; exact hx
    have e1 := h.2.2 (u ++ x) (z5a hu hxa)
    have e2 := h.2.2 (v ++ x) (z5a hv hxa)
    rw [z0k, z0k, hs] at e1
    rw [z0k, z0k, ht] at e2
    have e3 := (List.append_inj e1 (by rw [z0q, z0q])).2
    have e4 := (List.append_inj e2 (by rw [z0q, z0q])).2
    rw [← e3, ← e4, e]
theorem ze1 (ha : MOk a) (hb : MOk b) (ra : Red a) (rb : Red b) (h : SameR a b) {w : List Int} : zl5 a 0 w → zl5 b 0 w := by
  rintro ⟨h1, h2, h3⟩
  refine ⟨by rw [← h.1]; exact h1, fun e => h2 ((z6c ha hb h h1).2 e), fun v hv e => h3 v (by rw [h.1]; exact hv) ?_⟩
  exact zjn hb ha ra h.symm hv (by rw [← h.1]; exact h1) e
theorem zlu (ha : MOk a) (hb : MOk b) (ra : Red a) (rb : Red b) (h : SameR a b) : zck (rch a 0) = zck (rch b 0) :=
  zae z4n (fun _ _ => zgb) (z7f (z3u ha)) (z7f (z3u hb)) fun w => by
    rw [z98 ha (z3u ha), z98 hb (z3u hb)]
    exact ⟨ze1 ha hb ra rb h, ze1 hb ha rb ra h.symm⟩
theorem zkn (ha : MOk a) (hb : MOk b) (ra : Red a) (rb : Red b) (h : SameR a b) : z3p a = z3p b := by
  have hP := z3u ha
  have hQ := z3u hb
  have hw := zlu ha hb ra rb h
  have cP := l7 hP
  have cQ := l7 hQ
  unfold z3p
  generalize rch a 0 = P at hP hw cP ⊢
  generalize rch b 0 = Q at hQ hw cQ ⊢
  have hl : P.length = Q.length := by have := congrArg List.length hw; simpa [zck] using this
  have hwd : ∀ j, j < P.length → (P.getD j default).wd = (Q.getD j default).wd := fun j hj => by
    have := congrArg (fun l : List (List Int) => l.getD j default) hw
    simp only [zck] at this
    rw [getD_map (X := P) hj, getD_map (X := Q) (by omega)] at this
    exact this
  have hrow : ∀ j, j < P.length → rowP a (fq P) (P.getD j default).st = rowP b (fq Q) (Q.getD j default).st := fun j hj => by
    have hp := hP.rng j hj
    have hq := hQ.rng j (by omega)
    have e1 := ha.row _ hp
    have e2 := hb.row _ hq
    refine rz ?_ fun i hi => ?_
    · rw [z6i ha hp, z6i hb hq, h.1]
    · rw [z6i ha hp] at hi
      rw [z6b ha hp hi, z6b hb hq (by rw [← h.1]; exact hi)]
      have w1 := (hP.wok j hj).1
      have w2 : WOk b.inputs (P.getD j default).wd := by rw [← h.1]; exact w1
      have a1 : nu a 0 (P.getD j default).wd = _ := hP.aft j hj
      have a2 : nu b 0 (Q.getD j default).wd = _ := hQ.aft j (by omega)
      rw [← hwd j hj] at a2
      have ho := zi5 h w1 hi
      rw [a1, a2, z6n, z6n] at ho
      have n1 : nu a 0 ((P.getD j default).wd ++ [(i : Int)]) = ed a (P.getD j default).st i := by
        rw [z0n, a1]; show (p9 a _ _).to = _; rw [z6n]
      have n2 : nu b 0 ((P.getD j default).wd ++ [(i : Int)]) = ed b (Q.getD j default).st i := by
        rw [z0n, a2]; show (p9 b _ _).to = _; rw [z6n]
      have wi := z5a w1 (zmf hi)
      have hto : pos (fq P) (ed a (P.getD j default).st i) = pos (fq Q) (ed b (Q.getD j default).st i) := by
        by_cases e : ed a (P.getD j default).st i = -1
        · have := (z6c ha hb h wi).1 (by rw [n1]; exact e)
          rw [n2] at this
          rw [e, this]; rfl
        · obtain ⟨k, hk, hst, _⟩ := hP.cls j i hj hi e
          have e3 : nu b 0 ((P.getD j default).wd ++ [(i : Int)]) = nu b 0 (P.getD k default).wd := zjn ha hb rb h wi (hP.wok k hk).1 (by rw [n1, show nu a 0 (P.getD k default).wd = _ from hP.aft k hk, hst])
          have e4 : nu b 0 (Q.getD k default).wd = _ := hQ.aft k (by omega)
          rw [n2, hwd k hk, e4] at e3
          rw [← hst, e3, z5k, z5k]
          have i1 : (fq P).idxOf (P.getD k default).st = k := by rw [← z4k P hk]; exact z3a cP.nd (by rw [z2f]; exact hk)
          have i2 : (fq Q).idxOf (Q.getD k default).st = k := by rw [← z4k Q (by omega)]; exact z3a cQ.nd (by rw [z2f]; omega)
          rw [i1, i2]
      rw [hto]
      congr 1
  have hrows : (fq P).map (rowP a (fq P)) = (fq Q).map (rowP b (fq Q)) := by
    have k1 : (fq P).length = P.length := z2f P
    have k2 : (fq Q).length = Q.length := z2f Q
    refine List.ext_getElem (by rw [List.length_map, List.length_map]; omega) fun j h1 h2 => ?_
    rw [List.length_map] at h1 h2
    have := hrow j (by omega)
    rw [List.getElem_map, List.getElem_map]
    have e1 : (fq P)[j] = (P.getD j default).st := by rw [← z4k P (by omega)]; simp [List.getD_eq_getElem?_getD, h1]
    have e2 : (fq Q)[j] = (Q.getD j default).st := by rw [← z4k Q (by omega)]; simp [List.getD_eq_getElem?_getD, h2]
    rw [e1, e2]; exact this
  unfold nk
  rw [hrows, h.1, h.2.1]
end
/-! ### The quotient -/
def z06 (m : Mach) : Mach := ⟨m.inputs, m.outputs, (ak (cls m) m.rows.length).map fun u => (m.rows.getD u default).map fun e => ⟨hI (cls m) e.to, e.out⟩⟩
def z3z (m : Mach) : Mach := z3p (z06 m)
section
variable {m : Mach}
theorem zb9 : (z06 m).rows.length = cntF (cls m) m.rows.length := by unfold z06; rw [List.length_map, z00]
theorem z4v (s : Nat) : name (cls m) s = cls m s := ze5
theorem zab {s : Nat} (hs : s < m.rows.length) : cls m s < cntF (cls m) m.rows.length := by rw [← z4v]; exact zrl hs
theorem zhp {c : Nat} (hc : c < cntF (cls m) m.rows.length) : (z06 m).rows.getD c default = (m.rows.getD ((ak (cls m) m.rows.length).getD c 0) default).map fun e => ⟨hI (cls m) e.to, e.out⟩ := by
  unfold z06
  dsimp only
  have := (z00 (f := cls m) m.rows.length).symm ▸ hc
  rw [List.getD_eq_getElem?_getD, List.getElem?_map, List.getD_eq_getElem?_getD (l := ak _ _), List.getElem?_eq_getElem this]
  rfl
theorem zmg (hm : MOk m) {c i : Nat} (hc : c < cntF (cls m) m.rows.length) (hi : i < m.inputs.toNat) : ed (z06 m) c i = hI (cls m) (ed m ((ak (cls m) m.rows.length).getD c 0) i) ∧ ou (z06 m) c i = ou m ((ak (cls m) m.rows.length).getD c 0) i := by
  obtain ⟨h1, _, _⟩ := z0w hc
  have h2 := hm.row _ h1
  unfold ed ou
  rw [zhp hc, getD_map (by omega)]
  exact ⟨rfl, rfl⟩
theorem zme (hm : MOk m) {s : Nat} (hs : s < m.rows.length) : (ak (cls m) m.rows.length).getD (cls m s) 0 < m.rows.length ∧ cls m ((ak (cls m) m.rows.length).getD (cls m s) 0) = cls m s := by
  obtain ⟨h1, h2, h3⟩ := z0w (zab hs)
  refine ⟨h1, ?_⟩
  rw [← z4v, z6f h2, h3]
theorem za0 (hm : MOk m) : MOk (z06 m) := by
  have hl := zb9 (m := m)
  have h1 := hm.r1; have h2 := hm.r2; have h3 := z6u (cls m) m.rows.length
  have h4 := zab (m := m) (s := 0) (by omega)
  refine ⟨hm.i1, hm.i2, hm.o1, hm.o2, by omega, by omega, fun s hs => ?_, fun s i hs hi => ?_⟩
  · rw [hl] at hs
    obtain ⟨k1, _, _⟩ := z0w hs
    rw [zhp hs, List.length_map]
    exact hm.row _ k1
  · rw [hl] at hs
    obtain ⟨k1, _, _⟩ := z0w hs
    rw [zhp hs] at hi ⊢
    rw [List.length_map] at hi
    rw [getD_map hi]
    have h5 := hm.row _ k1
    rcases hm.edge _ i k1 hi with ⟨e1, e2⟩ | ⟨e1, e2, e3, e4⟩
    · left; rw [e1, e2]; exact ⟨rfl, rfl⟩
    · right
      obtain ⟨t, ht⟩ := Int.eq_ofNat_of_zero_le e1
      rw [ht, z3m]
      have := zab (m := m) (s := t) (by omega)
      exact ⟨by show (0 : Int) ≤ (cls m t : Int); omega, by show ((cls m t : Nat) : Int) < ((z06 m).rows.length : Int); omega, e3, e4⟩
theorem zdi (hm : MOk m) : Hom m (z06 m) (cls m) := by
  refine ⟨hm, za0 hm, rfl, fun s hs => by rw [zb9]; exact zab hs, fun s i hs hi => ?_, fun s i hs hi => ?_⟩
  · obtain ⟨h1, h2⟩ := zme hm hs
    rw [(zmg hm (zab hs) hi).2]
    exact (zjx hm h1 hs h2 hi).1
  · obtain ⟨h1, h2⟩ := zme hm hs
    obtain ⟨h3, h4, h5⟩ := zjx hm h1 hs h2 hi
    rw [(zmg hm (zab hs) hi).1]
    unfold hI
    by_cases e : ed m s i = -1
    · rw [if_pos e, if_pos (h4.2 e)]
    · have e2 : ed m ((ak (cls m) m.rows.length).getD (cls m s) 0) i ≠ -1 := fun k => e (h4.1 k)
      rw [if_neg e, if_neg e2, h5 e2]
theorem zma (hm : MOk m) : Red (z06 m) := by
  intro c d hc hd h
  rw [zb9] at hc hd
  obtain ⟨u1, u2, u3⟩ := z0w hc
  obtain ⟨v1, v2, v3⟩ := z0w hd
  generalize (ak (cls m) m.rows.length).getD c 0 = u at u1 u2 u3
  generalize (ak (cls m) m.rows.length).getD d 0 = v at v1 v2 v3
  have eu : cls m u = c := by rw [← z4v, z6f u2, u3]
  have ev : cls m v = d := by rw [← z4v, z6f v2, v3]
  rw [← eu, ← ev]
  refine (zst hm u1 v1).2 fun w hw => ?_
  rw [← ((zdi hm).run w u1 hw).1, ← ((zdi hm).run w v1 hw).1, eu, ev]
  exact h w hw
theorem zed : cls m 0 = 0 := by rw [← z4v, zfp]
theorem zjz (hm : MOk m) : SameR (z06 m) m := ⟨rfl, rfl, fun w hw => by
  have := ((zdi hm).run w (s := 0) (by have := hm.r1; omega) hw).1
  rw [zed] at this; exact this⟩
theorem zqa (hm : MOk m) : MOk (z3z m) := zdk (za0 hm)
theorem zpf {a b : Mach} (ha : MOk a) (hb : MOk b) (h : SameR a b) : z3z a = z3z b :=
  zkn (za0 ha) (za0 hb) (zma ha) (zma hb) (((zjz ha).trans h).trans (zjz hb).symm)
end
end GV
end Go.Proofs.Ytkcccdcloealfaa
