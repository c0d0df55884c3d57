/- A region that draws its order and in which several operations turn memory. -/
import Derived.Test.YtncblcdhmcmkmaaShIter
namespace Go.Proofs.Ytncblcdhmcmkmaa
namespace GV
set_option linter.unusedVariables false
set_option linter.unusedSectionVars false

def fphi (φs : List (List Value → Value → RH → Prop)) (k : Nat) : List Value → Value → RH → Prop := φs.getD k fun _ _ _ => True
/-- The values of the operations that turn memory. -/
def esOf (os : List Oper) (E : List Nat) (l : Nat → Value) : List Value := E.map fun e => match dstOf os e with | some d => l d | none => undef
def flOf (E : List Nat) (listed : Array Bool) : List Bool := E.map fun e => listed.getD e false
def fDep (os : List Oper) (φs : List (List Value → Value → RH → Prop)) (es : List Value) (l : Nat → Value) (R : RH) : List Go.Edge → Prop
  | [] => True
  | e :: r => (match dstOf os e.on with | some d => Region.binds .any e = true → fphi φs e.on es (l d) R | none => True) ∧ fDep os φs es l R r
/-- What the edges tell of which operations have been carried out, when i is. -/
def kn (os : List Oper) (E : List Nat) (i : Nat) (o : Oper) (fl : List Bool) : Bool :=
  (E.zip fl).all fun x => (!(forced os o i).contains x.1 || x.2) && (match os[x.1]? with | some oe => !(forced os oe x.1).contains i || !x.2 | none => true)
def suppB (os : List Oper) (E : List Nat) (k : Nat) (o : Oper) (p : Nat) : Bool := match E[p]? with | some e => Nat.beq e k || (forced os o k).contains e | none => true
def esSet (o : Oper) (es : List Value) (p : Nat) (v : Value) : List Value := match o.dst with | some _ => es.set p v | none => es
/-- Slots whose value may have turned when an operation is carried out. -/
def agB (os : List Oper) (i s : Nat) : Bool := bif (dsts os).contains s then os.zipIdx.any (fun x => match x.1.dst with | some d => Nat.beq d s && !((forced os x.1 x.2).contains i) | none => false) else false
def AgI (os : List Oper) (i : Nat) (l0 l : Nat → Value) : Prop := ∀ s, agB os i s = false → l s = l0 s
section defs
variable (P : Program) (ρ : Option Nat) (os : List Oper) (E : List Nat) (φs : List (List Value → Value → RH → Prop)) (W : List Bool → List Value → RH → List Frag → Prop) (l0 : Nat → Value) (R0 : RH)
def FPure (k : Nat) (o : Oper) : Prop := ∀ l R fl O, RH.le R0 R → AgI os k l0 l → fDep os φs (esOf os E l) l R o.after.toList → kn os E k o fl = true → W fl (esOf os E l) R O →
  Eff P ρ o l R O fun v R' O' => O' = O ∧ fphi φs k (esOf os E l) v R'
def FEff (k : Nat) (o : Oper) (p : Nat) : Prop := ∀ l R fl O, RH.le R0 R → AgI os k l0 l → fDep os φs (esOf os E l) l R o.after.toList → kn os E k o fl = true → fl.getD p true = false → W fl (esOf os E l) R O →
  Eff P ρ o l R O fun v R' O' => fphi φs k (esSet o (esOf os E l) p v) v R' ∧ W (fl.set p true) (esSet o (esOf os E l) p v) R' O'
def FObls : Nat → List Oper → Prop
  | _, [] => True
  | k, o :: r => (match E.idxOf? k with | some p => FEff P ρ os E φs W l0 R0 k o p | none => FPure P ρ os E φs W l0 R0 k o) ∧ FObls (k + 1) r
def FSt : Nat → List Oper → Prop
  | _, [] => True
  | k, o :: r => (∀ es es' v R, (∀ p, suppB os E k o p = true → es.getD p undef = es'.getD p undef) → fphi φs k es v R → fphi φs k es' v R) ∧ FSt (k + 1) r
def freeOk (n : Nat) : Bool :=
  (os.zipIdx.all fun (o, i) => o.guard.isNone && (match o.dst with | some d => Nat.blt d n | none => E.contains i)) && decide (dsts os).Nodup &&
  (os.zipIdx.all fun (o, i) => o.after.all fun e => !Region.binds .any e || Nat.blt e.on i) && decide E.Nodup && E.all fun e => Nat.blt e os.length
/-- Values for all slots. -/
def EndV (K : List (Nat × Value) → Prop) : List Oper → Prop
  | [] => K []
  | o :: r => match o.dst with
    | none => EndV K r
    | some d => ∀ v, EndV (fun acc => K ((d, v) :: acc)) r
def look (acc : List (Nat × Value)) (d : Nat) : Value := match acc with
  | [] => undef
  | (e, v) :: r => bif Nat.beq e d then v else look r d
def esA (acc : List (Nat × Value)) : List Value := E.map fun e => match dstOf os e with | some d => look acc d | none => undef
def EndP (es : List Value) (acc : List (Nat × Value)) (R : RH) (K : Prop) : Nat → List Oper → Prop
  | _, [] => K
  | k, o :: r => match o.dst with
    | none => EndP es acc R K (k + 1) r
    | some d => fphi φs k es (look acc d) R → EndP es acc R K (k + 1) r
end defs
section free
variable {P : Program} {ρ : Option Nat} {n : Nat} {Q : Po} {D : List Nat} {os : List Oper} {E : List Nat} {φs : List (List Value → Value → RH → Prop)} {W : List Bool → List Value → RH → List Frag → Prop} {l0 : Nat → Value} {R0 : RH} {O : List Frag}
theorem fobls_get : ∀ (r : List Oper) (k : Nat), FObls P ρ os E φs W l0 R0 k r → ∀ (i : Nat) (o : Oper), r[i]? = some o → (match E.idxOf? (k + i) with | some p => FEff P ρ os E φs W l0 R0 (k + i) o p | none => FPure P ρ os E φs W l0 R0 (k + i) o)
  | [], k, _, i, o, h => by simp at h
  | o' :: r, k, hO, i, o, h => by
    cases i with
    | zero => simp at h; subst h; exact hO.1
    | succ i =>
      have := fobls_get r (k + 1) hO.2 i o (by simpa using h)
      rwa [show k + 1 + i = k + (i + 1) from by omega] at this
theorem fst_get : ∀ (r : List Oper) (k : Nat), FSt os E φs k r → ∀ (i : Nat) (o : Oper), r[i]? = some o → ∀ es es' v R, (∀ p, suppB os E (k + i) o p = true → es.getD p undef = es'.getD p undef) → fphi φs (k + i) es v R → fphi φs (k + i) es' v R
  | [], k, _, i, o, h => by simp at h
  | o' :: r, k, hO, i, o, h => by
    cases i with
    | zero => simp at h; subst h; exact hO.1
    | succ i =>
      have := fst_get r (k + 1) hO.2 i o (by simpa using h)
      rwa [show k + 1 + i = k + (i + 1) from by omega] at this
theorem fDep_of {es : List Value} {l : Nat → Value} {R : RH} : ∀ (r : List Go.Edge), (∀ e ∈ r, Region.binds .any e = true → ∀ d, dstOf os e.on = some d → fphi φs e.on es (l d) R) → fDep os φs es l R r
  | [], _ => trivial
  | e :: r, h => ⟨by
      cases hd : dstOf os e.on with
      | none => trivial
      | some d => exact fun hb => h e (List.mem_cons_self ..) hb d hd, fDep_of r fun e' he' => h e' (List.mem_cons_of_mem _ he')⟩
theorem freeOk_spec (h : freeOk os E n = true) : (∀ (i : Nat) o, os[i]? = some o → o.guard = none ∧ (∀ d, o.dst = some d → d < n) ∧ (o.dst = none → i ∈ E)) ∧ (dsts os).Nodup ∧
    (∀ (i : Nat) o, os[i]? = some o → ∀ e ∈ o.after, Region.binds .any e = true → e.on < i) ∧ E.Nodup ∧ ∀ e ∈ E, e < os.length := by
  simp only [freeOk, Bool.and_eq_true, List.all_eq_true, decide_eq_true_eq] at h
  obtain ⟨⟨⟨⟨h1, h2⟩, h3⟩, h4⟩, h5⟩ := h
  have mem : ∀ (i : Nat) o, os[i]? = some o → (o, i) ∈ os.zipIdx := fun i o ho => by
    rw [List.mem_iff_getElem?]; exact ⟨i, by rw [List.getElem?_zipIdx, ho]; simp⟩
  refine ⟨fun i o ho => ?_, h2, fun i o ho e he hb => ?_, h4, fun e he => by simpa using h5 e he⟩
  · obtain ⟨g1, g2⟩ := h1 _ (mem i o ho)
    refine ⟨by simpa using g1, fun d hd => ?_, fun hd => ?_⟩
    · rw [hd] at g2; simpa using g2
    · rw [hd] at g2; simpa using g2
  · have := h3 _ (mem i o ho)
    simp only [Array.all_eq_true_iff_forall_mem] at this
    simpa [hb] using this e he
structure FJ (os : List Oper) (E : List Nat) (φs : List (List Value → Value → RH → Prop)) (W : List Bool → List Value → RH → List Frag → Prop) (l0 : Nat → Value) (R0 : RH) (n : Nat) (D : List Nat) (listed : Array Bool) (a : Act) (w : World) : Prop where
  ex : ∃ l R O, Fr n l D a ∧ Holds R (O ++ D.map dfrag) w ∧ RH.le R0 R ∧ W (flOf E listed) (esOf os E l) R O ∧ Agree os l0 l ∧ (∀ i d, listed.getD i false = true → dstOf os i = some d → fphi φs i (esOf os E l) (l d) R) ∧ (∀ i d, listed.getD i false = false → dstOf os i = some d → l d = l0 d)
  closed : ClosedL os listed
theorem idxOf_none {E : List Nat} {i : Nat} (h : E.idxOf? i = none) : i ∉ E := by
  intro hm
  have := List.idxOf?_eq_none_iff.1 h
  exact this hm
theorem idxOf_some {E : List Nat} {i p : Nat} (h : E.idxOf? i = some p) : E[p]? = some i := by
  have h' := h
  unfold List.idxOf? at h'
  obtain ⟨hlt, hp, _⟩ := List.findIdx?_eq_some_iff_getElem.1 h'
  rw [List.getElem?_eq_getElem hlt]
  have : E[p] = i := by simpa using hp
  rw [this]
theorem kn_of {listed : Array Bool} (hc : ClosedL os listed) {i : Nat} {o : Oper} (ho : os[i]? = some o) (hun : listed.getD i false = false) (hdep : ∀ e ∈ o.after, Region.binds .any e = true → listed.getD e.on false = true) : kn os E i o (flOf E listed) = true := by
  unfold kn flOf
  rw [List.all_eq_true]
  rintro ⟨e, b⟩ hx
  have hb : b = listed.getD e false := by
    rw [List.mem_iff_getElem?] at hx
    obtain ⟨p, hp⟩ := hx
    rw [List.getElem?_zip_eq_some] at hp
    obtain ⟨h1, h2⟩ := hp
    rw [List.getElem?_map, h1] at h2
    simpa using h2.symm
  subst hb
  simp only [Bool.and_eq_true, Bool.or_eq_true, Bool.not_eq_true']
  refine ⟨?_, ?_⟩
  · by_cases h : (forced os o i).contains e = true
    · exact .inr (forced_listed hc hdep e (by simpa using h))
    · exact .inl (by simpa using h)
  · cases he : os[e]? with
    | none => rfl
    | some oe =>
      simp only [Bool.or_eq_true, Bool.not_eq_true']
      by_cases h : listed.getD e false = true
      · left
        cases hf : (forced os oe e).contains i with
        | false => rfl
        | true =>
          have := forced_listed hc (hc e oe he h) i (by simpa using hf)
          rw [this] at hun; cases hun
      · exact .inr (by simpa using h)
theorem esOf_other {l : Nat → Value} {i d : Nat} {v : Value} (hn : (dsts os).Nodup) (hi : i ∉ E) (hd : dstOf os i = some d) : esOf os E (upd l d v) = esOf os E l := by
  unfold esOf
  refine List.map_congr_left fun e he => ?_
  cases h : dstOf os e with
  | none => rfl
  | some d' =>
    have hne : d' ≠ d := fun e' => by subst e'; exact hi (dstOf_inj hn hd h ▸ he)
    show upd l d v d' = l d'
    unfold upd
    cases hb : Nat.beq d' d
    · rfl
    · exact absurd (Nat.eq_of_beq_eq_true hb) hne
theorem esOf_self {l : Nat → Value} {i p d : Nat} {v : Value} (hn : (dsts os).Nodup) (hE : E.Nodup) (hp : E[p]? = some i) (hd : dstOf os i = some d) : esOf os E (upd l d v) = (esOf os E l).set p v := by
  unfold esOf
  apply List.ext_getElem?
  intro j
  rw [List.getElem?_set, List.getElem?_map]
  have hlt : p < E.length := (List.getElem?_eq_some_iff.1 hp).1
  by_cases e : p = j
  · subst e
    rw [if_pos rfl, if_pos (by simpa using hlt), hp]
    simp [hd, upd]
  · rw [if_neg e, List.getElem?_map]
    cases hj : E[j]? with
    | none => rfl
    | some e' =>
      simp only [Option.map_some, Option.some.injEq]
      have hne : e' ≠ i := fun h => by
        subst h
        have h1 := (List.getElem?_eq_some_iff.1 hj).1
        exact e ((List.getElem?_inj hlt hE).1 (hp.trans hj.symm))
      cases h : dstOf os e' with
      | none => rfl
      | some d' =>
        have : d' ≠ d := fun h' => by subst h'; exact hne (dstOf_inj hn h hd)
        show upd l d v d' = l d'
        unfold upd
        cases hb : Nat.beq d' d
        · rfl
        · exact absurd (Nat.eq_of_beq_eq_true hb) this
theorem flOf_other {listed : Array Bool} {i : Nat} (hi : i ∉ E) : flOf E (listed.setIfInBounds i true) = flOf E listed :=
  List.map_congr_left fun e he => getD_set_ne false (fun h => hi (h ▸ he))
theorem flOf_self {listed : Array Bool} {i p : Nat} (hs : i < listed.size) (hE : E.Nodup) (hp : E[p]? = some i) : flOf E (listed.setIfInBounds i true) = (flOf E listed).set p true := by
  unfold flOf
  apply List.ext_getElem?
  intro j
  have hlt : p < E.length := (List.getElem?_eq_some_iff.1 hp).1
  rw [List.getElem?_set, List.getElem?_map]
  by_cases e : p = j
  · subst e
    rw [if_pos rfl, if_pos (by simpa using hlt), hp]
    simp only [Option.map_some]
    rw [setIf_getD hs]
  · rw [if_neg e, List.getElem?_map]
    cases hj : E[j]? with
    | none => rfl
    | some e' =>
      simp only [Option.map_some, Option.some.injEq]
      refine getD_set_ne false fun h => ?_
      subst h
      exact e ((List.getElem?_inj hlt hE).1 (hp.trans hj.symm))
theorem getD_setv {es : List Value} {p q : Nat} {v : Value} (h : p ≠ q) : (es.set p v).getD q undef = es.getD q undef := by
  simp [List.getD_eq_getElem?_getD, h]
theorem closed_step {listed : Array Bool} {i : Nat} {o : Oper} (hc : ClosedL os listed) (ho : os[i]? = some o) (hun : listed.getD i false = false) (hdep : ∀ e ∈ o.after, Region.binds .any e = true → listed.getD e.on false = true) : ClosedL os (listed.setIfInBounds i true) := by
  intro k o' ho' hk e he hb
  have hup : ∀ j, listed.getD j false = true → (listed.setIfInBounds i true).getD j false = true := fun j hj' => by
    by_cases e' : j = i
    · subst e'; rw [hj'] at hun; cases hun
    · rw [getD_set_ne false (Ne.symm e')]; exact hj'
  by_cases ek : k = i
  · subst ek
    rw [ho] at ho'
    obtain rfl := Option.some.inj ho'
    exact hup _ (hdep e he hb)
  · rw [getD_set_ne false (Ne.symm ek)] at hk
    exact hup _ (hc k o' ho' hk e he hb)

theorem free_step (hok : freeOk os E n = true) (hmono : ∀ k es v R R', RH.le R R' → fphi φs k es v R → fphi φs k es v R') (hW : ∀ fl es R R' O, RH.le R R' → W fl es R O → W fl es R' O) (hst : FSt os E φs 0 os) (hobl : FObls P ρ os E φs W l0 R0 0 os)
    {listed : Array Bool} {a : Act} {w : World} {i : Nat} {o : Oper} (hsz : listed.size = os.length) (hi : os[i]? = some o)
    (hj : FJ os E φs W l0 R0 n D listed a w) (hun : listed.getD i true = false) (hdep : ∀ e ∈ o.after, Region.binds .any e = true → listed.getD e.on false = true) :
    wpOpIn (wide ρ) 0 P os.toArray (lift n Q) i (FJ os E φs W l0 R0 n D (listed.setIfInBounds i true)) a w := by
  obtain ⟨s1, s2, s3, s4, s5⟩ := freeOk_spec hok
  obtain ⟨⟨l, R, O', hf, hh, hle, hos, hag, hφ, hun0⟩, hcl⟩ := hj
  obtain ⟨hg, hdst, hms⟩ := s1 i o hi
  have hlt : i < os.length := (List.getElem?_eq_some_iff.1 hi).1
  have hio : os.toArray[i]? = some o := by simp [hi]
  have hun' : listed.getD i false = false := by
    rw [Array.getD_eq_getD_getElem?, Array.getElem?_eq_getElem (by omega)] at hun ⊢
    simpa using hun
  have hkn := kn_of (E := E) hcl hi hun' hdep
  have hfd : fDep os φs (esOf os E l) l R o.after.toList := fDep_of _ fun e he hb d' hd' => hφ e.on d' (hdep e (by simpa using he) hb) hd'
  have hst' := fobls_get os 0 hobl i o hi
  rw [Nat.zero_add] at hst'
  have hlist : ∀ k, k ≠ i → (listed.setIfInBounds i true).getD k false = listed.getD k false := fun k hk => getD_set_ne false (Ne.symm hk)
  have hcl' := closed_step hcl hi hun' hdep
  have hagree : ∀ d v, dstOf os i = some d → Agree os l0 (upd l d v) := fun d v hdi s hs => by
    have hne : s ≠ d := fun e => by subst e; have := dst_mem hdi; simp [this] at hs
    have : upd l d v s = l s := by
      unfold upd
      cases hb : Nat.beq s d
      · rfl
      · exact absurd (Nat.eq_of_beq_eq_true hb) hne
    rw [this]; exact hag s hs
  have hother : ∀ d v k d', dstOf os i = some d → k ≠ i → dstOf os k = some d' → upd l d v d' = l d' := fun d v k d' hdi hk hd' => by
    have hne : d' ≠ d := fun e => by subst e; exact hk (dstOf_inj s2 hd' hdi)
    unfold upd
    cases hb : Nat.beq d' d
    · rfl
    · exact absurd (Nat.eq_of_beq_eq_true hb) hne
  have hkeep : ∀ d v, dstOf os i = some d → ∀ k d', (listed.setIfInBounds i true).getD k false = false → dstOf os k = some d' → upd l d v d' = l0 d' := fun d v hdi k d' hk hd' => by
    by_cases e : k = i
    · subst e; rw [setIf_getD (by omega)] at hk; cases hk
    · rw [hother d v k d' hdi e hd']; exact hun0 k d' (by rw [hlist k e] at hk; exact hk) hd'
  have hkeep0 : ∀ k d', (listed.setIfInBounds i true).getD k false = false → dstOf os k = some d' → l d' = l0 d' := fun k d' hk hd' => by
    by_cases e : k = i
    · subst e; rw [setIf_getD (by omega)] at hk; cases hk
    · exact hun0 k d' (by rw [hlist k e] at hk; exact hk) hd'
  have hagI : AgI os i l0 l := fun s hs => by
    by_cases hm : (dsts os).contains s = true
    · have hm' : s ∈ dsts os := by simpa using hm
      obtain ⟨oj, hoj, hjd⟩ := List.mem_filterMap.1 hm'
      obtain ⟨j, hj⟩ := List.mem_iff_getElem?.1 hoj
      unfold agB at hs
      rw [hm] at hs
      simp only [cond_true, List.any_eq_false] at hs
      have h1 := hs (oj, j) (by rw [List.mem_iff_getElem?]; exact ⟨j, by rw [List.getElem?_zipIdx, hj]; simp⟩)
      simp only [hjd] at h1
      have h2 : (forced os oj j).contains i = true := by
        cases hc : (forced os oj j).contains i with
        | true => rfl
        | false => rw [hc] at h1; simp at h1
      cases hjl : listed.getD j false with
      | true =>
        have := forced_listed hcl (hcl j oj hj hjl) i (by simpa using h2)
        rw [this] at hun'; cases hun'
      | false => exact hun0 j s hjl (by simp [dstOf, hj, hjd])
    · exact hag s (by simpa using hm)
  unfold wpOpIn
  rw [hio]
  simp only [wanted_none hg, if_true]
  cases hE : E.idxOf? i with
  | none =>
    rw [hE] at hst'
    have hni := idxOf_none hE
    have hds : ∃ d, o.dst = some d := by
      cases hd : o.dst with
      | none => exact absurd (hms hd) hni
      | some d => exact ⟨d, rfl⟩
    obtain ⟨d, hd⟩ := hds
    have hdi : dstOf os i = some d := by simp [dstOf, hi, hd]
    refine wpIn_of_eff (A := D.map dfrag) hf hh (hst' l R _ O' hle hagI hfd hkn hos) ?_
    rintro v R' O'' w' hle' hh' ⟨rfl, hp⟩
    have hput : Fr n (upd l d v) D (a.put o.dst v) := by have := hf.put (d := o.dst) (fun t ht => hdst t ht) v; rw [hd] at this ⊢; exact this
    refine ⟨⟨upd l d v, R', O'', hput, hh', hle.trans hle', ?_, hagree d v hdi, fun k d' hk hd' => ?_, hkeep d v hdi⟩, hcl'⟩
    · rw [flOf_other hni, esOf_other s2 hni hdi]; exact hW _ _ _ _ _ hle' hos
    · rw [esOf_other s2 hni hdi]
      by_cases e : k = i
      · subst e; rw [hdi] at hd'; cases hd'
        have : upd l d v d = v := by simp [upd]
        rw [this]; exact hp
      · rw [hother d v k d' hdi e hd']
        exact hmono _ _ _ _ _ hle' (hφ k d' (by rw [hlist k e] at hk; exact hk) hd')
  | some p =>
    rw [hE] at hst'
    have hp := idxOf_some hE
    have hplt : p < E.length := (List.getElem?_eq_some_iff.1 hp).1
    have hfl : (flOf E listed).getD p true = false := by
      unfold flOf
      rw [List.getD_eq_getElem?_getD, List.getElem?_map, hp]
      simpa using hun'
    -- what was known of the others stays
    have hold : ∀ (es' : List Value) (R' : RH), RH.le R R' → (∀ q, q ≠ p → (esOf os E l).getD q undef = es'.getD q undef) → ∀ k d', k ≠ i → listed.getD k false = true → dstOf os k = some d' → fphi φs k es' (l d') R' := by
      intro es' R' hle' hes k d' hk hkl hd'
      have hok' : ∃ ok, os[k]? = some ok := by
        cases h : os[k]? with
        | none => simp [dstOf, h] at hd'
        | some ok => exact ⟨ok, rfl⟩
      obtain ⟨ok, hok'⟩ := hok'
      have := fst_get os 0 hst k ok hok' (esOf os E l) es' (l d') R'
      rw [Nat.zero_add] at this
      refine this (fun q hq => ?_) (hmono _ _ _ _ _ hle' (hφ k d' hkl hd'))
      by_cases e : q = p
      · subst e
        exfalso
        unfold suppB at hq
        rw [hp] at hq
        simp only [Bool.or_eq_true] at hq
        rcases hq with hq | hq
        · exact hk (Nat.eq_of_beq_eq_true hq).symm
        · have := forced_listed hcl (hcl k ok hok' hkl) i (by simpa using hq)
          rw [this] at hun'; cases hun'
      · exact hes q e
    refine wpIn_of_eff (A := D.map dfrag) hf hh (hst' l R _ O' hle hagI hfd hkn hfl hos) ?_
    rintro v R' O'' w' hle' hh' ⟨hpv, hw'⟩
    cases hd : o.dst with
    | none =>
      have hdi : dstOf os i = none := by simp [dstOf, hi, hd]
      have he : ∀ es, esSet o es p v = es := fun es => by simp [esSet, hd]
      rw [he] at hw'
      refine ⟨⟨l, R', O'', ?_, hh', hle.trans hle', ?_, hag, fun k d' hk hd' => ?_, hkeep0⟩, hcl'⟩
      · have := hf.put (d := o.dst) (fun t ht => hdst t ht) v; rw [hd] at this; exact this
      · rw [flOf_self (by omega) s4 hp]; exact hw'
      · have hne : k ≠ i := fun e => by subst e; rw [hdi] at hd'; cases hd'
        exact hold _ _ hle' (fun _ _ => rfl) k d' hne (by rw [hlist k hne] at hk; exact hk) hd'
    | some d =>
      have hdi : dstOf os i = some d := by simp [dstOf, hi, hd]
      have hput : Fr n (upd l d v) D (a.put (some d) v) := by have := hf.put (d := o.dst) (fun t ht => hdst t ht) v; rw [hd] at this; exact this
      have hes := esOf_self (l := l) (v := v) s2 s4 hp hdi
      have he : ∀ es, esSet o es p v = es.set p v := fun es => by simp [esSet, hd]
      rw [he] at hw' hpv
      refine ⟨⟨upd l d v, R', O'', hput, hh', hle.trans hle', ?_, hagree d v hdi, fun k d' hk hd' => ?_, hkeep d v hdi⟩, hcl'⟩
      · rw [flOf_self (by omega) s4 hp, hes]; exact hw'
      · rw [hes]
        by_cases e : k = i
        · subst e; rw [hdi] at hd'; cases hd'
          have : upd l d v d = v := by simp [upd]
          rw [this]; exact hpv
        · rw [hother d v k d' hdi e hd']
          exact hold _ _ hle' (fun q hq => (getD_setv (Ne.symm hq)).symm) k d' e (by rw [hlist k e] at hk; exact hk) hd'

theorem endV_use {l : Nat → Value} : ∀ (r : List Oper) (K : List (Nat × Value) → Prop), EndV K r → K (r.filterMap fun o => o.dst.map fun d => (d, l d))
  | [], K, h => h
  | o :: r, K, h => by
    unfold EndV at h
    cases hd : o.dst with
    | none => rw [hd] at h; simpa [List.filterMap_cons, hd] using endV_use (l := l) r K h
    | some d => rw [hd] at h; simpa [List.filterMap_cons, hd] using endV_use (l := l) r _ (h (l d))
theorem look_of {l : Nat → Value} {d : Nat} : ∀ (r : List Oper), d ∈ r.filterMap (·.dst) → look (r.filterMap fun o => o.dst.map fun d => (d, l d)) d = l d
  | [], h => by simp at h
  | o :: r, h => by
    cases hd : o.dst with
    | none =>
      simp only [List.filterMap_cons, hd, Option.map_none] at h ⊢
      exact look_of r h
    | some d' =>
      simp only [List.filterMap_cons, hd, Option.map_some] at h ⊢
      unfold look
      cases hb : Nat.beq d' d
      · have hne : d' ≠ d := fun e => by subst e; simp at hb
        rcases List.mem_cons.1 h with e | h
        · exact absurd e.symm hne
        · exact look_of r h
      · rw [Nat.eq_of_beq_eq_true hb]; rfl
theorem esA_of {l : Nat → Value} : esA os E (os.filterMap fun o => o.dst.map fun d => (d, l d)) = esOf os E l := by
  unfold esA esOf
  refine List.map_congr_left fun e _ => ?_
  cases h : dstOf os e with
  | none => rfl
  | some d => exact look_of os (dst_mem h)
theorem endP_use {es : List Value} {acc : List (Nat × Value)} {R : RH} {K : Prop} : ∀ (r : List Oper) (k : Nat), EndP φs es acc R K k r → (∀ i o d, r[i]? = some o → o.dst = some d → fphi φs (k + i) es (look acc d) R) → K
  | [], k, h, _ => h
  | o :: r, k, h, hφ => by
    have hφ' : ∀ i o' d, r[i]? = some o' → o'.dst = some d → fphi φs (k + 1 + i) es (look acc d) R := fun i o' d hi hd' => by
      have := hφ (i + 1) o' d (by simpa using hi) hd'; rwa [show k + (i + 1) = k + 1 + i from by omega] at this
    unfold EndP at h
    cases hd : o.dst with
    | none => rw [hd] at h; exact endP_use r (k + 1) h hφ'
    | some d => rw [hd] at h; exact endP_use r (k + 1) (h (hφ 0 o d rfl hd)) hφ'
def FMono (φs : List (List Value → Value → RH → Prop)) : Prop := ∀ k es v R R', RH.le R R' → fphi φs k es v R → fphi φs k es v R'
def MonoE (φ : List Value → Value → RH → Prop) : Prop := ∀ es v R R', RH.le R R' → φ es v R → φ es v R'
def MonoEL : List (List Value → Value → RH → Prop) → Prop
  | [] => True
  | φ :: r => MonoE φ ∧ MonoEL r
theorem fmono_of : ∀ {φs : List (List Value → Value → RH → Prop)}, MonoEL φs → FMono φs
  | [], _ => fun k es v R R' _ _ => by simp [fphi]
  | φ :: r, h => fun k es v R R' hle hp => by
    cases k with
    | zero => exact h.1 es v R R' hle hp
    | succ k => exact fmono_of (φs := r) h.2 k es v R R' hle hp
theorem monoE_of {φ : Value → RH → Prop} (h : Mono φ) : MonoE (fun _ => φ) := fun _ v R R' hle k => h v R R' hle k
/-- **A region that draws its order, in which the operations E turn memory.** -/
theorem wg_free {id : Nat} (E : List Nat) (φs : List (List Value → Value → RH → Prop)) (W : List Bool → List Value → RH → List Frag → Prop) (hm : P.follows .mixedOrders = true) (hok : freeOk os E n = true) (hmono : MonoEL φs)
    (hW : ∀ fl es R R' O, RH.le R R' → W fl es R O → W fl es R' O) (hst : FSt os E φs 0 os) (h0 : ∀ es, W (E.map fun _ => false) es R0 O) (hobl : FObls P ρ os E φs W l0 R0 0 os)
    (hend : ∀ R, RH.le R0 R → EndV (fun acc => EndP φs (esA os E acc) acc R (∀ O', W (E.map fun _ => true) (esA os E acc) R O' → ∃ J F, O'.Perm (J ++ F) ∧ wo P ρ n #[] Q [] (setl l0 acc) D R F) 0 os) os) : wg P ρ n (.region id os.toArray true) Q l0 D R0 O := by
  intro a w hf hh
  refine wpIn_region_any hm ?_
  obtain ⟨s1, s2, s3, s4, s5⟩ := freeOk_spec hok
  have hmono' := fmono_of hmono
  have hno : ∀ (k : Nat), (Array.replicate os.toArray.size false).getD k false = false := fun k => by
    rw [Array.getD_eq_getD_getElem?, Array.getElem?_replicate]; split <;> rfl
  have hready : ∀ (listed : Array Bool), listed.size = os.length → Region.ready .any os.toArray listed = [] → ∀ k, k < os.length → listed.getD k false = true := by
    intro listed hsz hr k
    induction k using Nat.strongRecOn with
    | _ k ih =>
      intro hk
      have ho : os.toArray[k]? = some (os[k]'hk) := by simp [hk]
      cases hb : listed.getD k false with
      | true => rfl
      | false =>
        have : k ∈ Region.ready .any os.toArray listed := mem_ready.2 ⟨by
          rw [Array.getD_eq_getD_getElem?, Array.getElem?_eq_getElem (by omega)] at hb ⊢
          exact hb, _, ho, fun e he hbind => by
            have hlt := s3 k _ (by simp [hk]) e he hbind
            exact ih e.on hlt (by omega)⟩
        rw [hr] at this
        cases this
  have hdone : ∀ (listed : Array Bool) (a : Act) (w : World), listed.size = os.length → FJ os E φs W l0 R0 n D listed a w → Region.ready .any os.toArray listed = [] → lift n Q .normal a w := by
    intro listed a w hsz hj hr
    have hall := hready listed hsz hr
    obtain ⟨⟨l, R, O', hf, hh, hle, hos, hag, hφ, _⟩, _⟩ := hj
    have hfl : flOf E listed = E.map fun _ => true := List.map_congr_left fun e he => hall e (s5 e he)
    rw [hfl] at hos
    have h1 := endV_use (l := l) os _ (hend R hle)
    rw [esA_of] at h1
    have h2 := endP_use os 0 h1 (fun i o d hi hd => by
      rw [Nat.zero_add, look_of os (List.mem_filterMap.2 ⟨o, List.mem_of_getElem? hi, hd⟩)]
      exact hφ i d (hall i (List.getElem?_eq_some_iff.1 hi).1) (by simp [dstOf, hi, hd])) O' hos
    obtain ⟨J, F, hp, h3⟩ := h2
    rw [← msetl_agree hag] at h3
    exact h3 a w hf (holds_junk hp hh)
  have main : ∀ (fuel : Nat) (listed : Array Bool) (a : Act) (w : World), listed.size = os.length → ((List.range os.length).filter fun i => !listed.getD i true).length ≤ fuel → FJ os E φs W l0 R0 n D listed a w →
      wpAnyIn (wide ρ) 0 P .any os.toArray (lift n Q) fuel listed a w := by
    intro fuel
    induction fuel with
    | zero =>
      intro listed a w hsz hfu hp
      have hr : Region.ready .any os.toArray listed = [] := by
        cases hr : Region.ready .any os.toArray listed with
        | nil => rfl
        | cons x xs =>
          have hx : x ∈ Region.ready .any os.toArray listed := by rw [hr]; exact List.mem_cons_self ..
          obtain ⟨hun, o, ho, _⟩ := mem_ready.1 hx
          have : x ∈ ((List.range os.length).filter fun i => !listed.getD i true) := by
            rw [List.mem_filter, List.mem_range]
            exact ⟨by have := (Array.getElem?_eq_some_iff.1 ho).1; simpa using this, by rw [hun]; rfl⟩
          have := List.length_pos_of_mem this
          omega
      exact ⟨hr, hdone listed a w hsz hp hr⟩
    | succ fuel ih =>
      intro listed a w hsz hfu hp
      refine ⟨hdone listed a w hsz hp, fun i hi => ?_⟩
      obtain ⟨hun, o, ho, hdep⟩ := mem_ready.1 hi
      have hil : i < os.length := by have := (Array.getElem?_eq_some_iff.1 ho).1; simpa using this
      refine wpOpIn_mono (fun a' w' h' => ih _ a' w' (by simpa using hsz) ?_ h') (free_step hok hmono' hW hst hobl hsz (by simpa using ho) hp hun hdep)
      have hsub : ((List.range os.length).filter fun k => !(listed.setIfInBounds i true).getD k true) = (((List.range os.length).filter fun k => !listed.getD k true).filter fun k => k != i) := by
        rw [List.filter_filter]
        refine List.filter_congr fun k _ => ?_
        by_cases e : k = i
        · subst e; rw [setIf_getD (by omega)]; simp
        · rw [getD_set_ne true (Ne.symm e)]; simp [e]
      rw [hsub]
      have hmem : i ∈ ((List.range os.length).filter fun k => !listed.getD k true) := by
        rw [List.mem_filter, List.mem_range]
        exact ⟨hil, by rw [hun]; rfl⟩
      have : (((List.range os.length).filter fun k => !listed.getD k true).filter fun k => k != i).length < ((List.range os.length).filter fun k => !listed.getD k true).length := List.length_filter_lt_length_iff_exists.2 ⟨i, hmem, show ¬ ((i != i) = true) by simp⟩
      omega
  refine main _ _ a _ (by simp) (by
    refine Nat.le_trans (List.length_filter_le _ _) ?_
    simp) ⟨⟨l0, R0, O, hf, holds_drew hh, RH.le.refl _, ?_, fun _ _ => rfl, fun i d hi => (by rw [hno] at hi; cases hi), fun _ _ _ _ => rfl⟩, fun k o' _ hk => by rw [hno] at hk; cases hk⟩
  have hfl : flOf E (Array.replicate os.toArray.size false) = E.map fun _ => false := List.map_congr_left fun e _ => hno e
  rw [hfl]; exact h0 _
theorem eff_perm {o : Oper} {l : Nat → Value} {R : RH} {O O1 : List Frag} {φ : Value → RH → List Frag → Prop} (hp : O.Perm O1) (h : Eff P ρ o l R O1 φ) : Eff P ρ o l R O φ := fun A w hh => h A w (holds_perm hh (hp.append_right A))
theorem eff_permP {o : Oper} {l : Nat → Value} {R : RH} {O O1 : List Frag} {φ : Value → RH → Prop} (hp : O.Perm O1) (h : Eff P ρ o l R O1 (fun v R' O' => O' = O1 ∧ φ v R')) : Eff P ρ o l R O (fun v R' O' => O' = O ∧ φ v R') := fun A w hh => by
  refine out_mono (h A w (holds_perm hh (hp.append_right A))) ?_
  rintro v w' ⟨R', O', hle, hh', rfl, hv⟩
  exact ⟨R', O, hle, holds_perm hh' (hp.symm.append_right A), rfl, hv⟩
theorem free_storeO {dst : Option Tmp} {ty : TypeId} {pos : String} {after : Array Go.Edge} {g : Option (Nat × Bool)} {l : Nat → Value} {R : RH} {O : List Frag} {α : Type} {T : Ty α} {t : TypeId} {x y : Operand} {f : Frag} {v u w : Value} {X : List α} {i j : Nat} {z : α} (ht : TyOk P t T) (hv : ORep T R f v X) (hO : O[j]? = some f) (hx : ev l x = u) (hp : OPtr T v X u i) (hi : i < X.length)
    (hy : ev l y = w) (hz : VRep T R w z) : Eff P ρ ⟨dst, .store t x y, ty, pos, after, g⟩ l R O (fun _ R' O' => R' = R ∧ ∃ f', O' = O.set j f' ∧ ORep T R f' v (X.set i z)) := by
  obtain ⟨b, off, h1, rfl⟩ := hp
  exact (eff_storeO ht hv h1 hO hx hi hy hz).mono fun _ _ _ _ ⟨_, h⟩ => h
theorem kn_no {i : Nat} {o : Oper} {fl : List Bool} {p : Prop} (h : kn os E i o fl = true) (k : kn os E i o fl = false) : p := by rw [k] at h; cases h
end free
end GV
end Go.Proofs.Ytncblcdhmcmkmaa
