import Derived.Test.YtplgbkaollfmkaaQuo09
set_option linter.unusedVariables false
set_option linter.unusedSimpArgs false
namespace Go.Proofs.Ytplgbkaollfmkaa
namespace GV
set_option maxRecDepth 100000
/-! ### Signatures -/
def sgL (m : Mach) (p : Nat → Nat) (s : Nat) : List (Int × Int) := z97 m p s ++ List.replicate (16 - m.inputs.toNat) (0, 0)
theorem z8i {m : Mach} {p : Nat → Nat} {s : Nat} : (z97 m p s).length = m.inputs.toNat := by simp [z97]
theorem ziq {m : Mach} (hm : MOk m) {p : Nat → Nat} {s : Nat} : (sgL m p s).length = 16 := by
  have := hm.i2
  unfold sgL
  rw [List.length_append, z8i, List.length_replicate]; omega
theorem zrk {m : Mach} {p : Nat → Nat} {s i : Nat} (hi : i < m.inputs.toNat) : (z97 m p s).getD i default = (ou m s i, if ed m s i = -1 then -1 else (p (ed m s i).toNat : Int)) := by
  simp [z97, List.getD_eq_getElem?_getD, hi]
structure PR (m : Mach) (p : List Int) (f : Nat → Nat) : Prop where
  len : p.length = m.rows.length
  get : ∀ s, s < m.rows.length → p.getD s default = (f s : Int)
theorem zw9 {m : Mach} (k : Nat) : PR m (pL m k) (pkc m k) := ⟨zil k, fun s hs => zmt hs⟩
theorem zg2 {α : Type} {X : List α} {n k : Nat} {z y : α} (hl : X.length = k) (hk : k < n) : (X ++ List.replicate (n - k) z).set k y = (X ++ [y]) ++ List.replicate (n - (k + 1)) z := zsu hl hk
theorem zta {N : Nat} {m : Mach} (hm : MOk m) (hN : 200 ≤ N) {p : List Int} {f : Nat → Nat} (hp : PR m p f) {s : Nat} (hs : s < m.rows.length) : ∃ X : Arr 16 (Int × Int), z4j N m p (s : Int) = some X ∧ X.1 = sgL m f s := by
  have hi1 := hm.i1; have hi2 := hm.i2; have hr2 := hm.r2
  have hrow := hm.row s hs
  obtain ⟨X, hX, hX1⟩ : ∃ X : Arr 16 (Int × Int), dw N m p (s : Int) N 0 (z7k 16 (List.replicate 16 (((0 : Int), (0 : Int)) : (Int × Int)))) = some X ∧ X.1 = sgL m f s := by
    refine iy (σ := Arr 16 (Int × Int)) (fun F k X => dw N m p (s : Int) F (k : Int) X) m.inputs.toNat (fun k X => X.1 = (z97 m f s).take k ++ List.replicate (16 - k) (0, 0)) _ (fun F k X hk hi => .inr ?_) (fun F X hi => ?_) N 0 _ (Nat.zero_le _) (by omega) (by rw [zav (by simp)]; rfl)
    · have hXl : X.1.length = 16 := X.2
      have htl : ((z97 m f s).take k).length = k := by rw [List.length_take, z8i]; omega
      have hset : ∀ y, X.1.set k y = ((z97 m f s).take k ++ [y]) ++ List.replicate (16 - (k + 1)) (0, 0) := fun y => by rw [hi]; exact zg2 htl (by omega)
      have hnext : (z97 m f s).take (k + 1) = (z97 m f s).take k ++ [(ou m s k, if ed m s k = -1 then -1 else (f (ed m s k).toNat : Int))] := by
        rw [zfz _ k (by rw [z8i]; exact hk), zrk hk]
      have hg : ∀ Y : Arr 16 (Int × Int), Y = (if ed m s k = -1 then z1m X (k : Int) (ou m s k, -1) else z1m (z1m X (k : Int) (ou m s k, -1)) (k : Int) (((ix (z1m X (k : Int) (ou m s k, -1)).1 (k : Int)).1, (ix p (ed m s k))))) →
          dw N m p (s : Int) (F + 1) (k : Int) X = dw N m p (s : Int) F ((k + 1 : Nat) : Int) Y := fun Y hY => by
        simp only [dw]
        rw [vz (show (k : Int) < ((ix m.rows (s : Int)).length : Int) by rw [r9]; omega)]
        refine (qf (x := Y) ?_).trans (by rw [zx (jb (by omega))]; rfl)
        rw [zx (show okI (ix m.rows (s : Int)) (k : Int) from ji (show k < (m.rows.getD s default).length by omega)), zx (ji (show k < X.1.length by omega))]
        show (bif decide (ed m s k ≠ -1) then _ else _) = _
        by_cases hc : ed m s k = -1
        · rw [vv (fun h => h hc), hY, if_pos hc]; rfl
        · have hok := (zc3 hm hs hk).resolve_left hc
          have hl := hp.len
          rw [vz hc, hY, if_neg hc]
          refine (zx (show okI p (ed m s k) from ⟨hok.1, by omega⟩)).trans ?_
          refine (zx (show okI (z1m X (k : Int) (ou m s k, -1)).1 (k : Int) from ji (by rw [(z1m X (k : Int) (ou m s k, -1)).2]; omega))).trans ?_
          rfl
      refine ⟨_, ?_, hg _ rfl⟩
      by_cases hc : ed m s k = -1
      · rw [if_pos hc, hnext, if_pos hc]
        exact hset _
      · have hok := (zc3 hm hs hk).resolve_left hc
        rw [if_neg hc, hnext, if_neg hc]
        have e1 : (z1m X (k : Int) (ou m s k, -1)).1 = X.1.set k (ou m s k, -1) := rfl
        have e2 : (ix (z1m X (k : Int) (ou m s k, -1)).1 (k : Int)).1 = ou m s k := by
          rw [e1, r9]
          simp [List.getD_eq_getElem?_getD, hXl, show k < 16 by omega]
        have e3 : ix p (ed m s k) = (f (ed m s k).toNat : Int) := hp.get _ (by omega)
        rw [e2, e3]
        show ((X.1.set k (ou m s k, -1)).set k (ou m s k, (f (ed m s k).toNat : Int))) = _
        rw [List.set_set]
        exact hset _
    · simp only [dw]
      rw [vv (show ¬ ((m.inputs.toNat : Nat) : Int) < ((ix m.rows (s : Int)).length : Int) by rw [r9]; omega)]
      refine ⟨X, rfl, ?_⟩
      rw [hi, List.take_of_length_le (by rw [z8i]; exact Nat.le_refl _)]; rfl
  refine ⟨X, ?_, hX1⟩
  unfold z4j
  rw [zx (ji hs), qf hX]
/-! ### A round -/
def zbl (m : Mach) (f : Nat → Nat) (s : Nat) : Srefines_key := ⟨(f s : Int), z7k 16 (sgL m f s)⟩
theorem zr5 {m : Mach} (hm : MOk m) {f : Nat → Nat} {s t : Nat} : zbl m f s = zbl m f t ↔ ziv m f s = ziv m f t := by
  unfold zbl ziv
  rw [Srefines_key.mk.injEq, Prod.mk.injEq]
  refine and_congr (by omega) ?_
  constructor
  · intro h
    have h2 := congrArg Subtype.val h
    rw [zav (ziq hm), zav (ziq hm)] at h2
    exact (List.append_inj h2 (by rw [z8i, z8i])).1
  · intro h
    unfold sgL
    rw [h]
theorem zlw {N : Nat} {m : Mach} (hm : MOk m) (hN : 200 ≤ N) {p : List Int} {f : Nat → Nat} (hp : PR m p f) : z1w N m p = some (zoo (ziv m f) m.rows.length) := by
  have hr2 := hm.r2; have hl := hp.len
  have hL : di N m p N 0 ([] : List (Srefines_key × Int)) (mk (p.length : Int) (0 : Int)) = some (zoo (zbl m f) m.rows.length) := by
    refine xh (σ := List (Srefines_key × Int) × List Int) (fun F k st => di N m p F (k : Int) st.1 st.2) m.rows.length
      (fun k st => st.1 = nmM (zbl m f) k ∧ st.2 = (List.range k).map (fun s => (name (zbl m f) s : Int)) ++ List.replicate (m.rows.length - k) 0) _ (fun F k st hk hi => .inr ?_) (fun F st hi => ?_) N 0 ([], mk (p.length : Int) (0 : Int)) (Nat.zero_le _) (by omega) ⟨rfl, by rw [hl, z5a]; simp⟩
    · obtain ⟨M, X⟩ := st
      obtain ⟨hM, hX⟩ := hi
      dsimp only at hM hX ⊢
      subst hM; subst hX
      obtain ⟨A, hA, hA1⟩ := zta (N := N) hm hN hp hk
      have hAk : A = z7k 16 (sgL m f k) := Subtype.ext (by rw [hA1, zav (ziq hm)])
      have hkey : (⟨ix p (k : Int), A⟩ : Srefines_key) = zbl m f k := by unfold zbl; rw [hAk, r9, hp.get k hk]
      have htl : ((List.range k).map (fun s => (name (zbl m f) s : Int))).length = k := by simp
      refine ⟨(nmM (zbl m f) (k + 1), (List.range (k + 1)).map (fun s => (name (zbl m f) s : Int)) ++ List.replicate (m.rows.length - (k + 1)) 0), ⟨rfl, rfl⟩, ?_⟩
      simp only [di]
      rw [vz (by omega), zx (ji (by omega)), qf hA, hkey]
      refine (qf (x := nmM (zbl m f) (k + 1)) ?_).trans ?_
      · cases h : z4e (nmM (zbl m f) k) (zbl m f k)
        · exact (ct (b := !false) rfl).trans (by rw [zs6 _ h])
        · exact (cf (b := !true) rfl).trans (by rw [zt9 _ h])
      · rw [zx (ji (by rw [List.length_append, htl, List.length_replicate]; omega)), zx (jb (by omega)), znn _ _ (Nat.lt_succ_self k), z98, zg2 htl hk, zbm]
        rfl
    · obtain ⟨M, X⟩ := st
      obtain ⟨hM, hX⟩ := hi
      dsimp only at hM hX ⊢
      subst hX
      simp only [di]
      rw [vv (by omega), Nat.sub_self, List.replicate_zero, List.append_nil]; rfl
  unfold z1w
  rw [zx ⟨by omega, by omega, by omega⟩, qf hL, zlt (f := zbl m f) (g := ziv m f) fun s t _ _ => zr5 hm]
theorem zib {N : Nat} {a b : List Int} (hN : a.length < N) (hl : a.length ≤ 4611686018427387904) : slices_Equal_int N a b = some (decide (a = b)) := by
  unfold slices_Equal_int
  by_cases h : (a.length : Int) ≠ b.length
  · rw [vz h, decide_eq_false (fun e => h (by rw [e]))]
  · rw [vv h]
    have hl' : a.length = b.length := by omega
    have hL : pu N a b N 0 = some (if a = b then Ex.go () else Ex.rt false) := by
      refine xh (σ := Unit) (fun F k _ => pu N a b F (k : Int)) a.length (fun k _ => ∀ j, j < k → a.getD j default = b.getD j default) _ (fun F k _ hk hi => ?_) (fun F _ hi => ?_) N 0 () (Nat.zero_le _) (by omega) (fun j hj => by omega)
      · simp only [pu]
        rw [vz (by omega), zx (ji hk), zx (ji (by omega)), r9, r9]
        by_cases he : a.getD k default = b.getD k default
        · right
          refine ⟨(), zl0 hi he, Eq.trans (vv (fun h => h he)) ?_⟩
          rw [zx (jb (by omega))]; rfl
        · left
          refine Eq.trans (vz he) ?_
          rw [if_neg (fun e => he (by rw [e]))]
      · simp only [pu]
        rw [vv (by omega), if_pos (zdd hl' hi)]
    rw [qf hL]
    by_cases he : a = b
    · rw [if_pos he, decide_eq_true he]; rfl
    · rw [if_neg he, decide_eq_false he]; rfl
theorem zee {N : Nat} {m : Mach} (hm : MOk m) (hN : 200 ≤ N) {j0 : Nat} (hst : zep m j0) (hmin : ∀ i, i < j0 → ¬ zep m i) (hj0 : j0 < m.rows.length) : ∀ (d j F : Nat) (l : List Int), j + d = j0 → d < F →
    tq N ((List Int) × Int) (fun y30 x31 => gd (in64 (x31.2 + 1)) <| some (true, (y30, x31.2 + 1))) m F (l, (j : Int) - 1) (pL m j) = some (pL m j0, (j0 : Int))
  | d, j, 0, l, _, hF => by omega
  | d, j, F + 1, l, hj, hF => by
    have hr2 := hm.r2
    have e1 : (j : Int) - 1 + 1 = j := by omega
    simp only [tq]
    rw [zx (jb (by omega)), ziy, e1, ct rfl, qf (zlw hm hN (zw9 j)), ← ztj, qf (zib (by rw [zil]; omega) (by rw [zil]; omega))]
    by_cases h : zep m j
    · have : j = j0 := by
        rcases Nat.lt_or_ge j j0 with h1 | h1
        · exact absurd h (hmin j h1)
        · omega
      subst this
      rw [vz ((zjc j).2 h).symm]
    · have hd : d ≠ 0 := fun e => by
        have : j = j0 := by omega
        rw [this] at h; exact h hst
      rw [vv (fun e => h ((zjc j).1 e.symm))]
      have := zee hm hN hst hmin hj0 (d - 1) (j + 1) F (pL m j) (by omega) (by omega)
      rw [show (((j + 1 : Nat) : Int) - 1) = (j : Int) by omega] at this
      exact this
theorem zm1 {N : Nat} {m : Mach} (hm : MOk m) (hN : 200 ≤ N) : ∃ j : Nat, z1v N m = some (z8c m, (j : Int), 0) := by
  have hr1 := hm.r1; have hr2 := hm.r2
  obtain ⟨j0, h1, h2, h3⟩ := ztf hm
  refine ⟨j0, ?_⟩
  have key := zee (N := N) hm hN h2 h3 h1 j0 0 N [] (by omega) (by omega)
  have e0 : pL m 0 = mk (m.rows.length : Int) (0 : Int) := by
    unfold pL
    rw [z5a]
    show (List.range m.rows.length).map (fun _ => ((0 : Nat) : Int)) = _
    rw [List.map_const', List.length_range]; rfl
  unfold z1v
  rw [qf (ziz hm hN), vv (by simp), qf (show z4r N m = some m from rfl)]
  refine (qf (x := (pL m j0, (j0 : Int))) ?_).trans ?_
  · unfold z2w
    rw [zx ⟨by omega, by omega, by omega⟩, ← e0]
    exact key
  · rw [show z8c m = pL m j0 from zss hm h2 (by omega)]
/-! ### The reference -/
def apB (m : Mach) (k s t i : Nat) : Bool := decide (ou m s i ≠ ou m t i) || (((decide (0 ≤ ed m s i)) && (decide (0 ≤ ed m t i))) && decide (pkc m k (ed m s i).toNat ≠ pkc m k (ed m t i).toNat))
def z4w (m : Mach) (k s : Nat) : List Bool := (List.range m.rows.length).map fun t => decide (pkc m k s ≠ pkc m k t)
def z2p (m : Mach) (k : Nat) : List (List Bool) := (List.range m.rows.length).map (z4w m k)
section ref
variable {N : Nat} {m : Mach}
theorem zak (k : Nat) : (z2p m k).length = m.rows.length := by simp [z2p]
theorem z7z (k s : Nat) : (z4w m k s).length = m.rows.length := by simp [z4w]
theorem zdb {k s : Nat} (hs : s < m.rows.length) : (z2p m k).getD s default = z4w m k s := by simp [z2p, List.getD_eq_getElem?_getD, hs]
theorem zcv {k s t : Nat} (ht : t < m.rows.length) : (z4w m k s).getD t default = decide (pkc m k s ≠ pkc m k t) := by simp [z4w, List.getD_eq_getElem?_getD, ht]
theorem apart_eq (hm : MOk m) (hN : 200 ≤ N) {k s t : Nat} (hs : s < m.rows.length) (ht : t < m.rows.length) : lu N m (z2p m k) (s : Int) (t : Int) = some (if ((List.range m.inputs.toNat).any (apB m k s t)) = true then 1 else 0) := by
  have hi1 := hm.i1; have hi2 := hm.i2
  have hrs := hm.row s hs; have hrt := hm.row t ht
  have hL : ul N m (z2p m k) (s : Int) (t : Int) N 0 = some (if ((List.range m.inputs.toNat).any (apB m k s t)) = true then Ex.rt 1 else Ex.go ()) := by
    refine xh (σ := Unit) (fun F i _ => ul N m (z2p m k) (s : Int) (t : Int) F (i : Int)) m.inputs.toNat (fun i _ => ∀ j, j < i → apB m k s t j = false) _ (fun F i _ hi hq => ?_) (fun F _ hq => ?_) N 0 () (Nat.zero_le _) (by omega) (fun j hj => by omega)
    · have hes := zc3 hm hs hi
      have het := zc3 hm ht hi
      have hbody : (ul N m (z2p m k) (s : Int) (t : Int) (F + 1) (i : Int)) = bif apB m k s t i then some (Ex.rt 1) else ul N m (z2p m k) (s : Int) (t : Int) F ((i + 1 : Nat) : Int) := by
        simp only [ul]
        rw [vz (by omega), zx (ji hs), zx (show okI (ix m.rows (s : Int)) (i : Int) from ji (show i < (m.rows.getD s default).length by omega)), zx (ji ht), zx (show okI (ix m.rows (t : Int)) (i : Int) from ji (show i < (m.rows.getD t default).length by omega))]
        have hg : ∀ {p : Prop}, (0 ≤ ed m s i → 0 ≤ ed m t i → p) → (((true && ((decide (ou m s i ≠ ou m t i)) == false)) && (((decide (0 ≤ ed m s i)) && (decide (0 ≤ ed m t i))) == true)) = true → p) := fun h e => by
          simp only [Bool.and_eq_true, beq_iff_eq, decide_eq_true_eq] at e
          exact h e.2.1 e.2.2
        refine (zx (hg fun h1 h2 => ?_)).trans ?_
        · exact ⟨h1, by show ed m s i < _; rw [zak]; omega⟩
        refine (zx (hg fun h1 h2 => ?_)).trans ?_
        · have e : ix (z2p m k) (ed m s i) = z4w m k (ed m s i).toNat := zdb (by omega)
          show okI (ix (z2p m k) (ed m s i)) (ed m t i)
          rw [e]
          exact ⟨h2, by rw [z7z]; omega⟩
        show (bif (decide (ou m s i ≠ ou m t i)) || (((decide (0 ≤ ed m s i)) && (decide (0 ≤ ed m t i))) && (ix (ix (z2p m k) (ed m s i)) (ed m t i))) then _ else _) = _
        have hb : ((decide (ou m s i ≠ ou m t i)) || (((decide (0 ≤ ed m s i)) && (decide (0 ≤ ed m t i))) && (ix (ix (z2p m k) (ed m s i)) (ed m t i)))) = apB m k s t i := by
          unfold apB
          by_cases h1 : 0 ≤ ed m s i ∧ 0 ≤ ed m t i
          · have e : ix (z2p m k) (ed m s i) = z4w m k (ed m s i).toNat := zdb (by omega)
            have e2 : ix (z4w m k (ed m s i).toNat) (ed m t i) = decide (pkc m k (ed m s i).toNat ≠ pkc m k (ed m t i).toNat) := zcv (by omega)
            rw [e, e2]
          · have : ((decide (0 ≤ ed m s i)) && (decide (0 ≤ ed m t i))) = false := by
              rw [Bool.and_eq_false_iff, decide_eq_false_iff_not, decide_eq_false_iff_not]; omega
            rw [this, Bool.false_and, Bool.false_and]
        rw [hb]
        cases apB m k s t i
        · rw [cf rfl, cf rfl, zx (jb (by omega))]; rfl
        · rw [ct rfl, ct rfl]
      rw [hbody]
      cases hb : apB m k s t i
      · right
        refine ⟨(), fun j hj => ?_, rfl⟩
        by_cases e : j = i
        · rw [e]; exact hb
        · exact hq j (by omega)
      · left
        rw [ct rfl, if_pos (List.any_eq_true.2 ⟨i, List.mem_range.2 hi, hb⟩)]
    · simp only [ul]
      rw [vv (by omega), if_neg]
      rw [Bool.not_eq_true, List.any_eq_false]
      intro j hj
      rw [hq j (List.mem_range.1 hj)]; decide
  unfold lu
  rw [qf hL]
  split <;> rfl
theorem zmj (hm : MOk m) {k s t : Nat} (hs : s < m.rows.length) (ht : t < m.rows.length) : (decide (pkc m k s ≠ pkc m k t) || (List.range m.inputs.toNat).any (apB m k s t)) = decide (pkc m (k + 1) s ≠ pkc m (k + 1) t) := by
  rw [Bool.eq_iff_iff, Bool.or_eq_true, decide_eq_true_eq, decide_eq_true_eq, List.any_eq_true, ne_eq, ne_eq, zqs hm hs ht]
  constructor
  · rintro (h | ⟨i, hi, h⟩) ⟨e1, e2⟩
    · exact h e1
    · have hi' := List.mem_range.1 hi
      obtain ⟨e3, e4⟩ := e2 i hi'
      unfold apB at h
      rw [Bool.or_eq_true, Bool.and_eq_true, Bool.and_eq_true, decide_eq_true_eq, decide_eq_true_eq, decide_eq_true_eq, decide_eq_true_eq] at h
      rcases h with h | ⟨⟨h1, h2⟩, h3⟩
      · exact h e3
      · exact h3 (e4 (by omega) (by omega))
  · intro h
    by_cases e1 : pkc m k s = pkc m k t
    · right
      refine Classical.byContradiction fun hn => h ⟨e1, fun i hi => ?_⟩
      have hno : apB m k s t i ≠ true := fun hb => hn ⟨i, List.mem_range.2 hi, hb⟩
      unfold apB at hno
      rw [ne_eq, Bool.or_eq_true, Bool.and_eq_true, Bool.and_eq_true, decide_eq_true_eq, decide_eq_true_eq, decide_eq_true_eq, decide_eq_true_eq] at hno
      have hes := zc3 hm hs hi
      have het := zc3 hm ht hi
      refine ⟨Classical.byContradiction fun hq => hno (.inl hq), fun h1 h2 => Classical.byContradiction fun hq => hno (.inr ⟨⟨by omega, by omega⟩, hq⟩)⟩
    · exact .inl e1
theorem zq9 : z2p m 0 = List.replicate m.rows.length (List.replicate m.rows.length false) := by
  unfold z2p z4w
  show (List.range m.rows.length).map (fun s => (List.range m.rows.length).map fun t => decide ((0 : Nat) ≠ 0)) = _
  rw [show decide ((0 : Nat) ≠ 0) = false from rfl, List.map_const', List.map_const', List.length_range]
theorem zlv (hm : MOk m) (hN : 200 ≤ N) {k s : Nat} (hs : s < m.rows.length) {Y : List (List Bool)} (hY : Y.length = s) : yg N m (z2p m k) (s : Int) N 0 (Y ++ [mk (m.rows.length : Int) false]) = some (Y ++ [z4w m (k + 1) s]) := by
  have hr2 := hm.r2
  refine xh (σ := List (List Bool)) (fun F t st => yg N m (z2p m k) (s : Int) F (t : Int) st) m.rows.length (fun t st => st = Y ++ [(z4w m (k + 1) s).take t ++ List.replicate (m.rows.length - t) false]) _ (fun F t st ht hi => .inr ?_) (fun F st hi => ?_) N 0 _ (Nat.zero_le _) (by omega) (by rw [z5a]; rfl)
  · subst hi
    have htl : ((z4w m (k + 1) s).take t).length = t := by rw [List.length_take, z7z]; omega
    have hget : (Y ++ [(z4w m (k + 1) s).take t ++ List.replicate (m.rows.length - t) false]).getD s default = (z4w m (k + 1) s).take t ++ List.replicate (m.rows.length - t) false := by
      rw [List.getD_eq_getElem?_getD, ← hY, List.getElem?_concat_length]; rfl
    have hrl : ((z4w m (k + 1) s).take t ++ List.replicate (m.rows.length - t) false).length = m.rows.length := by rw [List.length_append, htl, List.length_replicate]; omega
    refine ⟨_, rfl, ?_⟩
    simp only [yg]
    rw [vz (by omega), zx (ji (by rw [List.length_append, hY]; simp)), zx (ji (by rw [zak]; exact hs))]
    have e1 : ix (z2p m k) (s : Int) = z4w m k s := zdb hs
    have e2 : ix (z4w m k s) (t : Int) = decide (pkc m k s ≠ pkc m k t) := zcv ht
    rw [e1, zx (ji (by rw [z7z]; exact ht)), e2]
    refine (zix (fun _ => apart_eq hm hN hs ht)).trans ?_
    have e3 : ix (Y ++ [(z4w m (k + 1) s).take t ++ List.replicate (m.rows.length - t) false]) (s : Int) = _ := hget
    rw [e3, zx (ji (by rw [hrl]; exact ht)), zx (jb (by omega))]
    have hval : (decide (pkc m k s ≠ pkc m k t) || (decide (((bif (true && (decide (pkc m k s ≠ pkc m k t) == false)) then some (if ((List.range m.inputs.toNat).any (apB m k s t)) = true then (1 : Int) else 0) else none).getD default) = 1))) = decide (pkc m (k + 1) s ≠ pkc m (k + 1) t) := by
      rw [← zmj hm hs ht]
      cases decide (pkc m k s ≠ pkc m k t)
      · cases (List.range m.inputs.toNat).any (apB m k s t) <;> rfl
      · rfl
    rw [hval, z98, z98, zg2 htl ht]
    have hnext : (z4w m (k + 1) s).take (t + 1) = (z4w m (k + 1) s).take t ++ [decide (pkc m (k + 1) s ≠ pkc m (k + 1) t)] := by
      rw [zfz _ t (by rw [z7z]; exact ht), zcv ht]
    rw [hnext]
    have hset : ∀ z, (Y ++ [(z4w m (k + 1) s).take t ++ List.replicate (m.rows.length - t) false]).set s z = Y ++ [z] := fun z => by
      rw [List.set_append_right _ _ (by omega), hY, Nat.sub_self]; rfl
    rw [hset]
    rfl
  · subst hi
    simp only [yg]
    rw [vv (by omega), Nat.sub_self, List.replicate_zero, List.append_nil, List.take_of_length_le (by rw [z7z]; exact Nat.le_refl _)]
theorem znr (hm : MOk m) (hN : 200 ≤ N) {k : Nat} (hk : k ≤ 100) : oq N m (k : Int) = some (z2p m k) := by
  have hr2 := hm.r2
  have h1 : yc N m N ([] : List (List Bool)) 0 = some (z2p m 0) := by
    refine xh (σ := List (List Bool)) (fun F s st => yc N m F st (s : Int)) m.rows.length (fun s st => st = List.replicate s (List.replicate m.rows.length false)) _ (fun F s st hs hi => .inr ?_) (fun F st hi => ?_) N 0 [] (Nat.zero_le _) (by omega) rfl
    · subst hi
      refine ⟨_, rfl, ?_⟩
      simp only [yc]
      rw [vz (by omega), zx ⟨by omega, by omega, by omega⟩, zx ⟨by simp; omega, by simp; omega⟩, zx (jb (by omega)), z5a, List.replicate_succ']; rfl
    · subst hi
      simp only [yc]
      rw [vv (by omega), zq9]
  have h2 : yl N m (k : Int) N (z2p m 0) 0 = some (z2p m k) := by
    refine xh (σ := List (List Bool)) (fun F j st => yl N m (k : Int) F st (j : Int)) k (fun j st => st = z2p m j) _ (fun F j st hj hi => .inr ?_) (fun F st hi => ?_) N 0 _ (Nat.zero_le _) (by omega) rfl
    · subst hi
      refine ⟨_, rfl, ?_⟩
      have h3 : yh N m (z2p m j) N ([] : List (List Bool)) 0 = some (z2p m (j + 1)) := by
        refine xh (σ := List (List Bool)) (fun F s st => yh N m (z2p m j) F st (s : Int)) m.rows.length (fun s st => st = (List.range s).map (z4w m (j + 1))) _ (fun F s st hs hi => .inr ?_) (fun F st hi => ?_) N 0 [] (Nat.zero_le _) (by omega) rfl
        · subst hi
          refine ⟨_, rfl, ?_⟩
          simp only [yh]
          rw [vz (by omega)]
          refine (qf (x := (List.range s).map (z4w m (j + 1)) ++ [z4w m (j + 1) s]) ?_).trans ?_
          · rw [zx ⟨by omega, by omega, by omega⟩, zx ⟨by simp; omega, by simp; omega⟩]
            exact zlv hm hN hs (by simp)
          · rw [zx (jb (by omega)), zbm]; rfl
        · subst hi
          simp only [yh]
          rw [vv (by omega)]; rfl
      simp only [yl]
      rw [vz (by omega), qf h3, zx (jb (by omega))]; rfl
    · subst hi
      simp only [yl]
      rw [vv (by omega)]
  unfold oq
  rw [qf h1, qf h2]
theorem zj7 (hm : MOk m) (hN : 200 ≤ N) (k : Nat) : ny N (z2p m k) = some (pL m k) := by
  have hr2 := hm.r2
  have hname : ∀ s, name (pkc m k) s = pkc m k s := fun s => zc8
  have hin : ∀ s, s < m.rows.length → ∃ v, kz N (z2p m k) ((List.range s).map fun u => (pkc m k u : Int)) (s : Int) N (-1) 0 = some v ∧ ((v = -1 ∧ z2n (pkc m k) s = true) ∨ (v = (pkc m k s : Int) ∧ z2n (pkc m k) s = false)) := fun s hs => by
    refine iy (σ := Int) (fun F t v => kz N (z2p m k) ((List.range s).map fun u => (pkc m k u : Int)) (s : Int) F v (t : Int)) s (fun t v => (v = -1 ∧ ∀ u, u < t → pkc m k u ≠ pkc m k s) ∨ (v = (pkc m k s : Int) ∧ ∃ u, u < t ∧ pkc m k u = pkc m k s)) _ (fun F t v ht hi => .inr ?_) (fun F v hi => ?_) N 0 (-1) (Nat.zero_le _) (by omega) (.inl ⟨rfl, fun u hu => by omega⟩)
    · have e1 : ix (z2p m k) (s : Int) = z4w m k s := zdb hs
      have e2 : ix (z4w m k s) (t : Int) = decide (pkc m k s ≠ pkc m k t) := zcv (by omega)
      have e3 : ix ((List.range s).map fun u => (pkc m k u : Int)) (t : Int) = (pkc m k t : Int) := by rw [r9]; simp [List.getD_eq_getElem?_getD, ht]
      have hg : ∀ y, y = (if pkc m k s = pkc m k t then (pkc m k t : Int) else v) → kz N (z2p m k) ((List.range s).map fun u => (pkc m k u : Int)) (s : Int) (F + 1) v (t : Int) = kz N (z2p m k) ((List.range s).map fun u => (pkc m k u : Int)) (s : Int) F y ((t + 1 : Nat) : Int) := fun y hy => by
        simp only [kz]
        rw [vz (by omega)]
        refine (qf (x := y) ?_).trans (by rw [zx (jb (by omega))]; rfl)
        rw [zx (ji (by rw [zak]; exact hs)), e1, zx (ji (by rw [z7z]; omega)), e2]
        by_cases hc : pkc m k s = pkc m k t
        · rw [decide_eq_false (fun h => h hc)]
          refine (ct (b := !false) rfl).trans ?_
          rw [zx (ji (by simp; omega)), e3, hy, if_pos hc]
        · rw [decide_eq_true hc]
          refine (cf (b := !true) rfl).trans ?_
          rw [hy, if_neg hc]
      refine ⟨_, ?_, hg _ rfl⟩
      by_cases hc : pkc m k s = pkc m k t
      · rw [if_pos hc]; exact .inr ⟨by rw [hc], t, by omega, hc.symm⟩
      · rw [if_neg hc]
        rcases hi with ⟨h1, h2⟩ | ⟨h1, u, hu, h2⟩
        · refine .inl ⟨h1, fun u hu => ?_⟩
          by_cases e : u = t
          · subst e; exact fun h => hc h.symm
          · exact h2 u (by omega)
        · exact .inr ⟨h1, u, by omega, h2⟩
    · simp only [kz]
      rw [vv (by omega)]
      refine ⟨v, rfl, ?_⟩
      rcases hi with ⟨h1, h2⟩ | ⟨h1, u, hu, h2⟩
      · exact .inl ⟨h1, l6.2 h2⟩
      · refine .inr ⟨h1, ?_⟩
        rw [← Bool.not_eq_true, l6]
        exact fun h => h u hu h2
  have hL : uq N (z2p m k) N ([] : List Int) 0 0 = some (pL m k) := by
    refine xh (σ := List Int × Int) (fun F s st => uq N (z2p m k) F st.1 st.2 (s : Int)) m.rows.length (fun s st => st.1 = ((List.range s).map fun u => (pkc m k u : Int)) ∧ st.2 = (cntF (pkc m k) s : Int)) _ (fun F s st hs hi => .inr ?_) (fun F st hi => ?_) N 0 ([], 0) (Nat.zero_le _) (by omega) ⟨rfl, rfl⟩
    · obtain ⟨l, c⟩ := st
      obtain ⟨hl, hc⟩ := hi
      dsimp only at hl hc ⊢
      subst hl; subst hc
      obtain ⟨v, hv, hvc⟩ := hin s hs
      have hle := zet (pkc m k) s
      have hstep : cntF (pkc m k) (s + 1) = cntF (pkc m k) s + if z2n (pkc m k) s = true then 1 else 0 := rfl
      refine ⟨((List.range (s + 1)).map fun u => (pkc m k u : Int), (cntF (pkc m k) (s + 1) : Int)), ⟨rfl, rfl⟩, ?_⟩
      simp only [uq]
      rw [vz (by rw [zak]; omega), qf hv]
      refine (qf (x := ((cntF (pkc m k) (s + 1) : Int), (pkc m k s : Int))) ?_).trans ?_
      · rcases hvc with ⟨rfl, hf⟩ | ⟨rfl, hf⟩
        · rw [hf, if_pos rfl] at hstep
          rw [vz (by decide), zx (jb (by omega)), hstep, ← hname s, zdo hf]; rfl
        · rw [hf, if_neg (by decide)] at hstep
          rw [vv (by omega), hstep]; rfl
      · rw [zx ⟨by simp; omega, by simp; omega⟩, zx (jb (by omega)), zbm]; rfl
    · obtain ⟨l, c⟩ := st
      obtain ⟨hl, hc⟩ := hi
      dsimp only at hl hc ⊢
      subst hl
      simp only [uq]
      rw [vv (by rw [zak]; omega)]; rfl
  unfold ny
  rw [qf hL]
theorem zkc (hm : MOk m) (hN : 200 ≤ N) : sw N m = some (z8c m) := by
  have hr2 := hm.r2
  unfold sw z0u
  rw [qf (show (bd (oq N m (m.rows.length : Int)) fun y7 => bd (ny N y7) fun y13 => some y13) = some (z8c m) from by rw [qf (znr hm hN (by omega)), qf (zj7 hm hN _)]; rfl)]
end ref
end GV
end Go.Proofs.Ytplgbkaollfmkaa
