import Derived.Test.YtkcccdcloealfaaGreatQuo09
set_option linter.unusedVariables false
set_option linter.unusedSimpArgs false
namespace Go.Proofs.YtkcccdcloealfaaGreat
namespace GV
set_option maxRecDepth 100000
/-! ### Signatures -/
def sgL (m : Mach) (p : Nat → Nat) (s : Nat) : List (Int × Int) := zcc m p s ++ List.replicate (16 - m.inputs.toNat) (0, 0)
theorem zb4 {m : Mach} {p : Nat → Nat} {s : Nat} : (zcc m p s).length = m.inputs.toNat := by simp [zcc]
theorem znt {m : Mach} (hm : MOk m) {p : Nat → Nat} {s : Nat} : (sgL m p s).length = 16 := by
  have := hm.i2
  unfold sgL
  rw [List.length_append, zb4, List.length_replicate]; omega
theorem zx3 {m : Mach} {p : Nat → Nat} {s i : Nat} (hi : i < m.inputs.toNat) : (zcc m p s).getD i default = (ou m s i, if ed m s i = -1 then -1 else (p (ed m s i).toNat : Int)) := by
  simp [zcc, List.getD_eq_getElem?_getD, hi]
structure PR (m : Mach) (p : List Int) (f : Nat → Nat) : Prop where
  len : p.length = m.rows.length
  get : ∀ s, s < m.rows.length → p.getD s default = (f s : Int)
theorem q3i {m : Mach} (k : Nat) : PR m (pL m k) (pkc m k) := ⟨zn2 k, fun s hs => zrq hs⟩
theorem zfq {α : Type} {X : List α} {n k : Nat} {z y : α} (hl : X.length = k) (hk : k < n) : (X ++ List.replicate (n - k) z).set k y = (X ++ [y]) ++ List.replicate (n - (k + 1)) z := zmb hl hk
theorem zzl {N : Nat} {m : Mach} (hm : MOk m) (hN : 200 ≤ N) {p : List Int} {f : Nat → Nat} (hp : PR m p f) {s : Nat} (hs : s < m.rows.length) : ∃ X : Arr 16 (Int × Int), z6k N m p (s : Int) = some X ∧ X.1 = sgL m f s := by
  have hi1 := hm.i1; have hi2 := hm.i2; have hr2 := hm.r2
  have hrow := hm.row s hs
  obtain ⟨X, hX, hX1⟩ : ∃ X : Arr 16 (Int × Int), ak N m p (s : Int) N 0 (zar 16 (List.replicate 16 (((0 : Int), (0 : Int)) : (Int × Int)))) = some X ∧ X.1 = sgL m f s := by
    refine z2o (σ := Arr 16 (Int × Int)) (fun F k X => ak N m p (s : Int) F (k : Int) X) m.inputs.toNat (fun k X => X.1 = (zcc m f s).take k ++ List.replicate (16 - k) (0, 0)) _ (fun F k X hk hi => .inr ?_) (fun F X hi => ?_) N 0 _ (Nat.zero_le _) (by omega) (by rw [ze2 (by simp)]; rfl)
    · have hXl : X.1.length = 16 := X.2
      have htl : ((zcc m f s).take k).length = k := by rw [List.length_take, zb4]; omega
      have hset : ∀ y, X.1.set k y = ((zcc m f s).take k ++ [y]) ++ List.replicate (16 - (k + 1)) (0, 0) := fun y => by rw [hi]; exact zfq htl (by omega)
      have hnext : (zcc m f s).take (k + 1) = (zcc m f s).take k ++ [(ou m s k, if ed m s k = -1 then -1 else (f (ed m s k).toNat : Int))] := by
        rw [z5t _ k (by rw [zb4]; exact hk), zx3 hk]
      have hg : ∀ Y : Arr 16 (Int × Int), Y = (if ed m s k = -1 then z3u X (k : Int) (ou m s k, -1) else z3u (z3u X (k : Int) (ou m s k, -1)) (k : Int) (((ix (z3u X (k : Int) (ou m s k, -1)).1 (k : Int)).1, (ix p (ed m s k))))) →
          ak N m p (s : Int) (F + 1) (k : Int) X = ak N m p (s : Int) F ((k + 1 : Nat) : Int) Y := fun Y hY => by
        simp only [ak]
        rw [wu (show (k : Int) < ((ix m.rows (s : Int)).length : Int) by rw [r9]; omega)]
        refine (zy (x := Y) ?_).trans (by rw [zq (qy (by omega))]; rfl)
        rw [zq (show okI (ix m.rows (s : Int)) (k : Int) from qo (show k < (m.rows.getD s default).length by omega)), zq (qo (show k < X.1.length by omega))]
        show (bif decide (ed m s k ≠ -1) then _ else _) = _
        by_cases hc : ed m s k = -1
        · rw [uo (fun h => h hc), hY, if_pos hc]; rfl
        · have hok := (z4h hm hs hk).resolve_left hc
          have hl := hp.len
          rw [wu hc, hY, if_neg hc]
          refine (zq (show okI p (ed m s k) from ⟨hok.1, by omega⟩)).trans ?_
          refine (zq (show okI (z3u X (k : Int) (ou m s k, -1)).1 (k : Int) from qo (by rw [(z3u X (k : Int) (ou m s k, -1)).2]; omega))).trans ?_
          rfl
      refine ⟨_, ?_, hg _ rfl⟩
      by_cases hc : ed m s k = -1
      · rw [if_pos hc, hnext, if_pos hc]
        exact hset _
      · have hok := (z4h hm hs hk).resolve_left hc
        rw [if_neg hc, hnext, if_neg hc]
        have e1 : (z3u X (k : Int) (ou m s k, -1)).1 = X.1.set k (ou m s k, -1) := rfl
        have e2 : (ix (z3u X (k : Int) (ou m s k, -1)).1 (k : Int)).1 = ou m s k := by
          rw [e1, r9]
          simp [List.getD_eq_getElem?_getD, hXl, show k < 16 by omega]
        have e3 : ix p (ed m s k) = (f (ed m s k).toNat : Int) := hp.get _ (by omega)
        rw [e2, e3]
        show ((X.1.set k (ou m s k, -1)).set k (ou m s k, (f (ed m s k).toNat : Int))) = _
        rw [List.set_set]
        exact hset _
    · simp only [ak]
      rw [uo (show ¬ ((m.inputs.toNat : Nat) : Int) < ((ix m.rows (s : Int)).length : Int) by rw [r9]; omega)]
      refine ⟨X, rfl, ?_⟩
      rw [hi, List.take_of_length_le (by rw [zb4]; exact Nat.le_refl _)]; rfl
  refine ⟨X, ?_, hX1⟩
  unfold z6k
  rw [zq (qo hs), zy hX]
/-! ### A round -/
def zfg (m : Mach) (f : Nat → Nat) (s : Nat) : Srefines_key := ⟨(f s : Int), zar 16 (sgL m f s)⟩
theorem zxt {m : Mach} (hm : MOk m) {f : Nat → Nat} {s t : Nat} : zfg m f s = zfg m f t ↔ znj m f s = znj m f t := by
  unfold zfg znj
  rw [Srefines_key.mk.injEq, Prod.mk.injEq]
  refine and_congr (by omega) ?_
  constructor
  · intro h
    have h2 := congrArg Subtype.val h
    rw [ze2 (znt hm), ze2 (znt hm)] at h2
    exact (List.append_inj h2 (by rw [zb4, zb4])).1
  · intro h
    unfold sgL
    rw [h]
theorem zqy {N : Nat} {m : Mach} (hm : MOk m) (hN : 200 ≤ N) {p : List Int} {f : Nat → Nat} (hp : PR m p f) : z4b N m p = some (ztr (znj m f) m.rows.length) := by
  have hr2 := hm.r2; have hl := hp.len
  have hL : ah N m p N 0 ([] : List (Srefines_key × Int)) (mk (p.length : Int) (0 : Int)) = some (ztr (zfg m f) m.rows.length) := by
    refine ui (σ := List (Srefines_key × Int) × List Int) (fun F k st => ah N m p F (k : Int) st.1 st.2) m.rows.length
      (fun k st => st.1 = nmM (zfg m f) k ∧ st.2 = (List.range k).map (fun s => (name (zfg m f) s : Int)) ++ List.replicate (m.rows.length - k) 0) _ (fun F k st hk hi => .inr ?_) (fun F st hi => ?_) N 0 ([], mk (p.length : Int) (0 : Int)) (Nat.zero_le _) (by omega) ⟨rfl, by rw [hl, z7n]; simp⟩
    · obtain ⟨M, X⟩ := st
      obtain ⟨hM, hX⟩ := hi
      dsimp only at hM hX ⊢
      subst hM; subst hX
      obtain ⟨A, hA, hA1⟩ := zzl (N := N) hm hN hp hk
      have hAk : A = zar 16 (sgL m f k) := Subtype.ext (by rw [hA1, ze2 (znt hm)])
      have hkey : (⟨ix p (k : Int), A⟩ : Srefines_key) = zfg m f k := by unfold zfg; rw [hAk, r9, hp.get k hk]
      have htl : ((List.range k).map (fun s => (name (zfg m f) s : Int))).length = k := by simp
      refine ⟨(nmM (zfg m f) (k + 1), (List.range (k + 1)).map (fun s => (name (zfg m f) s : Int)) ++ List.replicate (m.rows.length - (k + 1)) 0), ⟨rfl, rfl⟩, ?_⟩
      simp only [ah]
      rw [wu (by omega), zq (qo (by omega)), zy hA, hkey]
      refine (zy (x := nmM (zfg m f) (k + 1)) ?_).trans ?_
      · cases h : z4z (nmM (zfg m f) k) (zfg m f k)
        · exact (ct (b := !false) rfl).trans (by rw [zrw _ h])
        · exact (cf (b := !true) rfl).trans (by rw [zrx _ h])
      · rw [zq (qo (by rw [List.length_append, htl, List.length_replicate]; omega)), zq (qy (by omega)), zn1 _ _ (Nat.lt_succ_self k), z5u, zfq htl hk, z3y]
        rfl
    · obtain ⟨M, X⟩ := st
      obtain ⟨hM, hX⟩ := hi
      dsimp only at hM hX ⊢
      subst hX
      simp only [ah]
      rw [uo (by omega), Nat.sub_self, List.replicate_zero, List.append_nil]; rfl
  unfold z4b
  rw [zq ⟨by omega, by omega, by omega⟩, zy hL, zqs (f := zfg m f) (g := znj m f) fun s t _ _ => zxt hm]
theorem zuf {N : Nat} {a b : List Int} (hN : a.length < N) (hl : a.length ≤ 4611686018427387904) : slices_Equal_int N a b = some (decide (a = b)) := by
  unfold slices_Equal_int
  by_cases h : (a.length : Int) ≠ b.length
  · rw [wu h, decide_eq_false (fun e => h (by rw [e]))]
  · rw [uo h]
    have hl' : a.length = b.length := by omega
    have hL : o6 N a b N 0 = some (if a = b then Ex.go () else Ex.rt false) := by
      refine ui (σ := Unit) (fun F k _ => o6 N a b F (k : Int)) a.length (fun k _ => ∀ j, j < k → a.getD j default = b.getD j default) _ (fun F k _ hk hi => ?_) (fun F _ hi => ?_) N 0 () (Nat.zero_le _) (by omega) (fun j hj => by omega)
      · simp only [o6]
        rw [wu (by omega), zq (qo hk), zq (qo (by omega)), r9, r9]
        by_cases he : a.getD k default = b.getD k default
        · right
          refine ⟨(), zbe hi he, Eq.trans (uo (fun h => h he)) ?_⟩
          rw [zq (qy (by omega))]; rfl
        · left
          refine Eq.trans (wu he) ?_
          rw [if_neg (fun e => he (by rw [e]))]
      · simp only [o6]
        rw [uo (by omega), if_pos (l6 hl' hi)]
    rw [zy hL]
    by_cases he : a = b
    · rw [if_pos he, decide_eq_true he]; rfl
    · rw [if_neg he, decide_eq_false he]; rfl
theorem zhi {N : Nat} {m : Mach} (hm : MOk m) (hN : 200 ≤ N) {j0 : Nat} (hst : zh0 m j0) (hmin : ∀ i, i < j0 → ¬ zh0 m i) (hj0 : j0 < m.rows.length) : ∀ (d j F : Nat) (l : List Int), j + d = j0 → d < F →
    ll N ((List Int) × Int) (fun y30 x31 => gd (in64 (x31.2 + 1)) <| some (true, (y30, x31.2 + 1))) m F (l, (j : Int) - 1) (pL m j) = some (pL m j0, (j0 : Int))
  | d, j, 0, l, _, hF => by omega
  | d, j, F + 1, l, hj, hF => by
    have hr2 := hm.r2
    have e1 : (j : Int) - 1 + 1 = j := by omega
    simp only [ll]
    rw [zq (qy (by omega)), zkn, e1, ct rfl, zy (zqy hm hN (q3i j)), ← zyy, zy (zuf (by rw [zn2]; omega) (by rw [zn2]; omega))]
    by_cases h : zh0 m j
    · have : j = j0 := by
        rcases Nat.lt_or_ge j j0 with h1 | h1
        · exact absurd h (hmin j h1)
        · omega
      subst this
      rw [wu ((zpd j).2 h).symm]
    · have hd : d ≠ 0 := fun e => by
        have : j = j0 := by omega
        rw [this] at h; exact h hst
      rw [uo (fun e => h ((zpd j).1 e.symm))]
      have := zhi hm hN hst hmin hj0 (d - 1) (j + 1) F (pL m j) (by omega) (by omega)
      rw [show (((j + 1 : Nat) : Int) - 1) = (j : Int) by omega] at this
      exact this
theorem zit {N : Nat} {m : Mach} (hm : MOk m) (hN : 200 ≤ N) : ∃ j : Nat, z0p N m = some (z0o m, (j : Int), 0) := by
  have hr1 := hm.r1; have hr2 := hm.r2
  obtain ⟨j0, h1, h2, h3⟩ := zt1 hm
  refine ⟨j0, ?_⟩
  have key := zhi (N := N) hm hN h2 h3 h1 j0 0 N [] (by omega) (by omega)
  have e0 : pL m 0 = mk (m.rows.length : Int) (0 : Int) := by
    unfold pL
    rw [z7n]
    show (List.range m.rows.length).map (fun _ => ((0 : Nat) : Int)) = _
    rw [List.map_const', List.length_range]; rfl
  unfold z0p
  rw [zy (zb0 hm hN), uo (by simp), zy (show z6u N m = some m from rfl)]
  refine (zy (x := (pL m j0, (j0 : Int))) ?_).trans ?_
  · unfold z4t
    rw [zq ⟨by omega, by omega, by omega⟩, ← e0]
    exact key
  · rw [show z0o m = pL m j0 from zyt hm h2 (by omega)]
/-! ### The reference -/
def apB (m : Mach) (k s t i : Nat) : Bool := decide (ou m s i ≠ ou m t i) || (((decide (0 ≤ ed m s i)) && (decide (0 ≤ ed m t i))) && decide (pkc m k (ed m s i).toNat ≠ pkc m k (ed m t i).toNat))
def z7h (m : Mach) (k s : Nat) : List Bool := (List.range m.rows.length).map fun t => decide (pkc m k s ≠ pkc m k t)
def z4o (m : Mach) (k : Nat) : List (List Bool) := (List.range m.rows.length).map (z7h m k)
section ref
variable {N : Nat} {m : Mach}
theorem zd3 (k : Nat) : (z4o m k).length = m.rows.length := by simp [z4o]
theorem zbd (k s : Nat) : (z7h m k s).length = m.rows.length := by simp [z7h]
theorem zfy {k s : Nat} (hs : s < m.rows.length) : (z4o m k).getD s default = z7h m k s := by simp [z4o, List.getD_eq_getElem?_getD, hs]
theorem zfj {k s t : Nat} (ht : t < m.rows.length) : (z7h m k s).getD t default = decide (pkc m k s ≠ pkc m k t) := by simp [z7h, List.getD_eq_getElem?_getD, ht]
theorem apart_eq (hm : MOk m) (hN : 200 ≤ N) {k s t : Nat} (hs : s < m.rows.length) (ht : t < m.rows.length) : z1v N m (z4o m k) (s : Int) (t : Int) = some (if ((List.range m.inputs.toNat).any (apB m k s t)) = true then 1 else 0) := by
  have hi1 := hm.i1; have hi2 := hm.i2
  have hrs := hm.row s hs; have hrt := hm.row t ht
  have hL : wz N m (z4o m k) (s : Int) (t : Int) N 0 = some (if ((List.range m.inputs.toNat).any (apB m k s t)) = true then Ex.rt 1 else Ex.go ()) := by
    refine ui (σ := Unit) (fun F i _ => wz N m (z4o m k) (s : Int) (t : Int) F (i : Int)) m.inputs.toNat (fun i _ => ∀ j, j < i → apB m k s t j = false) _ (fun F i _ hi hq => ?_) (fun F _ hq => ?_) N 0 () (Nat.zero_le _) (by omega) (fun j hj => by omega)
    · have hes := z4h hm hs hi
      have het := z4h hm ht hi
      have hbody : (wz N m (z4o m k) (s : Int) (t : Int) (F + 1) (i : Int)) = bif apB m k s t i then some (Ex.rt 1) else wz N m (z4o m k) (s : Int) (t : Int) F ((i + 1 : Nat) : Int) := by
        simp only [wz]
        rw [wu (by omega), zq (qo hs), zq (show okI (ix m.rows (s : Int)) (i : Int) from qo (show i < (m.rows.getD s default).length by omega)), zq (qo ht), zq (show okI (ix m.rows (t : Int)) (i : Int) from qo (show i < (m.rows.getD t default).length by omega))]
        have hg : ∀ {p : Prop}, (0 ≤ ed m s i → 0 ≤ ed m t i → p) → (((true && ((decide (ou m s i ≠ ou m t i)) == false)) && (((decide (0 ≤ ed m s i)) && (decide (0 ≤ ed m t i))) == true)) = true → p) := fun h e => by
          simp only [Bool.and_eq_true, beq_iff_eq, decide_eq_true_eq] at e
          exact h e.2.1 e.2.2
        refine (zq (hg fun h1 h2 => ?_)).trans ?_
        · exact ⟨h1, by show ed m s i < _; rw [zd3]; omega⟩
        refine (zq (hg fun h1 h2 => ?_)).trans ?_
        · have e : ix (z4o m k) (ed m s i) = z7h m k (ed m s i).toNat := zfy (by omega)
          show okI (ix (z4o m k) (ed m s i)) (ed m t i)
          rw [e]
          exact ⟨h2, by rw [zbd]; omega⟩
        show (bif (decide (ou m s i ≠ ou m t i)) || (((decide (0 ≤ ed m s i)) && (decide (0 ≤ ed m t i))) && (ix (ix (z4o m k) (ed m s i)) (ed m t i))) then _ else _) = _
        have hb : ((decide (ou m s i ≠ ou m t i)) || (((decide (0 ≤ ed m s i)) && (decide (0 ≤ ed m t i))) && (ix (ix (z4o m k) (ed m s i)) (ed m t i)))) = apB m k s t i := by
          unfold apB
          by_cases h1 : 0 ≤ ed m s i ∧ 0 ≤ ed m t i
          · have e : ix (z4o m k) (ed m s i) = z7h m k (ed m s i).toNat := zfy (by omega)
            have e2 : ix (z7h m k (ed m s i).toNat) (ed m t i) = decide (pkc m k (ed m s i).toNat ≠ pkc m k (ed m t i).toNat) := zfj (by omega)
            rw [e, e2]
          · have : ((decide (0 ≤ ed m s i)) && (decide (0 ≤ ed m t i))) = false := by
              rw [Bool.and_eq_false_iff, decide_eq_false_iff_not, decide_eq_false_iff_not]; omega
            rw [this, Bool.false_and, Bool.false_and]
        rw [hb]
        cases apB m k s t i
        · rw [cf rfl, cf rfl, zq (qy (by omega))]; rfl
        · rw [ct rfl, ct rfl]
      rw [hbody]
      cases hb : apB m k s t i
      · right
        refine ⟨(), fun j hj => ?_, rfl⟩
        by_cases e : j = i
        · rw [e]; exact hb
        · exact hq j (by omega)
      · left
        rw [ct rfl, if_pos (List.any_eq_true.2 ⟨i, List.mem_range.2 hi, hb⟩)]
    · simp only [wz]
      rw [uo (by omega), if_neg]
      rw [Bool.not_eq_true, List.any_eq_false]
      intro j hj
      rw [hq j (List.mem_range.1 hj)]; decide
  unfold z1v
  rw [zy hL]
  split <;> rfl
theorem zr6 (hm : MOk m) {k s t : Nat} (hs : s < m.rows.length) (ht : t < m.rows.length) : (decide (pkc m k s ≠ pkc m k t) || (List.range m.inputs.toNat).any (apB m k s t)) = decide (pkc m (k + 1) s ≠ pkc m (k + 1) t) := by
  rw [Bool.eq_iff_iff, Bool.or_eq_true, decide_eq_true_eq, decide_eq_true_eq, List.any_eq_true, ne_eq, ne_eq, zjx hm hs ht]
  constructor
  · rintro (h | ⟨i, hi, h⟩) ⟨e1, e2⟩
    · exact h e1
    · have hi' := List.mem_range.1 hi
      obtain ⟨e3, e4⟩ := e2 i hi'
      unfold apB at h
      rw [Bool.or_eq_true, Bool.and_eq_true, Bool.and_eq_true, decide_eq_true_eq, decide_eq_true_eq, decide_eq_true_eq, decide_eq_true_eq] at h
      rcases h with h | ⟨⟨h1, h2⟩, h3⟩
      · exact h e3
      · exact h3 (e4 (by omega) (by omega))
  · intro h
    by_cases e1 : pkc m k s = pkc m k t
    · right
      refine Classical.byContradiction fun hn => h ⟨e1, fun i hi => ?_⟩
      have hno : apB m k s t i ≠ true := fun hb => hn ⟨i, List.mem_range.2 hi, hb⟩
      unfold apB at hno
      rw [ne_eq, Bool.or_eq_true, Bool.and_eq_true, Bool.and_eq_true, decide_eq_true_eq, decide_eq_true_eq, decide_eq_true_eq, decide_eq_true_eq] at hno
      have hes := z4h hm hs hi
      have het := z4h hm ht hi
      refine ⟨Classical.byContradiction fun hq => hno (.inl hq), fun h1 h2 => Classical.byContradiction fun hq => hno (.inr ⟨⟨by omega, by omega⟩, hq⟩)⟩
    · exact .inl e1
theorem zvo : z4o m 0 = List.replicate m.rows.length (List.replicate m.rows.length false) := by
  unfold z4o z7h
  show (List.range m.rows.length).map (fun s => (List.range m.rows.length).map fun t => decide ((0 : Nat) ≠ 0)) = _
  rw [show decide ((0 : Nat) ≠ 0) = false from rfl, List.map_const', List.map_const', List.length_range]
theorem zrb (hm : MOk m) (hN : 200 ≤ N) {k s : Nat} (hs : s < m.rows.length) {Y : List (List Bool)} (hY : Y.length = s) : xy N m (z4o m k) (s : Int) N 0 (Y ++ [mk (m.rows.length : Int) false]) = some (Y ++ [z7h m (k + 1) s]) := by
  have hr2 := hm.r2
  refine ui (σ := List (List Bool)) (fun F t st => xy N m (z4o m k) (s : Int) F (t : Int) st) m.rows.length (fun t st => st = Y ++ [(z7h m (k + 1) s).take t ++ List.replicate (m.rows.length - t) false]) _ (fun F t st ht hi => .inr ?_) (fun F st hi => ?_) N 0 _ (Nat.zero_le _) (by omega) (by rw [z7n]; rfl)
  · subst hi
    have htl : ((z7h m (k + 1) s).take t).length = t := by rw [List.length_take, zbd]; omega
    have hget : (Y ++ [(z7h m (k + 1) s).take t ++ List.replicate (m.rows.length - t) false]).getD s default = (z7h m (k + 1) s).take t ++ List.replicate (m.rows.length - t) false := by
      rw [List.getD_eq_getElem?_getD, ← hY, List.getElem?_concat_length]; rfl
    have hrl : ((z7h m (k + 1) s).take t ++ List.replicate (m.rows.length - t) false).length = m.rows.length := by rw [List.length_append, htl, List.length_replicate]; omega
    refine ⟨_, rfl, ?_⟩
    simp only [xy]
    rw [wu (by omega), zq (qo (by rw [List.length_append, hY]; simp)), zq (qo (by rw [zd3]; exact hs))]
    have e1 : ix (z4o m k) (s : Int) = z7h m k s := zfy hs
    have e2 : ix (z7h m k s) (t : Int) = decide (pkc m k s ≠ pkc m k t) := zfj ht
    rw [e1, zq (qo (by rw [zbd]; exact ht)), e2]
    refine (zb1 (fun _ => apart_eq hm hN hs ht)).trans ?_
    have e3 : ix (Y ++ [(z7h m (k + 1) s).take t ++ List.replicate (m.rows.length - t) false]) (s : Int) = _ := hget
    rw [e3, zq (qo (by rw [hrl]; exact ht)), zq (qy (by omega))]
    have hval : (decide (pkc m k s ≠ pkc m k t) || (decide (((bif (true && (decide (pkc m k s ≠ pkc m k t) == false)) then some (if ((List.range m.inputs.toNat).any (apB m k s t)) = true then (1 : Int) else 0) else none).getD default) = 1))) = decide (pkc m (k + 1) s ≠ pkc m (k + 1) t) := by
      rw [← zr6 hm hs ht]
      cases decide (pkc m k s ≠ pkc m k t)
      · cases (List.range m.inputs.toNat).any (apB m k s t) <;> rfl
      · rfl
    rw [hval, z5u, z5u, zfq htl ht]
    have hnext : (z7h m (k + 1) s).take (t + 1) = (z7h m (k + 1) s).take t ++ [decide (pkc m (k + 1) s ≠ pkc m (k + 1) t)] := by
      rw [z5t _ t (by rw [zbd]; exact ht), zfj ht]
    rw [hnext]
    have hset : ∀ z, (Y ++ [(z7h m (k + 1) s).take t ++ List.replicate (m.rows.length - t) false]).set s z = Y ++ [z] := fun z => by
      rw [List.set_append_right _ _ (by omega), hY, Nat.sub_self]; rfl
    rw [hset]
    rfl
  · subst hi
    simp only [xy]
    rw [uo (by omega), Nat.sub_self, List.replicate_zero, List.append_nil, List.take_of_length_le (by rw [zbd]; exact Nat.le_refl _)]
theorem zvf (hm : MOk m) (hN : 200 ≤ N) {k : Nat} (hk : k ≤ 100) : z07 N m (k : Int) = some (z4o m k) := by
  have hr2 := hm.r2
  have h1 : gm N m N ([] : List (List Bool)) 0 = some (z4o m 0) := by
    refine ui (σ := List (List Bool)) (fun F s st => gm N m F st (s : Int)) m.rows.length (fun s st => st = List.replicate s (List.replicate m.rows.length false)) _ (fun F s st hs hi => .inr ?_) (fun F st hi => ?_) N 0 [] (Nat.zero_le _) (by omega) rfl
    · subst hi
      refine ⟨_, rfl, ?_⟩
      simp only [gm]
      rw [wu (by omega), zq ⟨by omega, by omega, by omega⟩, zq ⟨by simp; omega, by simp; omega⟩, zq (qy (by omega)), z7n, List.replicate_succ']; rfl
    · subst hi
      simp only [gm]
      rw [uo (by omega), zvo]
  have h2 : xx N m (k : Int) N (z4o m 0) 0 = some (z4o m k) := by
    refine ui (σ := List (List Bool)) (fun F j st => xx N m (k : Int) F st (j : Int)) k (fun j st => st = z4o m j) _ (fun F j st hj hi => .inr ?_) (fun F st hi => ?_) N 0 _ (Nat.zero_le _) (by omega) rfl
    · subst hi
      refine ⟨_, rfl, ?_⟩
      have h3 : gp N m (z4o m j) N ([] : List (List Bool)) 0 = some (z4o m (j + 1)) := by
        refine ui (σ := List (List Bool)) (fun F s st => gp N m (z4o m j) F st (s : Int)) m.rows.length (fun s st => st = (List.range s).map (z7h m (j + 1))) _ (fun F s st hs hi => .inr ?_) (fun F st hi => ?_) N 0 [] (Nat.zero_le _) (by omega) rfl
        · subst hi
          refine ⟨_, rfl, ?_⟩
          simp only [gp]
          rw [wu (by omega)]
          refine (zy (x := (List.range s).map (z7h m (j + 1)) ++ [z7h m (j + 1) s]) ?_).trans ?_
          · rw [zq ⟨by omega, by omega, by omega⟩, zq ⟨by simp; omega, by simp; omega⟩]
            exact zrb hm hN hs (by simp)
          · rw [zq (qy (by omega)), z3y]; rfl
        · subst hi
          simp only [gp]
          rw [uo (by omega)]; rfl
      simp only [xx]
      rw [wu (by omega), zy h3, zq (qy (by omega))]; rfl
    · subst hi
      simp only [xx]
      rw [uo (by omega)]
  unfold z07
  rw [zy h1, zy h2]
theorem zn9 (hm : MOk m) (hN : 200 ≤ N) (k : Nat) : sj N (z4o m k) = some (pL m k) := by
  have hr2 := hm.r2
  have hname : ∀ s, name (pkc m k) s = pkc m k s := fun s => zfo
  have hin : ∀ s, s < m.rows.length → ∃ v, uj N (z4o m k) ((List.range s).map fun u => (pkc m k u : Int)) (s : Int) N (-1) 0 = some v ∧ ((v = -1 ∧ z1a (pkc m k) s = true) ∨ (v = (pkc m k s : Int) ∧ z1a (pkc m k) s = false)) := fun s hs => by
    refine z2o (σ := Int) (fun F t v => uj N (z4o m k) ((List.range s).map fun u => (pkc m k u : Int)) (s : Int) F v (t : Int)) s (fun t v => (v = -1 ∧ ∀ u, u < t → pkc m k u ≠ pkc m k s) ∨ (v = (pkc m k s : Int) ∧ ∃ u, u < t ∧ pkc m k u = pkc m k s)) _ (fun F t v ht hi => .inr ?_) (fun F v hi => ?_) N 0 (-1) (Nat.zero_le _) (by omega) (.inl ⟨rfl, fun u hu => by omega⟩)
    · have e1 : ix (z4o m k) (s : Int) = z7h m k s := zfy hs
      have e2 : ix (z7h m k s) (t : Int) = decide (pkc m k s ≠ pkc m k t) := zfj (by omega)
      have e3 : ix ((List.range s).map fun u => (pkc m k u : Int)) (t : Int) = (pkc m k t : Int) := by rw [r9]; simp [List.getD_eq_getElem?_getD, ht]
      have hg : ∀ y, y = (if pkc m k s = pkc m k t then (pkc m k t : Int) else v) → uj N (z4o m k) ((List.range s).map fun u => (pkc m k u : Int)) (s : Int) (F + 1) v (t : Int) = uj N (z4o m k) ((List.range s).map fun u => (pkc m k u : Int)) (s : Int) F y ((t + 1 : Nat) : Int) := fun y hy => by
        simp only [uj]
        rw [wu (by omega)]
        refine (zy (x := y) ?_).trans (by rw [zq (qy (by omega))]; rfl)
        rw [zq (qo (by rw [zd3]; exact hs)), e1, zq (qo (by rw [zbd]; omega)), e2]
        by_cases hc : pkc m k s = pkc m k t
        · rw [decide_eq_false (fun h => h hc)]
          refine (ct (b := !false) rfl).trans ?_
          rw [zq (qo (by simp; omega)), e3, hy, if_pos hc]
        · rw [decide_eq_true hc]
          refine (cf (b := !true) rfl).trans ?_
          rw [hy, if_neg hc]
      refine ⟨_, ?_, hg _ rfl⟩
      by_cases hc : pkc m k s = pkc m k t
      · rw [if_pos hc]; exact .inr ⟨by rw [hc], t, by omega, hc.symm⟩
      · rw [if_neg hc]
        rcases hi with ⟨h1, h2⟩ | ⟨h1, u, hu, h2⟩
        · refine .inl ⟨h1, fun u hu => ?_⟩
          by_cases e : u = t
          · subst e; exact fun h => hc h.symm
          · exact h2 u (by omega)
        · exact .inr ⟨h1, u, by omega, h2⟩
    · simp only [uj]
      rw [uo (by omega)]
      refine ⟨v, rfl, ?_⟩
      rcases hi with ⟨h1, h2⟩ | ⟨h1, u, hu, h2⟩
      · exact .inl ⟨h1, av.2 h2⟩
      · refine .inr ⟨h1, ?_⟩
        rw [← Bool.not_eq_true, av]
        exact fun h => h u hu h2
  have hL : wy N (z4o m k) N ([] : List Int) 0 0 = some (pL m k) := by
    refine ui (σ := List Int × Int) (fun F s st => wy N (z4o m k) F st.1 st.2 (s : Int)) m.rows.length (fun s st => st.1 = ((List.range s).map fun u => (pkc m k u : Int)) ∧ st.2 = (cntF (pkc m k) s : Int)) _ (fun F s st hs hi => .inr ?_) (fun F st hi => ?_) N 0 ([], 0) (Nat.zero_le _) (by omega) ⟨rfl, rfl⟩
    · obtain ⟨l, c⟩ := st
      obtain ⟨hl, hc⟩ := hi
      dsimp only at hl hc ⊢
      subst hl; subst hc
      obtain ⟨v, hv, hvc⟩ := hin s hs
      have hle := z88 (pkc m k) s
      have hstep : cntF (pkc m k) (s + 1) = cntF (pkc m k) s + if z1a (pkc m k) s = true then 1 else 0 := rfl
      refine ⟨((List.range (s + 1)).map fun u => (pkc m k u : Int), (cntF (pkc m k) (s + 1) : Int)), ⟨rfl, rfl⟩, ?_⟩
      simp only [wy]
      rw [wu (by rw [zd3]; omega), zy hv]
      refine (zy (x := ((cntF (pkc m k) (s + 1) : Int), (pkc m k s : Int))) ?_).trans ?_
      · rcases hvc with ⟨rfl, hf⟩ | ⟨rfl, hf⟩
        · rw [hf, if_pos rfl] at hstep
          rw [wu (by decide), zq (qy (by omega)), hstep, ← hname s, z97 hf]; rfl
        · rw [hf, if_neg (by decide)] at hstep
          rw [uo (by omega), hstep]; rfl
      · rw [zq ⟨by simp; omega, by simp; omega⟩, zq (qy (by omega)), z3y]; rfl
    · obtain ⟨l, c⟩ := st
      obtain ⟨hl, hc⟩ := hi
      dsimp only at hl hc ⊢
      subst hl
      simp only [wy]
      rw [uo (by rw [zd3]; omega)]; rfl
  unfold sj
  rw [zy hL]
theorem zal (hm : MOk m) (hN : 200 ≤ N) : dm N m = some (z0o m) := by
  have hr2 := hm.r2
  unfold dm z3c
  rw [zy (show (bd (z07 N m (m.rows.length : Int)) fun y7 => bd (sj N y7) fun y13 => some y13) = some (z0o m) from by rw [zy (zvf hm hN (by omega)), zy (zn9 hm hN _)]; rfl)]
end ref
end GV
end Go.Proofs.YtkcccdcloealfaaGreat
