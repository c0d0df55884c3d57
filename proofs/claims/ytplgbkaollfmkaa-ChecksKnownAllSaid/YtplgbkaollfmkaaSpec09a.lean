import Derived.Test.YtplgbkaollfmkaaQuo09
set_option linter.unusedVariables false
set_option linter.unusedSimpArgs false
namespace Go.Proofs.Ytplgbkaollfmkaa
namespace GV
set_option maxRecDepth 100000
/-! ### Signatures -/
def sgL (m : Mach) (p : Nat → Nat) (s : Nat) : List (Int × Int) := z7m m p s ++ List.replicate (16 - m.inputs.toNat) (0, 0)
theorem z4p {m : Mach} {p : Nat → Nat} {s : Nat} : (z7m m p s).length = m.inputs.toNat := by simp [z7m]
theorem zfk {m : Mach} (hm : MOk m) {p : Nat → Nat} {s : Nat} : (sgL m p s).length = 16 := by
  have := hm.i2
  unfold sgL
  rw [List.length_append, z4p, List.length_replicate]; omega
theorem zo8 {m : Mach} {p : Nat → Nat} {s i : Nat} (hi : i < m.inputs.toNat) : (z7m m p s).getD i default = (ou m s i, if ed m s i = -1 then -1 else (p (ed m s i).toNat : Int)) := by
  simp [z7m, List.getD_eq_getElem?_getD, hi]
structure PR (m : Mach) (p : List Int) (f : Nat → Nat) : Prop where
  len : p.length = m.rows.length
  get : ∀ s, s < m.rows.length → p.getD s default = (f s : Int)
theorem ztd {m : Mach} (k : Nat) : PR m (pL m k) (pkc m k) := ⟨zfw k, fun s hs => zi0 hs⟩
theorem zha {α : Type} {X : List α} {n k : Nat} {z y : α} (hl : X.length = k) (hk : k < n) : (X ++ List.replicate (n - k) z).set k y = (X ++ [y]) ++ List.replicate (n - (k + 1)) z := zp2 hl hk
theorem zp6 {N : Nat} {m : Mach} (hm : MOk m) (hN : 200 ≤ N) {p : List Int} {f : Nat → Nat} (hp : PR m p f) {s : Nat} (hs : s < m.rows.length) : ∃ X : Arr 16 (Int × Int), z1c N m p (s : Int) = some X ∧ X.1 = sgL m f s := by
  have hi1 := hm.i1; have hi2 := hm.i2; have hr2 := hm.r2
  have hrow := hm.row s hs
  obtain ⟨X, hX, hX1⟩ : ∃ X : Arr 16 (Int × Int), yu N m p (s : Int) N 0 (z3y 16 (List.replicate 16 (((0 : Int), (0 : Int)) : (Int × Int)))) = some X ∧ X.1 = sgL m f s := by
    refine z0r (σ := Arr 16 (Int × Int)) (fun F k X => yu N m p (s : Int) F (k : Int) X) m.inputs.toNat (fun k X => X.1 = (z7m m f s).take k ++ List.replicate (16 - k) (0, 0)) _ (fun F k X hk hi => .inr ?_) (fun F X hi => ?_) N 0 _ (Nat.zero_le _) (by omega) (by rw [z7c (by simp)]; rfl)
    · have hXl : X.1.length = 16 := X.2
      have htl : ((z7m m f s).take k).length = k := by rw [List.length_take, z4p]; omega
      have hset : ∀ y, X.1.set k y = ((z7m m f s).take k ++ [y]) ++ List.replicate (16 - (k + 1)) (0, 0) := fun y => by rw [hi]; exact zha htl (by omega)
      have hnext : (z7m m f s).take (k + 1) = (z7m m f s).take k ++ [(ou m s k, if ed m s k = -1 then -1 else (f (ed m s k).toNat : Int))] := by
        rw [zit _ k (by rw [z4p]; exact hk), zo8 hk]
      have hg : ∀ Y : Arr 16 (Int × Int), Y = (if ed m s k = -1 then l7 X (k : Int) (ou m s k, -1) else l7 (l7 X (k : Int) (ou m s k, -1)) (k : Int) (((ix (l7 X (k : Int) (ou m s k, -1)).1 (k : Int)).1, (ix p (ed m s k))))) →
          yu N m p (s : Int) (F + 1) (k : Int) X = yu N m p (s : Int) F ((k + 1 : Nat) : Int) Y := fun Y hY => by
        simp only [yu]
        rw [mr (show (k : Int) < ((ix m.rows (s : Int)).length : Int) by rw [su]; omega)]
        refine (qh (x := Y) ?_).trans (by rw [zu (jb (by omega))]; rfl)
        rw [zu (show okI (ix m.rows (s : Int)) (k : Int) from ji (show k < (m.rows.getD s default).length by omega)), zu (ji (show k < X.1.length by omega))]
        show (bif decide (ed m s k ≠ -1) then _ else _) = _
        by_cases hc : ed m s k = -1
        · rw [p9 (fun h => h hc), hY, if_pos hc]; rfl
        · have hok := (zho hm hs hk).resolve_left hc
          have hl := hp.len
          rw [mr hc, hY, if_neg hc]
          refine (zu (show okI p (ed m s k) from ⟨hok.1, by omega⟩)).trans ?_
          refine (zu (show okI (l7 X (k : Int) (ou m s k, -1)).1 (k : Int) from ji (by rw [(l7 X (k : Int) (ou m s k, -1)).2]; omega))).trans ?_
          rfl
      refine ⟨_, ?_, hg _ rfl⟩
      by_cases hc : ed m s k = -1
      · rw [if_pos hc, hnext, if_pos hc]
        exact hset _
      · have hok := (zho hm hs hk).resolve_left hc
        rw [if_neg hc, hnext, if_neg hc]
        have e1 : (l7 X (k : Int) (ou m s k, -1)).1 = X.1.set k (ou m s k, -1) := rfl
        have e2 : (ix (l7 X (k : Int) (ou m s k, -1)).1 (k : Int)).1 = ou m s k := by
          rw [e1, su]
          simp [List.getD_eq_getElem?_getD, hXl, show k < 16 by omega]
        have e3 : ix p (ed m s k) = (f (ed m s k).toNat : Int) := hp.get _ (by omega)
        rw [e2, e3]
        show ((X.1.set k (ou m s k, -1)).set k (ou m s k, (f (ed m s k).toNat : Int))) = _
        rw [List.set_set]
        exact hset _
    · simp only [yu]
      rw [p9 (show ¬ ((m.inputs.toNat : Nat) : Int) < ((ix m.rows (s : Int)).length : Int) by rw [su]; omega)]
      refine ⟨X, rfl, ?_⟩
      rw [hi, List.take_of_length_le (by rw [z4p]; exact Nat.le_refl _)]; rfl
  refine ⟨X, ?_, hX1⟩
  unfold z1c
  rw [zu (ji hs), qh hX]
/-! ### A round -/
def z8g (m : Mach) (f : Nat → Nat) (s : Nat) : Srefines_key := ⟨(f s : Int), z3y 16 (sgL m f s)⟩
theorem zob {m : Mach} (hm : MOk m) {f : Nat → Nat} {s t : Nat} : z8g m f s = z8g m f t ↔ zf3 m f s = zf3 m f t := by
  unfold z8g zf3
  rw [Srefines_key.mk.injEq, Prod.mk.injEq]
  refine and_congr (by omega) ?_
  constructor
  · intro h
    have h2 := congrArg Subtype.val h
    rw [z7c (zfk hm), z7c (zfk hm)] at h2
    exact (List.append_inj h2 (by rw [z4p, z4p])).1
  · intro h
    unfold sgL
    rw [h]
theorem zis {N : Nat} {m : Mach} (hm : MOk m) (hN : 200 ≤ N) {p : List Int} {f : Nat → Nat} (hp : PR m p f) : lg N m p = some (zk8 (zf3 m f) m.rows.length) := by
  have hr2 := hm.r2; have hl := hp.len
  have hL : yn N m p N 0 ([] : List (Srefines_key × Int)) (mk (p.length : Int) (0 : Int)) = some (zk8 (z8g m f) m.rows.length) := by
    refine bq (σ := List (Srefines_key × Int) × List Int) (fun F k st => yn N m p F (k : Int) st.1 st.2) m.rows.length
      (fun k st => st.1 = nmM (z8g m f) k ∧ st.2 = (List.range k).map (fun s => (name (z8g m f) s : Int)) ++ List.replicate (m.rows.length - k) 0) _ (fun F k st hk hi => .inr ?_) (fun F st hi => ?_) N 0 ([], mk (p.length : Int) (0 : Int)) (Nat.zero_le _) (by omega) ⟨rfl, by rw [hl, z5b]; simp⟩
    · obtain ⟨M, X⟩ := st
      obtain ⟨hM, hX⟩ := hi
      dsimp only at hM hX ⊢
      subst hM; subst hX
      obtain ⟨A, hA, hA1⟩ := zp6 (N := N) hm hN hp hk
      have hAk : A = z3y 16 (sgL m f k) := Subtype.ext (by rw [hA1, z7c (zfk hm)])
      have hkey : (⟨ix p (k : Int), A⟩ : Srefines_key) = z8g m f k := by unfold z8g; rw [hAk, su, hp.get k hk]
      have htl : ((List.range k).map (fun s => (name (z8g m f) s : Int))).length = k := by simp
      refine ⟨(nmM (z8g m f) (k + 1), (List.range (k + 1)).map (fun s => (name (z8g m f) s : Int)) ++ List.replicate (m.rows.length - (k + 1)) 0), ⟨rfl, rfl⟩, ?_⟩
      simp only [yn]
      rw [mr (by omega), zu (ji (by omega)), qh hA, hkey]
      refine (qh (x := nmM (z8g m f) (k + 1)) ?_).trans ?_
      · cases h : z1b (nmM (z8g m f) k) (z8g m f k)
        · exact (ct (b := !false) rfl).trans (by rw [zq8 _ h])
        · exact (cf (b := !true) rfl).trans (by rw [zq0 _ h])
      · rw [zu (ji (by rw [List.length_append, htl, List.length_replicate]; omega)), zu (jb (by omega)), zjq _ _ (Nat.lt_succ_self k), z1t, zha htl hk, zhw]
        rfl
    · obtain ⟨M, X⟩ := st
      obtain ⟨hM, hX⟩ := hi
      dsimp only at hM hX ⊢
      subst hX
      simp only [yn]
      rw [p9 (by omega), Nat.sub_self, List.replicate_zero, List.append_nil]; rfl
  unfold lg
  rw [zu ⟨by omega, by omega, by omega⟩, qh hL, zix (f := z8g m f) (g := zf3 m f) fun s t _ _ => zob hm]
theorem za9 {N : Nat} {a b : List Int} (hN : a.length < N) (hl : a.length ≤ 4611686018427387904) : slices_Equal_int N a b = some (decide (a = b)) := by
  unfold slices_Equal_int
  by_cases h : (a.length : Int) ≠ b.length
  · rw [mr h, decide_eq_false (fun e => h (by rw [e]))]
  · rw [p9 h]
    have hl' : a.length = b.length := by omega
    have hL : yh N a b N 0 = some (if a = b then Ex.go () else Ex.rt false) := by
      refine bq (σ := Unit) (fun F k _ => yh N a b F (k : Int)) a.length (fun k _ => ∀ j, j < k → a.getD j default = b.getD j default) _ (fun F k _ hk hi => ?_) (fun F _ hi => ?_) N 0 () (Nat.zero_le _) (by omega) (fun j hj => by omega)
      · simp only [yh]
        rw [mr (by omega), zu (ji hk), zu (ji (by omega)), su, su]
        by_cases he : a.getD k default = b.getD k default
        · right
          refine ⟨(), zoj hi he, Eq.trans (p9 (fun h => h he)) ?_⟩
          rw [zu (jb (by omega))]; rfl
        · left
          refine Eq.trans (mr he) ?_
          rw [if_neg (fun e => he (by rw [e]))]
      · simp only [yh]
        rw [p9 (by omega), if_pos (zgu hl' hi)]
    rw [qh hL]
    by_cases he : a = b
    · rw [if_pos he, decide_eq_true he]; rfl
    · rw [if_neg he, decide_eq_false he]; rfl
theorem zas {N : Nat} {m : Mach} (hm : MOk m) (hN : 200 ≤ N) {j0 : Nat} (hst : zb6 m j0) (hmin : ∀ i, i < j0 → ¬ zb6 m i) (hj0 : j0 < m.rows.length) : ∀ (d j F : Nat) (l : List Int), j + d = j0 → d < F →
    gu N ((List Int) × Int) (fun y30 x31 => gd (in64 (x31.2 + 1)) <| some (true, (y30, x31.2 + 1))) m F (l, (j : Int) - 1) (pL m j) = some (pL m j0, (j0 : Int))
  | d, j, 0, l, _, hF => by omega
  | d, j, F + 1, l, hj, hF => by
    have hr2 := hm.r2
    have e1 : (j : Int) - 1 + 1 = j := by omega
    simp only [gu]
    rw [zu (jb (by omega)), zlw, e1, ct rfl, qh (zis hm hN (ztd j)), ← zpm, qh (za9 (by rw [zfw]; omega) (by rw [zfw]; omega))]
    by_cases h : zb6 m j
    · have : j = j0 := by
        rcases Nat.lt_or_ge j j0 with h1 | h1
        · exact absurd h (hmin j h1)
        · omega
      subst this
      rw [mr ((zgd j).2 h).symm]
    · have hd : d ≠ 0 := fun e => by
        have : j = j0 := by omega
        rw [this] at h; exact h hst
      rw [p9 (fun e => h ((zgd j).1 e.symm))]
      have := zas hm hN hst hmin hj0 (d - 1) (j + 1) F (pL m j) (by omega) (by omega)
      rw [show (((j + 1 : Nat) : Int) - 1) = (j : Int) by omega] at this
      exact this
theorem zi8 {N : Nat} {m : Mach} (hm : MOk m) (hN : 200 ≤ N) : ∃ j : Nat, z01 N m = some (zbe m, (j : Int), 0) := by
  have hr1 := hm.r1; have hr2 := hm.r2
  obtain ⟨j0, h1, h2, h3⟩ := zpp hm
  refine ⟨j0, ?_⟩
  have key := zas (N := N) hm hN h2 h3 h1 j0 0 N [] (by omega) (by omega)
  have e0 : pL m 0 = mk (m.rows.length : Int) (0 : Int) := by
    unfold pL
    rw [z5b]
    show (List.range m.rows.length).map (fun _ => ((0 : Nat) : Int)) = _
    rw [List.map_const', List.length_range]; rfl
  unfold z01
  rw [qh (znb hm hN), p9 (by simp), qh (show z1k N m = some m from rfl)]
  refine (qh (x := (pL m j0, (j0 : Int))) ?_).trans ?_
  · unfold z0i
    rw [zu ⟨by omega, by omega, by omega⟩, ← e0]
    exact key
  · rw [show zbe m = pL m j0 from zq2 hm h2 (by omega)]
/-! ### The reference -/
section ref
variable {N : Nat} {m : Mach}
end ref
end GV
end Go.Proofs.Ytplgbkaollfmkaa
