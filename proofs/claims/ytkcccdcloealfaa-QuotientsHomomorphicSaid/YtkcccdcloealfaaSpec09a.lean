import Derived.Test.YtkcccdcloealfaaQuo09
set_option linter.unusedVariables false
set_option linter.unusedSimpArgs false
namespace Go.Proofs.Ytkcccdcloealfaa
namespace GV
set_option maxRecDepth 100000
/-! ### Signatures -/
def sgL (m : Mach) (p : Nat → Nat) (s : Nat) : List (Int × Int) := z6w m p s ++ List.replicate (16 - m.inputs.toNat) (0, 0)
theorem z6g {m : Mach} {p : Nat → Nat} {s : Nat} : (z6w m p s).length = m.inputs.toNat := by simp [z6w]
theorem zhb {m : Mach} (hm : MOk m) {p : Nat → Nat} {s : Nat} : (sgL m p s).length = 16 := by
  have := hm.i2
  unfold sgL
  rw [List.length_append, z6g, List.length_replicate]; omega
theorem zqy {m : Mach} {p : Nat → Nat} {s i : Nat} (hi : i < m.inputs.toNat) : (z6w m p s).getD i default = (ou m s i, if ed m s i = -1 then -1 else (p (ed m s i).toNat : Int)) := by
  simp [z6w, List.getD_eq_getElem?_getD, hi]
structure PR (m : Mach) (p : List Int) (f : Nat → Nat) : Prop where
  len : p.length = m.rows.length
  get : ∀ s, s < m.rows.length → p.getD s default = (f s : Int)
theorem zvr {m : Mach} (k : Nat) : PR m (pL m k) (pkc m k) := ⟨zi2 k, fun s hs => zl7 hs⟩
theorem zew {α : Type} {X : List α} {n k : Nat} {z y : α} (hl : X.length = k) (hk : k < n) : (X ++ List.replicate (n - k) z).set k y = (X ++ [y]) ++ List.replicate (n - (k + 1)) z := zgu hl hk
theorem zsi {N : Nat} {m : Mach} (hm : MOk m) (hN : 200 ≤ N) {p : List Int} {f : Nat → Nat} (hp : PR m p f) {s : Nat} (hs : s < m.rows.length) : ∃ X : Arr 16 (Int × Int), z1z N m p (s : Int) = some X ∧ X.1 = sgL m f s := by
  have hi1 := hm.i1; have hi2 := hm.i2; have hr2 := hm.r2
  have hrow := hm.row s hs
  obtain ⟨X, hX, hX1⟩ : ∃ X : Arr 16 (Int × Int), gp N m p (s : Int) N 0 (z5j 16 (List.replicate 16 (((0 : Int), (0 : Int)) : (Int × Int)))) = some X ∧ X.1 = sgL m f s := by
    refine z8c (σ := Arr 16 (Int × Int)) (fun F k X => gp N m p (s : Int) F (k : Int) X) m.inputs.toNat (fun k X => X.1 = (z6w m f s).take k ++ List.replicate (16 - k) (0, 0)) _ (fun F k X hk hi => .inr ?_) (fun F X hi => ?_) N 0 _ (Nat.zero_le _) (by omega) (by rw [z90 (by simp)]; rfl)
    · have hXl : X.1.length = 16 := X.2
      have htl : ((z6w m f s).take k).length = k := by rw [List.length_take, z6g]; omega
      have hset : ∀ y, X.1.set k y = ((z6w m f s).take k ++ [y]) ++ List.replicate (16 - (k + 1)) (0, 0) := fun y => by rw [hi]; exact zew htl (by omega)
      have hnext : (z6w m f s).take (k + 1) = (z6w m f s).take k ++ [(ou m s k, if ed m s k = -1 then -1 else (f (ed m s k).toNat : Int))] := by
        rw [z5b _ k (by rw [z6g]; exact hk), zqy hk]
      have hg : ∀ Y : Arr 16 (Int × Int), Y = (if ed m s k = -1 then z04 X (k : Int) (ou m s k, -1) else z04 (z04 X (k : Int) (ou m s k, -1)) (k : Int) (((ix (z04 X (k : Int) (ou m s k, -1)).1 (k : Int)).1, (ix p (ed m s k))))) →
          gp N m p (s : Int) (F + 1) (k : Int) X = gp N m p (s : Int) F ((k + 1 : Nat) : Int) Y := fun Y hY => by
        simp only [gp]
        rw [dn (show (k : Int) < ((ix m.rows (s : Int)).length : Int) by rw [si]; omega)]
        refine (qf (x := Y) ?_).trans (by rw [zu (jg (by omega))]; rfl)
        rw [zu (show okI (ix m.rows (s : Int)) (k : Int) from j5 (show k < (m.rows.getD s default).length by omega)), zu (j5 (show k < X.1.length by omega))]
        show (bif decide (ed m s k ≠ -1) then _ else _) = _
        by_cases hc : ed m s k = -1
        · rw [xw (fun h => h hc), hY, if_pos hc]; rfl
        · have hok := (z14 hm hs hk).resolve_left hc
          have hl := hp.len
          rw [dn hc, hY, if_neg hc]
          refine (zu (show okI p (ed m s k) from ⟨hok.1, by omega⟩)).trans ?_
          refine (zu (show okI (z04 X (k : Int) (ou m s k, -1)).1 (k : Int) from j5 (by rw [(z04 X (k : Int) (ou m s k, -1)).2]; omega))).trans ?_
          rfl
      refine ⟨_, ?_, hg _ rfl⟩
      by_cases hc : ed m s k = -1
      · rw [if_pos hc, hnext, if_pos hc]
        exact hset _
      · have hok := (z14 hm hs hk).resolve_left hc
        rw [if_neg hc, hnext, if_neg hc]
        have e1 : (z04 X (k : Int) (ou m s k, -1)).1 = X.1.set k (ou m s k, -1) := rfl
        have e2 : (ix (z04 X (k : Int) (ou m s k, -1)).1 (k : Int)).1 = ou m s k := by
          rw [e1, si]
          simp [List.getD_eq_getElem?_getD, hXl, show k < 16 by omega]
        have e3 : ix p (ed m s k) = (f (ed m s k).toNat : Int) := hp.get _ (by omega)
        rw [e2, e3]
        show ((X.1.set k (ou m s k, -1)).set k (ou m s k, (f (ed m s k).toNat : Int))) = _
        rw [List.set_set]
        exact hset _
    · simp only [gp]
      rw [xw (show ¬ ((m.inputs.toNat : Nat) : Int) < ((ix m.rows (s : Int)).length : Int) by rw [si]; omega)]
      refine ⟨X, rfl, ?_⟩
      rw [hi, List.take_of_length_le (by rw [z6g]; exact Nat.le_refl _)]; rfl
  refine ⟨X, ?_, hX1⟩
  unfold z1z
  rw [zu (j5 hs), qf hX]
/-! ### A round -/
def z9y (m : Mach) (f : Nat → Nat) (s : Nat) : Srefines_key := ⟨(f s : Int), z5j 16 (sgL m f s)⟩
theorem zr3 {m : Mach} (hm : MOk m) {f : Nat → Nat} {s t : Nat} : z9y m f s = z9y m f t ↔ zho m f s = zho m f t := by
  unfold z9y zho
  rw [Srefines_key.mk.injEq, Prod.mk.injEq]
  refine and_congr (by omega) ?_
  constructor
  · intro h
    have h2 := congrArg Subtype.val h
    rw [z90 (zhb hm), z90 (zhb hm)] at h2
    exact (List.append_inj h2 (by rw [z6g, z6g])).1
  · intro h
    unfold sgL
    rw [h]
theorem zle {N : Nat} {m : Mach} (hm : MOk m) (hN : 200 ≤ N) {p : List Int} {f : Nat → Nat} (hp : PR m p f) : z07 N m p = some (zoj (zho m f) m.rows.length) := by
  have hr2 := hm.r2; have hl := hp.len
  have hL : xz N m p N 0 ([] : List (Srefines_key × Int)) (mk (p.length : Int) (0 : Int)) = some (zoj (z9y m f) m.rows.length) := by
    refine xc (σ := List (Srefines_key × Int) × List Int) (fun F k st => xz N m p F (k : Int) st.1 st.2) m.rows.length
      (fun k st => st.1 = nmM (z9y m f) k ∧ st.2 = (List.range k).map (fun s => (name (z9y m f) s : Int)) ++ List.replicate (m.rows.length - k) 0) _ (fun F k st hk hi => .inr ?_) (fun F st hi => ?_) N 0 ([], mk (p.length : Int) (0 : Int)) (Nat.zero_le _) (by omega) ⟨rfl, by rw [hl, z88]; simp⟩
    · obtain ⟨M, X⟩ := st
      obtain ⟨hM, hX⟩ := hi
      dsimp only at hM hX ⊢
      subst hM; subst hX
      obtain ⟨A, hA, hA1⟩ := zsi (N := N) hm hN hp hk
      have hAk : A = z5j 16 (sgL m f k) := Subtype.ext (by rw [hA1, z90 (zhb hm)])
      have hkey : (⟨ix p (k : Int), A⟩ : Srefines_key) = z9y m f k := by unfold z9y; rw [hAk, si, hp.get k hk]
      have htl : ((List.range k).map (fun s => (name (z9y m f) s : Int))).length = k := by simp
      refine ⟨(nmM (z9y m f) (k + 1), (List.range (k + 1)).map (fun s => (name (z9y m f) s : Int)) ++ List.replicate (m.rows.length - (k + 1)) 0), ⟨rfl, rfl⟩, ?_⟩
      simp only [xz]
      rw [dn (by omega), zu (j5 (by omega)), qf hA, hkey]
      refine (qf (x := nmM (z9y m f) (k + 1)) ?_).trans ?_
      · cases h : z0x (nmM (z9y m f) k) (z9y m f k)
        · exact (ct (b := !false) rfl).trans (by rw [zmt _ h])
        · exact (cf (b := !true) rfl).trans (by rw [zmo _ h])
      · rw [zu (j5 (by rw [List.length_append, htl, List.length_replicate]; omega)), zu (jg (by omega)), zhk _ _ (Nat.lt_succ_self k), z6v, zew htl hk, z1m]
        rfl
    · obtain ⟨M, X⟩ := st
      obtain ⟨hM, hX⟩ := hi
      dsimp only at hM hX ⊢
      subst hX
      simp only [xz]
      rw [xw (by omega), Nat.sub_self, List.replicate_zero, List.append_nil]; rfl
  unfold z07
  rw [zu ⟨by omega, by omega, by omega⟩, qf hL, zl2 (f := z9y m f) (g := zho m f) fun s t _ _ => zr3 hm]
theorem zo1 {N : Nat} {a b : List Int} (hN : a.length < N) (hl : a.length ≤ 4611686018427387904) : slices_Equal_int N a b = some (decide (a = b)) := by
  unfold slices_Equal_int
  by_cases h : (a.length : Int) ≠ b.length
  · rw [dn h, decide_eq_false (fun e => h (by rw [e]))]
  · rw [xw h]
    have hl' : a.length = b.length := by omega
    have hL : xu N a b N 0 = some (if a = b then Ex.go () else Ex.rt false) := by
      refine xc (σ := Unit) (fun F k _ => xu N a b F (k : Int)) a.length (fun k _ => ∀ j, j < k → a.getD j default = b.getD j default) _ (fun F k _ hk hi => ?_) (fun F _ hi => ?_) N 0 () (Nat.zero_le _) (by omega) (fun j hj => by omega)
      · simp only [xu]
        rw [dn (by omega), zu (j5 hk), zu (j5 (by omega)), si, si]
        by_cases he : a.getD k default = b.getD k default
        · right
          refine ⟨(), z8e hi he, Eq.trans (xw (fun h => h he)) ?_⟩
          rw [zu (jg (by omega))]; rfl
        · left
          refine Eq.trans (dn he) ?_
          rw [if_neg (fun e => he (by rw [e]))]
      · simp only [xu]
        rw [xw (by omega), if_pos (rz hl' hi)]
    rw [qf hL]
    by_cases he : a = b
    · rw [if_pos he, decide_eq_true he]; rfl
    · rw [if_neg he, decide_eq_false he]; rfl
theorem zcv {N : Nat} {m : Mach} (hm : MOk m) (hN : 200 ≤ N) {j0 : Nat} (hst : zcj m j0) (hmin : ∀ i, i < j0 → ¬ zcj m i) (hj0 : j0 < m.rows.length) : ∀ (d j F : Nat) (l : List Int), j + d = j0 → d < F →
    pz N ((List Int) × Int) (fun y30 x31 => gd (in64 (x31.2 + 1)) <| some (true, (y30, x31.2 + 1))) m F (l, (j : Int) - 1) (pL m j) = some (pL m j0, (j0 : Int))
  | d, j, 0, l, _, hF => by omega
  | d, j, F + 1, l, hj, hF => by
    have hr2 := hm.r2
    have e1 : (j : Int) - 1 + 1 = j := by omega
    simp only [pz]
    rw [zu (jg (by omega)), ztz, e1, ct rfl, qf (zle hm hN (zvr j)), ← zsx, qf (zo1 (by rw [zi2]; omega) (by rw [zi2]; omega))]
    by_cases h : zcj m j
    · have : j = j0 := by
        rcases Nat.lt_or_ge j j0 with h1 | h1
        · exact absurd h (hmin j h1)
        · omega
      subst this
      rw [dn ((zic j).2 h).symm]
    · have hd : d ≠ 0 := fun e => by
        have : j = j0 := by omega
        rw [this] at h; exact h hst
      rw [xw (fun e => h ((zic j).1 e.symm))]
      have := zcv hm hN hst hmin hj0 (d - 1) (j + 1) F (pL m j) (by omega) (by omega)
      rw [show (((j + 1 : Nat) : Int) - 1) = (j : Int) by omega] at this
      exact this
theorem zee {N : Nat} {m : Mach} (hm : MOk m) (hN : 200 ≤ N) : ∃ j : Nat, sj N m = some (z1u m, (j : Int), 0) := by
  have hr1 := hm.r1; have hr2 := hm.r2
  obtain ⟨j0, h1, h2, h3⟩ := zml hm
  refine ⟨j0, ?_⟩
  have key := zcv (N := N) hm hN h2 h3 h1 j0 0 N [] (by omega) (by omega)
  have e0 : pL m 0 = mk (m.rows.length : Int) (0 : Int) := by
    unfold pL
    rw [z88]
    show (List.range m.rows.length).map (fun _ => ((0 : Nat) : Int)) = _
    rw [List.map_const', List.length_range]; rfl
  unfold sj
  rw [qf (z5s hm hN), xw (by simp), qf (show z1x N m = some m from rfl)]
  refine (qf (x := (pL m j0, (j0 : Int))) ?_).trans ?_
  · unfold z0v
    rw [zu ⟨by omega, by omega, by omega⟩, ← e0]
    exact key
  · rw [show z1u m = pL m j0 from ztf hm h2 (by omega)]
/-! ### The reference -/
section ref
variable {N : Nat} {m : Mach}
end ref
end GV
end Go.Proofs.Ytkcccdcloealfaa
