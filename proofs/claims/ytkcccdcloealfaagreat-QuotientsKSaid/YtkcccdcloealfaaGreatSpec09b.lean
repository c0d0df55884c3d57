import Derived.Test.YtkcccdcloealfaaGreatSpec09a
import Derived.Test.YtkcccdcloealfaaGreatSpec06k
set_option linter.unusedVariables false
set_option linter.unusedSimpArgs false
namespace Go.Proofs.YtkcccdcloealfaaGreat
namespace GV
set_option maxRecDepth 100000
/-! ### First ones, merged -/
def fcI (m : Mach) (s : Nat) : Int := (cls m s : Int)
theorem zmf {m : Mach} (s t : Nat) : fcI m s = fcI m t ↔ cls m s = cls m t := by unfold fcI; omega
theorem zxv {m : Mach} {s : Nat} : name (fcI m) s = cls m s := by
  rw [z9j (g := cls m) (n := s + 1) (fun a b _ _ => zmf a b) (Nat.lt_succ_self s), z9z]
theorem zoo {m : Mach} {s : Nat} : z1a (fcI m) s = z1a (cls m) s := zf5 (n := s + 1) (fun a b _ _ => zmf a b) (Nat.lt_succ_self s)
theorem zyz {m : Mach} {s : Nat} : cntF (fcI m) s = cntF (cls m) s := zf7 (n := s) (fun a b _ _ => zmf a b) (Nat.le_refl s)
theorem z5g {m : Mach} : (z0o m).length = m.rows.length := zn2 _
theorem z5h {m : Mach} {s : Nat} (hs : s < m.rows.length) : (z0o m).getD s default = (cls m s : Int) := zrq hs
section
variable {N : Nat} {m : Mach}
theorem zvt (hm : MOk m) (hN : 200 ≤ N) : z1x N (z0o m) = some (ry (z1r (cls m) m.rows.length), z0o m) := by
  have hr2 := hm.r2; have hl := z5g (m := m)
  have hL : bv N (z0o m) N ([] : List Int) 0 ([] : List (Int × Int)) (mk ((z0o m).length : Int) (0 : Int)) = some (ry (z1r (cls m) m.rows.length), z0o m) := by
    refine ui (σ := List Int × List (Int × Int) × List Int) (fun F k st => bv N (z0o m) F st.1 (k : Int) st.2.1 st.2.2) m.rows.length
      (fun k st => st.1 = ry (z1r (cls m) k) ∧ st.2.1 = nmM (fcI m) k ∧ st.2.2 = (List.range k).map (fun s => (cls m s : Int)) ++ List.replicate (m.rows.length - k) 0) _ (fun F k st hk hi => .inr ?_) (fun F st hi => ?_) N 0 ([], [], mk ((z0o m).length : Int) (0 : Int)) (Nat.zero_le _) (by omega) ⟨rfl, rfl, by rw [hl, z7n]; simp⟩
    · obtain ⟨A, M, X⟩ := st
      obtain ⟨hA, hM, hX⟩ := hi
      dsimp only at hA hM hX ⊢
      subst hA; subst hM; subst hX
      have htl : ((List.range k).map (fun s => (cls m s : Int))).length = k := by simp
      have hcl : (ry (z1r (cls m) k)).length = cntF (cls m) k := by rw [z11, z3a]
      have hcle := z88 (cls m) k
      have hkey : ix (z0o m) (k : Int) = fcI m k := z5h hk
      refine ⟨(ry (z1r (cls m) (k + 1)), nmM (fcI m) (k + 1), (List.range (k + 1)).map (fun s => (cls m s : Int)) ++ List.replicate (m.rows.length - (k + 1)) 0), ⟨rfl, rfl, rfl⟩, ?_⟩
      simp only [bv]
      rw [wu (by omega), zq (qo (by omega)), hkey]
      refine (zy (x := (ry (z1r (cls m) (k + 1)), nmM (fcI m) (k + 1))) ?_).trans ?_
      · cases h : z4z (nmM (fcI m) k) (fcI m k)
        · refine (ct (b := !false) rfl).trans ?_
          have hf : z1a (cls m) k = true := by
            rw [← zoo]
            exact av.2 fun t ht e => by
              have := (zc2 (fcI m) (fcI m k) k).2 ⟨t, ht, e⟩
              rw [h] at this; cases this
          rw [zq ⟨by rw [hcl]; simp only [List.length_singleton]; omega, by rw [hcl]; simp only [List.length_singleton]; omega⟩]
          have e1 : ((ry (z1r (cls m) k)).length : Int) = ((nmM (fcI m) k).length : Int) := by rw [hcl, zng, zyz]
          rw [e1, zrw _ h, zb8, if_pos hf]
          unfold ry
          rw [List.map_append]; rfl
        · refine (cf (b := !true) rfl).trans ?_
          have hf : ¬ z1a (cls m) k = true := fun hf => by
            rw [← zoo] at hf
            obtain ⟨t, ht, e⟩ := (zc2 (fcI m) (fcI m k) k).1 h
            exact av.1 hf t ht e
          rw [zrx _ h, zb8, if_neg hf, List.append_nil]
      · have hget : z3j (0 : Int) (nmM (fcI m) (k + 1)) (fcI m k) = (cls m k : Int) := by rw [zn1 _ _ (Nat.lt_succ_self k), zxv]
        rw [zq (qo (by rw [List.length_append, htl, List.length_replicate]; omega)), zq (qy (by omega)), hget, z5u, zfq htl hk, z3y]
        rfl
    · obtain ⟨A, M, X⟩ := st
      obtain ⟨hA, hM, hX⟩ := hi
      dsimp only at hA hM hX ⊢
      subst hA; subst hX
      simp only [bv]
      rw [uo (by omega), Nat.sub_self, List.replicate_zero, List.append_nil]; rfl
  unfold z1x
  rw [zq ⟨by omega, by omega, by omega⟩, zy hL]
def gE (m : Mach) (e : Edge) : Edge := ⟨hI (cls m) e.to, e.out⟩
theorem q06 (hm : MOk m) (hN : 200 ≤ N) {u : Nat} (hu : u < m.rows.length) (A : List Int) : oh N (A, z0o m) (m.rows.getD u default) N 0 (m.rows.getD u default) = some ((m.rows.getD u default).map (gE m)) := by
  have hi2 := hm.i2; have hr2 := hm.r2
  have hrow := hm.row u hu
  generalize hR : m.rows.getD u default = R at *
  refine ui (σ := List Edge) (fun F i st => oh N (A, z0o m) R F (i : Int) st) R.length (fun i st => st = (R.take i).map (gE m) ++ R.drop i) _ (fun F i st hi hq => .inr ?_) (fun F st hq => ?_) N 0 R (Nat.zero_le _) (by omega) (by simp)
  · subst hq
    have htl : ((R.take i).map (gE m)).length = i := by rw [List.length_map, List.length_take]; omega
    have hlen : ((R.take i).map (gE m) ++ R.drop i).length = R.length := by rw [List.length_append, htl, List.length_drop]; omega
    have hget : ix ((R.take i).map (gE m) ++ R.drop i) (i : Int) = R.getD i default := by
      rw [r9, z7w R i hi, List.getD_eq_getElem?_getD, List.getElem?_append_right (by omega), htl, Nat.sub_self]
      rfl
    have hed := hm.edge u i hu (by rw [hR]; exact hi)
    rw [hR] at hed
    have hset : ∀ z, ((R.take i).map (gE m) ++ R.drop i).set i z = ((R.take i).map (gE m) ++ [z]) ++ R.drop (i + 1) := fun z => by
      rw [z7w R i hi, List.set_append_right _ _ (by omega), htl, Nat.sub_self]; simp
    have hnext : (R.take (i + 1)).map (gE m) = (R.take i).map (gE m) ++ [gE m (R.getD i default)] := by
      rw [z5t R i hi, List.map_append]; rfl
    refine ⟨_, rfl, ?_⟩
    simp only [oh]
    rw [wu (by omega), hnext]
    refine (zy (x := ((R.take i).map (gE m) ++ [gE m (R.getD i default)]) ++ R.drop (i + 1)) ?_).trans ?_
    · rw [zq (qo (by rw [hlen]; exact hi)), hget]
      rcases hed with ⟨h1, h2⟩ | ⟨h1, h2, _, _⟩
      · rw [uo (fun h => h h1), ← hset]
        have : gE m (R.getD i default) = R.getD i default := by
          unfold gE; rw [h1, zjw]
          generalize R.getD i default = e at *
          cases e; simp only at h1; rw [h1]
        rw [this]
        refine congrArg some (l6 (by rw [List.length_set]) fun j hj => ?_)
        simp only [List.getD_eq_getElem?_getD, List.getElem?_set]
        by_cases e : i = j
        · subst e
          rw [if_pos rfl, if_pos (by rw [hlen]; exact hi), ← List.getD_eq_getElem?_getD]
          exact hget
        · rw [if_neg e]
      · have hne : ¬ (R.getD i default).to = -1 := by omega
        rw [wu hne, zq ⟨h1, by rw [z5g]; omega⟩, zq (qo (by rw [hlen]; exact hi)), z5u, hset]
        have : ix (z0o m) (R.getD i default).to = hI (cls m) (R.getD i default).to := by
          unfold hI
          rw [if_neg hne]
          exact z5h (by omega)
        rw [this]; rfl
    · rw [zq (qy (by omega))]; rfl
  · subst hq
    simp only [oh]
    rw [uo (by omega), List.drop_length, List.take_length, List.append_nil]
theorem merged_eq (hm : MOk m) (hN : 200 ≤ N) : z3q N m (z0o m) = some (z13 m, z0o m) := by
  have hr2 := hm.r2; have hi2 := hm.i2
  have hcn := z88 (cls m) m.rows.length
  have hpl : (ry (z1r (cls m) m.rows.length)).length = cntF (cls m) m.rows.length := by rw [z11, z3a]
  have hL : tu N m (ry (z1r (cls m) m.rows.length), z0o m) N 0 ([] : List (List Edge)) = some (z13 m).rows := by
    refine ui (σ := List (List Edge)) (fun F c st => tu N m (ry (z1r (cls m) m.rows.length), z0o m) F (c : Int) st) (cntF (cls m) m.rows.length)
      (fun c st => st = ((z1r (cls m) m.rows.length).take c).map fun u => (m.rows.getD u default).map (gE m)) _ (fun F c st hc hq => .inr ?_) (fun F st hq => ?_) N 0 [] (Nat.zero_le _) (by omega) rfl
    · subst hq
      obtain ⟨h1, h2, h3⟩ := z4u hc
      have hfl : c < (z1r (cls m) m.rows.length).length := by rw [z3a]; exact hc
      have hp : ix (ry (z1r (cls m) m.rows.length)) (c : Int) = (((z1r (cls m) m.rows.length).getD c 0 : Nat) : Int) := z5z hfl
      have hrow := hm.row _ h1
      refine ⟨_, rfl, ?_⟩
      simp only [tu]
      have hrx : ix m.rows (((z1r (cls m) m.rows.length).getD c 0 : Nat) : Int) = m.rows.getD ((z1r (cls m) m.rows.length).getD c 0) default := rfl
      rw [wu (by rw [hpl]; omega), zq (qo (by rw [hpl]; exact hc)), hp, zq (qo h1), hrx]
      refine (zy (x := m.rows.getD ((z1r (cls m) m.rows.length).getD c 0) default) ?_).trans ?_
      · unfold z1i
        rw [zq ⟨by simp only [List.length_nil]; omega, by simp only [List.length_nil]; omega⟩, List.nil_append]
      refine (zy (q06 hm hN h1 _)).trans ?_
      refine (zy (x := (m.rows.getD ((z1r (cls m) m.rows.length).getD c 0) default).map (gE m)) ?_).trans ?_
      · unfold z2x
        rw [zq (zme _), zmw]
      have hll : (((z1r (cls m) m.rows.length).take c).map fun u => (m.rows.getD u default).map (gE m)).length = c := by rw [List.length_map, List.length_take]; omega
      rw [zq ⟨by rw [hll]; simp only [List.length_singleton]; omega, by rw [hll]; simp only [List.length_singleton]; omega⟩, zq (qy (by omega))]
      have : (z1r (cls m) m.rows.length).take (c + 1) = (z1r (cls m) m.rows.length).take c ++ [(z1r (cls m) m.rows.length).getD c 0] := z5t _ c hfl
      rw [this, List.map_append]; rfl
    · subst hq
      simp only [tu]
      rw [uo (by rw [hpl]; omega), List.take_of_length_le (by rw [z3a]; exact Nat.le_refl _)]; rfl
  unfold z3q
  rw [zy (zvt hm hN), zy hL]
  rfl
/-! ### The map -/
def z08 (m : Mach) : List Nat := z2y (rch (z13 m) 0)
def z95 (m : Mach) (s : Nat) : Int := if occ (rch m 0) s = true then (((z08 m).idxOf (cls m s) : Nat) : Int) else -1
def za2 (m : Mach) : List Int := (List.range m.rows.length).map (z95 m)
theorem zcy : (za2 m).length = m.rows.length := by simp [za2]
theorem z8i {s : Nat} (hs : s < m.rows.length) : (za2 m).getD s default = z95 m s := fe _ hs
theorem q3h (hm : MOk m) : rch (z13 m) 0 = zb3 (cls m) (rch m 0) := by
  have := q2n (ze1 hm) (s0 := 0) (by have := hm.r1; omega)
  rwa [zcx] at this
theorem zze (hm : MOk m) : Rch (z13 m) 0 (rch (z13 m) 0) := z6r (z7u hm)
theorem zfi (hm : MOk m) {s : Nat} (h : occ (rch m 0) s = true) : cls m s ∈ z08 m := by
  obtain ⟨j, hj, rfl⟩ := z15.1 h
  unfold z08
  rw [q3h hm, zea]
  obtain ⟨h1, h2, h3⟩ := z3b (z2d (cls m) (rch m 0)) j
  obtain ⟨k1, k2⟩ := zii (h := cls m) (P := rch m 0) (u := z6h (z2d (cls m) (rch m 0)) j) (by omega) (z6n _ _)
  exact ⟨_, by rw [zpk]; exact k1, by rw [k2]; exact h2⟩
theorem zy8 (hm : MOk m) {c : Nat} (hc : c ∈ z08 m) : q0k (rch (z13 m) 0) (rch (lv m) 0) c = (((z08 m).idxOf c : Nat) : Int) := by
  have hq := z7u hm
  have hP := zze hm
  obtain ⟨o1, o2⟩ := zdp hP
  have hren := zmj hq (z1p hP) o1
  rw [o2] at hren
  have hmin : lv m = z09 (z13 m) (z2y (rch (z13 m) 0)) := rfl
  have hocc : occ (rch (z13 m) 0) c = true := z15.2 (zea.1 hc)
  unfold q0k
  rw [if_pos hocc, hmin, hren]
  obtain ⟨h1, h2⟩ := z6p hc
  have hlt : (z08 m).idxOf c < (rch (z13 m) 0).length := by rw [← z5k]; exact h1
  show ((((rch (z13 m) 0).map (ren (z2y (rch (z13 m) 0)))).getD ((z08 m).idxOf c) default).st : Int) = _
  rw [getD_map hlt]
  show (((z08 m).idxOf (((rch (z13 m) 0).getD ((z08 m).idxOf c) default).st) : Nat) : Int) = _
  rw [← z8m _ hlt]
  show (((z08 m).idxOf ((z08 m).getD ((z08 m).idxOf c) 0) : Nat) : Int) = _
  rw [h2]
theorem zyv {n : Nat} {g : Nat → Int} {A : List Nat} {k : Nat} (hk : k < A.length) (hlt : A.getD k 0 < n) : ((List.range n).map fun s => if s ∈ A.take k then g s else -1).set (A.getD k 0) (g (A.getD k 0)) = (List.range n).map fun s => if s ∈ A.take (k + 1) then g s else -1 := by
  refine l6 (by simp) fun s hs => ?_
  rw [List.length_set, List.length_map, List.length_range] at hs
  have ht : A.take (k + 1) = A.take k ++ [A.getD k 0] := z5t A k hk
  rw [fe _ hs, List.getD_eq_getElem?_getD, List.getElem?_set, ht]
  by_cases e : A.getD k 0 = s
  · rw [if_pos e, if_pos (by simpa using hlt), if_pos (List.mem_append.2 (.inr (List.mem_singleton.2 e.symm))), e]; rfl
  · rw [if_neg e, ← List.getD_eq_getElem?_getD, fe _ hs]
    by_cases h : s ∈ A.take k
    · rw [if_pos h, if_pos (List.mem_append.2 (.inl h))]
    · rw [if_neg h, if_neg (fun h' => by rcases List.mem_append.1 h' with h' | h'; exact h h'; exact e (List.mem_singleton.1 h').symm)]
theorem zsr (hm : MOk m) (hN : 200 ≤ N) : z1b N m = some (lv m, za2 m, 0) := by
  have hr1 := hm.r1; have hr2 := hm.r2
  have hq := z7u hm
  obtain ⟨j, hj⟩ := zit (N := N) hm hN
  have hP := z6r hm
  have hreach : z6c N m = some (ry ((List.range m.rows.length).filter fun s => occ (rch m 0) s), 0) := by
    rw [zwa hm hN, zwl hP]; rfl
  generalize hA : (List.range m.rows.length).filter (fun s => occ (rch m 0) s) = A at hreach
  have hAm : ∀ k, k < A.length → A.getD k 0 < m.rows.length ∧ occ (rch m 0) (A.getD k 0) = true := fun k hk => by
    have hmem : A.getD k 0 ∈ A := by simp [List.getD_eq_getElem?_getD, hk]
    have hmem' : A.getD k 0 ∈ (List.range m.rows.length).filter (fun s => occ (rch m 0) s) := by rw [hA]; exact hmem
    rw [List.mem_filter, List.mem_range] at hmem'
    exact hmem'
  have hAl : A.length ≤ m.rows.length := by
    rw [← hA]; exact Nat.le_trans (List.length_filter_le _ _) (by simp)
  have hiso : z2i N (z13 m) (lv m) = some (zkr (z13 m).rows.length (rch (z13 m) 0) (rch (lv m) 0), true, 0) := by
    rw [q1r hq (zay hm) hN, if_pos (show z7i (z13 m) = z7i (lv m) from (ztv hq).symm)]
  have hL : iq N (z13 m, z0o m) (zkr (z13 m).rows.length (rch (z13 m) 0) (rch (lv m) 0), true, 0) (ry A, 0) N 0 (List.replicate m.rows.length (-1)) = some (za2 m) := by
    refine ui (σ := List Int) (fun F k st => iq N (z13 m, z0o m) (zkr (z13 m).rows.length (rch (z13 m) 0) (rch (lv m) 0), true, 0) (ry A, 0) F (k : Int) st) A.length
      (fun k st => st = (List.range m.rows.length).map fun s => if s ∈ A.take k then (((z08 m).idxOf (cls m s) : Nat) : Int) else -1) _ (fun F k st hk hst => .inr ?_) (fun F st hst => ?_) N 0 _ (Nat.zero_le _) (by omega) ?_
    · subst hst
      obtain ⟨h1, h2⟩ := hAm k hk
      have hcq := zfi hm h2
      have hck := zci (m := m) h1
      have hp : ix (ry A) (k : Int) = ((A.getD k 0 : Nat) : Int) := z5z hk
      have hc : ix (z0o m) ((A.getD k 0 : Nat) : Int) = ((cls m (A.getD k 0) : Nat) : Int) := z5h h1
      have hi : ix (zkr (z13 m).rows.length (rch (z13 m) 0) (rch (lv m) 0)) ((cls m (A.getD k 0) : Nat) : Int) = (((z08 m).idxOf (cls m (A.getD k 0)) : Nat) : Int) := by
        rw [r9, zwv (by rw [zc5]; exact hck), zy8 hm hcq]
      refine ⟨_, rfl, ?_⟩
      simp only [iq]
      rw [wu (by rw [z11]; omega), zq (qo (by rw [z11]; exact hk)), hp, zq (qo (by rw [z5g]; exact h1)), hc, zq (qo (by rw [zya, zc5]; exact hck)), hi, zq (qo (by simpa using h1)), zq (qy (by omega)), z5u, zyv (g := fun s => (((z08 m).idxOf (cls m s) : Nat) : Int)) hk h1]
      rfl
    · subst hst
      simp only [iq]
      rw [uo (by rw [z11]; omega), List.take_length]
      refine congrArg some (List.map_congr_left fun s hs => ?_)
      have hs' := List.mem_range.1 hs
      unfold z95
      by_cases h : occ (rch m 0) s = true
      · rw [if_pos h, if_pos (by rw [← hA, List.mem_filter]; exact ⟨hs, h⟩)]
      · rw [if_neg h, if_neg (by rw [← hA, List.mem_filter]; exact fun h' => h h'.2)]
    · refine l6 (by simp) fun s hs => ?_
      rw [List.length_replicate] at hs
      rw [fe _ hs]
      simp [List.getD_eq_getElem?_getD, hs]
  unfold z1b
  rw [zy hj, uo (by simp), zy (merged_eq hm hN)]
  refine (zy (show z2w N (z13 m) = some (lv m, 0) from zvv hq hN)).trans ?_
  rw [uo (by simp)]
  refine (zy hiso).trans ?_
  rw [uo (by simp), zy (zl2 hN hr1 (by omega)), zy hreach]
  refine (zy hL).trans ?_
  rw [zy zmu]
theorem zca (hm : MOk m) (hN : 200 ≤ N) : yl N m = some (lv m, 0) := by
  unfold yl
  rw [zy (zsr hm hN)]
end
end GV
end Go.Proofs.YtkcccdcloealfaaGreat
