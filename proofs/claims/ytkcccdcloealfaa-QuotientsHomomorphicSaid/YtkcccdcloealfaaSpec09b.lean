import Derived.Test.YtkcccdcloealfaaSpec09a
import Derived.Test.YtkcccdcloealfaaSpec06k
set_option linter.unusedVariables false
set_option linter.unusedSimpArgs false
namespace Go.Proofs.Ytkcccdcloealfaa
namespace GV
set_option maxRecDepth 100000
/-! ### First ones, merged -/
def fcI (m : Mach) (s : Nat) : Int := (cls m s : Int)
theorem zh7 {m : Mach} (s t : Nat) : fcI m s = fcI m t ↔ cls m s = cls m t := by unfold fcI; omega
theorem zr7 {m : Mach} {s : Nat} : name (fcI m) s = cls m s := by
  rw [z5c (g := cls m) (n := s + 1) (fun a b _ _ => zh7 a b) (Nat.lt_succ_self s), z4v]
theorem zju {m : Mach} {s : Nat} : iy (fcI m) s = iy (cls m) s := zan (n := s + 1) (fun a b _ _ => zh7 a b) (Nat.lt_succ_self s)
theorem zsz {m : Mach} {s : Nat} : cntF (fcI m) s = cntF (cls m) s := zai (n := s) (fun a b _ _ => zh7 a b) (Nat.le_refl s)
theorem z7z {m : Mach} : (z1u m).length = m.rows.length := zi2 _
theorem z8i {m : Mach} {s : Nat} (hs : s < m.rows.length) : (z1u m).getD s default = (cls m s : Int) := zl7 hs
section
variable {N : Nat} {m : Mach}
theorem zp9 (hm : MOk m) (hN : 200 ≤ N) : ae N (z1u m) = some (fo (ak (cls m) m.rows.length), z1u m) := by
  have hr2 := hm.r2; have hl := z7z (m := m)
  have hL : y8 N (z1u m) N ([] : List Int) 0 ([] : List (Int × Int)) (mk ((z1u m).length : Int) (0 : Int)) = some (fo (ak (cls m) m.rows.length), z1u m) := by
    refine xc (σ := List Int × List (Int × Int) × List Int) (fun F k st => y8 N (z1u m) F st.1 (k : Int) st.2.1 st.2.2) m.rows.length
      (fun k st => st.1 = fo (ak (cls m) k) ∧ st.2.1 = nmM (fcI m) k ∧ st.2.2 = (List.range k).map (fun s => (cls m s : Int)) ++ List.replicate (m.rows.length - k) 0) _ (fun F k st hk hi => .inr ?_) (fun F st hi => ?_) N 0 ([], [], mk ((z1u m).length : Int) (0 : Int)) (Nat.zero_le _) (by omega) ⟨rfl, rfl, by rw [hl, z88]; simp⟩
    · obtain ⟨A, M, X⟩ := st
      obtain ⟨hA, hM, hX⟩ := hi
      dsimp only at hA hM hX ⊢
      subst hA; subst hM; subst hX
      have htl : ((List.range k).map (fun s => (cls m s : Int))).length = k := by simp
      have hcl : (fo (ak (cls m) k)).length = cntF (cls m) k := by rw [r9, z00]
      have hcle := z6u (cls m) k
      have hkey : ix (z1u m) (k : Int) = fcI m k := z8i hk
      refine ⟨(fo (ak (cls m) (k + 1)), nmM (fcI m) (k + 1), (List.range (k + 1)).map (fun s => (cls m s : Int)) ++ List.replicate (m.rows.length - (k + 1)) 0), ⟨rfl, rfl, rfl⟩, ?_⟩
      simp only [y8]
      rw [dn (by omega), zu (j5 (by omega)), hkey]
      refine (qf (x := (fo (ak (cls m) (k + 1)), nmM (fcI m) (k + 1))) ?_).trans ?_
      · cases h : z0x (nmM (fcI m) k) (fcI m k)
        · refine (ct (b := !false) rfl).trans ?_
          have hf : iy (cls m) k = true := by
            rw [← zju]
            exact pu.2 fun t ht e => by
              have := (z7k (fcI m) (fcI m k) k).2 ⟨t, ht, e⟩
              rw [h] at this; cases this
          rw [zu ⟨by rw [hcl]; simp only [List.length_singleton]; omega, by rw [hcl]; simp only [List.length_singleton]; omega⟩]
          have e1 : ((fo (ak (cls m) k)).length : Int) = ((nmM (fcI m) k).length : Int) := by rw [hcl, zgy, zsz]
          rw [e1, zmt _ h, z96, if_pos hf]
          unfold fo
          rw [List.map_append]; rfl
        · refine (cf (b := !true) rfl).trans ?_
          have hf : ¬ iy (cls m) k = true := fun hf => by
            rw [← zju] at hf
            obtain ⟨t, ht, e⟩ := (z7k (fcI m) (fcI m k) k).1 h
            exact pu.1 hf t ht e
          rw [zmo _ h, z96, if_neg hf, List.append_nil]
      · have hget : lm (0 : Int) (nmM (fcI m) (k + 1)) (fcI m k) = (cls m k : Int) := by rw [zhk _ _ (Nat.lt_succ_self k), zr7]
        rw [zu (j5 (by rw [List.length_append, htl, List.length_replicate]; omega)), zu (jg (by omega)), hget, z6v, zew htl hk, z1m]
        rfl
    · obtain ⟨A, M, X⟩ := st
      obtain ⟨hA, hM, hX⟩ := hi
      dsimp only at hA hM hX ⊢
      subst hA; subst hX
      simp only [y8]
      rw [xw (by omega), Nat.sub_self, List.replicate_zero, List.append_nil]; rfl
  unfold ae
  rw [zu ⟨by omega, by omega, by omega⟩, qf hL]
def gE (m : Mach) (e : Edge) : Edge := ⟨hI (cls m) e.to, e.out⟩
theorem zro (hm : MOk m) (hN : 200 ≤ N) {u : Nat} (hu : u < m.rows.length) (A : List Int) : xh N (A, z1u m) (m.rows.getD u default) N 0 (m.rows.getD u default) = some ((m.rows.getD u default).map (gE m)) := by
  have hi2 := hm.i2; have hr2 := hm.r2
  have hrow := hm.row u hu
  generalize hR : m.rows.getD u default = R at *
  refine xc (σ := List Edge) (fun F i st => xh N (A, z1u m) R F (i : Int) st) R.length (fun i st => st = (R.take i).map (gE m) ++ R.drop i) _ (fun F i st hi hq => .inr ?_) (fun F st hq => ?_) N 0 R (Nat.zero_le _) (by omega) (by simp)
  · subst hq
    have htl : ((R.take i).map (gE m)).length = i := by rw [List.length_map, List.length_take]; omega
    have hlen : ((R.take i).map (gE m) ++ R.drop i).length = R.length := by rw [List.length_append, htl, List.length_drop]; omega
    have hget : ix ((R.take i).map (gE m) ++ R.drop i) (i : Int) = R.getD i default := by
      rw [si, z5z R i hi, List.getD_eq_getElem?_getD, List.getElem?_append_right (by omega), htl, Nat.sub_self]
      rfl
    have hed := hm.edge u i hu (by rw [hR]; exact hi)
    rw [hR] at hed
    have hset : ∀ z, ((R.take i).map (gE m) ++ R.drop i).set i z = ((R.take i).map (gE m) ++ [z]) ++ R.drop (i + 1) := fun z => by
      rw [z5z R i hi, List.set_append_right _ _ (by omega), htl, Nat.sub_self]; simp
    have hnext : (R.take (i + 1)).map (gE m) = (R.take i).map (gE m) ++ [gE m (R.getD i default)] := by
      rw [z5b R i hi, List.map_append]; rfl
    refine ⟨_, rfl, ?_⟩
    simp only [xh]
    rw [dn (by omega), hnext]
    refine (qf (x := ((R.take i).map (gE m) ++ [gE m (R.getD i default)]) ++ R.drop (i + 1)) ?_).trans ?_
    · rw [zu (j5 (by rw [hlen]; exact hi)), hget]
      rcases hed with ⟨h1, h2⟩ | ⟨h1, h2, _, _⟩
      · rw [xw (fun h => h h1), ← hset]
        have : gE m (R.getD i default) = R.getD i default := by
          unfold gE; rw [h1, zet]
          generalize R.getD i default = e at *
          cases e; simp only at h1; rw [h1]
        rw [this]
        refine congrArg some (rz (by rw [List.length_set]) fun j hj => ?_)
        simp only [List.getD_eq_getElem?_getD, List.getElem?_set]
        by_cases e : i = j
        · subst e
          rw [if_pos rfl, if_pos (by rw [hlen]; exact hi), ← List.getD_eq_getElem?_getD]
          exact hget
        · rw [if_neg e]
      · have hne : ¬ (R.getD i default).to = -1 := by omega
        rw [dn hne, zu ⟨h1, by rw [z7z]; omega⟩, zu (j5 (by rw [hlen]; exact hi)), z6v, hset]
        have : ix (z1u m) (R.getD i default).to = hI (cls m) (R.getD i default).to := by
          unfold hI
          rw [if_neg hne]
          exact z8i (by omega)
        rw [this]; rfl
    · rw [zu (jg (by omega))]; rfl
  · subst hq
    simp only [xh]
    rw [xw (by omega), List.drop_length, List.take_length, List.append_nil]
theorem merged_eq (hm : MOk m) (hN : 200 ≤ N) : lv N m (z1u m) = some (z06 m, z1u m) := by
  have hr2 := hm.r2; have hi2 := hm.i2
  have hcn := z6u (cls m) m.rows.length
  have hpl : (fo (ak (cls m) m.rows.length)).length = cntF (cls m) m.rows.length := by rw [r9, z00]
  have hL : xn N m (fo (ak (cls m) m.rows.length), z1u m) N 0 ([] : List (List Edge)) = some (z06 m).rows := by
    refine xc (σ := List (List Edge)) (fun F c st => xn N m (fo (ak (cls m) m.rows.length), z1u m) F (c : Int) st) (cntF (cls m) m.rows.length)
      (fun c st => st = ((ak (cls m) m.rows.length).take c).map fun u => (m.rows.getD u default).map (gE m)) _ (fun F c st hc hq => .inr ?_) (fun F st hq => ?_) N 0 [] (Nat.zero_le _) (by omega) rfl
    · subst hq
      obtain ⟨h1, h2, h3⟩ := z0w hc
      have hfl : c < (ak (cls m) m.rows.length).length := by rw [z00]; exact hc
      have hp : ix (fo (ak (cls m) m.rows.length)) (c : Int) = (((ak (cls m) m.rows.length).getD c 0 : Nat) : Int) := z4e hfl
      have hrow := hm.row _ h1
      refine ⟨_, rfl, ?_⟩
      simp only [xn]
      have hrx : ix m.rows (((ak (cls m) m.rows.length).getD c 0 : Nat) : Int) = m.rows.getD ((ak (cls m) m.rows.length).getD c 0) default := rfl
      rw [dn (by rw [hpl]; omega), zu (j5 (by rw [hpl]; exact hc)), hp, zu (j5 h1), hrx]
      refine (qf (x := m.rows.getD ((ak (cls m) m.rows.length).getD c 0) default) ?_).trans ?_
      · unfold om
        rw [zu ⟨by simp only [List.length_nil]; omega, by simp only [List.length_nil]; omega⟩, List.nil_append]
      refine (qf (zro hm hN h1 _)).trans ?_
      refine (qf (x := (m.rows.getD ((ak (cls m) m.rows.length).getD c 0) default).map (gE m)) ?_).trans ?_
      · unfold ru
        rw [zu (zms _), zlx]
      have hll : (((ak (cls m) m.rows.length).take c).map fun u => (m.rows.getD u default).map (gE m)).length = c := by rw [List.length_map, List.length_take]; omega
      rw [zu ⟨by rw [hll]; simp only [List.length_singleton]; omega, by rw [hll]; simp only [List.length_singleton]; omega⟩, zu (jg (by omega))]
      have : (ak (cls m) m.rows.length).take (c + 1) = (ak (cls m) m.rows.length).take c ++ [(ak (cls m) m.rows.length).getD c 0] := z5b _ c hfl
      rw [this, List.map_append]; rfl
    · subst hq
      simp only [xn]
      rw [xw (by rw [hpl]; omega), List.take_of_length_le (by rw [z00]; exact Nat.le_refl _)]; rfl
  unfold lv
  rw [qf (zp9 hm hN), qf hL]
  rfl
/-! ### The map -/
def z4p (m : Mach) : List Nat := fq (rch (z06 m) 0)
def zx0 (m : Mach) (s : Nat) : Int := if occ (rch m 0) s = true then (((z4p m).idxOf (cls m s) : Nat) : Int) else -1
def zx3 (m : Mach) : List Int := (List.range m.rows.length).map (zx0 m)
theorem zx2 (hm : MOk m) : rch (z06 m) 0 = z6a (cls m) (rch m 0) := by
  have := zuo (zdi hm) (s0 := 0) (by have := hm.r1; omega)
  rwa [zed] at this
theorem zwo (hm : MOk m) : Rch (z06 m) 0 (rch (z06 m) 0) := z3u (za0 hm)
theorem zt4 (hm : MOk m) {s : Nat} (h : occ (rch m 0) s = true) : cls m s ∈ z4p m := by
  obtain ⟨j, hj, rfl⟩ := z0i.1 h
  unfold z4p
  rw [zx2 hm, z8z]
  obtain ⟨h1, h2, h3⟩ := rf (z0s (cls m) (rch m 0)) j
  obtain ⟨k1, k2⟩ := zdm (h := cls m) (P := rch m 0) (u := z1t (z0s (cls m) (rch m 0)) j) (by omega) (z2e _ _)
  exact ⟨_, by rw [zjg]; exact k1, by rw [k2]; exact h2⟩
theorem zq0 (hm : MOk m) {c : Nat} (hc : c ∈ z4p m) : zta (rch (z06 m) 0) (rch (z3z m) 0) c = (((z4p m).idxOf c : Nat) : Int) := by
  have hq := za0 hm
  have hP := zwo hm
  obtain ⟨o1, o2⟩ := zez hP
  have hren := zmc hq (l7 hP) o1
  rw [o2] at hren
  have hmin : z3z m = nk (z06 m) (fq (rch (z06 m) 0)) := rfl
  have hocc : occ (rch (z06 m) 0) c = true := z0i.2 (z8z.1 hc)
  unfold zta
  rw [if_pos hocc, hmin, hren]
  obtain ⟨h1, h2⟩ := z3x hc
  have hlt : (z4p m).idxOf c < (rch (z06 m) 0).length := by rw [← z2f]; exact h1
  show ((((rch (z06 m) 0).map (ren (fq (rch (z06 m) 0)))).getD ((z4p m).idxOf c) default).st : Int) = _
  rw [getD_map hlt]
  show (((z4p m).idxOf (((rch (z06 m) 0).getD ((z4p m).idxOf c) default).st) : Nat) : Int) = _
  rw [← z4k _ hlt]
  show (((z4p m).idxOf ((z4p m).getD ((z4p m).idxOf c) 0) : Nat) : Int) = _
  rw [h2]
theorem zsy {n : Nat} {g : Nat → Int} {A : List Nat} {k : Nat} (hk : k < A.length) (hlt : A.getD k 0 < n) : ((List.range n).map fun s => if s ∈ A.take k then g s else -1).set (A.getD k 0) (g (A.getD k 0)) = (List.range n).map fun s => if s ∈ A.take (k + 1) then g s else -1 := by
  refine rz (by simp) fun s hs => ?_
  rw [List.length_set, List.length_map, List.length_range] at hs
  have ht : A.take (k + 1) = A.take k ++ [A.getD k 0] := z5b A k hk
  rw [bq _ hs, List.getD_eq_getElem?_getD, List.getElem?_set, ht]
  by_cases e : A.getD k 0 = s
  · rw [if_pos e, if_pos (by simpa using hlt), if_pos (List.mem_append.2 (.inr (List.mem_singleton.2 e.symm))), e]; rfl
  · rw [if_neg e, ← List.getD_eq_getElem?_getD, bq _ hs]
    by_cases h : s ∈ A.take k
    · rw [if_pos h, if_pos (List.mem_append.2 (.inl h))]
    · rw [if_neg h, if_neg (fun h' => by rcases List.mem_append.1 h' with h' | h'; exact h h'; exact e (List.mem_singleton.1 h').symm)]
theorem zrm (hm : MOk m) (hN : 200 ≤ N) : lw N m = some (z3z m, zx3 m, 0) := by
  have hr1 := hm.r1; have hr2 := hm.r2
  have hq := za0 hm
  obtain ⟨j, hj⟩ := zee (N := N) hm hN
  have hP := z3u hm
  have hreach : z1r N m = some (fo ((List.range m.rows.length).filter fun s => occ (rch m 0) s), 0) := by
    rw [zqf hm hN, zrf hP]; rfl
  generalize hA : (List.range m.rows.length).filter (fun s => occ (rch m 0) s) = A at hreach
  have hAm : ∀ k, k < A.length → A.getD k 0 < m.rows.length ∧ occ (rch m 0) (A.getD k 0) = true := fun k hk => by
    have hmem : A.getD k 0 ∈ A := by simp [List.getD_eq_getElem?_getD, hk]
    have hmem' : A.getD k 0 ∈ (List.range m.rows.length).filter (fun s => occ (rch m 0) s) := by rw [hA]; exact hmem
    rw [List.mem_filter, List.mem_range] at hmem'
    exact hmem'
  have hAl : A.length ≤ m.rows.length := by
    rw [← hA]; exact Nat.le_trans (List.length_filter_le _ _) (by simp)
  have hiso : ay N (z06 m) (z3z m) = some (zfe (z06 m).rows.length (rch (z06 m) 0) (rch (z3z m) 0), true, 0) := by
    rw [zui hq (zqa hm) hN, if_pos (show z3p (z06 m) = z3p (z3z m) from (zn9 hq).symm)]
  have hL : bn N (z06 m, z1u m) (zfe (z06 m).rows.length (rch (z06 m) 0) (rch (z3z m) 0), true, 0) (fo A, 0) N 0 (List.replicate m.rows.length (-1)) = some (zx3 m) := by
    refine xc (σ := List Int) (fun F k st => bn N (z06 m, z1u m) (zfe (z06 m).rows.length (rch (z06 m) 0) (rch (z3z m) 0), true, 0) (fo A, 0) F (k : Int) st) A.length
      (fun k st => st = (List.range m.rows.length).map fun s => if s ∈ A.take k then (((z4p m).idxOf (cls m s) : Nat) : Int) else -1) _ (fun F k st hk hst => .inr ?_) (fun F st hst => ?_) N 0 _ (Nat.zero_le _) (by omega) ?_
    · subst hst
      obtain ⟨h1, h2⟩ := hAm k hk
      have hcq := zt4 hm h2
      have hck := zab (m := m) h1
      have hp : ix (fo A) (k : Int) = ((A.getD k 0 : Nat) : Int) := z4e hk
      have hc : ix (z1u m) ((A.getD k 0 : Nat) : Int) = ((cls m (A.getD k 0) : Nat) : Int) := z8i h1
      have hi : ix (zfe (z06 m).rows.length (rch (z06 m) 0) (rch (z3z m) 0)) ((cls m (A.getD k 0) : Nat) : Int) = (((z4p m).idxOf (cls m (A.getD k 0)) : Nat) : Int) := by
        rw [si, zqb (by rw [zb9]; exact hck), zq0 hm hcq]
      refine ⟨_, rfl, ?_⟩
      simp only [bn]
      rw [dn (by rw [r9]; omega), zu (j5 (by rw [r9]; exact hk)), hp, zu (j5 (by rw [z7z]; exact h1)), hc, zu (j5 (by rw [zr9, zb9]; exact hck)), hi, zu (j5 (by simpa using h1)), zu (jg (by omega)), z6v, zsy (g := fun s => (((z4p m).idxOf (cls m s) : Nat) : Int)) hk h1]
      rfl
    · subst hst
      simp only [bn]
      rw [xw (by rw [r9]; omega), List.take_length]
      refine congrArg some (List.map_congr_left fun s hs => ?_)
      have hs' := List.mem_range.1 hs
      unfold zx0
      by_cases h : occ (rch m 0) s = true
      · rw [if_pos h, if_pos (by rw [← hA, List.mem_filter]; exact ⟨hs, h⟩)]
      · rw [if_neg h, if_neg (by rw [← hA, List.mem_filter]; exact fun h' => h h'.2)]
    · refine rz (by simp) fun s hs => ?_
      rw [List.length_replicate] at hs
      rw [bq _ hs]
      simp [List.getD_eq_getElem?_getD, hs]
  unfold lw
  rw [qf hj, xw (by simp), qf (merged_eq hm hN)]
  refine (qf (show su N (z06 m) = some (z3z m, 0) from zp5 hq hN)).trans ?_
  rw [xw (by simp)]
  refine (qf hiso).trans ?_
  rw [xw (by simp), qf (zgj hN hr1 (by omega)), qf hreach]
  refine (qf hL).trans ?_
  rw [qf zgv]
theorem zdy (hm : MOk m) (hN : 200 ≤ N) : bg N m = some (z3z m, 0) := by
  unfold bg
  rw [qf (zrm hm hN)]
end
end GV
end Go.Proofs.Ytkcccdcloealfaa
