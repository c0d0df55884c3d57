import Derived.Test.YtplgbkaollfmkaaSpec06e
import Derived.Test.YtplgbkaollfmkaaLives06
set_option linter.unusedVariables false
set_option linter.unusedSimpArgs false
namespace Go.Proofs.Ytplgbkaollfmkaa
namespace GV
set_option maxRecDepth 100000
structure CDOk (x : Sgauntletlaw06_C) : Prop where
  st : 0 ≤ x.f_States ∧ x.f_States ≤ 255
  ins : 0 ≤ x.f_Inputs ∧ x.f_Inputs ≤ 255
  outs : 0 ≤ x.f_Outputs ∧ x.f_Outputs ≤ 255
  tr : ∀ k, k < x.f_Tree.length → 0 ≤ x.f_Tree.getD k default ∧ x.f_Tree.getD k default ≤ 255
  ed : ∀ k, k < x.f_Edges.length → 0 ≤ x.f_Edges.getD k default ∧ x.f_Edges.getD k default ≤ 65535
structure CMach (m : Mach) : Prop where
  ok : MOk m
  rows : m.rows.length ≤ 6
  ins : m.inputs ≤ 3
  outs : m.outputs ≤ 3
  full : ∀ s i, s < m.rows.length → i < (m.rows.getD s default).length → 0 ≤ ((m.rows.getD s default).getD i default).to
  tree : ∀ t, 0 < t → t < m.rows.length → ∃ a i, a < t ∧ i < (m.rows.getD a default).length ∧ ((m.rows.getD a default).getD i default).to = (t : Int)
def cel (X : List (List Edge)) (a i : Nat) : Edge := (X.getD a default).getD i default
structure CSh (n I : Nat) (O : Int) (X : List (List Edge)) : Prop where
  len : X.length = n
  row : ∀ a, a < n → (X.getD a default).length = I
  out : ∀ a i, a < n → i < I → 0 ≤ (cel X a i).out ∧ (cel X a i).out < O
theorem ze2 {α : Type} [Inhabited α] {X : List α} {a b : Nat} {e : α} (ha : a < X.length) : (X.set a e).getD b default = if b = a then e else X.getD b default := by
  simp only [List.getD_eq_getElem?_getD, List.getElem?_set]
  by_cases h : a = b
  · subst h; simp [ha]
  · rw [if_neg h, if_neg (fun e => h e.symm)]
def zjq (X : List (List Edge)) (a i : Nat) (e : Edge) : List (List Edge) := X.set a ((X.getD a default).set i e)
theorem zga {n I : Nat} {O : Int} {X : List (List Edge)} (h : CSh n I O X) {a i : Nat} {e : Edge} (ha : a < n) (hi : i < I) (b j : Nat) : cel (zjq X a i e) b j = if b = a ∧ j = i then e else cel X b j := by
  unfold cel zjq
  rw [ze2 (by rw [h.len]; exact ha)]
  by_cases hb : b = a
  · subst hb
    rw [if_pos rfl, ze2 (by rw [h.row b ha]; exact hi)]
    by_cases hj : j = i
    · rw [if_pos hj, if_pos ⟨rfl, hj⟩]
    · rw [if_neg hj, if_neg (fun k => hj k.2)]
  · rw [if_neg hb, if_neg (fun k => hb k.1)]
theorem zkr {n I : Nat} {O : Int} {X : List (List Edge)} (h : CSh n I O X) {a i : Nat} {e : Edge} (ha : a < n) (hi : i < I) (he : 0 ≤ e.out ∧ e.out < O) : CSh n I O (zjq X a i e) := by
  refine ⟨by unfold zjq; rw [List.length_set]; exact h.len, fun b hb => ?_, fun b j hb hj => ?_⟩
  · unfold zjq
    rw [ze2 (by rw [h.len]; exact ha)]
    by_cases hba : b = a
    · rw [if_pos hba, List.length_set]; exact h.row a ha
    · rw [if_neg hba]; exact h.row b hb
  · rw [zga h ha hi]
    split
    · exact he
    · exact h.out b j hb hj
theorem number_eq {N : Nat} {l : List Int} (hl : ∀ k, k < l.length → 0 ≤ l.getD k default ∧ l.getD k default ≤ 65535) (k : Nat) : ∃ v, oo N l (k : Int) = some v ∧ 0 ≤ v ∧ v ≤ 65535 := by
  unfold oo
  by_cases h : k < l.length
  · have := hl k h
    exact ⟨l.getD k default, by rw [vz (by omega), zx (ji h), zx (show in64 (ix l (k : Int)) from jb (show -4611686018427387904 ≤ l.getD k default ∧ l.getD k default ≤ 4611686018427387904 by omega))]; rfl, this⟩
  · exact ⟨0, by rw [vv (by omega)], by omega⟩
section cof
variable {N : Nat} {x : Sgauntletlaw06_C} {n I : Nat} {O : Int}
theorem zeu (a b : Nat) : (a : Int) * (b : Int) = ((a * b : Nat) : Int) := (Int.natCast_mul a b).symm
theorem zwb (hx : CDOk x) (hN : 200 ≤ N) (hn : (1 : Int) + x.f_States % 6 = n) (hI : (1 : Int) + x.f_Inputs % 3 = I) (hO : (1 : Int) + x.f_Outputs % 3 = O) (n1 : 1 ≤ n) (i3 : I ≤ 3) (o1 : 1 ≤ O) {s : Nat} (hs : s < 6) :
    ∃ r, gu N x (s : Int) N [] 0 = some r ∧ r.length = I ∧ ∀ j, j < I → (r.getD j default).to = -1 ∧ 0 ≤ (r.getD j default).out ∧ (r.getD j default).out < O := by
  refine iy (fun F k (acc : List Edge) => gu N x (s : Int) F acc (k : Int)) I (fun k acc => acc.length = k ∧ ∀ j, j < k → (acc.getD j default).to = -1 ∧ 0 ≤ (acc.getD j default).out ∧ (acc.getD j default).out < O) _ (fun F k acc hk hi => .inr ?_) (fun F acc hi => ?_) N 0 [] (Nat.zero_le _) (by omega) ⟨rfl, fun j hj => by omega⟩
  · obtain ⟨v, hv, hv0, hv1⟩ := number_eq (N := N) hx.ed (s * I + k)
    have hsI : s * I ≤ 6 * 3 := Nat.mul_le_mul (by omega) i3
    have hd : 0 ≤ v / (n : Int) := Int.ediv_nonneg hv0 (by omega)
    have hr := Int.emod_nonneg (v / (n : Int)) (show O ≠ 0 by omega)
    have hr2 := Int.emod_lt_of_pos (v / (n : Int)) (show 0 < O by omega)
    refine ⟨acc ++ [(⟨-1, v / (n : Int) % O⟩ : Edge)], ⟨by simp [hi.1], fun j hj => ?_⟩, ?_⟩
    · by_cases hjk : j < k
      · rw [List.getD_eq_getElem?_getD, List.getElem?_append_left (by omega), ← List.getD_eq_getElem?_getD]; exact hi.2 j hjk
      · have : j = acc.length := by omega
        subst this
        rw [List.getD_eq_getElem?_getD, List.getElem?_concat_length]
        exact ⟨rfl, hr, hr2⟩
    · simp only [gu]
      rw [hI, hn, hO, vz (by omega), zeu, zx (jb (by omega)), show ((s * I : Nat) : Int) + (k : Int) = ((s * I + k : Nat) : Int) from rfl, zx (jb (by omega)), qf hv, zx ⟨hv0, by omega, by omega⟩, zx ⟨hd, o1⟩, zx ⟨by simp only [List.length_singleton]; omega, by simp only [List.length_singleton]; omega⟩, zx (jb (by omega))]
      rfl
  · simp only [gu]
    rw [hI, vv (by omega)]
    exact ⟨_, rfl, hi⟩
theorem zv1 (hx : CDOk x) (hN : 200 ≤ N) (hn : (1 : Int) + x.f_States % 6 = n) (hI : (1 : Int) + x.f_Inputs % 3 = I) (hO : (1 : Int) + x.f_Outputs % 3 = O) (n1 : 1 ≤ n) (n6 : n ≤ 6) (i3 : I ≤ 3) (o1 : 1 ≤ O) :
    ∃ X, yu N x N 0 [] = some X ∧ CSh n I O X ∧ ∀ a i, a < n → i < I → (cel X a i).to = -1 := by
  obtain ⟨X, hX, h1, h2⟩ : ∃ X, yu N x N 0 [] = some X ∧ X.length = n ∧ ∀ a, a < n → (X.getD a default).length = I ∧ ∀ j, j < I → ((X.getD a default).getD j default).to = -1 ∧ 0 ≤ ((X.getD a default).getD j default).out ∧ ((X.getD a default).getD j default).out < O := by
    refine iy (fun F k (acc : List (List Edge)) => yu N x F (k : Int) acc) n (fun k acc => acc.length = k ∧ ∀ a, a < k → (acc.getD a default).length = I ∧ ∀ j, j < I → ((acc.getD a default).getD j default).to = -1 ∧ 0 ≤ ((acc.getD a default).getD j default).out ∧ ((acc.getD a default).getD j default).out < O) _ (fun F k acc hk hi => .inr ?_) (fun F acc hi => ?_) N 0 [] (Nat.zero_le _) (by omega) ⟨rfl, fun j hj => by omega⟩
    · obtain ⟨r, hr, hr2⟩ := zwb (N := N) (s := k) hx hN hn hI hO n1 i3 o1 (by omega)
      refine ⟨acc ++ [r], ⟨by simp [hi.1], fun a ha => ?_⟩, ?_⟩
      · by_cases hjk : a < k
        · rw [List.getD_eq_getElem?_getD (l := acc ++ [r]), List.getElem?_append_left (by omega), ← List.getD_eq_getElem?_getD]; exact hi.2 a hjk
        · have : a = acc.length := by omega
          subst this
          rw [List.getD_eq_getElem?_getD (l := acc ++ [r]), List.getElem?_concat_length]
          exact hr2
      · simp only [yu]
        rw [hn, vz (by omega), qf hr, zx ⟨by simp only [List.length_singleton]; omega, by simp only [List.length_singleton]; omega⟩, zx (jb (by omega))]
        rfl
    · simp only [yu]
      rw [hn, vv (by omega)]
      exact ⟨_, rfl, hi⟩
  exact ⟨X, hX, ⟨h1, fun a ha => (h2 a ha).1, fun a i ha hi => ((h2 a ha).2 i hi).2⟩, fun a i ha hi => ((h2 a ha).2 i hi).1⟩
theorem zuh (hN : 200 ≤ N) {X : List (List Edge)} (hI : (1 : Int) + x.f_Inputs % 3 = I) (h : CSh n I O X) (i1 : 1 ≤ I) (i3 : I ≤ 3) (n6 : n ≤ 6) {s : Nat} (hs : s < n) :
    ∃ l, w9 N x (s : Int) X N [] 0 = some l ∧ (∀ z ∈ l, ∃ k : Nat, z = (k : Int) ∧ k < s * I ∧ (cel X (k / I) (k % I)).to < 0) ∧ (∀ k : Nat, k < s * I → (cel X (k / I) (k % I)).to < 0 → ((k : Nat) : Int) ∈ l) ∧ l.length ≤ s * I := by
  have hsI : s * I ≤ 6 * 3 := Nat.mul_le_mul (by omega) i3
  have hrows : ∀ k, k < s * I → k / I < n ∧ k % I < I := fun k hk => ⟨Nat.lt_of_lt_of_le (Nat.div_lt_of_lt_mul (by rw [Nat.mul_comm]; exact hk)) (by omega), Nat.mod_lt _ (by omega)⟩
  refine iy (fun F k (acc : List Int) => w9 N x (s : Int) X F acc (k : Int)) (s * I) (fun k acc => (∀ z ∈ acc, ∃ k : Nat, z = (k : Int) ∧ k < s * I ∧ (cel X (k / I) (k % I)).to < 0) ∧ (∀ j : Nat, j < k → (cel X (j / I) (j % I)).to < 0 → ((j : Nat) : Int) ∈ acc) ∧ acc.length ≤ k) _ (fun F k acc hk hi => .inr ?_) (fun F acc hi => ?_) N 0 [] (Nat.zero_le _) (by omega) ⟨fun z hz => by simp at hz, fun j hj => by omega, by simp⟩
  · obtain ⟨ha, hb⟩ := hrows k hk
    have e1 : (k : Int) / (I : Int) = ((k / I : Nat) : Int) := rfl
    have e2 : (k : Int) % (I : Int) = ((k % I : Nat) : Int) := rfl
    have hg : ∀ (y : List Int), y = (if (cel X (k / I) (k % I)).to < 0 then acc ++ [((k : Nat) : Int)] else acc) →
        w9 N x (s : Int) X (F + 1) acc (k : Int) = w9 N x (s : Int) X F y ((k + 1 : Nat) : Int) := fun y hy => by
      simp only [w9]
      rw [hI, zeu, zx (jb (by omega)), vz (by omega), e1, e2]
      refine (qf (x := y) ?_).trans (by rw [zx (jb (by omega))]; rfl)
      rw [zx ⟨by omega, by omega, by omega⟩, zx (ji (by rw [h.len]; exact ha)), zx ⟨by omega, by omega⟩, r9, zx (ji (by rw [h.row _ ha]; exact hb)), r9]
      show (bif decide ((cel X (k / I) (k % I)).to < 0) then _ else _) = _
      by_cases hc : (cel X (k / I) (k % I)).to < 0
      · rw [vz hc, hy, if_pos hc]
        exact zx ⟨by simp only [List.length_singleton]; omega, by simp only [List.length_singleton]; omega⟩
      · rw [vv hc, hy, if_neg hc]
    refine ⟨_, ?_, hg _ rfl⟩
    by_cases hc : (cel X (k / I) (k % I)).to < 0
    · rw [if_pos hc]
      refine ⟨fun z hz => ?_, fun j hj hj2 => ?_, by simp; omega⟩
      · rcases List.mem_append.1 hz with hz | hz
        · exact hi.1 z hz
        · rw [List.mem_singleton] at hz
          exact ⟨k, hz, hk, hc⟩
      · by_cases e : j = k
        · subst e; simp
        · exact List.mem_append_left _ (hi.2.1 j (by omega) hj2)
    · rw [if_neg hc]
      refine ⟨hi.1, fun j hj hj2 => ?_, by omega⟩
      by_cases e : j = k
      · subst e; exact absurd hj2 hc
      · exact hi.2.1 j (by omega) hj2
  · simp only [w9]
    rw [hI, zeu, zx (jb (by omega)), vv (by omega)]
    exact ⟨_, rfl, hi⟩
structure CTree (n I : Nat) (O : Int) (s : Nat) (X : List (List Edge)) : Prop where
  sh : CSh n I O X
  rng : ∀ a i, a < n → i < I → (cel X a i).to = -1 ∨ (0 ≤ (cel X a i).to ∧ (cel X a i).to < n)
  late : ∀ a i, s ≤ a + 1 → a < n → i < I → (cel X a i).to = -1
  tree : ∀ t, 0 < t → t < s → ∃ a i, a < t ∧ i < I ∧ (cel X a i).to = (t : Int)
theorem zlq {s : Nat} {X : List (List Edge)} (h : CTree n I O s X) (hs : 0 < s) (hn : s < n) {a i : Nat} (ha : a < s) (hi : i < I) (hc : (cel X a i).to < 0) : CTree n I O (s + 1) (zjq X a i ⟨(s : Int), (cel X a i).out⟩) := by
  have cs := fun b j => zga h.sh (e := ⟨(s : Int), (cel X a i).out⟩) (show a < n by omega) hi b j
  refine ⟨zkr h.sh (by omega) hi (h.sh.out a i (by omega) hi), fun b j hb hj => ?_, fun b j hsb hb hj => ?_, fun t ht0 ht => ?_⟩
  · rw [cs]
    split
    · exact .inr ⟨by simp, by simp; omega⟩
    · exact h.rng b j hb hj
  · rw [cs, if_neg (fun e => by omega)]
    exact h.late b j (by omega) hb hj
  · by_cases e : t = s
    · subst e
      exact ⟨a, i, ha, hi, by rw [cs, if_pos ⟨rfl, rfl⟩]⟩
    · obtain ⟨b, j, hb, hj, hto⟩ := h.tree t ht0 (by omega)
      refine ⟨b, j, hb, hj, ?_⟩
      rw [cs, if_neg]
      · exact hto
      · rintro ⟨rfl, rfl⟩; omega
theorem zv9 (hx : CDOk x) (hN : 200 ≤ N) {X : List (List Edge)} (hn : (1 : Int) + x.f_States % 6 = n) (hI : (1 : Int) + x.f_Inputs % 3 = I) (i1 : 1 ≤ I) (i3 : I ≤ 3) (n1 : 1 ≤ n) (n6 : n ≤ 6) (h : CTree n I O 1 X) :
    ∃ Y, gp N x N 1 X = some Y ∧ CTree n I O n Y := by
  refine iy (fun F k (acc : List (List Edge)) => gp N x F (k : Int) acc) n (fun k acc => 0 < k ∧ CTree n I O k acc) _ (fun F s acc hs hi => .inr ?_) (fun F acc hi => ?_) N 1 X n1 (by omega) ⟨by omega, h⟩
  · obtain ⟨hs0, hT⟩ := hi
    obtain ⟨l, hl, hl1, hl2, hl3⟩ := zuh (x := x) hN hI hT.sh i1 i3 n6 hs
    have hsI : s * I ≤ 6 * 3 := Nat.mul_le_mul (by omega) i3
    have hpos : 0 < l.length := by
      have e1 : ((s - 1) * I) / I = s - 1 := Nat.mul_div_cancel _ (by omega)
      have e2 : ((s - 1) * I) % I = 0 := Nat.mul_mod_left _ _
      have := hl2 ((s - 1) * I) (Nat.mul_lt_mul_of_pos_right (by omega) (by omega)) (by rw [e1, e2, hT.late (s - 1) 0 (by omega) (by omega) (by omega)]; omega)
      exact List.length_pos_of_mem this
    obtain ⟨q, hq, hqe⟩ : ∃ q, q < l.length ∧ (bd (
      gd (in64 ((s : Int) - 1)) <|
      bif decide (((s : Int) - 1) < (x.f_Tree.length : Int)) then (
      gd (in64 ((s : Int) - 1)) <|
      gd (okI x.f_Tree ((s : Int) - 1)) <|
      gd (in64 (ix x.f_Tree ((s : Int) - 1))) <|
      gd (okR (ix x.f_Tree ((s : Int) - 1)) (l.length : Int)) <|
      gd (okI l ((ix x.f_Tree ((s : Int) - 1)) % (l.length : Int))) <|
      some (ix l ((ix x.f_Tree ((s : Int) - 1)) % (l.length : Int)))) else (
      some (ix l 0))) some) = some (l.getD q default) := by
      rw [zx (jb (by omega)), show (s : Int) - 1 = ((s - 1 : Nat) : Int) by omega]
      by_cases ht : s - 1 < x.f_Tree.length
      · have htr := hx.tr _ ht
        refine ⟨(x.f_Tree.getD (s - 1) default).toNat % l.length, Nat.mod_lt _ hpos, ?_⟩
        have e : x.f_Tree.getD (s - 1) default % (l.length : Int) = (((x.f_Tree.getD (s - 1) default).toNat % l.length : Nat) : Int) := by
          rw [Int.natCast_emod, Int.toNat_of_nonneg htr.1]
        rw [vz (by omega), zx (jb (by omega)), zx (ji ht), r9, zx (jb (by omega)), zx ⟨htr.1, by omega⟩, e, zx (ji (Nat.mod_lt _ hpos))]
        rfl
      · exact ⟨0, hpos, by rw [vv (by omega)]; rfl⟩
    obtain ⟨k, hk, hks, hkc⟩ := hl1 _ (sj hq)
    have ha : k / I < s := Nat.div_lt_of_lt_mul (by rw [Nat.mul_comm]; exact hks)
    have hb : k % I < I := Nat.mod_lt _ (by omega)
    have e1 : (k : Int) / (I : Int) = ((k / I : Nat) : Int) := rfl
    have e2 : (k : Int) % (I : Int) = ((k % I : Nat) : Int) := rfl
    refine ⟨zjq acc (k / I) (k % I) ⟨(s : Int), (cel acc (k / I) (k % I)).out⟩, ⟨by omega, zlq hT hs0 hs ha hb hkc⟩, ?_⟩
    simp only [gp]
    rw [hI, hn, vz (by omega), qf hl, zx (show okI l 0 from ⟨by omega, by omega⟩)]
    have hqe' := hqe
    rw [hk] at hqe'
    refine (qf (x := (k : Int)) ?_).trans ?_
    · obtain ⟨y, h1, h2⟩ := zt hqe'
      rw [h1, ← h2]
    · rw [e1, e2, zx ⟨by omega, by omega, by omega⟩, zx (ji (by rw [hT.sh.len]; omega)), zx ⟨by omega, by omega⟩, r9, zx (ji (by rw [hT.sh.row _ (by omega)]; exact hb)), zx (jb (by omega))]
      rfl
  · simp only [gp]
    rw [hn, vv (by omega)]
    exact ⟨_, rfl, hi.2⟩
structure CFill (n I : Nat) (O : Int) (s k : Nat) (X : List (List Edge)) : Prop where
  sh : CSh n I O X
  rng : ∀ a i, a < n → i < I → (cel X a i).to = -1 ∨ (0 ≤ (cel X a i).to ∧ (cel X a i).to < n)
  done : ∀ a i, a < n → i < I → (a < s ∨ (a = s ∧ i < k)) → 0 ≤ (cel X a i).to
  tree : ∀ t, 0 < t → t < n → ∃ a i, a < t ∧ i < I ∧ (cel X a i).to = (t : Int)
theorem zop (hx : CDOk x) (hN : 200 ≤ N) {X : List (List Edge)} (hn : (1 : Int) + x.f_States % 6 = n) (hI : (1 : Int) + x.f_Inputs % 3 = I) (i3 : I ≤ 3) (n1 : 1 ≤ n) (n6 : n ≤ 6) {s : Nat} (hs : s < n) (h : CFill n I O s 0 X) :
    ∃ Y, wh N x (s : Int) N 0 X = some Y ∧ CFill n I O s I Y := by
  have hsI : s * I ≤ 6 * 3 := Nat.mul_le_mul (by omega) i3
  refine iy (fun F k (acc : List (List Edge)) => wh N x (s : Int) F (k : Int) acc) I (fun k acc => CFill n I O s k acc) _ (fun F k acc hk hT => .inr ?_) (fun F acc hi => ?_) N 0 X (Nat.zero_le _) (by omega) h
  · obtain ⟨v, hv, hv0, hv1⟩ := number_eq (N := N) hx.ed (s * I + k)
    have hr := Int.emod_nonneg v (show (n : Int) ≠ 0 by omega)
    have hr2 := Int.emod_lt_of_pos v (show 0 < (n : Int) by omega)
    have hg : ∀ Y, Y = (if (cel acc s k).to < 0 then zjq acc s k ⟨v % (n : Int), (cel acc s k).out⟩ else acc) → wh N x (s : Int) (F + 1) (k : Int) acc = wh N x (s : Int) F ((k + 1 : Nat) : Int) Y := fun Y hY => by
      simp only [wh]
      rw [hI, hn, vz (by omega)]
      refine (qf (x := Y) ?_).trans (by rw [zx (jb (by omega))]; rfl)
      have k1 : okI acc (s : Int) := ji (by rw [hT.sh.len]; exact hs)
      have k2 : okI (ix acc (s : Int)) (k : Int) := ji (show k < (acc.getD s default).length by rw [hT.sh.row _ hs]; exact hk)
      rw [zx k1, zx k2]
      show (bif decide ((cel acc s k).to < 0) then _ else _) = _
      by_cases hc : (cel acc s k).to < 0
      · rw [vz hc, hY, if_pos hc, zx k1, zeu, zx (jb (by omega)), show ((s * I : Nat) : Int) + (k : Int) = ((s * I + k : Nat) : Int) from rfl, zx (jb (by omega)), qf hv, zx ⟨hv0, by omega⟩, zx k2]
        rfl
      · rw [vv hc, hY, if_neg hc]
    refine ⟨_, ?_, hg _ rfl⟩
    by_cases hc : (cel acc s k).to < 0
    · rw [if_pos hc]
      have cs := fun b j => zga hT.sh (e := ⟨v % (n : Int), (cel acc s k).out⟩) hs hk b j
      refine ⟨zkr hT.sh hs hk (hT.sh.out s k hs hk), fun b j hb hj => ?_, fun b j hb hj hd => ?_, fun t ht0 ht => ?_⟩
      · rw [cs]
        split
        · exact .inr ⟨hr, hr2⟩
        · exact hT.rng b j hb hj
      · rw [cs]
        split
        · exact hr
        · rename_i hne
          exact hT.done b j hb hj (by rcases hd with hd | ⟨rfl, hd⟩; exact .inl hd; exact .inr ⟨rfl, by have : ¬ j = k := fun e => hne ⟨rfl, e⟩; omega⟩)
      · obtain ⟨b, j, hb, hj, hto⟩ := hT.tree t ht0 ht
        refine ⟨b, j, hb, hj, ?_⟩
        rw [cs, if_neg]
        · exact hto
        · rintro ⟨rfl, rfl⟩; omega
    · rw [if_neg hc]
      refine ⟨hT.sh, hT.rng, fun b j hb hj hd => ?_, hT.tree⟩
      by_cases e : b = s ∧ j = k
      · obtain ⟨rfl, rfl⟩ := e; omega
      · exact hT.done b j hb hj (by rcases hd with hd | ⟨rfl, hd⟩; exact .inl hd; exact .inr ⟨rfl, by have : ¬ j = k := fun e' => e ⟨rfl, e'⟩; omega⟩)
  · simp only [wh]
    rw [hI, vv (by omega)]
    exact ⟨_, rfl, hi⟩
theorem zuf (hx : CDOk x) (hN : 200 ≤ N) {X : List (List Edge)} (hn : (1 : Int) + x.f_States % 6 = n) (hI : (1 : Int) + x.f_Inputs % 3 = I) (i3 : I ≤ 3) (n1 : 1 ≤ n) (n6 : n ≤ 6) (h : CFill n I O 0 0 X) :
    ∃ Y, gq N x N 0 X = some Y ∧ CFill n I O n 0 Y := by
  refine iy (fun F k (acc : List (List Edge)) => gq N x F (k : Int) acc) n (fun k acc => CFill n I O k 0 acc) _ (fun F s acc hs hT => .inr ?_) (fun F acc hi => ?_) N 0 X (Nat.zero_le _) (by omega) h
  · obtain ⟨Y, hY, hYT⟩ := zop (N := N) hx hN hn hI i3 n1 n6 hs hT
    refine ⟨Y, ⟨hYT.sh, hYT.rng, fun a i ha hi hd => hYT.done a i ha hi (by rcases hd with hd | ⟨_, hd⟩; exact (Nat.lt_or_ge a s).imp id (fun _ => ⟨by omega, hi⟩); omega), hYT.tree⟩, ?_⟩
    simp only [gq]
    rw [hn, vz (by omega), qf hY, zx (jb (by omega))]
    rfl
  · simp only [gq]
    rw [hn, vv (by omega)]
    exact ⟨_, rfl, hi⟩
end cof
theorem zsq {N : Nat} {x : Sgauntletlaw06_C} (hx : CDOk x) (hN : 200 ≤ N) : ∃ m, ry N x = some m ∧ CMach m ∧ (m.rows.length : Int) = 1 + x.f_States % 6 := by
  obtain ⟨h1, h2⟩ := hx.st; obtain ⟨h3, h4⟩ := hx.ins; obtain ⟨h5, h6⟩ := hx.outs
  obtain ⟨n, hn⟩ : ∃ n : Nat, (1 : Int) + x.f_States % 6 = n := ⟨((1 : Int) + x.f_States % 6).toNat, by omega⟩
  obtain ⟨I, hI⟩ : ∃ n : Nat, (1 : Int) + x.f_Inputs % 3 = n := ⟨((1 : Int) + x.f_Inputs % 3).toNat, by omega⟩
  obtain ⟨O, hO⟩ : ∃ O : Int, (1 : Int) + x.f_Outputs % 3 = O := ⟨_, rfl⟩
  have n1 : 1 ≤ n := by omega
  have n6 : n ≤ 6 := by omega
  have i1 : 1 ≤ I := by omega
  have i3 : I ≤ 3 := by omega
  have o1 : 1 ≤ O := by omega
  have o3 : O ≤ 3 := by omega
  obtain ⟨X, hX, sX, fX⟩ := zv1 (N := N) hx hN hn hI hO n1 n6 i3 o1
  obtain ⟨Y, hY, tY⟩ := zv9 (N := N) (O := O) hx hN hn hI i1 i3 n1 n6 (X := X) ⟨sX, fun a i ha hi => .inl (fX a i ha hi), fun a i _ ha hi => fX a i ha hi, fun t h0 h1 => by omega⟩
  obtain ⟨Z, hZ, tZ⟩ := zuf (N := N) (O := O) hx hN hn hI i3 n1 n6 (X := Y) ⟨tY.sh, tY.rng, fun a i ha hi hd => by omega, tY.tree⟩
  refine ⟨⟨(1 : Int) + x.f_Inputs % 3, (1 : Int) + x.f_Outputs % 3, Z⟩, ?_, ?_, by rw [hn]; exact congrArg Nat.cast tZ.sh.len⟩
  · unfold ry
    rw [zx ⟨by omega, by omega⟩, zx (jb (by omega)), zx (jb (by omega)), zx ⟨by omega, by omega⟩, zx (jb (by omega)), zx (jb (by omega)), zx ⟨by omega, by omega⟩, zx (jb (by omega)), zx (jb (by omega)), qf hX, qf hY, qf hZ]
  · rw [hI, hO]
    have hrow : ∀ s, s < Z.length → (Z.getD s default).length = I := fun s hs => tZ.sh.row s (by rw [tZ.sh.len] at hs; exact hs)
    have hlen := tZ.sh.len
    have hdone : ∀ s i, s < n → i < I → 0 ≤ (cel Z s i).to := fun s i hs hi => tZ.done s i hs hi (.inl hs)
    refine ⟨⟨by show 1 ≤ (I : Int); omega, by show (I : Int) ≤ 16; omega, o1, by show O ≤ 16; omega, by show 1 ≤ Z.length; omega, by show Z.length ≤ 64; omega, fun s hs => by rw [hrow s hs], fun s i hs hi => ?_⟩, by show Z.length ≤ 6; omega, by show (I : Int) ≤ 3; omega, o3, fun s i hs hi => ?_, fun t ht0 ht => ?_⟩
    · have hs' : s < Z.length := hs
      have hi' : i < (Z.getD s default).length := hi
      rw [hrow s hs'] at hi'
      rw [hlen] at hs'
      have h7 := hdone s i hs' hi'
      have h8 := tZ.rng s i hs' hi'
      have h9 := tZ.sh.out s i hs' hi'
      exact .inr ⟨h7, by show (cel Z s i).to < (Z.length : Int); omega, h9.1, h9.2⟩
    · have hs' : s < Z.length := hs
      have hi' : i < (Z.getD s default).length := hi
      rw [hrow s hs'] at hi'
      rw [hlen] at hs'
      exact hdone s i hs' hi'
    · have ht' : t < Z.length := ht
      obtain ⟨a, i, ha, hi, hto⟩ := tZ.tree t ht0 (by omega)
      exact ⟨a, i, ha, by show i < (Z.getD a default).length; rw [hrow a (by omega)]; exact hi, hto⟩
theorem zuk {N : Nat} {x : Sgauntletlaw06_C} (hx : CDOk x) (hN : 200 ≤ N) : ∃ m, ry N x = some m ∧ CMach m := by
  obtain ⟨m, h1, h2, _⟩ := zsq hx hN
  exact ⟨m, h1, h2⟩
theorem CMach.all {m : Mach} (h : CMach m) : ∀ t, t < m.rows.length → ∃ j, j < (rch m 0).length ∧ ((rch m 0).getD j default).st = t := by
  have hm := h.ok
  have hP := zqq hm (s0 := 0) (by have := hm.r1; omega)
  generalize rch m 0 = P at hP ⊢
  intro t
  induction t using Nat.strongRecOn with
  | ind t ih =>
    intro ht
    by_cases h0 : t = 0
    · subst h0; exact ⟨0, hP.pos, by rw [hP.root]⟩
    · obtain ⟨a, i, ha, hi, hto⟩ := h.tree t (by omega) ht
      obtain ⟨q, hq, hqa⟩ := ih a ha (by omega)
      have hrow := hm.row a (by omega)
      have he : ed m (P.getD q default).st i = (t : Int) := by rw [hqa]; exact hto
      obtain ⟨j, hj, h1, _⟩ := hP.cls q i hq (by omega) (by rw [he]; omega)
      exact ⟨j, hj, by omega⟩
theorem CMach.len {m : Mach} (h : CMach m) : (rch m 0).length = m.rows.length := by
  have hm := h.ok
  have hP := zqq hm (s0 := 0) (by have := hm.r1; omega)
  have hall := h.all
  generalize rch m 0 = P at hP hall ⊢
  have h1 := hP.le
  have hsub : List.range m.rows.length ⊆ P.map (·.st) := by
    intro t ht
    rw [List.mem_range] at ht
    obtain ⟨j, hj, hst⟩ := hall t ht
    exact List.mem_map.2 ⟨_, sj hj, hst⟩
  have := List.Nodup.length_le_of_subset List.nodup_range hsub
  rw [List.length_range, List.length_map] at this
  omega
end GV
end Go.Proofs.Ytplgbkaollfmkaa
