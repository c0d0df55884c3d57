import Derived.Test.YtplgbkaollfmkaaLaw39a
set_option linter.unusedVariables false
set_option linter.unusedSimpArgs false
namespace Go.Proofs.Ytplgbkaollfmkaa
namespace GV
set_option maxRecDepth 1000000
def togM : Mach := ⟨2, 2, [[⟨1, 0⟩, ⟨0, 0⟩], [⟨0, 1⟩, ⟨1, 0⟩]]⟩
def onesW : List Int := List.replicate 1024 1
theorem z0q : onesW.length = 1024 := by unfold onesW; rw [List.length_replicate]
theorem z3g {α : Type} [Inhabited α] (n k : Nat) (a : α) (h : k < n) : (List.replicate n a).getD k default = a := by
  rw [List.getD_eq_getElem?_getD, List.getElem?_replicate_of_lt h]; rfl
theorem zqp {α : Type} (n k : Nat) (a : α) : (List.replicate n a).set k a = List.replicate n a := by
  apply List.ext_getElem (by simp)
  intro i h1 h2
  rw [List.getElem_set]; simp
theorem zja : ww 2000 togM [0] = some 0 := by kernel_rfl
theorem zoo : l8 2000 togM onesW = some 0 := by
  rw [zfe (by decide)]
  have hb : onesW.any (zds togM) = false := by
    rw [Bool.eq_false_iff]
    intro h
    obtain ⟨x, hx, hb⟩ := List.any_eq_true.1 h
    rw [List.eq_of_mem_replicate hx] at hb
    exact absurd hb (by decide)
  unfold z4w
  rw [z0q, if_neg (by decide), hb, if_neg Bool.false_ne_true]
theorem zqf {k : Nat} (h : k < 1024) : ix onesW (k : Int) = 1 := z3g 1024 k 1 h
theorem zrd : w9 2000 togM onesW 2000 0 (mk 1 (0 : Int)) = some (List.replicate 1025 0) := by
  refine bq (σ := List Int) (fun F k X => w9 2000 togM onesW F (k : Int) X) 1024 (fun k X => X = List.replicate (k + 1) 0) _ (fun F k X hk hi => .inr ?_) (fun F X hi => ?_) 2000 0 _ (Nat.zero_le _) (by omega) rfl
  · subst hi
    refine ⟨_, rfl, ?_⟩
    simp only [w9]
    have hx : ix (List.replicate (k + 1) (0 : Int)) (k : Int) = 0 := z3g (k + 1) k 0 (by omega)
    rw [mr (by rw [z0q]; omega), zu (ji (by rw [z0q]; exact hk)), zu (ji (by simp)), hx, zqf hk, zu (show okI togM.rows 0 by decide), zu (show okI (ix togM.rows 0) 1 by decide)]
    have hf : fits 8 (List.replicate (k + 1) (0 : Int)) ([(ix (ix togM.rows 0) 1).to] : List Int) := ⟨by rw [List.length_replicate, List.length_singleton]; omega, by rw [List.length_replicate, List.length_singleton]; omega⟩
    rw [zu hf, zu (jb (by omega)), show (ix (ix togM.rows 0) 1).to = 0 from rfl, ← List.replicate_succ']; rfl
  · subst hi
    simp only [w9]
    rw [p9 (by rw [z0q]; omega)]
theorem zqh {k : Nat} (h : k < 1024) : cut onesW (k : Int) ((k : Int) + 1) = [1] := by
  unfold cut onesW
  rw [List.drop_replicate, List.take_replicate, show min (((k : Int) + 1).toNat - ((k : Int)).toNat) (1024 - ((k : Int)).toNat) = 1 by omega]
  rfl
theorem eq_one : slices_Equal_int 2000 ([1] : List Int) ([0] : List Int) = some false := by kernel_rfl
theorem zrs : wh 2000 ([0] : List Int) onesW (List.replicate 1025 0) 2000 0 (List.replicate 1025 false) (List.replicate 1025 false) = some (List.replicate 1025 false, List.replicate 1025 false) := by
  refine bq (σ := Unit) (fun F k _ => wh 2000 ([0] : List Int) onesW (List.replicate 1025 0) F (k : Int) (List.replicate 1025 false) (List.replicate 1025 false)) 1025 (fun k _ => True) _ (fun F k _ hk _ => .inr ⟨(), trivial, ?_⟩) (fun F _ _ => ?_) 2000 0 () (Nat.zero_le _) (by omega) trivial
  · simp only [wh]
    have hl : ∀ n (a : Bool), (List.replicate n a).length = n := fun n a => List.length_replicate
    have hup : up (List.replicate 1025 false) (k : Int) false = List.replicate 1025 false := by rw [z1t]; exact zqp _ _ _
    have hx : ix (List.replicate 1025 false) (k : Int) = false := z3g 1025 k false hk
    have hok : okI (List.replicate 1025 false) (k : Int) := ji (by rw [hl]; exact hk)
    rw [mr (by rw [List.length_replicate]; omega), zu (jb (by rw [List.length_singleton]; omega)), zu (fun _ => jb (by rw [List.length_singleton]; omega))]
    rw [zu (fun h => by
      have h1 : (k : Int) + 1 ≤ 1024 := by
        have h2 := h
        simp only [Bool.true_and, beq_iff_eq, decide_eq_true_iff, z0q, List.length_singleton] at h2
        omega
      exact ⟨by omega, by rw [List.length_singleton]; omega, by rw [List.length_singleton, z0q]; omega⟩)]
    have hg : ∃ y, gop (true && ((decide ((k : Int) + (([0] : List Int).length : Int) ≤ (onesW.length : Int))) == true)) (slices_Equal_int 2000 (cut onesW (k : Int) ((k : Int) + (([0] : List Int).length : Int))) [0]) = some y ∧ (decide ((k : Int) + (([0] : List Int).length : Int) ≤ (onesW.length : Int)) && y.getD default) = false := by
      by_cases h : k < 1024
      · refine ⟨some false, ?_, by simp⟩
        have e1 : decide ((k : Int) + (([0] : List Int).length : Int) ≤ (onesW.length : Int)) = true := decide_eq_true (by rw [z0q, List.length_singleton]; omega)
        rw [e1, show (([0] : List Int).length : Int) = 1 from rfl, zqh h, eq_one]; rfl
      · have e1 : decide ((k : Int) + (([0] : List Int).length : Int) ≤ (onesW.length : Int)) = false := decide_eq_false (by rw [z0q, List.length_singleton]; omega)
        rw [e1]
        exact ⟨none, rfl, rfl⟩
    obtain ⟨y, hy, hy2⟩ := hg
    rw [qh hy, hy2, zu hok, hup, zu hok, zu hok, zu (jb (by omega)), hx, hup]; rfl
  · simp only [wh]
    rw [p9 (by rw [List.length_replicate]; omega)]
theorem zr8 {s : Nat} (hs : s < 1025) : wm 2000 togM onesW (List.replicate 1025 0) (List.replicate 1025 false, List.replicate 1025 false) (s : Int) 2000 0 (List.replicate 1025 false) = some (List.replicate 1025 false) := by
  refine bq (σ := Unit) (fun F k _ => wm 2000 togM onesW (List.replicate 1025 0) (List.replicate 1025 false, List.replicate 1025 false) (s : Int) F (k : Int) (List.replicate 1025 false)) 1025 (fun k _ => True) _ (fun F k _ hk _ => .inr ⟨(), trivial, ?_⟩) (fun F _ _ => ?_) 2000 0 () (Nat.zero_le _) (by omega) trivial
  · simp only [wm]
    have hx : ix (List.replicate 1025 false) (k : Int) = false := z3g 1025 k false hk
    rw [mr (by rw [List.length_replicate]; omega)]
    refine (qh (x := List.replicate 1025 false) ?_).trans ?_
    · rw [hx]
      rw [zu (fun _ => ji (by rw [List.length_replicate]; exact hk))]
      rw [Bool.and_false, Bool.false_and, Bool.false_and]
      refine (zu (fun h => absurd h (by decide))).trans ?_
      refine (zu (fun h => absurd h (by decide))).trans ?_
      refine (zu (fun h => absurd h (by decide))).trans ?_
      rfl
    · exact zu (jb (by omega))
  · simp only [wm]
    rw [p9 (by rw [List.length_replicate]; omega)]
theorem zs2 : ut 2000 togM onesW (List.replicate 1025 0) (List.replicate 1025 false, List.replicate 1025 false) 2000 0 (List.replicate 1025 false) = some (List.replicate 1025 false) := by
  refine bq (σ := Unit) (fun F k _ => ut 2000 togM onesW (List.replicate 1025 0) (List.replicate 1025 false, List.replicate 1025 false) F (k : Int) (List.replicate 1025 false)) 1025 (fun k _ => True) _ (fun F k _ hk _ => .inr ⟨(), trivial, ?_⟩) (fun F _ _ => ?_) 2000 0 () (Nat.zero_le _) (by omega) trivial
  · simp only [ut]
    rw [mr (by rw [List.length_replicate]; omega), qh (zr8 hk)]
    exact zu (jb (by omega))
  · simp only [ut]
    rw [p9 (by rw [List.length_replicate]; omega)]
theorem ziq : gz 2000 togM ([0] : List Int) onesW = some (some ⟨togM, onesW, List.replicate 1025 0, List.replicate 1025 false, List.replicate 1025 false⟩, 0) := by
  unfold gz
  have e : mk ((onesW.length : Int) + 1) false = List.replicate 1025 false := by rw [z0q]; rfl
  rw [qh zja, p9 (by decide), qh zoo, p9 (by decide), e, z0q]
  refine (zu (by decide)).trans ?_
  refine (zu (by decide)).trans ?_
  refine (zu (by decide)).trans ?_
  refine (zu (by decide)).trans ?_
  refine (zu (by decide)).trans ?_
  refine (zu (by decide)).trans ?_
  rw [qh zrd, qh zrs, qh zs2]
theorem zll (t : Schecks_track) (h : t.f_at = List.replicate 1025 0) : nk 2000 t (List.replicate 1025 false) = some (List.replicate 1025 (-1)) := by
  unfold nk
  rw [h]
  have h1 : ak 2000 (List.replicate 1025 (0 : Int)) = some (List.replicate 1025 0) := by
    unfold ak
    rw [zu ⟨by rw [List.length_replicate]; decide, by rw [List.length_replicate]; decide⟩]; rfl
  have h2 : iq 2000 (List.replicate 1025 (0 : Int)) = some (List.replicate 1025 0) := by
    unfold iq
    rw [zu (zbs _), z7g]
  rw [qh h1, qh h2]
  refine (qh (x := List.replicate 1025 (-1)) ?_).trans rfl
  refine bq (σ := List Int) (fun F k X => yf 2000 (List.replicate 1025 false) F (k : Int) X) 1025 (fun k X => X = List.replicate k (-1) ++ List.replicate (1025 - k) 0) _ (fun F k X hk hi => .inr ?_) (fun F X hi => ?_) 2000 0 _ (Nat.zero_le _) (by omega) rfl
  · subst hi
    refine ⟨_, rfl, ?_⟩
    simp only [yf]
    have hx : ix (List.replicate 1025 false) (k : Int) = false := z3g 1025 k false hk
    have hs : (List.replicate k (-1 : Int) ++ List.replicate (1025 - k) 0).set k (-1) = List.replicate (k + 1) (-1) ++ List.replicate (1025 - (k + 1)) 0 := by
      rw [List.set_append_right _ _ (by simp), List.length_replicate, Nat.sub_self, show 1025 - k = (1025 - (k + 1)) + 1 by omega, List.replicate_succ, List.set_cons_zero, List.replicate_succ' (n := k), List.append_assoc]; rfl
    rw [mr (by rw [List.length_replicate]; omega)]
    refine (qh (x := List.replicate (k + 1) (-1) ++ List.replicate (1025 - (k + 1)) 0) ?_).trans (zu (jb (by omega)))
    rw [zu (ji (by rw [List.length_replicate]; exact hk)), hx]
    refine (ct rfl).trans ?_
    rw [zu (ji (by rw [List.length_append, List.length_replicate, List.length_replicate]; omega)), z1t, hs]
  · subst hi
    simp only [yf]
    rw [p9 (by rw [List.length_replicate]; omega), Nat.sub_self, List.replicate_zero, List.append_nil]
theorem zk5 : oq 2000 togM ([0] : List Int) onesW = some (List.replicate 1025 (-1), 0) := by
  unfold oq
  rw [qh ziq, p9 (by decide)]
  refine (zu rfl).trans ?_
  exact (qh (zll _ rfl))
theorem zrv : jm 2000 2000 ([] : List Int) 0 = some onesW := by
  refine bq (σ := List Int) (fun F k X => jm 2000 F X (k : Int)) 1024 (fun k X => X = List.replicate k 1) _ (fun F k X hk hi => .inr ?_) (fun F X hi => ?_) 2000 0 _ (Nat.zero_le _) (by omega) rfl
  · subst hi
    refine ⟨_, rfl, ?_⟩
    simp only [jm]
    have hf : fits 8 (List.replicate k (1 : Int)) ([1] : List Int) := ⟨by rw [List.length_replicate, List.length_singleton]; omega, by rw [List.length_replicate, List.length_singleton]; omega⟩
    rw [mr (by omega), zu hf, zu (jb (by omega)), ← List.replicate_succ']; rfl
  · subst hi
    simp only [jm]
    rw [p9 (by omega)]; rfl
end GV
end Go.Proofs.Ytplgbkaollfmkaa
