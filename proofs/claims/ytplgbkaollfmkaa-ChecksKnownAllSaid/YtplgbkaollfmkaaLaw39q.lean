import Derived.Test.YtplgbkaollfmkaaLaw39p
import Derived.Test.YtplgbkaollfmkaaLaw39k
set_option linter.unusedVariables false
set_option linter.unusedSimpArgs false
namespace Go.Proofs.Ytplgbkaollfmkaa
namespace GV
set_option maxRecDepth 1000000
def knC (m : Mach) (d w : List Int) (k : Nat) (p : Nat × Nat) : Bool :=
  idB d w k || (decide (p.1 ≠ p.2) && decide (p.1 < w.length + 1) && decide (p.2 < k) && decide (k < w.length + 1) && decide (p.1 + (k - p.2) < w.length + 1) && idB d w p.1 && idB d w p.2 && decide (xe m 0 (w.take p.1) = xe m 0 (w.take p.2)) && ((List.range (k - p.2)).all fun t => decide (w.getD (p.1 + t) default = w.getD (p.2 + t) default)) && idB d w (p.1 + (k - p.2)))
theorem zoq {m : Mach} {d w : List Int} {k : Nat} {p : Nat × Nat} (h : knC m d w k p = true) : z8p m d w k := by
  unfold knC at h
  rw [Bool.or_eq_true] at h
  rcases h with h | h
  · exact .inl h
  simp only [Bool.and_eq_true, decide_eq_true_iff, List.all_eq_true, List.mem_range] at h
  obtain ⟨⟨⟨⟨⟨⟨⟨⟨⟨h1, h2⟩, h3⟩, h4⟩, h5⟩, h6⟩, h7⟩, h8⟩, h9⟩, h10⟩ := h
  refine .inr ⟨p.2, by omega, p.1, h2, ⟨h1, h6, h7, h8⟩, k - p.2 - 1, by omega, fun t ht => ⟨by omega, by omega, h9 t (by omega)⟩, ?_⟩
  rwa [show p.1 + (k - p.2 - 1) + 1 = p.1 + (k - p.2) by omega]
def zre (m : Mach) (d w : List Int) (s i : Nat) (v : Nat × (Nat × Nat) × (Nat × Nat)) : Bool :=
  decide (v.1 < w.length) && decide (xe m 0 (w.take v.1) = (s : Int)) && decide (w.getD v.1 default = (i : Int)) && knC m d w v.1 v.2.1 && knC m d w (v.1 + 1) v.2.2
theorem zpt {m : Mach} {d w : List Int} {s i : Nat} {v : Nat × (Nat × Nat) × (Nat × Nat)} (h : zre m d w s i v = true) : z5x m d w (s : Int) (i : Int) := by
  unfold zre at h
  simp only [Bool.and_eq_true, decide_eq_true_iff] at h
  obtain ⟨⟨⟨⟨h1, h2⟩, h3⟩, h4⟩, h5⟩ := h
  exact ⟨v.1, h1, h2, h3, zoq h4, zoq h5⟩
def zcb (m : Mach) (d w : List Int) (f : List Nat) (v : List (Nat × (Nat × Nat) × (Nat × Nat))) : Bool :=
  idB d w 0 && ((List.range m.rows.length).all fun s => decide (f.getD s 0 < w.length + 1) && decide (xe m 0 (w.take (f.getD s 0)) = (s : Int)) && idB d w (f.getD s 0)) && ((List.range m.rows.length).all fun s => (List.range m.inputs.toNat).all fun i => zre m d w s i (v.getD (m.inputs.toNat * s + i) default))
theorem zes {m : Mach} {d w : List Int} : ∀ k, (∀ s : Nat, s < k → z9m m d w (s : Int)) → missS m d w k = []
  | 0, _ => rfl
  | k + 1, h => by rw [zbz, zes k (fun s hs => h s (by omega)), if_pos (h k (by omega))]; rfl
theorem zef {m : Mach} {d w : List Int} {s : Nat} : ∀ k, (∀ i : Nat, i < k → z5x m d w (s : Int) (i : Int)) → missR m d w s k = []
  | 0, _ => rfl
  | k + 1, h => by rw [zc8, zef k (fun s hs => h s (by omega)), if_pos (h k (by omega))]; rfl
theorem ze7 {m : Mach} {d w : List Int} : ∀ k, (∀ s : Nat, s < k → ∀ i : Nat, i < m.inputs.toNat → z5x m d w (s : Int) (i : Int)) → missE m d w k = []
  | 0, _ => rfl
  | k + 1, h => by rw [z8s, ze7 k (fun s hs => h s (by omega)), zef _ (h k (by omega))]; rfl
open Classical in
theorem zq5 {m : Mach} {d w : List Int} (h0 : z8p m d w 0) (hS : ∀ s : Nat, s < m.rows.length → z9m m d w (s : Int)) (hE : ∀ s : Nat, s < m.rows.length → ∀ i : Nat, i < m.inputs.toNat → z5x m d w (s : Int) (i : Int)) : verR m d w = ⟨true, [], []⟩ := by
  unfold verR
  rw [zes _ hS, ze7 _ hE, decide_eq_true h0]
theorem znu {m : Mach} {d w : List Int} {f : List Nat} {v : List (Nat × (Nat × Nat) × (Nat × Nat))} (h : zcb m d w f v = true) : verR m d w = ⟨true, [], []⟩ := by
  unfold zcb at h
  simp only [Bool.and_eq_true, decide_eq_true_iff, List.all_eq_true, List.mem_range] at h
  obtain ⟨⟨h1, h2⟩, h3⟩ := h
  exact zq5 (.inl h1) (fun s hs => ⟨_, (h2 s hs).1.1, (h2 s hs).1.2, (h2 s hs).2⟩) fun s hs i hi => zpt (h3 s hs i hi)
theorem zsq {N : Nat} {m : Mach} {d : List Int} (hm : MOk m) (hd : d.length ≤ 256) (hN : 1100 ≤ N) (h : ww N m d = some 0) : canI m d = 0 := by
  rw [znf hm.small (by omega) (by omega)] at h
  exact Option.some.inj h
theorem z9s {m : Mach} {d w : List Int} {f : List Nat} {v : List (Nat × (Nat × Nat) × (Nat × Nat))} (hm : MOk m) (hc : ig m = true) (h0 : ww 2000 m d = some 0) (hd : d.length ≤ 256) (hw : z4w m w = 0) (hk : zcb m d w f v = true) :
    xx 2000 m d w = some (⟨true, [], []⟩, 0) := by
  rw [zgz hm hc (zsq hm hd (by decide) h0) hd hw (by decide), znu hk]
def z5k : Mach := ⟨2, 2, [[⟨1, 0⟩, ⟨1, 0⟩], [⟨0, 1⟩, ⟨0, 1⟩]]⟩
def zfv : List Int := [0, 0, 0, 0, 0, 0, 1, 0, 0, 0, 0, 1, 0]
def zsc : List Nat := [0, 1]
def zrg : List (Nat × (Nat × Nat) × (Nat × Nat)) := [(0, (0, 0), (0, 0)), (6, (0, 2), (0, 0)), (1, (0, 0), (0, 0)), (11, (1, 7), (0, 0))]
theorem zpi : uu 2000 2 2 = some z5k := by kernel_rfl
theorem zq3 : xg 2000 z5k (mk (2 - 1) (0 : Int)) = some (zfv, 0) := by kernel_rfl
theorem zox : ww 2000 z5k (mk (2 - 1) (0 : Int)) = some 0 := by kernel_rfl
theorem zp4 : ww 2000 z5k (cut (mk (2 - 1) (0 : Int)) 1 ((mk (2 - 1) (0 : Int)).length : Int)) = some 12 := by kernel_rfl
theorem zow : zcb z5k (mk (2 - 1) (0 : Int)) zfv zsc zrg = true := by kernel_rfl
theorem zbl : (ni z5k = 0 ∧ ig z5k = true) ∧ (mk (2 - 1) (0 : Int)).length ≤ 256 ∧ z4w z5k zfv = 0 := by decide +kernel
theorem zp1 : xx 2000 z5k (mk (2 - 1) (0 : Int)) zfv = some (⟨true, [], []⟩, 0) := z9s ((o8 _).1 zbl.1.1) zbl.1.2 zox zbl.2.1 zbl.2.2 zow
def z5o : Mach := ⟨2, 2, [[⟨1, 0⟩, ⟨1, 0⟩], [⟨2, 0⟩, ⟨2, 0⟩], [⟨0, 1⟩, ⟨0, 1⟩]]⟩
def zfl : List Int := [0, 0, 0, 0, 0, 0, 0, 0, 0, 0, 0, 0, 0, 0, 0, 0, 0, 0, 0, 0, 0, 0, 0, 0, 0, 0, 0, 1, 0, 0, 0, 0, 0, 0, 0, 0, 0, 0, 0, 0, 0, 0, 0, 1, 0, 0, 0, 0, 0, 0, 0, 0, 0, 0, 0, 0, 0, 0, 0, 1, 0, 0]
def zsb : List Nat := [0, 1, 2]
def zr5 : List (Nat × (Nat × Nat) × (Nat × Nat)) := [(0, (0, 0), (0, 0)), (27, (0, 3), (0, 0)), (1, (0, 0), (0, 0)), (43, (1, 28), (0, 0)), (2, (0, 0), (0, 0)), (59, (2, 44), (0, 0))]
theorem zqo : uu 2000 3 2 = some z5o := by kernel_rfl
theorem zpl : xg 2000 z5o (mk (3 - 1) (0 : Int)) = some (zfl, 0) := by kernel_rfl
theorem zql : ww 2000 z5o (mk (3 - 1) (0 : Int)) = some 0 := by kernel_rfl
theorem zpw : ww 2000 z5o (cut (mk (3 - 1) (0 : Int)) 1 ((mk (3 - 1) (0 : Int)).length : Int)) = some 12 := by kernel_rfl
theorem zqk : zcb z5o (mk (3 - 1) (0 : Int)) zfl zsb zr5 = true := by kernel_rfl
theorem zbp : (ni z5o = 0 ∧ ig z5o = true) ∧ (mk (3 - 1) (0 : Int)).length ≤ 256 ∧ z4w z5o zfl = 0 := by decide +kernel
theorem zqq : xx 2000 z5o (mk (3 - 1) (0 : Int)) zfl = some (⟨true, [], []⟩, 0) := z9s ((o8 _).1 zbp.1.1) zbp.1.2 zql zbp.2.1 zbp.2.2 zqk
def z5r : Mach := ⟨2, 2, [[⟨1, 0⟩, ⟨1, 0⟩], [⟨2, 0⟩, ⟨2, 0⟩], [⟨3, 0⟩, ⟨3, 0⟩], [⟨0, 1⟩, ⟨0, 1⟩]]⟩
def zff : List Int := [0, 0, 0, 0, 0, 0, 0, 0, 0, 0, 0, 0, 0, 0, 0, 0, 0, 0, 0, 0, 0, 0, 0, 0, 0, 0, 0, 0, 0, 0, 0, 0, 0, 0, 0, 0, 0, 0, 0, 0, 1, 0, 0, 0, 0, 0, 0, 0, 0, 0, 0, 0, 0, 0, 0, 0, 0, 0, 0, 0, 0, 1, 0, 0, 0, 0, 0, 0, 0, 0, 0, 0, 0, 0, 0, 0, 0, 0, 0, 0, 0, 0, 1, 0, 0, 0, 0, 0, 0, 0, 0, 0, 0, 0, 0, 0, 0, 0, 0, 0, 0, 0, 0, 1, 0, 0, 0]
def zrr : List Nat := [0, 1, 2, 3]
def zr9 : List (Nat × (Nat × Nat) × (Nat × Nat)) := [(0, (0, 0), (0, 0)), (40, (0, 4), (0, 0)), (1, (0, 0), (0, 0)), (61, (1, 41), (0, 0)), (2, (0, 0), (0, 0)), (82, (2, 62), (0, 0)), (3, (0, 0), (0, 0)), (103, (3, 83), (0, 0))]
theorem zq6 : uu 2000 4 2 = some z5r := by kernel_rfl
theorem zpg : xg 2000 z5r (mk (4 - 1) (0 : Int)) = some (zff, 0) := by kernel_rfl
theorem zp0 : ww 2000 z5r (mk (4 - 1) (0 : Int)) = some 0 := by kernel_rfl
theorem zpu : ww 2000 z5r (cut (mk (4 - 1) (0 : Int)) 1 ((mk (4 - 1) (0 : Int)).length : Int)) = some 12 := by kernel_rfl
theorem zpx : zcb z5r (mk (4 - 1) (0 : Int)) zff zrr zr9 = true := by kernel_rfl
theorem zbh : (ni z5r = 0 ∧ ig z5r = true) ∧ (mk (4 - 1) (0 : Int)).length ≤ 256 ∧ z4w z5r zff = 0 := by decide +kernel
theorem zp9 : xx 2000 z5r (mk (4 - 1) (0 : Int)) zff = some (⟨true, [], []⟩, 0) := z9s ((o8 _).1 zbh.1.1) zbh.1.2 zp0 zbh.2.1 zbh.2.2 zpx
def z5p : Mach := ⟨2, 2, [[⟨1, 0⟩, ⟨1, 0⟩], [⟨2, 0⟩, ⟨2, 0⟩], [⟨3, 0⟩, ⟨3, 0⟩], [⟨4, 0⟩, ⟨4, 0⟩], [⟨0, 1⟩, ⟨0, 1⟩]]⟩
def zf9 : List Int := [0, 0, 0, 0, 0, 0, 0, 0, 0, 0, 0, 0, 0, 0, 0, 0, 0, 0, 0, 0, 0, 0, 0, 0, 0, 0, 0, 0, 0, 0, 0, 0, 0, 0, 0, 0, 0, 0, 0, 0, 0, 0, 0, 0, 0, 0, 0, 0, 0, 0, 0, 0, 0, 0, 0, 1, 0, 0, 0, 0, 0, 0, 0, 0, 0, 0, 0, 0, 0, 0, 0, 0, 0, 0, 0, 0, 0, 0, 0, 0, 0, 1, 0, 0, 0, 0, 0, 0, 0, 0, 0, 0, 0, 0, 0, 0, 0, 0, 0, 0, 0, 0, 0, 0, 0, 0, 0, 1, 0, 0, 0, 0, 0, 0, 0, 0, 0, 0, 0, 0, 0, 0, 0, 0, 0, 0, 0, 0, 0, 0, 0, 0, 0, 1, 0, 0, 0, 0, 0, 0, 0, 0, 0, 0, 0, 0, 0, 0, 0, 0, 0, 0, 0, 0, 0, 0, 0, 0, 0, 1, 0, 0, 0, 0]
def zrj : List Nat := [0, 1, 2, 3, 4]
def zrx : List (Nat × (Nat × Nat) × (Nat × Nat)) := [(0, (0, 0), (0, 0)), (55, (0, 5), (0, 0)), (1, (0, 0), (0, 0)), (81, (1, 56), (0, 0)), (2, (0, 0), (0, 0)), (107, (2, 82), (0, 0)), (3, (0, 0), (0, 0)), (133, (3, 108), (0, 0)), (4, (0, 0), (0, 0)), (159, (4, 134), (0, 0))]
theorem zq4 : uu 2000 5 2 = some z5p := by kernel_rfl
theorem zpo : xg 2000 z5p (mk (5 - 1) (0 : Int)) = some (zf9, 0) := by kernel_rfl
theorem zqj : ww 2000 z5p (mk (5 - 1) (0 : Int)) = some 0 := by kernel_rfl
theorem zpc : ww 2000 z5p (cut (mk (5 - 1) (0 : Int)) 1 ((mk (5 - 1) (0 : Int)).length : Int)) = some 12 := by kernel_rfl
theorem zoz : zcb z5p (mk (5 - 1) (0 : Int)) zf9 zrj zrx = true := by kernel_rfl
theorem zbn : (ni z5p = 0 ∧ ig z5p = true) ∧ (mk (5 - 1) (0 : Int)).length ≤ 256 ∧ z4w z5p zf9 = 0 := by decide +kernel
theorem zph : xx 2000 z5p (mk (5 - 1) (0 : Int)) zf9 = some (⟨true, [], []⟩, 0) := z9s ((o8 _).1 zbn.1.1) zbn.1.2 zqj zbn.2.1 zbn.2.2 zoz
theorem z9u {N F : Nat} {n : Int} {m : Mach} {w : List Int} (hn : 2 ≤ n ∧ n < 6) (h1 : uu N n 2 = some m) (h2 : xg N m (mk (n - 1) (0 : Int)) = some (w, 0)) (h3 : xx N m (mk (n - 1) (0 : Int)) w = some (⟨true, [], []⟩, 0))
    (h4 : ww N m (cut (mk (n - 1) (0 : Int)) 1 ((mk (n - 1) (0 : Int)).length : Int)) = some 12) : je N (F + 1) n = je N F (n + 1) := by
  rw [je]
  have hl : (mk (n - 1) (0 : Int)).length = (n - 1).toNat := List.length_replicate
  refine (mr hn.2).trans ?_
  refine (qh h1).trans ?_
  refine (zu (jb (by omega))).trans ?_
  refine (zu ⟨by omega, by omega, by omega⟩).trans ?_
  refine (qh h2).trans ?_
  refine (qh h3).trans ?_
  refine (zkx rfl (show om N ⟨true, [], []⟩ = some true from rfl)).trans ?_
  refine (zu (fun _ => ⟨by omega, by omega, by omega⟩)).trans ?_
  refine (zkx rfl h4).trans ?_
  refine (cf rfl).trans ?_
  exact zu (jb (by omega))
theorem zrh : ∀ F, je 2000 (F + 5) 2 = some (Ex.go ()) := fun F => by
  refine (z9u (F := F + 4) (by omega) zpi zq3 zp1 zp4).trans ?_
  refine (z9u (F := F + 3) (by omega) zqo zpl zqq zpw).trans ?_
  refine (z9u (F := F + 2) (by omega) zq6 zpg zp9 zpu).trans ?_
  refine (z9u (F := F + 1) (by omega) zq4 zpo zph zpc).trans ?_
  rfl
theorem zpe : bd (uu 2000 20 2) (fun y => xg 2000 y (mk 19 (0 : Int))) = some ([], 3) := by kernel_rfl
theorem zp3 : oq 2000 togM ([0] : List Int) (mk 1025 (0 : Int)) = some ([], 3) := by
  unfold oq
  have hf : gz 2000 togM ([0] : List Int) (mk 1025 (0 : Int)) = some (none, 3) := by
    unfold gz
    rw [qh zja]
    refine (p9 (fun h => h rfl)).trans ?_
    have e : l8 2000 togM (mk 1025 (0 : Int)) = some 3 := by
      rw [zfe (by decide)]
      unfold z4w
      rw [if_pos (by simp [mk])]
    rw [qh e]; rfl
  rw [qh hf]; rfl
theorem zpk : xg 2000 (⟨3, 1, [[⟨0, 0⟩, ⟨0, 0⟩, ⟨0, 0⟩]]⟩ : Mach) ([] : List Int) = some ([0, 1, 2], 0) := by kernel_rfl
theorem zol : yo 2000 ([0, 1, 2] : List Int) ([0, 1, 2] : List Int) = some true := by kernel_rfl
theorem znn : ww 2000 (⟨1, 2, [[⟨1, 0⟩], [⟨1, 1⟩]]⟩ : Mach) ([0] : List Int) = some 7 := by kernel_rfl
theorem zfs : bu 2000 = some true := by
  unfold bu
  refine (qh (show je 2000 2000 2 = _ from zrh 1995)).trans ?_
  refine Eq.trans zm5 ?_
  obtain ⟨y, h1, h2⟩ : ∃ y, uu 2000 20 2 = some y ∧ xg 2000 y (mk 19 (0 : Int)) = some ([], 3) := by
    have h := zpe
    cases e : uu 2000 20 2 with
    | none => rw [e] at h; exact absurd h (by intro q; cases q)
    | some y => rw [e] at h; exact ⟨y, rfl, h⟩
  have ht : pu 2000 = some togM := rfl
  refine (qh h1).trans ?_
  refine (zu (by decide)).trans ?_
  refine (qh h2).trans ?_
  refine (qh ht).trans ?_
  refine (zu (by decide)).trans ?_
  refine (qh zp3).trans ?_
  refine (qh zrv).trans ?_
  refine (qh ht).trans ?_
  refine (qh zk5).trans ?_
  have hl : (List.replicate 1025 (-1 : Int)).length = 1025 := List.length_replicate
  have i0 : ix (List.replicate 1025 (-1 : Int)) 0 = -1 := z3g 1025 0 (-1) (by omega)
  have i1 : ix (List.replicate 1025 (-1 : Int)) 1024 = -1 := z3g 1025 1024 (-1) (by omega)
  refine (zu (fun _ => ⟨by omega, by dsimp only; omega⟩)).trans ?_
  refine (zu (fun _ => ⟨by omega, by dsimp only; omega⟩)).trans ?_
  refine (cf ?_).trans ?_
  · dsimp only
    rw [hl, i0, i1]; rfl
  refine (qh zpk).trans ?_
  refine (zkx rfl zol).trans ?_
  refine (zkx rfl znn).trans ?_
  refine (zkx rfl zhu).trans ?_
  rfl
end GV
end Go.Proofs.Ytplgbkaollfmkaa
