
import Derived.Test.YtkcccdcloealfaaLaw09a
import Derived.Test.YtkcccdcloealfaaShOpens
set_option linter.unusedVariables false
set_option linter.unusedSimpArgs false
namespace Go.Proofs.Ytkcccdcloealfaa
namespace GV
set_option maxRecDepth 100000
/-! ### Homomorphic -/
theorem zv3 {a b : Mach} {f : List Int} (h : HOk a b f) (hB : zco a b f = true) : Hom a b fun s => (f.getD s default).toNat := by
  have hl := h.hl
  obtain ⟨_, hE⟩ := zoc h hB
  refine ⟨h.ha, h.hb, h.hi.symm, fun s hs => ?_, fun s i hs hi => (hE s i hs hi).1.symm, fun s i hs hi => ?_⟩
  · have := h.hr s (by omega)
    omega
  · have hin := h.hi
    have hfs := h.hr s (by omega)
    have o1 := (z8j h.ha hs hi).1
    have o2 := (z8j h.hb (s := (f.getD s default).toNat) (i := i) (by omega) (by omega)).1
    obtain ⟨e1, e2⟩ := hE s i hs hi
    unfold hI
    rcases z14 h.ha hs hi with e | ⟨k1, k2⟩
    · rw [if_pos e]; exact o2.2 (by rw [← e1]; exact o1.1 e)
    · have h5 := h.hr (ed a s i).toNat (by omega)
      rw [if_neg (by omega), ← e2 k1]
      exact (Int.toNat_of_nonneg h5.1).symm
def zc6 (b : Mach) (t : Int) : Bool := decide (t < 0) || decide ((b.rows.length : Int) ≤ t)
theorem zg1 {b : Mach} {f : List Int} (hf : f.length ≤ 80) {e : Int} : qx 2000 f b 2000 e 0 = some (if e ≠ 0 then e else if f.any (zc6 b) = true then 1 else 0) := by
  by_cases he : e ≠ 0
  · rw [if_pos he]
    have hgen : ∀ F, qx 2000 f b (F + 1) e 0 = some e := fun F => by
      simp only [qx]
      exact cf (by rw [decide_eq_false he, Bool.and_false])
    exact hgen 1999
  · rw [if_neg he]
    obtain rfl : e = 0 := by omega
    refine xc (σ := Int) (fun F k st => qx 2000 f b F st (k : Int)) f.length (fun k st => st = if (f.take k).any (zc6 b) = true then 1 else 0) _ (fun F k st hk hq => ?_) (fun F st hq => ?_) 2000 0 0 (Nat.zero_le _) (by omega) (by simp)
    · subst hq
      simp only [qx]
      cases hb : (f.take k).any (zc6 b)
      · right
        refine ⟨_, rfl, ?_⟩
        rw [if_neg (by decide)]
        refine (ct (by rw [decide_eq_true (show (k : Int) < f.length by omega)]; rfl)).trans ?_
        refine (qf (x := if (f.take (k + 1)).any (zc6 b) = true then 1 else 0) ?_).trans ?_
        · rw [zu (j5 hk), zu (fun _ => j5 hk), z8s (zc6 b) f k hk, hb, Bool.false_or]
          have : ix f (k : Int) = f.getD k default := rfl
          rw [this]
          show (bif zc6 b (f.getD k default) then some 1 else some 0) = _
          cases zc6 b (f.getD k default) <;> rfl
        · exact zu (jg (by omega))
      · left
        rw [if_pos rfl]
        refine (cf (by rw [show decide ((1 : Int) = 0) = false from rfl, Bool.and_false])).trans ?_
        rw [if_pos]
        obtain ⟨z, hz, hb'⟩ := List.any_eq_true.1 hb
        exact List.any_eq_true.2 ⟨z, List.mem_of_mem_take hz, hb'⟩
    · subst hq
      simp only [qx]
      rw [List.take_length]
      exact cf (by rw [decide_eq_false (by omega)]; rfl)
theorem zd6 {x : MDat × MDat} {f : List Int} {y : WDat} (h1 : MDOk x.1) (h2 : MDOk x.2) (hy : WDOk y) : yj 2000 x f y = some true := by
  unfold yj
  by_cases h80 : (80 : Int) < f.length
  · exact dn h80
  refine (xw h80).trans ?_
  have ha := zkq h1
  have hb := zkq h2
  rw [qf (zki h1 (by decide)), qf (zki h2 (by decide))]
  obtain ⟨hw1, hw2⟩ := ztw (x := y) (n := (mOf x.1).inputs) ha.i1
  have hwof := zuz (N := 2000) hy ha.i1 (by decide)
  generalize wOf y (mOf x.1).inputs = w at *
  generalize mOf x.1 = a at *
  generalize mOf x.2 = b at *
  have ho46 : (bif decide (a.inputs ≠ b.inputs) then some (5 : Int) else bif decide ((f.length : Int) ≠ (a.rows.length : Int)) then some 16 else some 0) = some (if a.inputs ≠ b.inputs then 5 else if f.length ≠ a.rows.length then 16 else 0) := by
    by_cases e1 : a.inputs ≠ b.inputs
    · rw [dn e1, if_pos e1]
    · rw [xw e1, if_neg e1]
      by_cases e2 : f.length ≠ a.rows.length
      · rw [dn (by omega), if_pos e2]
      · rw [xw (by omega), if_neg e2]
  by_cases he : (if (if a.inputs ≠ b.inputs then (5 : Int) else if f.length ≠ a.rows.length then 16 else 0) ≠ 0 then (if a.inputs ≠ b.inputs then (5 : Int) else if f.length ≠ a.rows.length then 16 else 0) else if f.any (zc6 b) = true then 1 else 0) ≠ 0
  · have hbad : u6 2000 a b f = some (false, _) := zsw ha hb (by decide) (by omega) (e := if (if a.inputs ≠ b.inputs then (5 : Int) else if f.length ≠ a.rows.length then 16 else 0) ≠ 0 then (if a.inputs ≠ b.inputs then (5 : Int) else if f.length ≠ a.rows.length then 16 else 0) else if f.any (zc6 b) = true then 1 else 0) (by
      by_cases e1 : a.inputs ≠ b.inputs
      · rw [if_pos e1, if_pos e1, if_pos (by decide)]
      · rw [if_neg e1, if_neg e1]
        by_cases e2 : f.length ≠ a.rows.length
        · rw [if_pos e2, if_pos e2, if_pos (by decide)]
        · rw [if_neg e2, if_neg e2, if_neg (by decide)]; rfl) he
    refine (qf hbad).trans ?_
    refine (qf ho46).trans ?_
    refine (qf (zg1 (by omega))).trans ?_
    refine (dn he).trans ?_
    refine (zsp (by simp) zcb).trans ?_
    simp
  · have hi : a.inputs = b.inputs := Decidable.byContradiction fun e1 => he (by rw [if_pos (c := a.inputs ≠ b.inputs) e1, if_pos (by decide)]; decide)
    have hl : f.length = a.rows.length := Decidable.byContradiction fun e2 => he (by rw [if_neg (c := a.inputs ≠ b.inputs) (fun h => h hi), if_pos (c := f.length ≠ a.rows.length) e2, if_pos (by decide)]; decide)
    have hany : f.any (zc6 b) = false := by
      cases hk : f.any (zc6 b)
      · rfl
      · exact absurd (by rw [if_neg (c := a.inputs ≠ b.inputs) (fun h => h hi), if_neg (c := f.length ≠ a.rows.length) (fun h => h hl), if_neg (c := (0 : Int) ≠ 0) (by decide), if_pos (c := f.any (zc6 b) = true) hk]; decide) he
    have hok : HOk a b f := ⟨ha, hb, hi, hl, fun k hk => by
      have := (z8k _ _).1 hany k hk
      unfold zc6 at this
      rw [Bool.or_eq_false_iff] at this
      have t1 := of_decide_eq_false this.1
      have t2 := of_decide_eq_false this.2
      omega⟩
    refine (qf (zr4 (N := 2000) hok (by decide))).trans ?_
    refine (qf ho46).trans ?_
    refine (qf (zg1 (by omega))).trans ?_
    refine (xw he).trans ?_
    refine (zsp rfl (zri (N := 2000) hok (by decide))).trans ?_
    refine (cf (by cases zco a b f <;> rfl)).trans ?_
    refine (qf hwof).trans ?_
    have hL2 : qw 2000 f a b (zco a b f, 0) w 2000 0 = some (Ex.go ()) := by
      cases hB : zco a b f
      · have hgen : ∀ F, qw 2000 f a b (false, 0) w (F + 1) 0 = some (Ex.go ()) := fun F => by
          simp only [qw]
          exact cf (by rw [Bool.and_false])
        exact hgen 1999
      · have hh := zv3 hok hB
        refine xc (σ := Unit) (fun F k _ => qw 2000 f a b (true, 0) w F (k : Int)) f.length (fun k _ => True) _ (fun F k _ hk _ => .inr ⟨(), trivial, ?_⟩) (fun F _ _ => ?_) 2000 0 () (Nat.zero_le _) (by omega) trivial
        · simp only [qw]
          have hfx : ix f (k : Int) = f.getD k default := rfl
          have hfk := hok.hr k hk
          refine (ct (by rw [decide_eq_true (show (k : Int) < f.length by omega)]; rfl)).trans ?_
          refine (qf (show dh 2000 a (k : Int) w = _ from zmu ha (.inr ⟨by omega, by omega⟩) hw1 (by omega) (by omega))).trans ?_
          refine (zu (j5 hk)).trans ?_
          rw [hfx]
          refine (qf (show dh 2000 b (f.getD k default) w = _ from zmu hb (.inr ⟨hfk.1, by omega⟩) (by rw [← hi]; exact hw1) (by omega) (by omega))).trans ?_
          have hlen : (z0j a (k : Int) w).length = w.length := z0q _ _ _
          refine (qf (zpg (N := 2000) (by rw [hlen]; omega) (by rw [hlen]; omega))).trans ?_
          have hrun := (hh.run w (s := k) (by omega) hw1).1
          have hc : (((f.getD k default).toNat : Nat) : Int) = f.getD k default := by omega
          rw [hc] at hrun
          refine (cf (by rw [hrun, decide_eq_true rfl]; rfl)).trans ?_
          exact zu (jg (by omega))
        · simp only [qw]
          exact cf (by rw [decide_eq_false (by omega)]; rfl)
    refine (qf hL2).trans ?_
    rw [zs6, qf zcb]
end GV
end Go.Proofs.Ytkcccdcloealfaa

namespace Go.Proofs.Ytkcccdcloealfaa
namespace GV
set_option maxRecDepth 100000
def zb8 (m : Mach) (l : List Int) (s i : Nat) : Int := if (0 ≤ ed m (s % m.rows.length) i ∧ s * m.inputs.toNat + i < l.length) ∧ l.getD (s * m.inputs.toNat + i) default % 2 = 1 then ed m (s % m.rows.length) i + (m.rows.length : Int) else ed m (s % m.rows.length) i
def zdv (m : Mach) (l : List Int) (s : Nat) : List Edge := (List.range m.inputs.toNat).map fun i => ⟨zb8 m l s i, ou m (s % m.rows.length) i⟩
def twM (m : Mach) (l : List Int) : Mach := ⟨m.inputs, m.outputs, (List.range (2 * m.rows.length)).map (zdv m l)⟩
section
variable {m : Mach} {l : List Int}
theorem zi3 : (twM m l).rows.length = 2 * m.rows.length := by simp [twM]
theorem zla {s : Nat} (hs : s < 2 * m.rows.length) : (twM m l).rows.getD s default = zdv m l s := bq _ hs
theorem zq2 {s i : Nat} (hs : s < 2 * m.rows.length) (hi : i < m.inputs.toNat) : ((twM m l).rows.getD s default).getD i default = ⟨zb8 m l s i, ou m (s % m.rows.length) i⟩ := by
  rw [zla hs]; exact bq _ hi
theorem ztv (hm : MOk m) {s i : Nat} (hi : i < m.inputs.toNat) : zb8 m l s i = -1 ∧ ed m (s % m.rows.length) i = -1 ∨ ∃ t : Nat, ed m (s % m.rows.length) i = t ∧ t < m.rows.length ∧ (zb8 m l s i = (t : Int) ∨ zb8 m l s i = ((t + m.rows.length : Nat) : Int)) := by
  have hr1 := hm.r1
  rcases z14 hm (Nat.mod_lt s (show 0 < m.rows.length by omega)) hi with e | ⟨e1, e2⟩
  · left
    refine ⟨?_, e⟩
    unfold zb8
    rw [if_neg (fun h => by omega)]; exact e
  · right
    obtain ⟨t, ht⟩ := Int.eq_ofNat_of_zero_le e1
    refine ⟨t, ht, by omega, ?_⟩
    unfold zb8
    by_cases h : (0 ≤ ed m (s % m.rows.length) i ∧ s * m.inputs.toNat + i < l.length) ∧ l.getD (s * m.inputs.toNat + i) default % 2 = 1
    · rw [if_pos h]; right; omega
    · rw [if_neg h]; left; exact ht
theorem zm4 (hm : MOk m) (h6 : m.rows.length ≤ 6) : MOk (twM m l) := by
  have hr1 := hm.r1
  have hl := zi3 (m := m) (l := l)
  refine ⟨hm.i1, hm.i2, hm.o1, hm.o2, by omega, by omega, fun s hs => ?_, fun s i hs hi => ?_⟩
  · rw [hl] at hs
    rw [zla hs]
    have := hm.i1
    show ((zdv m l s).length : Int) = m.inputs
    unfold zdv
    rw [List.length_map, List.length_range]; omega
  · rw [hl] at hs
    have hi' : i < m.inputs.toNat := by rw [zla hs] at hi; unfold zdv at hi; simpa using hi
    rw [zq2 hs hi']
    have hlt := Nat.mod_lt s (show 0 < m.rows.length by omega)
    have hrow := hm.row _ hlt
    have he := hm.edge _ i hlt (by omega)
    have ho : ou m (s % m.rows.length) i = ((m.rows.getD (s % m.rows.length) default).getD i default).out := rfl
    have hd : ed m (s % m.rows.length) i = ((m.rows.getD (s % m.rows.length) default).getD i default).to := rfl
    rcases ztv (l := l) hm (s := s) hi' with ⟨h1, h2⟩ | ⟨t, h1, h2, h3⟩
    · left
      rcases he with he | he
      · exact ⟨h1, by show ou m (s % m.rows.length) i = -1; omega⟩
      · omega
    · right
      rcases he with he | he
      · omega
      · refine ⟨?_, ?_, by show 0 ≤ ou m (s % m.rows.length) i; omega, by show ou m (s % m.rows.length) i < m.outputs; omega⟩
        · show 0 ≤ zb8 m l s i; rcases h3 with h3 | h3 <;> omega
        · show zb8 m l s i < ((twM m l).rows.length : Int); rw [hl]; rcases h3 with h3 | h3 <;> omega
theorem ztr {s i : Nat} (hs : s < 2 * m.rows.length) (hi : i < m.inputs.toNat) : ed (twM m l) s i = zb8 m l s i ∧ ou (twM m l) s i = ou m (s % m.rows.length) i := by
  have h := zq2 (l := l) hs hi
  constructor
  · show (((twM m l).rows.getD s default).getD i default).to = _; rw [h]
  · show (((twM m l).rows.getD s default).getD i default).out = _; rw [h]
theorem zow (hm : MOk m) (h6 : m.rows.length ≤ 6) : Hom (twM m l) m (· % m.rows.length) := by
  have hr1 := hm.r1
  have hl := zi3 (m := m) (l := l)
  refine ⟨zm4 hm h6, hm, rfl, fun s hs => Nat.mod_lt s (by omega), fun s i hs hi => ?_, fun s i hs hi => ?_⟩
  · rw [(ztr (m := m) (by omega) (show i < m.inputs.toNat from hi)).2]
  · rw [(ztr (m := m) (by omega) (show i < m.inputs.toNat from hi)).1]
    rcases ztv (l := l) hm (s := s) hi with ⟨h1, h2⟩ | ⟨t, h1, h2, h3 | h3⟩
    · rw [h1, h2, zet]
    · rw [h1, h3, z3m, Nat.mod_eq_of_lt h2]
    · rw [h1, h3, z3m, Nat.add_mod_right, Nat.mod_eq_of_lt h2]
theorem zrk (hm : MOk m) (h6 : m.rows.length ≤ 6) : SameR (twM m l) m := ⟨rfl, rfl, fun w hw => by
  have hr1 := hm.r1
  have hl := zi3 (m := m) (l := l)
  have := ((zow (l := l) hm h6).run w (s := 0) (by omega) hw).1
  rw [Nat.zero_mod] at this
  exact this.symm⟩
theorem zv2 (hm : MOk m) (h6 : m.rows.length ≤ 6) : z3z (twM m l) = z3z m := zpf (zm4 hm h6) hm (zrk hm h6)
theorem zmb (s n : Nat) : (s : Int) % (n : Int) = ((s % n : Nat) : Int) := (Int.natCast_emod s n).symm
theorem zsg (hm : MOk m) (h6 : m.rows.length ≤ 6) (h3 : m.inputs ≤ 3) (hl : ∀ k, k < l.length → 0 ≤ l.getD k default) {s : Nat} (hs : s < 2 * m.rows.length) : jr 2000 l m (s : Int) 2000 [] 0 = some (zdv m l s) := by
  have hr1 := hm.r1; have hi1 := hm.i1
  have hlt := Nat.mod_lt s (show 0 < m.rows.length by omega)
  have hrow := hm.row _ hlt
  have hmul : (s : Int) * m.inputs = ((s * m.inputs.toNat : Nat) : Int) := by rw [Int.natCast_mul, Int.toNat_of_nonneg (by omega)]
  have hmle : s * m.inputs.toNat ≤ 12 * 3 := Nat.mul_le_mul (by omega) (by omega)
  refine xc (σ := List Edge) (fun F k st => jr 2000 l m (s : Int) F st (k : Int)) m.inputs.toNat
    (fun k st => st = (List.range k).map fun i => (⟨zb8 m l s i, ou m (s % m.rows.length) i⟩ : Edge)) _ (fun F k st hk hq => .inr ?_) (fun F st hq => ?_) 2000 0 [] (Nat.zero_le _) (by omega) rfl
  · subst hq
    refine ⟨_, rfl, ?_⟩
    simp only [jr]
    have hrx : ix m.rows ((s % m.rows.length : Nat) : Int) = m.rows.getD (s % m.rows.length) default := rfl
    have hex : ix (m.rows.getD (s % m.rows.length) default) (k : Int) = ⟨ed m (s % m.rows.length) k, ou m (s % m.rows.length) k⟩ := rfl
    have hidx : (s : Int) * m.inputs + (k : Int) = ((s * m.inputs.toNat + k : Nat) : Int) := by rw [hmul]; omega
    have hlx : ix l ((s * m.inputs.toNat + k : Nat) : Int) = l.getD (s * m.inputs.toNat + k) default := rfl
    have hed := z14 hm hlt hk
    rw [zmb, dn (by omega), zu ⟨by omega, by omega⟩, zu (j5 hlt), hrx, zu (j5 (by omega)), hex]
    refine (qf (x := zb8 m l s k) ?_).trans ?_
    · rw [zu (jg (by rw [hmul]; omega)), hidx, zu (jg (by omega)), hlx]
      by_cases h : (0 ≤ ed m (s % m.rows.length) k ∧ s * m.inputs.toNat + k < l.length)
      · rw [zu (fun _ => j5 h.2), zu (fun _ => ⟨hl _ h.2, by omega⟩)]
        unfold zb8
        by_cases h2 : l.getD (s * m.inputs.toNat + k) default % 2 = 1
        · rw [if_pos ⟨h, h2⟩]
          refine (ct (by rw [decide_eq_true h.1, decide_eq_true (show ((s * m.inputs.toNat + k : Nat) : Int) < (l.length : Int) by omega), decide_eq_true h2]; rfl)).trans ?_
          exact zu (jg (by dsimp only; omega))
        · rw [if_neg (fun h' => h2 h'.2)]
          exact cf (by rw [decide_eq_false h2, Bool.and_false])
      · have hf : (decide (0 ≤ ed m (s % m.rows.length) k) && decide (((s * m.inputs.toNat + k : Nat) : Int) < (l.length : Int))) = false := by
          rw [← Bool.not_eq_true, Bool.and_eq_true, decide_eq_true_iff, decide_eq_true_iff]
          exact fun h' => h ⟨h'.1, by omega⟩
        unfold zb8
        rw [if_neg (fun h' => h h'.1)]
        dsimp only
        rw [hf, zu (fun h' => by simp at h'), zu (fun h' => by simp at h')]
        exact cf rfl
    · rw [zu ⟨by simp; omega, by simp; omega⟩, zu (jg (by omega)), z1m]; rfl
  · subst hq
    simp only [jr]
    exact xw (by omega)
theorem zt8 (hm : MOk m) (h6 : m.rows.length ≤ 6) (h3 : m.inputs ≤ 3) (hl : ∀ k, k < l.length → 0 ≤ l.getD k default) : jq 2000 l m 2000 0 [] = some (twM m l).rows := by
  refine xc (σ := List (List Edge)) (fun F k st => jq 2000 l m F (k : Int) st) (2 * m.rows.length)
    (fun k st => st = (List.range k).map (zdv m l)) _ (fun F k st hk hq => .inr ?_) (fun F st hq => ?_) 2000 0 [] (Nat.zero_le _) (by omega) rfl
  · subst hq
    refine ⟨_, rfl, ?_⟩
    simp only [jq]
    rw [zu (jg (by omega)), dn (by omega), qf (zsg hm h6 h3 hl hk), zu ⟨by simp; omega, by simp; omega⟩, zu (jg (by omega)), z1m]; rfl
  · subst hq
    simp only [jq]
    rw [zu (jg (by omega)), xw (by omega)]; rfl
def twF (m : Mach) : List Int := (List.range (2 * m.rows.length)).map fun s => ((s % m.rows.length : Nat) : Int)
theorem zmi : (twF m).length = 2 * m.rows.length := by simp [twF]
theorem zdl {s : Nat} (hs : s < 2 * m.rows.length) : (twF m).getD s default = ((s % m.rows.length : Nat) : Int) := bq _ hs
theorem zte (hm : MOk m) (h6 : m.rows.length ≤ 6) : jo 2000 m 2000 [] 0 = some (twF m) := by
  have hr1 := hm.r1
  refine xc (σ := List Int) (fun F k st => jo 2000 m F st (k : Int)) (2 * m.rows.length)
    (fun k st => st = (List.range k).map fun s => ((s % m.rows.length : Nat) : Int)) _ (fun F k st hk hq => .inr ?_) (fun F st hq => ?_) 2000 0 [] (Nat.zero_le _) (by omega) rfl
  · subst hq
    refine ⟨_, rfl, ?_⟩
    simp only [jo]
    rw [zu (jg (by omega)), dn (by omega), zu ⟨by omega, by omega⟩, zmb, zu ⟨by simp; omega, by simp; omega⟩, zu (jg (by omega)), z1m]; rfl
  · subst hq
    simp only [jo]
    rw [zu (jg (by omega)), xw (by omega)]; rfl
theorem zsl (hm : MOk m) (h6 : m.rows.length ≤ 6) : HOk (twM m l) m (twF m) ∧ zco (twM m l) m (twF m) = true := by
  have hr1 := hm.r1
  have hl := zi3 (m := m) (l := l)
  have hh := zow (l := l) hm h6
  have hok : HOk (twM m l) m (twF m) := ⟨zm4 hm h6, hm, rfl, by rw [zmi, hl], fun k hk => by
    rw [zmi] at hk
    rw [zdl hk]
    have := Nat.mod_lt k (show 0 < m.rows.length by omega)
    omega⟩
  refine ⟨hok, zsj hok (by rw [zdl (by omega), Nat.zero_mod]; rfl) fun s i hs hi => ?_⟩
  have hs' : s < 2 * m.rows.length := by omega
  rw [zdl hs', Int.toNat_natCast]
  refine ⟨(hh.out s i hs hi).symm, fun h0 => ?_⟩
  obtain ⟨t, ht⟩ := Int.eq_ofNat_of_zero_le h0
  rcases z14 hh.ok hs hi with e | ⟨_, e⟩
  · omega
  · have := hh.to s i hs hi
    rw [this, ht, z3m, Int.toNat_natCast, zdl (by omega)]
end
theorem zl9 {x : MDat} {l : List Int} (hx : MDOk x) (hl : ∀ k, k < l.length → 0 ≤ l.getD k default) : xx 2000 x l = some true := by
  have hm := zkq hx
  obtain ⟨h6, h3⟩ := zwp hx
  unfold xx
  rw [qf (zki hx (by decide))]
  generalize mOf x = m at *
  have ht := zm4 (l := l) hm h6
  have hq := zqa hm
  have hle := zv0 hm
  obtain ⟨hok, hB⟩ := zsl (l := l) hm h6
  refine (qf (zt8 hm h6 h3 hl)).trans ?_
  refine (qf (show bg 2000 m = _ from zdy hm (by decide))).trans ?_
  refine (qf (show bg 2000 (twM m l) = some (z3z m, 0) from (zdy ht (by decide)).trans (by rw [zv2 hm h6]))).trans ?_
  refine (qf (show gz 2000 m = _ from zqr hm (by decide))).trans ?_
  refine (zsp rfl (show dz 2000 (z3z m) (z3z m) = some true from (zr0 hq.small (by decide)).trans (by rw [decide_eq_true rfl]))).trans ?_
  have e1 : decide ((m.rows.length : Int) < ((z3z m).rows.length : Int)) = false := decide_eq_false (by omega)
  have e2 : decide ((minB m, (0 : Int)).1 ≠ decide (((z3z m).rows.length : Int) = (m.rows.length : Int))) = false := by
    refine decide_eq_false fun h => h ?_
    have := zjt hm
    show minB m = _
    rw [Bool.eq_iff_iff, ← this, decide_eq_true_iff]
    omega
  refine (cf (by rw [e1, e2]; rfl)).trans ?_
  refine (qf (zte hm h6)).trans ?_
  refine (qf (show u6 2000 (twM m l) m (twF m) = some (true, 0) from (zr4 hok (by decide)).trans (by rw [hB]))).trans ?_
  refine (zsp rfl zcb).trans ?_
  rfl
end GV
end Go.Proofs.Ytkcccdcloealfaa

namespace Go.Proofs.Ytkcccdcloealfaa
namespace GV
theorem wf_u8 {x : Int} (h : (Lit.int .u8 x).wf = true) : 0 ≤ x ∧ x ≤ 255 := by simpa [Lit.wf, IntKind.min, IntKind.max, IntKind.signed, IntKind.bits] using h
theorem wf_u16 {x : Int} (h : (Lit.int .u16 x).wf = true) : 0 ≤ x ∧ x ≤ 65535 := by simpa [Lit.wf, IntKind.min, IntKind.max, IntKind.signed, IntKind.bits] using h
theorem zpj {x : MDat} (h : zqs x) : MDOk x := ⟨wf_u8 h.1, wf_u8 h.2.1, wf_u8 h.2.2.1, fun k hk => wf_u16 (h.2.2.2.2.1 _ (oh hk))⟩
theorem zve {x : WDat} (h : zuh x) : WDOk x := ⟨fun k hk => wf_u8 (h.1 _ (oh hk))⟩
theorem zij {x : MDat} {l : List Int} (hx : zqs x) (hl : zue l) : xx 2000 x l = some true := zl9 (zpj hx) fun k hk => (wf_u16 (hl.1 _ (oh hk))).1
theorem zc7 {x : MDat × MDat} {f : List Int} {y : WDat} (hx : zwr x) (hf : zwk f) (hy : zuh y) : yj 2000 x f y = some true := zd6 (zpj hx.1) (zpj hx.2) (zve hy)
end GV
end Go.Proofs.Ytkcccdcloealfaa
