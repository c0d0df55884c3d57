import Derived.Test.YtplgbkaollfmkaaShWa
import Derived.Test.YtplgbkaollfmkaaRows
set_option linter.unusedVariables false
set_option linter.unusedSimpArgs false
namespace Go.Proofs.Ytplgbkaollfmkaa
namespace GV
open Go.IntWalk
set_option maxRecDepth 100000
set_option maxHeartbeats 20000000
theorem dh : FieldOk Try.prog 24 2 2 := by
 obtain ⟨i, hi, hs⟩ : ∃ i, Try.prog.info? 22 = some i ∧ i.size = 1 := kw (by kernel_rfl);exact wy Try.underlying24 rfl rfl hi (by rw [hs]; rfl)
theorem z2v {b0 b1 : Bool} : TyOk Try.prog 22 (tSl b0 (tSl b1 kEdge)) := by
 obtain ⟨i, hi, hs⟩ : ∃ i, Try.prog.info? 22 = some i ∧ i.size = 1 := kw (by kernel_rfl);exact z1i Try.underlying22 hi rfl hs
theorem zbc {b0 : Bool} : TyOk Try.prog 26 (tSl b0 kEdge) := by
 obtain ⟨i, hi, hs⟩ : ∃ i, Try.prog.info? 26 = some i ∧ i.size = 1 := kw (by kernel_rfl);exact z1i Try.underlying26 hi rfl hs
theorem zcp {b0 : Bool} : SlOk Try.prog 22 26 (tSl b0 kEdge) := ⟨Try.underlying22, zbc⟩
theorem z09 {b0 b1 : Bool} : TyOk Try.prog 24 (jd b0 b1) := by
 obtain ⟨i, hi, hs⟩ : ∃ i, Try.prog.info? 24 = some i ∧ i.size = 3 := kw (by kernel_rfl);exact z1i Try.underlying24 hi rfl hs
theorem z6q : FieldOk Try.prog 24 0 0 := by
 obtain ⟨i, hi, hs⟩ : ∃ i, Try.prog.info? 3 = some i ∧ i.size = 1 := kw (by kernel_rfl);exact wy Try.underlying24 rfl rfl hi (by rw [hs]; rfl)
theorem ty3 : TyOk Try.prog 3 (zw .i64) := by
 obtain ⟨i, hi, hs⟩ : ∃ i, Try.prog.info? 3 = some i ∧ i.size = 1 := kw (by kernel_rfl);exact z1i Try.underlying3 hi rfl hs
theorem zij : FieldOk Try.prog 24 1 1 := by
 obtain ⟨i, hi, hs⟩ : ∃ i, Try.prog.info? 3 = some i ∧ i.size = 1 := kw (by kernel_rfl);exact wy Try.underlying24 rfl rfl hi (by rw [hs]; rfl)
theorem mixed : Try.prog.follows .mixedOrders = true := by kernel_rfl
theorem zd7 : TyOk Try.prog 62 kEdge := by
 obtain ⟨i, hi, hs⟩ : ∃ i, Try.prog.info? 62 = some i ∧ i.size = 2 := kw (by kernel_rfl);exact z1i Try.underlying62 hi rfl hs
theorem zcu : SlOk Try.prog 26 62 kEdge := ⟨Try.underlying26, zd7⟩
theorem zfh : ∀ w, ∃ z, (zeroValue 62).run Try.prog w = .ok z w ∧ z.cells = ([.int .i64 0, .int .i64 0] : List Value).toArray := fun w => ⟨(.agg #[(.int .i64 0), (.int .i64 0)]), by kernel_rfl, rfl⟩
theorem za1 : ∀ w, (sizeOf 62).run Try.prog w = .ok 2 w := fun w => by kernel_rfl
theorem z0n : FieldOk Try.prog 62 0 0 := by
 obtain ⟨i, hi, hs⟩ : ∃ i, Try.prog.info? 3 = some i ∧ i.size = 1 := kw (by kernel_rfl);exact wy Try.underlying62 rfl rfl hi (by rw [hs]; rfl)
theorem ag3 : ∀ w, (isAgg 3).run Try.prog w = .ok false w := fun w => by kernel_rfl
theorem zd2 : FieldOk Try.prog 62 1 1 := by
 obtain ⟨i, hi, hs⟩ : ∃ i, Try.prog.info? 3 = some i ∧ i.size = 1 := kw (by kernel_rfl);exact wy Try.underlying62 rfl rfl hi (by rw [hs]; rfl)
theorem zo4 : ZeroOk Try.prog 4 qz false 1 := by
 obtain ⟨i, zv, hi, hz, hs, hb, hv⟩ := z16 (P := Try.prog) (e := 4) (zv := (.bool false)) (k := 1) (b := 1) (by kernel_rfl);exact ⟨i, zv, hi, hz, hs, hb, fun R => by subst hv; exact rfl⟩
theorem ty4 : TyOk Try.prog 4 qz := by
 obtain ⟨i, hi, hs⟩ : ∃ i, Try.prog.info? 4 = some i ∧ i.size = 1 := kw (by kernel_rfl);exact z1i Try.underlying4 hi rfl hs
theorem z2h : SlOk Try.prog 78 4 qz := ⟨Try.underlying78, ty4⟩
theorem zv3 {b0 : Bool} : ZeroOk Try.prog 78 (tSl b0 qz) ([] : List Bool) 24 := by
 obtain ⟨i, zv, hi, hz, hs, hb, hv⟩ := z16 (P := Try.prog) (e := 78) (zv := (.slice none 0 0)) (k := 1) (b := 24) (by kernel_rfl);exact ⟨i, zv, hi, hz, hs, hb, fun R => by subst hv; exact (ko rfl ic)⟩
theorem zdf {b0 : Bool} : TyOk Try.prog 78 (tSl b0 qz) := by
 obtain ⟨i, hi, hs⟩ : ∃ i, Try.prog.info? 78 = some i ∧ i.size = 1 := kw (by kernel_rfl);exact z1i Try.underlying78 hi rfl hs
theorem zop {b0 : Bool} : SlOk Try.prog 126 78 (tSl b0 qz) := ⟨Try.underlying126, zdf⟩
theorem fu : SlOk Try.prog 25 3 (zw .i64) := ⟨Try.underlying25, ty3⟩
theorem zhm {b0 : Bool} : ZeroOk Try.prog 25 (tSl b0 (zw .i64)) ([] : List Int) 24 := by
 obtain ⟨i, zv, hi, hz, hs, hb, hv⟩ := z16 (P := Try.prog) (e := 25) (zv := (.slice none 0 0)) (k := 1) (b := 24) (by kernel_rfl);exact ⟨i, zv, hi, hz, hs, hb, fun R => by subst hv; exact (ko rfl ic)⟩
theorem zro : ∀ w, (isAgg 62).run Try.prog w = .ok true w := fun w => by kernel_rfl
theorem z4s {N : Nat} {R : RH} {a : (List Int)} {v_a : Value} (h_a : VRep (tSl false (zw .i64)) R v_a a) {b : (List Int)} {v_b : Value} (h_b : VRep (tSl false (zw .i64)) R v_b b) {r : Int} (hd0 : z03 N a b = some r) : CallP Try.prog 46 #[v_a, v_b] R (fun v R' => v = (.int .i64 r)) := by
 refine qf (args := [v_a, v_b]) Try.func46 rfl rfl fun A => ?_;rw [z03] at hd0
 refine zg (za (zf rfl (ze (v := (.int .i64 0)) rfl) (zh (zg (zg (za (zf rfl (z8 (v := v_a) rfl) (zf rfl (qi rfl Try.underlying25 rfl (ja h_a)) (zf rfl (z8 (v := v_b) rfl) (zf rfl (qi rfl Try.underlying25 rfl (ja h_b)) (zf rfl (jh rfl rfl) (zh (q9 rfl (fun e1 => ?_) (fun e1 => ?_))))))))))))))
 replace hd0 := j4 e1 hd0; clear e1;refine zg (za (zf rfl (ze (v := (.int .i64 (-1))) rfl) (zh (qj ?_))));obtain rfl := Option.some.inj hd0;refine zy (D := []) (J := []) (rs := [.tmp 4]) (vs := [(.int .i64 (-1))]) (RH.le.refl _) rfl rfl ⟨rfl, trivial⟩ ?_;exact ⟨rfl, rfl⟩;replace hd0 := j3 e1 hd0; clear e1
 refine qb (zg (zg (za (zf rfl (z8 (v := v_a) rfl) (zf rfl (qi rfl Try.underlying25 rfl (ja h_a)) (zf rfl (z8 (v := v_b) rfl) (zf rfl (qi rfl Try.underlying25 rfl (ja h_b)) (zf rfl (z1f rfl rfl) (zh (q9 rfl (fun e2 => ?_) (fun e2 => ?_)))))))))));replace hd0 := j4 e2 hd0; clear e2
 refine zg (za (zf rfl (ze (v := (.int .i64 1)) rfl) (zh (qj ?_))));obtain rfl := Option.some.inj hd0;refine zy (D := []) (J := []) (rs := [.tmp 4]) (vs := [(.int .i64 1)]) (RH.le.refl _) rfl rfl ⟨rfl, trivial⟩ ?_;exact ⟨rfl, rfl⟩;replace hd0 := j3 e2 hd0; clear e2;refine qb ?_;obtain ⟨q4, hd1, hd0⟩ := zt hd0
 refine jk (γ := Unit) true [5, 16, 17, 18, 19, 22, 23, 24, 25, 26, 27, 28, 29, 30, 4, 31, 32, 33, 34, 35, 36, 37, 38, 39, 20, 21] (fun g => []) (fun g => [] ++ A) (fun g R => q4 = Ex.go g ∧ True) ?_ ?_
 refine zg (za (zf rfl (ze (v := (.int .i64 0)) rfl) (zh (q8 (jo (γ := Nat × Int) true [16, 17, 18, 19, 22, 23, 24, 25, 26, 27, 28, 29, 30, 4, 31, 32, 33, 34, 35, 36, 37, 38, 39, 20, 21, 5] (fun g => [(5, (.int .i64 g.2))]) (fun g => [] ++ A) (fun g R => bf N a b g.1 g.2 = some q4 ∧ True) (fun g => g.1) (N, 0) ⟨rfl, trivial⟩ ⟨[], List.Perm.refl _⟩ ⟨hd1, trivial⟩ (fun _ => rfl) ?_)))))
 clear hd1;rintro ⟨F7, x8⟩ j59 D60 R9 hD61 le10 ⟨hd1, _⟩;obtain rfl := hD61 rfl;rcases F7 with _ | F7;exact j6 hd1;replace hd1 : bf N a b (F7 + 1) x8 = some q4 := hd1; rw [bf] at hd1
 refine zg (zg (za (zf rfl (z8 (v := (.int .i64 x8)) rfl) (zf rfl (z8 (v := v_a) rfl) (zf rfl (qi rfl Try.underlying25 rfl (ja (h_a.mono le10))) (zf rfl (jh rfl rfl) (zh (q9 rfl (fun e11 => ?_) (fun e11 => ?_)))))))));replace hd1 := j4 e11 hd1; clear e11;refine qb (zg (q8 (zg (zg ?_))))
 obtain ⟨g12, hd1⟩ := zn hd1;obtain ⟨g13, hd1⟩ := zn hd1
 refine bi 9 [] [phX v_a, phX (.int .i64 x8), phP (zw .i64) (ix a x8), phX (.int .i64 (ix a x8)), phX v_b, phX (.int .i64 x8), phP (zw .i64) (ix b x8), phX (.int .i64 (ix b x8)), phX (.bool (decide ((ix a x8) < (ix b x8))))] mixed (by kernel_rfl) (jq ⟨zk, zk, kz, zk, zk, zk, kz, zk, zk, trivial⟩) ⟨?_, ?_, ?_, ?_, ?_, ?_, ?_, ?_, ?_, trivial⟩ fun R14 le15 => ?_
 intro l R0q hle ha hd;exact zb rfl rfl rfl (zl (z8 (ha 0 rfl)));intro l R1q hle ha hd;exact zb rfl rfl rfl (zl (z8 (ha 5 rfl)));rintro l R2q hle ha ⟨d0, d1, _⟩;exact zb rfl rfl rfl (wz (i := x8.toNat) fu (d0 rfl) (ja ((h_a.mono le10).mono hle)) (zm (d1 rfl) g12.1) (qd g12));rintro l R3q hle ha ⟨d0, _⟩
 exact zb rfl rfl rfl (jg (qy ty3 rfl (d0 rfl)) (fun _ _ h => qp.1 h));intro l R4q hle ha hd;exact zb rfl rfl rfl (zl (z8 (ha 1 rfl)));intro l R5q hle ha hd;exact zb rfl rfl rfl (zl (z8 (ha 5 rfl)));rintro l R6q hle ha ⟨d0, d1, _⟩
 exact zb rfl rfl rfl (wz (i := x8.toNat) fu (d0 rfl) (ja ((h_b.mono le10).mono hle)) (zm (d1 rfl) g13.1) (qd g13));rintro l R7q hle ha ⟨d0, _⟩;exact zb rfl rfl rfl (jg (qy ty3 rfl (d0 rfl)) (fun _ _ h => qp.1 h));rintro l R8q hle ha ⟨d0, d1, _⟩;exact zb rfl rfl rfl (zl (jh (d0 rfl) (d1 rfl)))
 intro v16 h17 v18 h19 v20 h21 v22 h23 v24 h25 v26 h27 v28 h29 v30 h31 v32 h33;obtain rfl := Eq.symm h17;obtain rfl := Eq.symm h19;obtain rfl := Eq.symm h23;obtain rfl := Eq.symm h25;obtain rfl := Eq.symm h27;obtain rfl := Eq.symm h31;obtain rfl := Eq.symm h33;refine zh (q9 rfl (fun e34 => ?_) (fun e34 => ?_));replace hd1 := j4 e34 hd1; clear e34
 refine zg (za (zf rfl (ze (v := (.int .i64 (-1))) rfl) (zh (qj ?_))));replace hd0 := z3r hd1 hd0;obtain rfl := Option.some.inj hd0;refine zy (D := []) (J := []) (rs := [.tmp 4]) (vs := [(.int .i64 (-1))]) (le10.trans le15) rfl rfl ⟨rfl, trivial⟩ ?_;exact ⟨rfl, rfl⟩;replace hd1 := j3 e34 hd1; clear e34;refine qb (zg ?_)
 obtain ⟨g35, hd1⟩ := zn hd1;obtain ⟨g36, hd1⟩ := zn hd1
 refine bi 9 [] [phX v_a, phX (.int .i64 x8), phP (zw .i64) (ix a x8), phX (.int .i64 (ix a x8)), phX v_b, phX (.int .i64 x8), phP (zw .i64) (ix b x8), phX (.int .i64 (ix b x8)), phX (.bool (decide ((ix b x8) < (ix a x8))))] mixed (by kernel_rfl) (jq ⟨zk, zk, kz, zk, zk, zk, kz, zk, zk, trivial⟩) ⟨?_, ?_, ?_, ?_, ?_, ?_, ?_, ?_, ?_, trivial⟩ fun R37 le38 => ?_
 intro l R0q hle ha hd;exact zb rfl rfl rfl (zl (z8 (ha 0 rfl)));intro l R1q hle ha hd;exact zb rfl rfl rfl (zl (z8 (ha 5 rfl)));rintro l R2q hle ha ⟨d0, d1, _⟩;exact zb rfl rfl rfl (wz (i := x8.toNat) fu (d0 rfl) (ja ((h_a.mono (le10.trans le15)).mono hle)) (zm (d1 rfl) g35.1) (qd g35));rintro l R3q hle ha ⟨d0, _⟩
 exact zb rfl rfl rfl (jg (qy ty3 rfl (d0 rfl)) (fun _ _ h => qp.1 h));intro l R4q hle ha hd;exact zb rfl rfl rfl (zl (z8 (ha 1 rfl)));intro l R5q hle ha hd;exact zb rfl rfl rfl (zl (z8 (ha 5 rfl)));rintro l R6q hle ha ⟨d0, d1, _⟩
 exact zb rfl rfl rfl (wz (i := x8.toNat) fu (d0 rfl) (ja ((h_b.mono (le10.trans le15)).mono hle)) (zm (d1 rfl) g36.1) (qd g36));rintro l R7q hle ha ⟨d0, _⟩;exact zb rfl rfl rfl (jg (qy ty3 rfl (d0 rfl)) (fun _ _ h => qp.1 h));rintro l R8q hle ha ⟨d0, d1, _⟩;exact zb rfl rfl rfl (zl (z1f (d0 rfl) (d1 rfl)))
 intro v39 h40 v41 h42 v43 h44 v45 h46 v47 h48 v49 h50 v51 h52 v53 h54 v55 h56;obtain rfl := Eq.symm h40;obtain rfl := Eq.symm h42;obtain rfl := Eq.symm h46;obtain rfl := Eq.symm h48;obtain rfl := Eq.symm h50;obtain rfl := Eq.symm h54;obtain rfl := Eq.symm h56;refine zh (q9 rfl (fun e57 => ?_) (fun e57 => ?_));replace hd1 := j4 e57 hd1; clear e57
 refine zg (za (zf rfl (ze (v := (.int .i64 1)) rfl) (zh (qj ?_))));replace hd0 := z3r hd1 hd0;obtain rfl := Option.some.inj hd0;refine zy (D := []) (J := []) (rs := [.tmp 4]) (vs := [(.int .i64 1)]) ((le10.trans le15).trans le38) rfl rfl ⟨rfl, trivial⟩ ?_;exact ⟨rfl, rfl⟩;replace hd1 := j3 e57 hd1; clear e57
 refine qb (za (zf rfl (z8 (v := (.int .i64 x8)) rfl) ?_));obtain ⟨g58, hd1⟩ := zn hd1;refine zf rfl (jc rfl rfl g58) (zf rfl (ze (v := (.int .i64 (x8 + 1))) rfl) (zh ?_));exact ⟨(fun _ => rfl), (le15.trans le38), u6, (F7, x8 + 1), Nat.lt_succ_self _, ⟨rfl, trivial⟩, ⟨[], List.Perm.refl _⟩, hd1, trivial⟩;replace hd1 := j3 e11 hd1; clear e11
 refine ku ?_;exact ⟨(fun _ => rfl), le10, u6, (), trivial, ⟨[], List.Perm.refl _⟩, (Option.some.inj hd1).symm, trivial⟩;rintro o3 j62 D63 R5 hD64 le6 ⟨rfl, _⟩;obtain rfl := hD64 rfl;replace hd0 := z4f hd0;refine zg (za (zf rfl (ze (v := (.int .i64 0)) rfl) (zh (qj ?_))));obtain rfl := Option.some.inj hd0
 refine zy (D := []) (J := []) (rs := [.tmp 4]) (vs := [(.int .i64 0)]) le6 rfl rfl ⟨rfl, trivial⟩ ?_;exact ⟨rfl, rfl⟩
theorem zu7 : Enters Try.prog 46 := enters_of Try.func46 rfl (by kernel_rfl)
theorem pz {N : Nat} {R : RH} {a : (List Int)} {v_a : Value} (h_a : VRep (tSl false (zw .i64)) R v_a a) {b : (List Int)} {v_b : Value} (h_b : VRep (tSl false (zw .i64)) R v_b b) {r : Bool} (hd0 : yo N a b = some r) : CallP Try.prog 17 #[v_a, v_b] R (fun v R' => v = (.bool r)) := by
 refine qf (args := [v_a, v_b]) Try.func17 rfl rfl fun A => ?_;rw [yo] at hd0;refine zg (za (zf rfl (ze (v := (.bool false)) rfl) (zh (zg (za (zf rfl (z8 (v := v_a) rfl) (zf rfl (z8 (v := v_b) rfl) ?_)))))));obtain ⟨y1, c2, hd0⟩ := zt hd0
 refine qx rfl zu7 rfl (z4s h_a h_b c2) fun v3 R5 le6 h4 => ?_;obtain rfl := h4;refine zf rfl (az rfl rfl) (zf rfl (ze (v := (.bool (decide (y1 = 0)))) rfl) (zh (qj ?_)));obtain rfl := Option.some.inj hd0;refine zy (D := []) (J := []) (rs := [.tmp 4]) (vs := [(.bool (decide (y1 = 0)))]) le6 rfl rfl ⟨rfl, trivial⟩ ?_;exact ⟨rfl, rfl⟩
theorem zkk : Enters Try.prog 17 := enters_of Try.func17 rfl (by kernel_rfl)
theorem z3e {N : Nat} {R : RH} {s : (List Edge)} {v_s : Value} (h_s : VRep (tSl false kEdge) R v_s s) {f : Edge → Option Bool} {v_f : Value} (h_f : FOk1 Try.prog R v_f kEdge qz f) {r : Int} (hd0 : gq N s f = some r) : CallP Try.prog 89 #[v_s, v_f] R (fun v R' => v = (.int .i64 r)) := by
 refine qf (args := [v_s, v_f]) Try.func89 rfl rfl fun A => ?_;rw [gq] at hd0;refine zg (za (zf rfl (ze (v := (.int .i64 0)) rfl) (zh ?_)));obtain ⟨q2, hd1, hd0⟩ := zt hd0;refine jk (γ := Unit) true [6, 7, 8, 9, 10, 5, 11, 12, 13, 14, 15, 16, 17, 4, 18] (fun g => []) (fun g => [] ++ A) (fun g R => q2 = Ex.go g ∧ True) ?_ ?_
 refine zg (za (zf rfl (z8 (v := v_s) rfl) (zf rfl (qi rfl Try.underlying26 rfl (ja h_s)) (zf rfl (z8 (v := (.int .i64 0)) rfl) (zh (q8 (jo (γ := Nat × Int) true [9, 10, 5, 11, 12, 13, 14, 15, 16, 17, 4, 18, 8] (fun g => [(8, (.int .i64 g.2))]) (fun g => [] ++ A) (fun g R => jy N s f g.1 g.2 = some q2 ∧ True) (fun g => g.1) (N, 0) ⟨rfl, trivial⟩ ⟨[], List.Perm.refl _⟩ ⟨hd1, trivial⟩ (fun _ => rfl) ?_)))))))
 clear hd1;rintro ⟨F5, x6⟩ j23 D24 R7 hD25 le8 ⟨hd1, _⟩;obtain rfl := hD25 rfl;rcases F5 with _ | F5;exact j6 hd1;replace hd1 : jy N s f (F5 + 1) x6 = some q2 := hd1; rw [jy] at hd1;refine zg (za (zf rfl (jh rfl rfl) (zh (zg (q9 rfl (fun e9 => ?_) (fun e9 => ?_))))));replace hd1 := j4 e9 hd1; clear e9
 refine qb (zg (q8 (zg (za (zf rfl (z8 (v := (.int .i64 x6)) rfl) (zf rfl (ze (v := (.int .i64 x6)) rfl) (zh (zg (za (zf rfl (z8 (v := v_f) rfl) (zf rfl (z8 (v := v_s) rfl) (zf rfl (z8 (v := (.int .i64 x6)) rfl) ?_))))))))))));obtain ⟨g10, hd1⟩ := zn hd1
 refine ky (i := x6.toNat) rfl zcu rfl (ja (h_s.mono le8)) (zm rfl g10.1) (qd g10) fun v11 h12 => ?_;refine ql rfl zd7 rfl h12 fun v13 h14 => ?_;obtain rfl := tu.1 h14;obtain ⟨y15, c16, hd1⟩ := zt hd1;refine zc4 rfl rfl rfl ((h_f.mono le8) _ (RH.le.refl _) (ix s x6) _ _ (tu.2 rfl) c16) fun v19 R17 le18 h20 => ?_;obtain rfl := kg.1 h20
 refine zh (q9 rfl (fun e21 => ?_) (fun e21 => ?_));replace hd1 := j4 e21 hd1; clear e21;refine zg (za (zf rfl (z8 (v := (.int .i64 x6)) rfl) (zf rfl (ze (v := (.int .i64 x6)) rfl) (zh (qj ?_)))));replace hd0 := z3r hd1 hd0;obtain rfl := Option.some.inj hd0
 refine zy (D := []) (J := []) (rs := [.tmp 4]) (vs := [(.int .i64 x6)]) (le8.trans le18) rfl rfl ⟨rfl, trivial⟩ ?_;exact ⟨rfl, rfl⟩;replace hd1 := j3 e21 hd1; clear e21;refine qb (za ?_);obtain ⟨g22, hd1⟩ := zn hd1;refine zf rfl (jc rfl rfl g22) (zf rfl (z8 (v := (.int .i64 (x6 + 1))) rfl) (zh ?_))
 exact ⟨(fun _ => rfl), le18, u6, (F5, x6 + 1), Nat.lt_succ_self _, ⟨rfl, trivial⟩, ⟨[], List.Perm.refl _⟩, hd1, trivial⟩;replace hd1 := j3 e9 hd1; clear e9;refine ku ?_;exact ⟨(fun _ => rfl), le8, u6, (), trivial, ⟨[], List.Perm.refl _⟩, (Option.some.inj hd1).symm, trivial⟩;rintro o1 j26 D27 R3 hD28 le4 ⟨rfl, _⟩;obtain rfl := hD28 rfl;replace hd0 := z4f hd0
 refine zg (za (zf rfl (ze (v := (.int .i64 (-1))) rfl) (zh (qj ?_))));obtain rfl := Option.some.inj hd0;refine zy (D := []) (J := []) (rs := [.tmp 4]) (vs := [(.int .i64 (-1))]) le4 rfl rfl ⟨rfl, trivial⟩ ?_;exact ⟨rfl, rfl⟩
theorem zty : Enters Try.prog 89 := enters_of Try.func89 rfl (by kernel_rfl)
theorem z1x {N : Nat} {R : RH} {s : (List Edge)} {v_s : Value} (h_s : VRep (tSl false kEdge) R v_s s) {f : Edge → Option Bool} {v_f : Value} (h_f : FOk1 Try.prog R v_f kEdge qz f) {r : Bool} (hd0 : yw N s f = some r) : CallP Try.prog 70 #[v_s, v_f] R (fun v R' => v = (.bool r)) := by
 refine qf (args := [v_s, v_f]) Try.func70 rfl rfl fun A => ?_;rw [yw] at hd0;refine zg (za (zf rfl (ze (v := (.bool false)) rfl) (zh (zg (za (zf rfl (z8 (v := v_s) rfl) (zf rfl (z8 (v := v_f) rfl) ?_)))))));obtain ⟨y1, c2, hd0⟩ := zt hd0
 refine qx rfl zty rfl (z3e h_s h_f c2) fun v3 R5 le6 h4 => ?_;obtain rfl := h4;refine zf rfl (z3c rfl rfl) (zf rfl (ze (v := (.bool (decide (0 ≤ y1)))) rfl) (zh (qj ?_)));obtain rfl := Option.some.inj hd0;refine zy (D := []) (J := []) (rs := [.tmp 4]) (vs := [(.bool (decide (0 ≤ y1)))]) le6 rfl rfl ⟨rfl, trivial⟩ ?_;exact ⟨rfl, rfl⟩
theorem ztt : Enters Try.prog 70 := enters_of Try.func70 rfl (by kernel_rfl)
theorem z2z {N : Nat} {R : RH}  {r : Edge} (hd0 : eu N  = some r) : CallP Try.prog 86 #[] R (fun v R' => v = (z0p r)) := by
 refine qf (args := []) Try.func86 rfl rfl fun A => ?_;rw [eu] at hd0;refine zg (za (ui rfl zfh fun b1 => ?_))
 refine zh (zg (za (zf rfl (uh (ps := [(0, (.int .i64 (-1))), (1, (.int .i64 (-1)))]) (v := (.agg #[(.int .i64 (-1)), (.int .i64 (-1))])) rfl (fun w => by kernel_rfl)) (jf (i := 0) (vs := [(.int .i64 (-1)), (.int .i64 (-1))]) za1 rfl rfl rfl rfl rfl rfl (qa rfl (qa rfl jl)) ?_))));refine zh (qj ?_);obtain rfl := Option.some.inj hd0
 refine zy (D := []) (J := [box b1 [(.int .i64 (-1)), (.int .i64 (-1))] 62]) (rs := [.cell 0 62]) (vs := [(.agg #[(.int .i64 (-1)), (.int .i64 (-1))])]) (RH.le.refl _) rfl rfl ⟨⟨_, rfl, fun w hh => z2a (i := 0) hh rfl rfl zro za1 rfl rfl⟩, trivial⟩ ?_;exact ⟨rfl, rfl⟩
theorem zra : Enters Try.prog 86 := enters_of Try.func86 rfl (by kernel_rfl)
theorem zta : zep Try.prog 62 := zf4 (f0 := ((Try.prog.fieldsOf 62).toList.getD 0 default)) (f1 := ((Try.prog.fieldsOf 62).toList.getD 1 default)) (by kernel_rfl) (by kernel_rfl) (by kernel_rfl) (by kernel_rfl) (by kernel_rfl) (by kernel_rfl) (by kernel_rfl) (by kernel_rfl) (by kernel_rfl) (by kernel_rfl)
theorem zbf {N : Nat} {R : RH} {m : Mach} {v_m : Value} (h_m : VRep (jd false false) R v_m m) {x : Edge} {r : Bool} (hd0 : z4o N m x = some r) : CallP Try.prog 72 #[v_m, (z0p x)] R (fun v R' => v = (.bool r)) := by
 refine qf (args := [v_m, (z0p x)]) Try.func72 rfl rfl fun A => ?_;rw [z4o] at hd0;refine zg (za (uy (T := (jd false false)) rfl rfl rfl h_m fun v1 R3 le4 h5 h2 => ?_));refine z9j (T := kEdge) rfl rfl (tu.2 rfl) fun v6 R8 le9 h7 => ?_;refine zf rfl (ze (v := (.bool false)) rfl) (zh (zg ?_));obtain ⟨y10, c11, hd0⟩ := zt hd0
 let G1 := ((decide (x.to = y10.to ∧ x.out = y10.out)) || ((((decide (0 ≤ x.to)) && (decide (x.to < (↑m.rows.length : Int)))) && (decide (0 ≤ x.out))) && (decide (x.out < m.outputs))));let G2 := ((((decide (0 ≤ x.to)) && (decide (x.to < (↑m.rows.length : Int)))) && (decide (0 ≤ x.out))) && (decide (x.out < m.outputs)))
 let G3 := (((decide (0 ≤ x.to)) && (decide (x.to < (↑m.rows.length : Int)))) && (decide (0 ≤ x.out)));let G4 := ((decide (0 ≤ x.to)) && (decide (x.to < (↑m.rows.length : Int))));let G5 := (true && ((decide (x.to = y10.to ∧ x.out = y10.out)) == false))
 refine bi 29 [] [phX (z0p x), phX (z0p y10), phX (.bool (decide (x.to = y10.to ∧ x.out = y10.out))), phX (.bool (decide (x.to = y10.to ∧ x.out = y10.out))), phG G5 (phP (zw .i64) x.to), phG G5 (phX (.int .i64 x.to)), phG G5 (phX (.bool (decide (0 ≤ x.to)))), phG G5 (phX (.bool (decide (0 ≤ x.to)))), phG (G5 && ((decide (0 ≤ x.to)) == true)) (phP (zw .i64) x.to), phG (G5 && ((decide (0 ≤ x.to)) == true)) (phX (.int .i64 x.to)), phG (G5 && ((decide (0 ≤ x.to)) == true)) (phP (tSl false (tSl false kEdge)) m.rows), phG (G5 && ((decide (0 ≤ x.to)) == true)) (phR (tSl false (tSl false kEdge)) m.rows), phG (G5 && ((decide (0 ≤ x.to)) == true)) (phX (.int .i64 (↑m.rows.length : Int))), phG (G5 && ((decide (0 ≤ x.to)) == true)) (phX (.bool (decide (x.to < (↑m.rows.length : Int))))), phG G5 (phX (.bool G4)), phG G5 (phX (.bool G4)), phG (G5 && (G4 == true)) (phP (zw .i64) x.out), phG (G5 && (G4 == true)) (phX (.int .i64 x.out)), phG (G5 && (G4 == true)) (phX (.bool (decide (0 ≤ x.out)))), phG G5 (phX (.bool G3)), phG G5 (phX (.bool G3)), phG (G5 && (G3 == true)) (phP (zw .i64) x.out), phG (G5 && (G3 == true)) (phX (.int .i64 x.out)), phG (G5 && (G3 == true)) (phP (zw .i64) m.outputs), phG (G5 && (G3 == true)) (phX (.int .i64 m.outputs)), phG (G5 && (G3 == true)) (phX (.bool (decide (x.out < m.outputs)))), phG G5 (phX (.bool G2)), phX (.bool G1), phX (.bool G1)] mixed (by kernel_rfl) (jq ⟨zk, zk, zk, zk, (zo kz), (zo zk), (zo zk), (zo zk), (zo kz), (zo zk), (zo kz), (zo uf), (zo zk), (zo zk), (zo zk), (zo zk), (zo kz), (zo zk), (zo zk), (zo zk), (zo zk), (zo kz), (zo zk), (zo kz), (zo zk), (zo zk), (zo zk), zk, zk, trivial⟩) ⟨?_, ?_, ?_, ?_, ?_, ?_, ?_, ?_, ?_, ?_, ?_, ?_, ?_, ?_, ?_, ?_, ?_, ?_, ?_, ?_, ?_, ?_, ?_, ?_, ?_, ?_, ?_, ?_, ?_, trivial⟩ fun R12 le13 => ?_
 intro l R0q hle ha hd;exact zb rfl rfl rfl (jg (qy zd7 (ha 3 rfl) (h7.mono hle)) (fun _ _ h => tu.1 h));intro l R1q hle ha hd;exact zb rfl rfl rfl (ym (vs := []) zra rfl (z2z  c11) (fun _ _ h => h));rintro l R2q hle ha ⟨d0, d1, _⟩;exact zb rfl rfl rfl (zl (zg4 zta (d0 rfl) (d1 rfl)));rintro l R3q hle ha ⟨d0, d1, _⟩
 exact zb rfl rfl rfl (zl (z8 (d0 rfl)));rintro l R4q hle ha ⟨d0, _⟩;exact zi (Gj := true) (Bj := decide (x.to = y10.to ∧ x.out = y10.out)) rfl rfl rfl (zx (d0 rfl)) rfl (fun hG hB => u7 z0n z6h (ha 3 rfl) (h7.mono hle));rintro l R5q hle ha ⟨d0, d1, _⟩
 exact zi (Gj := true) (Bj := decide (x.to = y10.to ∧ x.out = y10.out)) rfl rfl rfl (zx (d1 rfl)) rfl (fun hG hB => jg (qy ty3 rfl ((d0 rfl).1 (zq rfl hB))) (fun _ _ h => qp.1 h));rintro l R6q hle ha ⟨d0, d1, _⟩
 exact zi (Gj := true) (Bj := decide (x.to = y10.to ∧ x.out = y10.out)) rfl rfl rfl (zx (d1 rfl)) rfl (fun hG hB => zl (z3c (show l 10 = (.int .i64 x.to) from (d0 rfl).1 (zq rfl hB)) rfl));rintro l R7q hle ha ⟨d0, d1, d2, _⟩
 exact zi (Gj := true) (Bj := decide (x.to = y10.to ∧ x.out = y10.out)) rfl rfl rfl (zx (d1 rfl)) rfl (fun hG hB => zl (z8 (show l 11 = (.bool (decide (0 ≤ x.to))) from (d0 rfl).1 (zq rfl hB))));rintro l R8q hle ha ⟨d0, _⟩;exact zi (Gj := G5) (Bj := decide (0 ≤ x.to)) rfl rfl rfl (d0 rfl) rfl (fun hG hB => u7 z0n z6h (ha 3 rfl) (h7.mono hle))
 rintro l R9q hle ha ⟨d0, d1, _⟩;exact zi (Gj := G5) (Bj := decide (0 ≤ x.to)) rfl rfl rfl (d1 rfl) rfl (fun hG hB => jg (qy ty3 rfl ((d0 rfl).1 (zq hG hB))) (fun _ _ h => qp.1 h));rintro l R10q hle ha ⟨d0, _⟩;exact zi (Gj := G5) (Bj := decide (0 ≤ x.to)) rfl rfl rfl (d0 rfl) rfl (fun hG hB => u7 dh yt (ha 2 rfl) ((h2.mono le9).mono hle))
 rintro l R11q hle ha ⟨d0, d1, _⟩;exact zi (Gj := G5) (Bj := decide (0 ≤ x.to)) rfl rfl rfl (d1 rfl) rfl (fun hG hB => qy z2v rfl ((d0 rfl).1 (zq hG hB)));rintro l R12q hle ha ⟨d0, d1, _⟩;exact zi (Gj := G5) (Bj := decide (0 ≤ x.to)) rfl rfl rfl (d1 rfl) rfl (fun hG hB => zl (qi rfl Try.underlying22 rfl (ja ((d0 rfl).1 (zq hG hB)))))
 rintro l R13q hle ha ⟨d0, d1, d2, _⟩;exact zi (Gj := G5) (Bj := decide (0 ≤ x.to)) rfl rfl rfl (d2 rfl) rfl (fun hG hB => zl (jh (show l 14 = (.int .i64 x.to) from (d0 rfl).1 (zq hG hB)) (show l 17 = (.int .i64 (↑m.rows.length : Int)) from (d1 rfl).1 (zq hG hB))));rintro l R14q hle ha ⟨d0, d1, d2, _⟩
 exact zi (Gj := true) (Bj := decide (x.to = y10.to ∧ x.out = y10.out)) rfl rfl rfl (zx (d2 rfl)) rfl (fun hG hB => zl (gy (show l 12 = (.bool (decide (0 ≤ x.to))) from (d0 rfl).1 (zq rfl hB)) (fun hb => (show l 18 = (.bool (decide (x.to < (↑m.rows.length : Int)))) from (d1 rfl).1 (zq (zq rfl hB) hb))) rfl));rintro l R15q hle ha ⟨d0, d1, d2, _⟩
 exact zi (Gj := true) (Bj := decide (x.to = y10.to ∧ x.out = y10.out)) rfl rfl rfl (zx (d2 rfl)) rfl (fun hG hB => zl (z8 (show l 19 = (.bool G4) from (d0 rfl).1 (zq rfl hB))));rintro l R16q hle ha ⟨d0, _⟩
 exact zi (Gj := G5) (Bj := (decide (0 ≤ x.to)) && (decide (x.to < (↑m.rows.length : Int)))) rfl rfl rfl (d0 rfl) rfl (fun hG hB => u7 zd2 zgo (ha 3 rfl) (h7.mono hle));rintro l R17q hle ha ⟨d0, d1, _⟩
 exact zi (Gj := G5) (Bj := (decide (0 ≤ x.to)) && (decide (x.to < (↑m.rows.length : Int)))) rfl rfl rfl (d1 rfl) rfl (fun hG hB => jg (qy ty3 rfl ((d0 rfl).1 (zq hG hB))) (fun _ _ h => qp.1 h));rintro l R18q hle ha ⟨d0, d1, _⟩
 exact zi (Gj := G5) (Bj := (decide (0 ≤ x.to)) && (decide (x.to < (↑m.rows.length : Int)))) rfl rfl rfl (d1 rfl) rfl (fun hG hB => zl (z3c (show l 22 = (.int .i64 x.out) from (d0 rfl).1 (zq hG hB)) rfl));rintro l R19q hle ha ⟨d0, d1, d2, _⟩
 exact zi (Gj := true) (Bj := decide (x.to = y10.to ∧ x.out = y10.out)) rfl rfl rfl (zx (d2 rfl)) rfl (fun hG hB => zl (gy (show l 20 = (.bool G4) from (d0 rfl).1 (zq rfl hB)) (fun hb => (show l 23 = (.bool (decide (0 ≤ x.out))) from (d1 rfl).1 (zq (zq rfl hB) hb))) rfl));rintro l R20q hle ha ⟨d0, d1, d2, _⟩
 exact zi (Gj := true) (Bj := decide (x.to = y10.to ∧ x.out = y10.out)) rfl rfl rfl (zx (d2 rfl)) rfl (fun hG hB => zl (z8 (show l 24 = (.bool G3) from (d0 rfl).1 (zq rfl hB))));rintro l R21q hle ha ⟨d0, _⟩;exact zi (Gj := G5) (Bj := G4 && (decide (0 ≤ x.out))) rfl rfl rfl (d0 rfl) rfl (fun hG hB => u7 zd2 zgo (ha 3 rfl) (h7.mono hle))
 rintro l R22q hle ha ⟨d0, d1, _⟩;exact zi (Gj := G5) (Bj := G4 && (decide (0 ≤ x.out))) rfl rfl rfl (d1 rfl) rfl (fun hG hB => jg (qy ty3 rfl ((d0 rfl).1 (zq hG hB))) (fun _ _ h => qp.1 h));rintro l R23q hle ha ⟨d0, _⟩
 exact zi (Gj := G5) (Bj := G4 && (decide (0 ≤ x.out))) rfl rfl rfl (d0 rfl) rfl (fun hG hB => u7 zij zbu (ha 2 rfl) ((h2.mono le9).mono hle));rintro l R24q hle ha ⟨d0, d1, _⟩;exact zi (Gj := G5) (Bj := G4 && (decide (0 ≤ x.out))) rfl rfl rfl (d1 rfl) rfl (fun hG hB => jg (qy ty3 rfl ((d0 rfl).1 (zq hG hB))) (fun _ _ h => qp.1 h))
 rintro l R25q hle ha ⟨d0, d1, d2, _⟩;exact zi (Gj := G5) (Bj := G4 && (decide (0 ≤ x.out))) rfl rfl rfl (d2 rfl) rfl (fun hG hB => zl (jh (show l 27 = (.int .i64 x.out) from (d0 rfl).1 (zq hG hB)) (show l 29 = (.int .i64 m.outputs) from (d1 rfl).1 (zq hG hB))));rintro l R26q hle ha ⟨d0, d1, d2, _⟩
 exact zi (Gj := true) (Bj := decide (x.to = y10.to ∧ x.out = y10.out)) rfl rfl rfl (zx (d2 rfl)) rfl (fun hG hB => zl (gy (show l 25 = (.bool G3) from (d0 rfl).1 (zq rfl hB)) (fun hb => (show l 30 = (.bool (decide (x.out < m.outputs))) from (d1 rfl).1 (zq (zq rfl hB) hb))) rfl));rintro l R27q hle ha ⟨d0, d1, _⟩
 exact zb rfl rfl rfl (zl (oo (d0 rfl) rfl (fun hb => (show l 31 = (.bool G2) from (d1 rfl).1 (zq rfl hb)))));rintro l R28q hle ha ⟨d0, d1, d2, d3, d4, d5, d6, d7, d8, d9, d10, d11, d12, d13, d14, d15, d16, d17, d18, d19, d20, d21, d22, d23, d24, d25, d26, d27, d28, d29, _⟩;exact zb rfl rfl rfl (zl (ze (d0 rfl)))
 intro v14 h15 v16 h17 v18 h19 v20 h21 v22 h23 v24 h25 v26 h27 v28 h29 v30 h31 v32 h33 v34 h35 v36 h37 v38 h39 v40 h41 v42 h43 v44 h45 v46 h47 v48 h49 v50 h51 v52 h53 v54 h55 v56 h57 v58 h59 v60 h61 v62 h63 v64 h65 v66 h67 v68 h69 v70 h71;obtain rfl := Eq.symm h15;obtain rfl := Eq.symm h17;obtain rfl := Eq.symm h19;obtain rfl := Eq.symm h21;obtain rfl := Eq.symm h69;obtain rfl := Eq.symm h71
 refine zh (qj ?_);obtain rfl := Option.some.inj hd0;refine zy (D := []) (J := []) (rs := [.tmp 4]) (vs := [(.bool G1)]) ((le4.trans le9).trans le13) rfl rfl ⟨rfl, trivial⟩ ?_;exact ⟨rfl, rfl⟩
theorem ztz : Enters Try.prog 72 := enters_of Try.func72 rfl (by kernel_rfl)
theorem z8f {N : Nat} {R : RH} {x : Edge} {p0_ : Mach} {v_p0_ : Value} (h_p0_ : PRep (jd false false) R v_p0_ p0_) {r : Bool} (hd0 : z1z N x p0_ = some r) : CallP Try.prog 71 #[(z0p x), v_p0_] R (fun v R' => v = (.bool r)) := by
 refine qf (args := [(z0p x), v_p0_]) Try.func71 rfl rfl fun A => ?_;rw [z1z] at hd0;refine zg (za (z9j (T := kEdge) rfl rfl (tu.2 rfl) fun v1 R3 le4 h2 => ?_));refine zf rfl (ze (v := (.bool false)) rfl) (zh (zg (za (ql rfl z09 rfl (h_p0_.mono le4) fun v5 h6 => ?_))));refine ql rfl zd7 rfl h2 fun v7 h8 => ?_
 obtain rfl := tu.1 h8;obtain ⟨y9, c10, hd0⟩ := zt hd0;refine qx rfl ztz rfl (zbf h6 c10) fun v11 R13 le14 h12 => ?_;obtain rfl := h12;refine zf rfl (ib rfl) (zf rfl (ze (v := (.bool (!y9))) rfl) (zh (qj ?_)));obtain rfl := Option.some.inj hd0
 refine zy (D := []) (J := []) (rs := [.tmp 3]) (vs := [(.bool (!y9))]) (le4.trans le14) rfl rfl ⟨rfl, trivial⟩ ?_;exact ⟨rfl, rfl⟩
theorem zun : Enters Try.prog 71 := enters_of Try.func71 rfl (by kernel_rfl)
theorem ah {N : Nat} {R : RH} {m : Mach} {v_m : Value} (h_m : VRep (jd false false) R v_m m) {r : Int} (hd0 : xn N m = some r) : CallP Try.prog 50 #[v_m] R (fun v R' => v = (.int .i64 r)) := by
 refine qf (args := [v_m]) Try.func50 rfl rfl fun A => ?_;rw [xn] at hd0;refine zg (za (uy (T := (jd false false)) rfl rfl rfl h_m fun v1 R3 le4 h5 h2 => ?_))
 refine zf rfl (ze (v := (.int .i64 0)) rfl) (zh (zg (zg (xq 14 [] [phP (zw .i64) m.inputs, phX (.int .i64 m.inputs), phX (.bool (decide (16 < m.inputs))), phX (.bool (decide (16 < m.inputs))), phG (true && ((decide (16 < m.inputs)) == false)) (phP (zw .i64) m.outputs), phG (true && ((decide (16 < m.inputs)) == false)) (phX (.int .i64 m.outputs)), phG (true && ((decide (16 < m.inputs)) == false)) (phX (.bool (decide (16 < m.outputs)))), phX (.bool ((decide (16 < m.inputs)) || (decide (16 < m.outputs)))), phX (.bool ((decide (16 < m.inputs)) || (decide (16 < m.outputs)))), phG (true && (((decide (16 < m.inputs)) || (decide (16 < m.outputs))) == false)) (phP (tSl false (tSl false kEdge)) m.rows), phG (true && (((decide (16 < m.inputs)) || (decide (16 < m.outputs))) == false)) (phR (tSl false (tSl false kEdge)) m.rows), phG (true && (((decide (16 < m.inputs)) || (decide (16 < m.outputs))) == false)) (phX (.int .i64 (↑m.rows.length : Int))), phG (true && (((decide (16 < m.inputs)) || (decide (16 < m.outputs))) == false)) (phX (.bool (decide (64 < (↑m.rows.length : Int))))), phX (.bool (((decide (16 < m.inputs)) || (decide (16 < m.outputs))) || (decide (64 < (↑m.rows.length : Int)))))] (by kernel_rfl) (by kernel_rfl) (jq ⟨kz, zk, zk, zk, (zo kz), (zo zk), (zo zk), zk, zk, (zo kz), (zo uf), (zo zk), (zo zk), zk, trivial⟩) ⟨?_, ?_, ?_, ?_, ?_, ?_, ?_, ?_, ?_, ?_, ?_, ?_, ?_, ?_, trivial⟩ fun R6 le7 => ?_))))
 intro l R0q hle ha hd;exact zb rfl rfl rfl (u7 z6q z2q (ha 1 rfl) (h2.mono hle));rintro l R1q hle ha ⟨d0, _⟩;exact zb rfl rfl rfl (jg (qy ty3 rfl (d0 rfl)) (fun _ _ h => qp.1 h));rintro l R2q hle ha ⟨d0, _⟩;exact zb rfl rfl rfl (zl (z1f (d0 rfl) rfl));rintro l R3q hle ha ⟨d0, _⟩
 exact zb rfl rfl rfl (zl (z8 (d0 rfl)));rintro l R4q hle ha ⟨d0, _⟩;exact zi (Gj := true) (Bj := decide (16 < m.inputs)) rfl rfl rfl (zx (d0 rfl)) rfl (fun hG hB => u7 zij zbu (ha 1 rfl) (h2.mono hle));rintro l R5q hle ha ⟨d0, d1, _⟩
 exact zi (Gj := true) (Bj := decide (16 < m.inputs)) rfl rfl rfl (zx (d1 rfl)) rfl (fun hG hB => jg (qy ty3 rfl ((d0 rfl).1 (zq rfl hB))) (fun _ _ h => qp.1 h));rintro l R6q hle ha ⟨d0, d1, _⟩
 exact zi (Gj := true) (Bj := decide (16 < m.inputs)) rfl rfl rfl (zx (d1 rfl)) rfl (fun hG hB => zl (z1f (show l 10 = (.int .i64 m.outputs) from (d0 rfl).1 (zq rfl hB)) rfl));rintro l R7q hle ha ⟨d0, d1, _⟩;exact zb rfl rfl rfl (zl (oo (d0 rfl) rfl (fun hb => (show l 11 = (.bool (decide (16 < m.outputs))) from (d1 rfl).1 (zq rfl hb)))))
 rintro l R8q hle ha ⟨d0, d1, _⟩;exact zb rfl rfl rfl (zl (z8 (d0 rfl)));rintro l R9q hle ha ⟨d0, _⟩;exact zi (Gj := true) (Bj := (decide (16 < m.inputs)) || (decide (16 < m.outputs))) rfl rfl rfl (zx (d0 rfl)) rfl (fun hG hB => u7 dh yt (ha 1 rfl) (h2.mono hle));rintro l R10q hle ha ⟨d0, d1, _⟩
 exact zi (Gj := true) (Bj := (decide (16 < m.inputs)) || (decide (16 < m.outputs))) rfl rfl rfl (zx (d1 rfl)) rfl (fun hG hB => qy z2v rfl ((d0 rfl).1 (zq rfl hB)));rintro l R11q hle ha ⟨d0, d1, _⟩
 exact zi (Gj := true) (Bj := (decide (16 < m.inputs)) || (decide (16 < m.outputs))) rfl rfl rfl (zx (d1 rfl)) rfl (fun hG hB => zl (qi rfl Try.underlying22 rfl (ja ((d0 rfl).1 (zq rfl hB)))));rintro l R12q hle ha ⟨d0, d1, _⟩
 exact zi (Gj := true) (Bj := (decide (16 < m.inputs)) || (decide (16 < m.outputs))) rfl rfl rfl (zx (d1 rfl)) rfl (fun hG hB => zl (z1f (show l 16 = (.int .i64 (↑m.rows.length : Int)) from (d0 rfl).1 (zq rfl hB)) rfl));rintro l R13q hle ha ⟨d0, d1, _⟩
 exact zb rfl rfl rfl (zl (oo (d0 rfl) rfl (fun hb => (show l 17 = (.bool (decide (64 < (↑m.rows.length : Int)))) from (d1 rfl).1 (zq rfl hb)))));intro v8 h9 v10 h11 v12 h13 v14 h15 v16 h17 v18 h19 v20 h21 v22 h23 v24 h25 v26 h27 v28 h29 v30 h31 v32 h33 v34 h35;obtain rfl := Eq.symm h11;obtain rfl := Eq.symm h13;obtain rfl := Eq.symm h15;obtain rfl := Eq.symm h23
 obtain rfl := Eq.symm h25;obtain rfl := Eq.symm h35;refine zh (q9 rfl (fun e36 => ?_) (fun e36 => ?_));replace hd0 := j4 e36 hd0; clear e36;refine zg (za (zf rfl (ze (v := (.int .i64 3)) rfl) (zh (qj ?_))));obtain rfl := Option.some.inj hd0;refine zy (D := []) (J := []) (rs := [.tmp 2]) (vs := [(.int .i64 3)]) (le4.trans le7) rfl rfl ⟨rfl, trivial⟩ ?_
 exact ⟨rfl, rfl⟩;replace hd0 := j3 e36 hd0; clear e36
 refine qb (zg (zg (xq 14 [] [phP (zw .i64) m.inputs, phX (.int .i64 m.inputs), phX (.bool (decide (m.inputs < 1))), phX (.bool (decide (m.inputs < 1))), phG (true && ((decide (m.inputs < 1)) == false)) (phP (zw .i64) m.outputs), phG (true && ((decide (m.inputs < 1)) == false)) (phX (.int .i64 m.outputs)), phG (true && ((decide (m.inputs < 1)) == false)) (phX (.bool (decide (m.outputs < 1)))), phX (.bool ((decide (m.inputs < 1)) || (decide (m.outputs < 1)))), phX (.bool ((decide (m.inputs < 1)) || (decide (m.outputs < 1)))), phG (true && (((decide (m.inputs < 1)) || (decide (m.outputs < 1))) == false)) (phP (tSl false (tSl false kEdge)) m.rows), phG (true && (((decide (m.inputs < 1)) || (decide (m.outputs < 1))) == false)) (phR (tSl false (tSl false kEdge)) m.rows), phG (true && (((decide (m.inputs < 1)) || (decide (m.outputs < 1))) == false)) (phX (.int .i64 (↑m.rows.length : Int))), phG (true && (((decide (m.inputs < 1)) || (decide (m.outputs < 1))) == false)) (phX (.bool (decide ((↑m.rows.length : Int) < 1)))), phX (.bool (((decide (m.inputs < 1)) || (decide (m.outputs < 1))) || (decide ((↑m.rows.length : Int) < 1))))] (by kernel_rfl) (by kernel_rfl) (jq ⟨kz, zk, zk, zk, (zo kz), (zo zk), (zo zk), zk, zk, (zo kz), (zo uf), (zo zk), (zo zk), zk, trivial⟩) ⟨?_, ?_, ?_, ?_, ?_, ?_, ?_, ?_, ?_, ?_, ?_, ?_, ?_, ?_, trivial⟩ fun R37 le38 => ?_)))
 intro l R0q hle ha hd;exact zb rfl rfl rfl (u7 z6q z2q (ha 1 rfl) ((h2.mono le7).mono hle));rintro l R1q hle ha ⟨d0, _⟩;exact zb rfl rfl rfl (jg (qy ty3 rfl (d0 rfl)) (fun _ _ h => qp.1 h));rintro l R2q hle ha ⟨d0, _⟩;exact zb rfl rfl rfl (zl (jh (d0 rfl) rfl));rintro l R3q hle ha ⟨d0, _⟩
 exact zb rfl rfl rfl (zl (z8 (d0 rfl)));rintro l R4q hle ha ⟨d0, _⟩;exact zi (Gj := true) (Bj := decide (m.inputs < 1)) rfl rfl rfl (zx (d0 rfl)) rfl (fun hG hB => u7 zij zbu (ha 1 rfl) ((h2.mono le7).mono hle));rintro l R5q hle ha ⟨d0, d1, _⟩
 exact zi (Gj := true) (Bj := decide (m.inputs < 1)) rfl rfl rfl (zx (d1 rfl)) rfl (fun hG hB => jg (qy ty3 rfl ((d0 rfl).1 (zq rfl hB))) (fun _ _ h => qp.1 h));rintro l R6q hle ha ⟨d0, d1, _⟩
 exact zi (Gj := true) (Bj := decide (m.inputs < 1)) rfl rfl rfl (zx (d1 rfl)) rfl (fun hG hB => zl (jh (show l 24 = (.int .i64 m.outputs) from (d0 rfl).1 (zq rfl hB)) rfl));rintro l R7q hle ha ⟨d0, d1, _⟩;exact zb rfl rfl rfl (zl (oo (d0 rfl) rfl (fun hb => (show l 25 = (.bool (decide (m.outputs < 1))) from (d1 rfl).1 (zq rfl hb)))))
 rintro l R8q hle ha ⟨d0, d1, _⟩;exact zb rfl rfl rfl (zl (z8 (d0 rfl)));rintro l R9q hle ha ⟨d0, _⟩;exact zi (Gj := true) (Bj := (decide (m.inputs < 1)) || (decide (m.outputs < 1))) rfl rfl rfl (zx (d0 rfl)) rfl (fun hG hB => u7 dh yt (ha 1 rfl) ((h2.mono le7).mono hle));rintro l R10q hle ha ⟨d0, d1, _⟩
 exact zi (Gj := true) (Bj := (decide (m.inputs < 1)) || (decide (m.outputs < 1))) rfl rfl rfl (zx (d1 rfl)) rfl (fun hG hB => qy z2v rfl ((d0 rfl).1 (zq rfl hB)));rintro l R11q hle ha ⟨d0, d1, _⟩
 exact zi (Gj := true) (Bj := (decide (m.inputs < 1)) || (decide (m.outputs < 1))) rfl rfl rfl (zx (d1 rfl)) rfl (fun hG hB => zl (qi rfl Try.underlying22 rfl (ja ((d0 rfl).1 (zq rfl hB)))));rintro l R12q hle ha ⟨d0, d1, _⟩
 exact zi (Gj := true) (Bj := (decide (m.inputs < 1)) || (decide (m.outputs < 1))) rfl rfl rfl (zx (d1 rfl)) rfl (fun hG hB => zl (jh (show l 30 = (.int .i64 (↑m.rows.length : Int)) from (d0 rfl).1 (zq rfl hB)) rfl));rintro l R13q hle ha ⟨d0, d1, _⟩
 exact zb rfl rfl rfl (zl (oo (d0 rfl) rfl (fun hb => (show l 31 = (.bool (decide ((↑m.rows.length : Int) < 1))) from (d1 rfl).1 (zq rfl hb)))));intro v39 h40 v41 h42 v43 h44 v45 h46 v47 h48 v49 h50 v51 h52 v53 h54 v55 h56 v57 h58 v59 h60 v61 h62 v63 h64 v65 h66;obtain rfl := Eq.symm h42;obtain rfl := Eq.symm h44;obtain rfl := Eq.symm h46;obtain rfl := Eq.symm h54
 obtain rfl := Eq.symm h56;obtain rfl := Eq.symm h66;refine zh (q9 rfl (fun e67 => ?_) (fun e67 => ?_));replace hd0 := j4 e67 hd0; clear e67;refine zg (za (zf rfl (ze (v := (.int .i64 1)) rfl) (zh (qj ?_))));obtain rfl := Option.some.inj hd0
 refine zy (D := []) (J := []) (rs := [.tmp 2]) (vs := [(.int .i64 1)]) ((le4.trans le7).trans le38) rfl rfl ⟨rfl, trivial⟩ ?_;exact ⟨rfl, rfl⟩;replace hd0 := j3 e67 hd0; clear e67;refine qb ?_;obtain ⟨q69, hd1, hd0⟩ := zt hd0
 refine jk (γ := Unit) true [33, 34, 35, 36, 37, 38, 39, 4, 40, 41, 42, 43, 44, 45, 46, 47, 48, 49, 2, 50] (fun g => []) (fun g => [] ++ A) (fun g R => q69 = Ex.go g ∧ True) ?_ ?_;refine zg (za (um rfl dh yt rfl (h2.mono (le7.trans le38)) fun v72 h73 => ?_));refine ql rfl z2v rfl h73 fun v74 h75 => ?_
 refine zf rfl (qi rfl Try.underlying22 rfl (ja h75)) (zf rfl (z8 (v := (.int .i64 0)) rfl) (zh (q8 (jo (γ := Nat × Int) true [37, 38, 39, 4, 40, 41, 42, 43, 44, 45, 46, 47, 48, 49, 2, 50, 36] (fun g => [(36, (.int .i64 g.2))]) (fun g => [] ++ A) (fun g R => xk N m g.1 g.2 = some q69 ∧ True) (fun g => g.1) (N, 0) ⟨rfl, trivial⟩ ⟨[], List.Perm.refl _⟩ ⟨hd1, trivial⟩ (fun _ => rfl) ?_))))
 clear hd1;rintro ⟨F76, x77⟩ j112 D113 R78 hD114 le79 ⟨hd1, _⟩;obtain rfl := hD114 rfl;rcases F76 with _ | F76;exact j6 hd1;replace hd1 : xk N m (F76 + 1) x77 = some q69 := hd1; rw [xk] at hd1;refine zg (za (zf rfl (jh rfl rfl) (zh (zg (q9 rfl (fun e80 => ?_) (fun e80 => ?_))))));replace hd1 := j4 e80 hd1; clear e80
 refine qb (zg (q8 (zg (za ?_))));obtain ⟨g81, hd1⟩ := zn hd1;refine ky (i := x77.toNat) rfl zcp rfl (ja (h75.mono le79)) (zm rfl g81.1) (qd g81) fun v82 h83 => ?_;refine ql rfl zbc rfl h83 fun v84 h85 => ?_;refine zf rfl (ze (v := v84) rfl) (zh (zg ?_));obtain ⟨y86, c87, hd1⟩ := zt hd1
 let G1 := (true && ((decide ((↑(ix m.rows x77).length : Int) ≠ m.inputs)) == false))
 refine xq 10 [] [phX v84, phX (.int .i64 (↑(ix m.rows x77).length : Int)), phP (zw .i64) m.inputs, phX (.int .i64 m.inputs), phX (.bool (decide ((↑(ix m.rows x77).length : Int) ≠ m.inputs))), phX (.bool (decide ((↑(ix m.rows x77).length : Int) ≠ m.inputs))), phG G1 (phX v84), phG G1 (phX (.func (.func 71) #[] #[v1])), phG G1 (phX (.bool (y86.getD default))), phX (.bool ((decide ((↑(ix m.rows x77).length : Int) ≠ m.inputs)) || (y86.getD default)))] (by kernel_rfl) (by kernel_rfl) (jq ⟨zk, zk, kz, zk, zk, zk, (zo zk), (zo zk), (zo zk), zk, trivial⟩) ⟨?_, ?_, ?_, ?_, ?_, ?_, ?_, ?_, ?_, ?_, trivial⟩ fun R88 le89 => ?_
 intro l R0q hle ha hd;exact zb rfl rfl rfl (zl (z8 (ha 4 rfl)));rintro l R1q hle ha ⟨d0, _⟩;exact zb rfl rfl rfl (zl (qi rfl Try.underlying26 (d0 rfl) (ja (h85.mono hle))));intro l R2q hle ha hd;exact zb rfl rfl rfl (u7 z6q z2q (ha 1 rfl) ((h2.mono ((le7.trans le38).trans le79)).mono hle));rintro l R3q hle ha ⟨d0, _⟩
 exact zb rfl rfl rfl (jg (qy ty3 rfl (d0 rfl)) (fun _ _ h => qp.1 h));rintro l R4q hle ha ⟨d0, d1, _⟩;exact zb rfl rfl rfl (zl (uw (d0 rfl) (d1 rfl)));rintro l R5q hle ha ⟨d0, _⟩;exact zb rfl rfl rfl (zl (z8 (d0 rfl)));rintro l R6q hle ha ⟨d0, _⟩
 exact zi (Gj := true) (Bj := decide ((↑(ix m.rows x77).length : Int) ≠ m.inputs)) rfl rfl rfl (zx (d0 rfl)) rfl (fun hG hB => zl (z8 (ha 4 rfl)));rintro l R7q hle ha ⟨d0, _⟩;have a1 : l 1 = v1 := ha 1 rfl
 exact zi (Gj := true) (Bj := decide ((↑(ix m.rows x77).length : Int) ≠ m.inputs)) rfl rfl rfl (zx (d0 rfl)) rfl (fun hG hB => zl (xw (fs := []) (cs := [v1]) rfl (by simp only [List.map, ev, a1] <;> rfl)));rintro l R8q hle ha ⟨d0, d1, d2, d3, _⟩;have f46g : phG G1 (phX v84) (l 46) R8q := d0 rfl
 exact zi (Gj := true) (Bj := decide ((↑(ix m.rows x77).length : Int) ≠ m.inputs)) rfl rfl rfl (zx (d2 rfl)) rfl (fun hG hB => ym (vs := [v84, (.func (.func 71) #[] #[v1])]) ztt (by simp only [List.map, ev, (show l 46 = v84 from f46g.1 (zq rfl hB)), (show l 47 = (.func (.func 71) #[] #[v1]) from (d1 rfl).1 (zq rfl hB))] <;> rfl) ((by have z := (rf c87 (zq hG hB)); exact z1x (h85.mono hle) ((zbo (cs := [v1]) zun fun R1 hq z0 u0 y k0 hy => by obtain rfl := tu.1 k0; exact CallP.mono (z8f ((h2.mono ((le7.trans le38).trans le79)).mono hq) hy) fun v R2 _ hv => kg.2 hv).mono hle) z)) (fun _ _ h => h))
 rintro l R9q hle ha ⟨d0, d1, _⟩;exact zb rfl rfl rfl (zl (oo (d0 rfl) rfl (fun hb => (show l 48 = (.bool (y86.getD default)) from (d1 rfl).1 (zq rfl hb)))));intro v90 h91 v92 h93 v94 h95 v96 h97 v98 h99 v100 h101 v102 h103 v104 h105 v106 h107 v108 h109;obtain rfl := Eq.symm h91;obtain rfl := Eq.symm h93;obtain rfl := Eq.symm h97;obtain rfl := Eq.symm h99
 obtain rfl := Eq.symm h101;obtain rfl := Eq.symm h109;refine zh (q9 rfl (fun e110 => ?_) (fun e110 => ?_));replace hd1 := j4 e110 hd1; clear e110;refine zg (za (zf rfl (ze (v := (.int .i64 1)) rfl) (zh (qj ?_))));replace hd0 := z3r hd1 hd0;obtain rfl := Option.some.inj hd0
 refine zy (D := []) (J := []) (rs := [.tmp 2]) (vs := [(.int .i64 1)]) ((((le4.trans le7).trans le38).trans le79).trans le89) rfl rfl ⟨rfl, trivial⟩ ?_;exact ⟨rfl, rfl⟩;replace hd1 := j3 e110 hd1; clear e110;refine qb (za ?_);obtain ⟨g111, hd1⟩ := zn hd1;refine zf rfl (jc rfl rfl g111) (zf rfl (z8 (v := (.int .i64 (x77 + 1))) rfl) (zh ?_))
 exact ⟨(fun _ => rfl), le89, u6, (F76, x77 + 1), Nat.lt_succ_self _, ⟨rfl, trivial⟩, ⟨[], List.Perm.refl _⟩, hd1, trivial⟩;replace hd1 := j3 e80 hd1; clear e80;refine ku ?_;exact ⟨(fun _ => rfl), le79, u6, (), trivial, ⟨[], List.Perm.refl _⟩, (Option.some.inj hd1).symm, trivial⟩;rintro o68 j115 D116 R70 hD117 le71 ⟨rfl, _⟩;obtain rfl := hD117 rfl;replace hd0 := z4f hd0
 refine zg (za (zf rfl (ze (v := (.int .i64 0)) rfl) (zh (qj ?_))));obtain rfl := Option.some.inj hd0;refine zy (D := []) (J := []) (rs := [.tmp 2]) (vs := [(.int .i64 0)]) (((le4.trans le7).trans le38).trans le71) rfl rfl ⟨rfl, trivial⟩ ?_;exact ⟨rfl, rfl⟩
theorem zlm : Enters Try.prog 50 := enters_of Try.func50 rfl (by kernel_rfl)
theorem ztl : ∀ w, ∃ z, (zeroValue 102).run Try.prog w = .ok z w ∧ z.cells = ([.int .i64 0, .nilFunc, .int .i64 0, .nilFunc, .int .i64 0, .nilFunc] : List Value).toArray := fun w => ⟨(.agg #[(.int .i64 0), .nilFunc, (.int .i64 0), .nilFunc, (.int .i64 0), .nilFunc]), by kernel_rfl, rfl⟩
theorem zqx : ∀ w, (sizeOf 102).run Try.prog w = .ok 6 w := fun w => by kernel_rfl
theorem ztb : ∀ w, (isAgg 102).run Try.prog w = .ok true w := fun w => by kernel_rfl
theorem z96 {N : Nat} {R : RH} {m : Mach} {v_m : Value} (h_m : VRep (jd false false) R v_m m) {r : Mach × Mach × Mach} (hd0 : z3a N m = some r) : CallP Try.prog 57 #[v_m] R (fun v R' => ∃ u0 u1 u2, v = .agg #[(.int .i64 9), .func (.func 77) #[] #[u0], (.int .i64 11), .func (.func 79) #[] #[u1], (.int .i64 12), .func (.func 81) #[] #[u2]] ∧ PRep (jd false false) R' u0 r.1 ∧ PRep (jd false false) R' u1 r.2.1 ∧ PRep (jd false false) R' u2 r.2.2) := by
 refine qf (args := [v_m]) Try.func57 rfl rfl fun A => ?_;rw [z3a] at hd0;refine zg (za (uy (T := (jd false false)) rfl rfl rfl h_m fun v1 R3 le4 h5 h2 => ?_));refine ui rfl ztl fun b6 => ?_
 refine zh (zg (za (zf rfl (xw (fs := []) (cs := [v1]) rfl rfl) (zf rfl (uh (ps := [(0, (.int .i64 9)), (1, (.func (.func 77) #[] #[v1]))]) (v := (.agg #[(.int .i64 9), (.func (.func 77) #[] #[v1])])) rfl (fun w => by kernel_rfl)) (zf rfl (xw (fs := []) (cs := [v1]) rfl rfl) (zf rfl (uh (ps := [(0, (.int .i64 11)), (1, (.func (.func 79) #[] #[v1]))]) (v := (.agg #[(.int .i64 11), (.func (.func 79) #[] #[v1])])) rfl (fun w => by kernel_rfl)) (zf rfl (xw (fs := []) (cs := [v1]) rfl rfl) (zf rfl (uh (ps := [(0, (.int .i64 12)), (1, (.func (.func 81) #[] #[v1]))]) (v := (.agg #[(.int .i64 12), (.func (.func 81) #[] #[v1])])) rfl (fun w => by kernel_rfl)) (zf rfl (uh (ps := [(0, (.agg #[(.int .i64 9), (.func (.func 77) #[] #[v1])])), (1, (.agg #[(.int .i64 11), (.func (.func 79) #[] #[v1])])), (2, (.agg #[(.int .i64 12), (.func (.func 81) #[] #[v1])]))]) (v := (.agg #[(.int .i64 9), (.func (.func 77) #[] #[v1]), (.int .i64 11), (.func (.func 79) #[] #[v1]), (.int .i64 12), (.func (.func 81) #[] #[v1])])) rfl (fun w => by kernel_rfl)) (jf (i := 0) (vs := [(.int .i64 9), (.func (.func 77) #[] #[v1]), (.int .i64 11), (.func (.func 79) #[] #[v1]), (.int .i64 12), (.func (.func 81) #[] #[v1])]) zqx rfl rfl rfl rfl rfl rfl (qa rfl (qa rfl (qa rfl (qa rfl (qa rfl (qa rfl jl)))))) ?_))))))))))
 refine zh (qj ?_);obtain rfl := Option.some.inj hd0
 refine zy (D := []) (J := [box b6 [(.int .i64 9), (.func (.func 77) #[] #[v1]), (.int .i64 11), (.func (.func 79) #[] #[v1]), (.int .i64 12), (.func (.func 81) #[] #[v1])] 102]) (rs := [.cell 2 102]) (vs := [(.agg #[(.int .i64 9), (.func (.func 77) #[] #[v1]), (.int .i64 11), (.func (.func 79) #[] #[v1]), (.int .i64 12), (.func (.func 81) #[] #[v1])])]) le4 rfl rfl ⟨⟨_, rfl, fun w hh => z2a (i := 0) hh rfl rfl ztb zqx rfl rfl⟩, trivial⟩ ?_
 exact ⟨rfl, ⟨v1, v1, v1, rfl, h2, h2, h2⟩⟩
theorem zu4 : Enters Try.prog 57 := enters_of Try.func57 rfl (by kernel_rfl)
theorem zn6 : ∀ w, ∃ z, (zeroValue 101).run Try.prog w = .ok z w ∧ z.cells = ([.int .i64 0, .nilFunc] : List Value).toArray := fun w => ⟨(.agg #[(.int .i64 0), .nilFunc]), by kernel_rfl, rfl⟩
theorem zmg : ∀ w, (sizeOf 101).run Try.prog w = .ok 2 w := fun w => by kernel_rfl
theorem zfz : FieldOk Try.prog 101 1 1 := by
 obtain ⟨i, hi, hs⟩ : ∃ i, Try.prog.info? 30 = some i ∧ i.size = 1 := kw (by kernel_rfl);exact wy Try.underlying101 rfl rfl hi (by rw [hs]; rfl)
theorem zru : ∀ w, (isAgg 30).run Try.prog w = .ok false w := fun w => by kernel_rfl
theorem zu5 : ∀ w, ∃ z, (zeroValue 33).run Try.prog w = .ok z w ∧ z.cells = ([.slice none 0 0] : List Value).toArray := fun w => ⟨(.slice none 0 0), by kernel_rfl, rfl⟩
theorem zaj {N : Nat} {R : RH} {m : Mach} {v_m : Value} (h_m : VRep (jd false false) R v_m m) {r : Mach} (hd0 : z1l N m = some r) : CallP Try.prog 99 #[v_m] R (fun v R' => ∃ u0, v = .func (.func 106) #[] #[u0] ∧ PRep (jd false false) R' u0 r) := by
 refine qf (args := [v_m]) Try.func99 rfl rfl fun A => ?_;rw [z1l] at hd0;refine zg (za (uy (T := (jd false false)) rfl rfl rfl h_m fun v1 R3 le4 h5 h2 => ?_))
 refine zf rfl (ze (v := .nilFunc) rfl) (zh (zg (za (zf rfl (xw (fs := []) (cs := [v1]) rfl rfl) (zf rfl (ze (v := (.func (.func 106) #[] #[v1])) rfl) (zh (qj ?_)))))));obtain rfl := Option.some.inj hd0;refine zy (D := []) (J := []) (rs := [.tmp 2]) (vs := [(.func (.func 106) #[] #[v1])]) le4 rfl rfl ⟨rfl, trivial⟩ ?_
 exact ⟨rfl, ⟨v1, rfl, h2⟩⟩
theorem zv9 : Enters Try.prog 99 := enters_of Try.func99 rfl (by kernel_rfl)
theorem z8a {N : Nat} {R : RH} {p0_ : Mach} {v_p0_ : Value} (h_p0_ : PRep (jd false false) R v_p0_ p0_) : zj5 Try.prog 106 [v_p0_] R (fun (x : ((Int × Int) × Edge)) vs R => vs = [(ma x.1), (z0p x.2)]) (fun σ B s => ru N p0_ σ B s) := by
 intro yv σ B I R1 O s0 s1 hle0 hmI h0 hd0 hy;refine ow (args := [yv, v_p0_]) Try.func106 rfl rfl fun A => ?_;dsimp only at hd0;rw [ru] at hd0;refine zg (za (um rfl dh yt rfl (h_p0_.mono hle0) fun v1 h2 => ?_));refine ql rfl z2v rfl h2 fun v3 h4 => ?_
 refine zf rfl (qi rfl Try.underlying22 rfl (ja h4)) (zf rfl (z8 (v := (.int .i64 0)) rfl) (zh (q8 (jo (γ := Nat × σ × Int × (List Frag)) true [11, 12, 13, 14, 3, 4, 15, 16, 17, 18, 19, 20, 21, 6, 5, 22, 23, 24, 25, 26, 27, 28, 29, 30, 10] (fun g => [(10, (.int .i64 g.2.2.1))]) (fun g => [] ++ (g.2.2.2 ++ A)) (fun g R => xc N σ B p0_ g.1 g.2.1 g.2.2.1 = some s1 ∧ I g.2.1 R g.2.2.2 ∧ True) (fun g => g.1) (N, s0, 0, O) ⟨rfl, trivial⟩ ⟨[], List.Perm.refl _⟩ ⟨hd0, h0, trivial⟩ (fun _ => rfl) ?_))))
 clear hd0;rintro ⟨F5, x6, x7, OJ10⟩ j54 D55 R8 hD56 le9 ⟨hd0, hi11, _⟩;obtain rfl := hD56 rfl;rcases F5 with _ | F5;exact j6 hd0;replace hd0 : xc N σ B p0_ (F5 + 1) x6 x7 = some s1 := hd0; rw [xc] at hd0;refine zg (za (zf rfl (jh rfl rfl) (zh (zg (q9 rfl (fun e12 => ?_) (fun e12 => ?_))))))
 replace hd0 := j4 e12 hd0; clear e12;refine qb ?_;obtain ⟨q14, hd1, hd0⟩ := zt hd0;refine jk (γ := σ × (List Frag)) true [12, 13, 14, 3, 4, 15, 16, 17, 18, 19, 20, 21, 6, 5, 22, 23, 24, 25, 26, 27, 28, 29] (fun g => []) (fun g => [] ++ (g.2 ++ A)) (fun g R => q14 = Ex.go g.1 ∧ I g.1 R g.2 ∧ True) ?_ ?_
 refine q8 (zg (za (zf rfl (z8 (v := (.int .i64 x7)) rfl) ?_)));obtain ⟨g19, hd1⟩ := zn hd1;refine ky (i := x7.toNat) rfl zcp rfl (ja (h4.mono le9)) (zm rfl g19.1) (qd g19) fun v20 h21 => ?_;refine ql rfl zbc rfl h21 fun v22 h23 => ?_
 refine zf rfl (ze (v := (.int .i64 x7)) rfl) (zf rfl (ze (v := v22) rfl) (zh (zg (za (zf rfl (z8 (v := v22) rfl) (zf rfl (qi rfl Try.underlying26 rfl (ja h23)) (zf rfl (z8 (v := (.int .i64 0)) rfl) (zh (q8 (jo (γ := Nat × σ × Int × (List Frag)) true [18, 19, 20, 21, 6, 5, 22, 23, 24, 25, 26, 27, 28, 29, 17] (fun g => [(17, (.int .i64 g.2.2.1))]) (fun g => [] ++ (g.2.2.2 ++ A)) (fun g R => yg N σ B p0_ x7 g.1 g.2.1 g.2.2.1 = some q14 ∧ I g.2.1 R g.2.2.2 ∧ True) (fun g => g.1) (N, x6, 0, OJ10) ⟨rfl, trivial⟩ ⟨[], List.Perm.refl _⟩ ⟨hd1, hi11, trivial⟩ (fun _ => rfl) ?_))))))))))
 clear hd1;rintro ⟨F24, x25, x26, OJ29⟩ j47 D48 R27 hD49 le28 ⟨hd1, hi30, _⟩;obtain rfl := hD49 rfl;rcases F24 with _ | F24;exact j6 hd1;replace hd1 : yg N σ B p0_ x7 (F24 + 1) x25 x26 = some q14 := hd1; rw [yg] at hd1;refine zg (za (zf rfl (jh rfl rfl) (zh (zg (q9 rfl (fun e31 => ?_) (fun e31 => ?_))))))
 replace hd1 := j4 e31 hd1; clear e31;refine qb (zg (q8 (zg (za (zf rfl (z8 (v := (.int .i64 x26)) rfl) ?_)))));obtain ⟨g32, hd1⟩ := zn hd1;refine ky (i := x26.toNat) rfl zcu rfl (ja (h23.mono le28)) (zm rfl g32.1) (qd g32) fun v33 h34 => ?_;refine ql rfl zd7 rfl h34 fun v35 h36 => ?_;obtain rfl := tu.1 h36
 refine ui rfl zfh fun b37 => ?_;refine zf rfl (ze (v := (.int .i64 x26)) rfl) (jf (i := 0) (vs := [(.int .i64 ((ix (ix p0_.rows x7) x26).to)), (.int .i64 ((ix (ix p0_.rows x7) x26).out))]) za1 rfl rfl rfl rfl rfl rfl (qa rfl (qa rfl jl)) ?_)
 refine zh (zg (za (zf rfl (z8 (v := yv) rfl) (zf rfl (z8 (v := (.int .i64 x7)) rfl) (zf rfl (z8 (v := (.int .i64 x26)) rfl) (zf rfl (uh (ps := [(0, (.int .i64 x7)), (1, (.int .i64 x26))]) (v := (.agg #[(.int .i64 x7), (.int .i64 x26)])) rfl (fun w => by kernel_rfl)) (zf rfl (yl (i := 0) zro za1 rfl rfl rfl rfl) ?_)))))))
 obtain ⟨y39, c40, hd1⟩ := zt hd1
 refine zah (vs := [(.agg #[(.int .i64 x7), (.int .i64 x26)]), (.agg #[(.int .i64 ((ix (ix p0_.rows x7) x26).to)), (.int .i64 ((ix (ix p0_.rows x7) x26).out))])]) (J := [box b37 [(.int .i64 ((ix (ix p0_.rows x7) x26).to)), (.int .i64 ((ix (ix p0_.rows x7) x26).out))] 62]) (Oc := OJ29) (A := A) rfl rfl rfl rfl (hy (((x7, x26) : (Int × Int)), (⟨(ix (ix p0_.rows x7) x26).to, (ix (ix p0_.rows x7) x26).out⟩ : Edge)) x25 y39.1 y39.2 _ _ [(.agg #[(.int .i64 x7), (.int .i64 x26)]), (.agg #[(.int .i64 ((ix (ix p0_.rows x7) x26).to)), (.int .i64 ((ix (ix p0_.rows x7) x26).out))])] (le9.trans le28) rfl hi30 c40) fun R41 OJ43 le42 hi44 => ?_
 refine zf rfl (ib rfl) (zh (q9 rfl (fun e45 => ?_) (fun e45 => ?_)));replace hd1 := j4 e45 hd1; clear e45;refine qj ?_;replace hd0 := z3r hd1 hd0;obtain rfl := Option.some.inj hd0
 refine tq (D := []) (J := [box b37 [(.int .i64 ((ix (ix p0_.rows x7) x26).to)), (.int .i64 ((ix (ix p0_.rows x7) x26).out))] 62]) (O' := OJ43) (rs := []) (vs := []) ((le9.trans le28).trans le42) (List.Perm.refl _) rfl trivial ?_;exact hi44;replace hd1 := j3 e45 hd1; clear e45;refine qb (za ?_);obtain ⟨g46, hd1⟩ := zn hd1
 refine zf rfl (jc rfl rfl g46) (zf rfl (z8 (v := (.int .i64 (x26 + 1))) rfl) (zh ?_));exact ⟨(fun _ => rfl), le42, u6, (F24, y39.2, x26 + 1, OJ43), Nat.lt_succ_self _, ⟨rfl, trivial⟩, ⟨[box b37 [(.int .i64 ((ix (ix p0_.rows x7) x26).to)), (.int .i64 ((ix (ix p0_.rows x7) x26).out))] 62], (List.Perm.refl _)⟩, hd1, hi44, trivial⟩;replace hd1 := j3 e31 hd1; clear e31
 refine ku ?_;exact ⟨(fun _ => rfl), le28, u6, (x25, OJ29), trivial, ⟨[], List.Perm.refl _⟩, (Option.some.inj hd1).symm, hi30, trivial⟩;rintro ⟨o13, OJ17⟩ j50 D51 R15 hD52 le16 ⟨rfl, hi18, _⟩;obtain rfl := hD52 rfl;replace hd0 := z4f hd0;refine za ?_;obtain ⟨g53, hd0⟩ := zn hd0
 refine zf rfl (jc rfl rfl g53) (zf rfl (z8 (v := (.int .i64 (x7 + 1))) rfl) (zh ?_));exact ⟨(fun _ => rfl), le16, u6, (F5, o13, x7 + 1, OJ17), Nat.lt_succ_self _, ⟨rfl, trivial⟩, ⟨[], List.Perm.refl _⟩, hd0, hi18, trivial⟩;replace hd0 := j3 e12 hd0; clear e12;refine ku ?_;show z5y _ _ _ _ _ .ret _ [] _ _;obtain rfl := Option.some.inj hd0
 refine tq (D := []) (J := []) (O' := OJ10) (rs := []) (vs := []) le9 (List.Perm.refl _) rfl trivial ?_;exact hi11
theorem zsr : Enters Try.prog 106 := enters_of Try.func106 rfl (by kernel_rfl)
theorem zu0 : ∀ w, ∃ z, (zeroValue 73).run Try.prog w = .ok z w ∧ z.cells = ([.int .i64 0, .int .i64 0] : List Value).toArray := fun w => ⟨(.agg #[(.int .i64 0), (.int .i64 0)]), by kernel_rfl, rfl⟩
theorem zrp : ∀ w, (sizeOf 73).run Try.prog w = .ok 2 w := fun w => by kernel_rfl
theorem zq7 : ∀ w, (isAgg 33).run Try.prog w = .ok false w := fun w => by kernel_rfl
theorem zup : ∀ w, (isAgg 73).run Try.prog w = .ok true w := fun w => by kernel_rfl
theorem zma : ZeroOk Try.prog 73 kA2tInti64 (((0 : Int), (0 : Int)) : (Int × Int)) 16 := by
 obtain ⟨i, zv, hi, hz, hs, hb, hv⟩ := z16 (P := Try.prog) (e := 73) (zv := (.agg #[(.int .i64 0), (.int .i64 0)])) (k := 2) (b := 16) (by kernel_rfl);exact ⟨i, zv, hi, hz, hs, hb, fun R => by subst hv; exact ⟨_, _, rfl, rfl, rfl⟩⟩
theorem zrn : ∀ w, (sizeOf 33).run Try.prog w = .ok 1 w := fun w => by kernel_rfl
theorem zs5 : TyOk Try.prog 73 kA2tInti64 := by
 obtain ⟨i, hi, hs⟩ : ∃ i, Try.prog.info? 73 = some i ∧ i.size = 2 := kw (by kernel_rfl);exact z1i Try.underlying73 hi rfl hs
theorem zri : SlOk Try.prog 33 73 kA2tInti64 := ⟨Try.underlying33, zs5⟩
theorem z2k {N : Nat} {R : RH} {s : (List (Int × Int))} {v_s : Value} (h_s : VRep (tSl false kA2tInti64) R v_s s) {r : (List (Int × Int))} (hd0 : p8 N s = some r) : CallP Try.prog 42 #[v_s] R (fun v R' => VRep (tSl true kA2tInti64) R' v r) := by
 refine qf (args := [v_s]) Try.func42 rfl rfl fun A => ?_;rw [p8] at hd0
 refine zg (za (zf rfl (ze (v := (.slice none 0 0)) rfl) (zh (zg (za (zf rfl (z8 (v := v_s) rfl) (zf rfl (z8 (v := v_s) rfl) (zf rfl (qi rfl Try.underlying33 rfl (ja h_s)) (zf rfl (z8 (v := v_s) rfl) (zf rfl (qi rfl Try.underlying33 rfl (ja h_s)) ?_))))))))));obtain ⟨g4, hd0⟩ := zn hd0
 refine zab (v := v_s) (lo := (0 : Int).toNat) (hi := (↑s.length : Int).toNat) (mx := (↑s.length : Int).toNat) rfl zri rfl (ja h_s) (.inl ⟨rfl, rfl⟩) (.inr ⟨_, congrArg some (zm rfl (z7t g4))⟩) (.inr ⟨_, congrArg some (zm rfl (z7t g4))⟩) (zcm g4) (z3v g4) (Nat.le_refl _) (Nat.le_trans (z3v g4) (zm3 (ja h_s))) (X' := (cut s 0 (↑s.length : Int))) rfl fun v1 h2 cap3 => ?_
 have h5 : VRep (tSl true kA2tInti64) R v1 (cut s 0 (↑s.length : Int)) := ll h2 (cap3.trans (zbr g4).symm);refine zf rfl (ze (v := v1) rfl) (zh (qj ?_));obtain rfl := Option.some.inj hd0;refine zy (D := []) (J := []) (rs := [.tmp 2]) (vs := [v1]) (RH.le.refl _) rfl rfl ⟨rfl, trivial⟩ ?_;exact ⟨rfl, h5⟩
theorem zt1 : Enters Try.prog 42 := enters_of Try.func42 rfl (by kernel_rfl)
theorem z6v {N : Nat} {R : RH} {m : Mach} {v_m : Value} (h_m : VRep (jd false false) R v_m m) {r : (List (Int × Int))} (hd0 : av N m = some r) : CallP Try.prog 92 #[v_m] R (fun v R' => VRep (tSl true kA2tInti64) R' v r) := by
 refine qf (args := [v_m]) Try.func92 rfl rfl fun A => ?_;rw [av] at hd0;refine zg (za (uy (T := (jd false false)) rfl rfl rfl h_m fun v1 R3 le4 h5 h2 => ?_));refine zf rfl (ze (v := (.slice none 0 0)) rfl) (zh (zg (za (ui rfl zu5 fun b6 => ?_))))
 refine zh (zg (zg (za (zf rfl (ul z09 rfl rfl h5 (h_m.mono le4)) ?_))));obtain ⟨y8, c9, hd0⟩ := zt hd0;refine qx rfl zv9 rfl (zaj (h_m.mono le4) c9) fun v10 R12 le13 h11 => ?_;obtain ⟨v14, rfl, h15⟩ := h11;refine zh (q8 (z3f ?_));obtain ⟨o17, c18, hd0⟩ := zt hd0
 refine zcn (Oc := [emp, box b6 [(.slice none 0 0)] 33]) (Or := A) _ (fun (s : List (Int × Int)) R O => ∃ (v23 : Value) (f24 : Frag), (∃ J, O.Perm (J ++ [box b6 [v23] 33, f24])) ∧ ORep kA2tInti64 R f24 v23 s ∧ True) (fun (s : List (Int × Int)) (c : Code) R O => False) _ _ rfl zsr (z8a (N := N) h15) (List.Perm.refl _) (by decide) (by rintro _ _ _ rfl; rfl) (by rintro s R2 R3 O2 hle ⟨v23, f24, hJ, h25, _⟩; exact ⟨v23, f24, hJ, h25.mono hle, trivial⟩) (fun _ _ _ _ _ _ h => h) (fun _ _ _ _ _ h => h.elim) ⟨(.slice none 0 0), emp, ⟨[], (pk 1 rfl (pk 0 rfl (List.Perm.refl _)))⟩, (z0d (T := kA2tInti64)), trivial⟩ c18 ?_ ?_ ?_
 rintro y19 x20 b27 s28 lb29 R30 vs31 Oc32 le33 he34 ⟨v23, f24, ⟨_, hJ⟩, h25, _⟩ hB36 X37;have hd1 := hB36; clear hB36;(try dsimp only at hd1);refine z8y (zcj hJ) ?_;obtain rfl := he34;refine zg (za (ui rfl zu0 fun b38 => ?_));refine jf (i := 0) (vs := [(.int .i64 y19.1.1), (.int .i64 y19.1.2)]) zrp rfl rfl rfl rfl rfl rfl (qa rfl (qa rfl jl)) ?_
 refine zh (za (ui rfl zfh fun b40 => ?_));refine jf (i := 0) (vs := [(.int .i64 y19.2.to), (.int .i64 y19.2.out)]) za1 rfl rfl rfl rfl rfl rfl (qa rfl (qa rfl jl)) ?_;refine zh ?_
 refine ⟨rfl, rfl, (RH.le.refl _), [box b40 [(.int .i64 y19.2.to), (.int .i64 y19.2.out)] 62, box b38 [(.int .i64 y19.1.1), (.int .i64 y19.1.2)] 73, box b6 [v23] 33, f24], List.Perm.refl _, fun X42 => ?_⟩;refine q8 (zg ?_);obtain ⟨y43, c44, hd1⟩ := zt hd1
 refine bi 3 [] [phX (.agg #[(.int .i64 y19.2.to), (.int .i64 y19.2.out)]), phX (z0p y43), phX (.bool (decide (y19.2.to = y43.to ∧ y19.2.out = y43.out)))] mixed (by kernel_rfl) (jq ⟨zk, zk, zk, trivial⟩) ⟨?_, ?_, ?_, trivial⟩ fun R45 le46 => ?_;intro l R0q hle ha hd;exact zb rfl rfl rfl (zl (yl (i := 0) zro za1 (ha 5 rfl) rfl rfl rfl))
 intro l R1q hle ha hd;exact zb rfl rfl rfl (ym (vs := []) zra rfl (z2z  c44) (fun _ _ h => h));rintro l R2q hle ha ⟨d0, d1, _⟩;exact zb rfl rfl rfl (zl (zg4 zta (d0 rfl) (d1 rfl)));intro v47 h48 v49 h50 v51 h52;obtain rfl := Eq.symm h48;obtain rfl := Eq.symm h50;obtain rfl := Eq.symm h52;refine zh (q9 rfl (fun e53 => ?_) (fun e53 => ?_))
 replace hd1 := j4 e53 hd1; clear e53
 refine za (zf rfl (qc (i := 2) zq7 rfl rfl rfl) (zf rfl (yl (i := 1) zup zrp rfl rfl rfl rfl) (mg (T := kA2tInti64) (X := ([((y19.1.1, y19.1.2) : (Int × Int))] : List (Int × Int))) (ps := [(0, (.agg #[(.int .i64 y19.1.1), (.int .i64 y19.1.2)]))]) (css := [[(.int .i64 y19.1.1), (.int .i64 y19.1.2)]]) rfl Try.underlying33 zma rfl rfl (jr ⟨⟨_, _, rfl, rfl, rfl⟩, trivial⟩) rfl rfl (by decide) fun v54 f55 cap56 h57 => ?_)))
 refine uo (i := 0) rfl h57 fun R59 le60 h61 => ?_;have h62 : VRep (tSl true kA2tInti64) R59 v54 ([((y19.1.1, y19.1.2) : (Int × Int))] : List (Int × Int)) := (ll h61 cap56);obtain ⟨g63, hd1⟩ := zn hd1
 refine af (i := 3) (X := x20) (Y := ([((y19.1.1, y19.1.2) : (Int × Int))] : List (Int × Int))) rfl Try.underlying33 zma rfl rfl rfl (h25.mono (le46.trans le60)) (ja (Sub.v (B := (tSl false kA2tInti64)) (j5 Sub.refl (fun _ => rfl)) h62)) g63.1 g63.2 fun v64 f65 h66 => ?_
 refine jf (i := 2) (vs := [v64]) zrn rfl rfl (bz h66) rfl rfl rfl (qa (vo h66) jl) ?_;refine zh ?_;obtain ⟨rfl, rfl⟩ := Prod.mk.inj (Option.some.inj hd1)
 exact ⟨rfl, (le46.trans le60), [box b40 [(.int .i64 y19.2.to), (.int .i64 y19.2.out)] 62, box b38 [(.int .i64 y19.1.1), (.int .i64 y19.1.2)] 73, box b6 [v64] 33, f65], List.Perm.refl _, rfl, ⟨v64, f65, ⟨[box b40 [(.int .i64 y19.2.to), (.int .i64 y19.2.out)] 62, box b38 [(.int .i64 y19.1.1), (.int .i64 y19.1.2)] 73], (List.Perm.refl _)⟩, h66, trivial⟩⟩;replace hd1 := j3 e53 hd1; clear e53
 refine qb ?_;obtain ⟨rfl, rfl⟩ := Prod.mk.inj (Option.some.inj hd1)
 exact ⟨rfl, le46, [box b40 [(.int .i64 y19.2.to), (.int .i64 y19.2.out)] 62, box b38 [(.int .i64 y19.1.1), (.int .i64 y19.1.2)] 73, box b6 [v23] 33, f24], List.Perm.refl _, rfl, ⟨v23, f24, ⟨[box b40 [(.int .i64 y19.2.to), (.int .i64 y19.2.out)] 62, box b38 [(.int .i64 y19.1.1), (.int .i64 y19.1.2)] 73], (List.Perm.refl _)⟩, (h25.mono le46), trivial⟩⟩
 rintro D73 R67 Oc74 le68 ⟨v69, f70, ⟨_, hJ⟩, h71, _⟩;refine ⟨_, _, hJ, ?_⟩;refine zg (za (zf rfl (qc (i := 0) zq7 rfl rfl rfl) (uo (i := 1) rfl h71 fun R75 le76 h77 => ?_)));have h78 : VRep (tSl false kA2tInti64) R75 v69 o17 := (z7j h77);obtain ⟨y79, c80, hd0⟩ := zt hd0;refine qx rfl zt1 rfl (z2k h78 c80) fun v81 R83 le84 h82 => ?_
 refine zf rfl (ze (v := v81) rfl) (zh (qj ?_));obtain rfl := Option.some.inj hd0;refine zy (D := []) (J := [box b6 [v69] 33]) (rs := [.tmp 2]) (vs := [v81]) ((((le4.trans le13).trans le68).trans le76).trans le84) rfl rfl ⟨rfl, trivial⟩ ?_;exact ⟨rfl, h82⟩;exact fun _ _ _ _ _ h => h.elim
theorem zva : Enters Try.prog 92 := enters_of Try.func92 rfl (by kernel_rfl)
theorem z7i {N : Nat} {R : RH} {m : Mach} {v_m : Value} (h_m : VRep (jd false false) R v_m m) {r : Bool × Int} (hd0 : si N m = some r) : CallP Try.prog 78 #[v_m] R (fun v R' => v = .tuple #[(.bool r.1), (.int .i64 r.2)]) := by
 refine qf (args := [v_m]) Try.func78 rfl rfl fun A => ?_;rw [si] at hd0;refine zg (za (uy (T := (jd false false)) rfl rfl rfl h_m fun v1 R3 le4 h5 h2 => ?_));refine zf rfl (ze (v := (.bool false)) rfl) (zf rfl (ze (v := (.int .i64 0)) rfl) (zh (zg (zg (za (zf rfl (ul z09 rfl rfl h5 (h_m.mono le4)) ?_))))))
 obtain ⟨y6, c7, hd0⟩ := zt hd0;refine qx rfl zlm rfl (ah (h_m.mono le4) c7) fun v8 R10 le11 h9 => ?_;obtain rfl := h9;refine zf rfl (ze (v := (.int .i64 y6)) rfl) (zh (zg (za (zf rfl (z8 (v := (.int .i64 y6)) rfl) (zf rfl (uw rfl rfl) (zh (q9 rfl (fun e12 => ?_) (fun e12 => ?_))))))));replace hd0 := j4 e12 hd0; clear e12
 refine zg (za (zf rfl (z8 (v := (.int .i64 y6)) rfl) (zf rfl (ze (v := (.bool false)) rfl) (zf rfl (ze (v := (.int .i64 y6)) rfl) (zh (qj ?_))))));obtain rfl := Option.some.inj hd0;refine zy (D := []) (J := []) (rs := [.tmp 2, .tmp 3]) (vs := [(.bool false), (.int .i64 y6)]) (le4.trans le11) rfl rfl ⟨rfl, rfl, trivial⟩ ?_;exact ⟨rfl, rfl⟩
 replace hd0 := j3 e12 hd0; clear e12;refine qb (zg (za (zf rfl (ul z09 rfl rfl (h5.mono le11) (h_m.mono (le4.trans le11))) ?_)));obtain ⟨y13, c14, hd0⟩ := zt hd0;refine qx rfl zva rfl (z6v (h_m.mono (le4.trans le11)) c14) fun v15 R17 le18 h16 => ?_
 refine zf rfl (qi rfl Try.underlying33 rfl (ja h16)) (zf rfl (az rfl rfl) (zf rfl (ze (v := (.bool (decide ((↑y13.length : Int) = 0)))) rfl) (zf rfl (ze (v := (.int .i64 0)) rfl) (zh (qj ?_)))));obtain rfl := Option.some.inj hd0
 refine zy (D := []) (J := []) (rs := [.tmp 2, .tmp 3]) (vs := [(.bool (decide ((↑y13.length : Int) = 0))), (.int .i64 0)]) ((le4.trans le11).trans le18) rfl rfl ⟨rfl, rfl, trivial⟩ ?_;exact ⟨rfl, rfl⟩
theorem zui : Enters Try.prog 78 := enters_of Try.func78 rfl (by kernel_rfl)
theorem z7k {N : Nat} {R : RH} {p0_ : Mach} {v_p0_ : Value} (h_p0_ : PRep (jd false false) R v_p0_ p0_) {r : Bool} (hd0 : sj N p0_ = some r) : CallP Try.prog 77 #[v_p0_] R (fun v R' => v = (.bool r)) := by
 refine qf (args := [v_p0_]) Try.func77 rfl rfl fun A => ?_;rw [sj] at hd0;refine zg (za (zf rfl (ze (v := (.bool false)) rfl) (zh (zg (za (ql rfl z09 rfl h_p0_ fun v1 h2 => ?_))))));obtain ⟨y3, c4, hd0⟩ := zt hd0;refine qx rfl zui rfl (z7i h2 c4) fun v5 R7 le8 h6 => ?_;obtain rfl := h6
 refine zf rfl (z8 (v := (.tuple #[(.bool y3.1), (.int .i64 y3.2)])) rfl) (zf rfl (qo rfl rfl) (zf rfl (qo rfl rfl) (zf rfl (ze (v := (.bool y3.1)) rfl) (zf rfl (ze (v := (.int .i64 y3.2)) rfl) (zh (zg (za (zf rfl (z8 (v := (.bool y3.1)) rfl) (zf rfl (ze (v := (.bool y3.1)) rfl) (zh (qj ?_)))))))))))
 obtain rfl := Option.some.inj hd0;refine zy (D := []) (J := []) (rs := [.tmp 1]) (vs := [(.bool y3.1)]) le8 rfl rfl ⟨rfl, trivial⟩ ?_;exact ⟨rfl, rfl⟩
theorem zuq : Enters Try.prog 77 := enters_of Try.func77 rfl (by kernel_rfl)
theorem zfq : FieldOk Try.prog 101 0 0 := by
 obtain ⟨i, hi, hs⟩ : ∃ i, Try.prog.info? 27 = some i ∧ i.size = 1 := kw (by kernel_rfl);exact wy Try.underlying101 rfl rfl hi (by rw [hs]; rfl)
theorem zrt : ∀ w, (isAgg 27).run Try.prog w = .ok false w := fun w => by kernel_rfl
theorem ztk : ∀ w, ∃ z, (zeroValue 78).run Try.prog w = .ok z w ∧ z.cells = ([.slice none 0 0] : List Value).toArray := fun w => ⟨(.slice none 0 0), by kernel_rfl, rfl⟩
theorem zsl : ∀ w, (sizeOf 78).run Try.prog w = .ok 1 w := fun w => by kernel_rfl
theorem zv0 : ∀ w, ∃ z, (zeroValue 88).run Try.prog w = .ok z w ∧ z.cells = ([.nilFunc] : List Value).toArray := fun w => ⟨.nilFunc, by kernel_rfl, rfl⟩
theorem zuo : ∀ w, (sizeOf 88).run Try.prog w = .ok 1 w := fun w => by kernel_rfl
theorem zsv : ∀ w, (isAgg 88).run Try.prog w = .ok false w := fun w => by kernel_rfl
theorem z9x : ∀ w, (isAgg 78).run Try.prog w = .ok false w := fun w => by kernel_rfl
theorem zsi : Enters Try.prog 93 := enters_of Try.func93 rfl (by kernel_rfl)
theorem z3k {N : Nat} (F : Nat) : ∀ {R : RH} {s : Int} {b_p0_ : Nat} {p0_ : List Bool} {v_p0_ : Value} {f_p0_ : Frag} (h_p0_ : ORep qz R f_p0_ v_p0_ p0_) {p1_ : Mach} {v_p1_ : Value} (h_p1_ : PRep (jd false false) R v_p1_ p1_) {b_p2_ : Nat} {r : List Bool} (hd0 : uz N F s p0_ p1_ = some r), CallG Try.prog 93 #[(.int .i64 s), (.pointer (some ⟨b_p0_, 0, none⟩)), v_p1_, (.pointer (some ⟨b_p2_, 0, none⟩))] R [box b_p0_ [v_p0_] 78, f_p0_, box b_p2_ [.func (.func 93) #[] #[(.pointer (some ⟨b_p0_, 0, none⟩)), v_p1_, (.pointer (some ⟨b_p2_, 0, none⟩))]] 88] (fun v R' O' => ∃ w_p0_ g_p0_, v = .tuple #[] ∧ O' = [box b_p0_ [w_p0_] 78, g_p0_, box b_p2_ [.func (.func 93) #[] #[(.pointer (some ⟨b_p0_, 0, none⟩)), v_p1_, (.pointer (some ⟨b_p2_, 0, none⟩))]] 88] ∧ ORep qz R' g_p0_ w_p0_ r) := by
  induction F with
  | zero => intros; rename_i hd0; exact j6 hd0
  | succ F ih =>
    intro R s b_p0_ p0_ v_p0_ f_p0_ h_p0_ p1_ v_p1_ h_p1_ b_p2_ r hd0
    refine ow (args := [(.int .i64 s), (.pointer (some ⟨b_p0_, 0, none⟩)), v_p1_, (.pointer (some ⟨b_p2_, 0, none⟩))]) Try.func93 rfl rfl fun A => ?_
    rw [uz] at hd0
    refine zg ?_
    refine zg ?_
    obtain ⟨g1, hd0⟩ := zn hd0
    refine xq 8 [] [phX (.int .i64 s), phX (.bool (decide (s = (-1)))), phX (.bool (decide (s = (-1)))), phG (true && ((decide (s = (-1))) == false)) (phX v_p0_), phG (true && ((decide (s = (-1))) == false)) (phX (.int .i64 s)), phG (true && ((decide (s = (-1))) == false)) ((fun u _ => z1m qz v_p0_ p0_ u s.toNat)), phG (true && ((decide (s = (-1))) == false)) (phX (.bool (ix p0_ s))), phX (.bool ((decide (s = (-1))) || (ix p0_ s)))] (by kernel_rfl) (by kernel_rfl) (jq ⟨zk, zk, zk, (zo zk), (zo zk), (zo (fun _ _ _ _ h => h)), (zo zk), zk, trivial⟩) ⟨?_, ?_, ?_, ?_, ?_, ?_, ?_, ?_, trivial⟩ fun R2 le3 => ?_
    · intro l R0q hle ha hd
      have a0 : l 0 = (.int .i64 s) := ha 0 rfl
      exact zb rfl rfl rfl (zl (z8 a0))
    · rintro l R1q hle ha ⟨d0, _⟩
      have f7 := d0 rfl
      exact zb rfl rfl rfl (zl (az f7 rfl))
    · rintro l R2q hle ha ⟨d0, _⟩
      have f8 := d0 rfl
      exact zb rfl rfl rfl (zl (z8 f8))
    · rintro l R3q hle ha ⟨d0, _⟩
      have a1 : l 1 = (.pointer (some ⟨b_p0_, 0, none⟩)) := ha 1 rfl
      exact zi (Gj := true) (Bj := decide (s = (-1))) rfl rfl rfl (zx (d0 rfl)) rfl (fun hG hB => zl (qc (i := 0) z9x a1 rfl rfl))
    · rintro l R4q hle ha ⟨d0, _⟩
      have a0 : l 0 = (.int .i64 s) := ha 0 rfl
      exact zi (Gj := true) (Bj := decide (s = (-1))) rfl rfl rfl (zx (d0 rfl)) rfl (fun hG hB => zl (z8 a0))
    · rintro l R5q hle ha ⟨d0, d1, d2, _⟩
      have f10g := d0 rfl
      have f11g := d1 rfl
      exact zi (Gj := true) (Bj := decide (s = (-1))) rfl rfl rfl (zx (d2 rfl)) rfl (fun hG hB => yx (i := s.toNat) z2h (show l 10 = v_p0_ from f10g.1 (zq rfl hB)) (h_p0_.mono hle) (zm (show l 11 = (.int .i64 s) from f11g.1 (zq rfl hB)) (g1 (zq hG hB)).1) (qd (g1 (zq hG hB))))
    · rintro l R6q hle ha ⟨d0, d1, _⟩
      have f12g := d0 rfl
      exact zi (Gj := true) (Bj := decide (s = (-1))) rfl rfl rfl (zx (d1 rfl)) rfl (fun hG hB => jg (ry (i := s.toNat) (j := 1) ty4 (h_p0_.mono hle) rfl rfl (f12g.1 (zq rfl hB)) (qd (g1 (zq hG hB)))) (fun _ _ h => kg.1 h))
    · rintro l R7q hle ha ⟨d0, d1, _⟩
      have f9 := d0 rfl
      have f13g := d1 rfl
      exact zb rfl rfl rfl (zl (oo f9 rfl (fun hb => (show l 13 = (.bool (ix p0_ s)) from f13g.1 (zq rfl hb)))))
    intro v4 h5
    intro v6 h7
    intro v8 h9
    intro v10 h11
    intro v12 h13
    intro v14 h15
    intro v16 h17
    intro v18 h19
    obtain rfl := Eq.symm h5
    obtain rfl := Eq.symm h7
    obtain rfl := Eq.symm h9
    obtain rfl := Eq.symm h19
    refine zh ?_
    refine q9 rfl (fun e20 => ?_) (fun e20 => ?_)
    · replace hd0 := j4 e20 hd0; clear e20
      refine qj ?_
      obtain rfl := Option.some.inj hd0
      refine tq (D := []) (J := []) (O' := [box b_p0_ [v_p0_] 78, f_p0_, box b_p2_ [(.func (.func 93) #[] #[(.pointer (some ⟨b_p0_, 0, none⟩)), v_p1_, (.pointer (some ⟨b_p2_, 0, none⟩))])] 88]) (rs := []) (vs := []) le3 ((pk 0 rfl (pk 0 rfl (pk 0 rfl (List.Perm.refl _))))) rfl trivial ?_
      exact ⟨v_p0_, f_p0_, rfl, rfl, (h_p0_.mono le3)⟩
    · replace hd0 := j3 e20 hd0; clear e20
      refine qb ?_
      refine zg ?_
      refine za ?_
      refine zf rfl (qc (i := 0) z9x rfl rfl rfl) ?_
      refine zf rfl (z8 (v := (.int .i64 s)) rfl) ?_
      obtain ⟨g21, hd0⟩ := zn hd0
      refine gm (i := s.toNat) rfl z2h rfl (h_p0_.mono le3) (zm rfl g21.1) (qd g21) fun v22 h23 => ?_
      refine o6 (i := s.toNat) (j := 1) ty4 (h_p0_.mono le3) rfl rfl h23 (qd g21) rfl (kg.2 rfl) fun f24 h25 => ?_
      refine zh ?_
      refine zg ?_
      refine za ?_
      refine um rfl dh yt rfl (h_p1_.mono le3) fun v26 h27 => ?_
      refine ql rfl z2v rfl h27 fun v28 h29 => ?_
      refine zf rfl (z8 (v := (.int .i64 s)) rfl) ?_
      obtain ⟨g30, hd0⟩ := zn hd0
      refine ky (i := s.toNat) rfl zcp rfl (ja h29) (zm rfl g30.1) (qd g30) fun v31 h32 => ?_
      refine ql rfl zbc rfl h32 fun v33 h34 => ?_
      refine zf rfl (qi rfl Try.underlying26 rfl (ja h34)) ?_
      refine zf rfl (z8 (v := (.int .i64 0)) rfl) ?_
      refine zh ?_
      refine q8 ?_
      refine jo (γ := Nat × Int × (List Bool) × Value × Frag) true [25, 26, 27, 6, 28, 29, 30, 31, 32, 24] (fun g => [(24, (.int .i64 g.2.1))]) (fun g => [box b_p2_ [(.func (.func 93) #[] #[(.pointer (some ⟨b_p0_, 0, none⟩)), v_p1_, (.pointer (some ⟨b_p2_, 0, none⟩))])] 88, box b_p0_ [g.2.2.2.1] 78, g.2.2.2.2] ++ A) (fun g R => vg N (uz N F) s p1_ g.1 g.2.1 g.2.2.1 = some r ∧ ORep qz R g.2.2.2.2 g.2.2.2.1 g.2.2.1 ∧ True) (fun g => g.1) (N, 0, (up p0_ s true), v_p0_, f24) ⟨rfl, trivial⟩ ⟨[], (pk 2 rfl (pk 0 rfl (pk 0 rfl (List.Perm.refl _))))⟩ ⟨hd0, h25, trivial⟩ (fun _ => rfl) ?_
      clear hd0
      rintro ⟨F35, x36, x37, v40, f41⟩ j62 D63 R38 hD64 le39 ⟨hd0, h42, _⟩
      obtain rfl := hD64 rfl
      rcases F35 with _ | F35
      · exact j6 hd0
      replace hd0 : vg N (uz N F) s p1_ (F35 + 1) x36 x37 = some r := hd0; rw [vg] at hd0
      refine zg ?_
      refine za ?_
      refine zf rfl (jh rfl rfl) ?_
      refine zh ?_
      refine zg ?_
      refine q9 rfl (fun e43 => ?_) (fun e43 => ?_)
      · replace hd0 := j4 e43 hd0; clear e43
        refine qb ?_
        refine zg ?_
        refine q8 ?_
        refine zg ?_
        refine za ?_
        obtain ⟨g44, hd0⟩ := zn hd0
        refine ky (i := x36.toNat) rfl zcu rfl (ja (h34.mono le39)) (zm rfl g44.1) (qd g44) fun v45 h46 => ?_
        refine ql rfl zd7 rfl h46 fun v47 h48 => ?_
        obtain rfl := tu.1 h48
        refine ui rfl zfh fun b49 => ?_
        refine jf (i := 0) (vs := [(.int .i64 ((ix (ix p1_.rows s) x36).to)), (.int .i64 ((ix (ix p1_.rows s) x36).out))]) za1 rfl rfl rfl rfl rfl rfl (qa rfl (qa rfl jl)) ?_
        refine zh ?_
        refine za ?_
        refine zf rfl (qc (i := 1) zsv rfl rfl rfl) ?_
        refine zf rfl (zz z0n rfl) ?_
        refine zf rfl (qc (i := 0) ag3 rfl rfl rfl) ?_
        obtain ⟨y51, c52, hd0⟩ := zt hd0
        refine z1h (Oc := [box b_p0_ [v40] 78, f41, box b_p2_ [(.func (.func 93) #[] #[(.pointer (some ⟨b_p0_, 0, none⟩)), v_p1_, (.pointer (some ⟨b_p2_, 0, none⟩))])] 88]) (Or := [box b49 [(.int .i64 ((ix (ix p1_.rows s) x36).to)), (.int .i64 ((ix (ix p1_.rows s) x36).out))] 62] ++ A) (cs := [(.pointer (some ⟨b_p0_, 0, none⟩)), v_p1_, (.pointer (some ⟨b_p2_, 0, none⟩))]) (vs := [(.int .i64 ((ix (ix p1_.rows s) x36).to))]) rfl zsi rfl rfl ((pk 2 rfl (pk 2 rfl (pk 1 rfl (pk 0 rfl (List.Perm.refl _)))))) (ih h42 (h_p1_.mono (le3.trans le39)) c52) fun v53 R56 Oc55 le57 h54 => ?_
        obtain ⟨v58, f59, rfl, rfl, h60⟩ := h54
        refine zh ?_
        refine za ?_
        obtain ⟨g61, hd0⟩ := zn hd0
        refine zf rfl (jc rfl rfl g61) ?_
        refine zf rfl (z8 (v := (.int .i64 (x36 + 1))) rfl) ?_
        refine zh ?_
        exact ⟨(fun _ => rfl), le57, u6, (F35, x36 + 1, y51, v58, f59), Nat.lt_succ_self _, ⟨rfl, trivial⟩, ⟨[box b49 [(.int .i64 ((ix (ix p1_.rows s) x36).to)), (.int .i64 ((ix (ix p1_.rows s) x36).out))] 62], (pk 3 rfl (pk 2 rfl (pk 0 rfl (pk 0 rfl (List.Perm.refl _)))))⟩, hd0, h60, trivial⟩
      · replace hd0 := j3 e43 hd0; clear e43
        refine ku ?_
        show z5y _ _ _ _ _ .ret _ [] _ _
        obtain rfl := Option.some.inj hd0
        refine tq (D := []) (J := []) (O' := [box b_p0_ [v40] 78, f41, box b_p2_ [(.func (.func 93) #[] #[(.pointer (some ⟨b_p0_, 0, none⟩)), v_p1_, (.pointer (some ⟨b_p2_, 0, none⟩))])] 88]) (rs := []) (vs := []) (le3.trans le39) ((pk 1 rfl (pk 1 rfl (pk 0 rfl (List.Perm.refl _))))) rfl trivial ?_
        exact ⟨v40, f41, rfl, rfl, h42⟩
theorem z5l {N : Nat} {R : RH} {s : Int} {b_p0_ : Nat} {p0_ : List Bool} {v_p0_ : Value} {f_p0_ : Frag} (h_p0_ : ORep qz R f_p0_ v_p0_ p0_) {p1_ : Mach} {v_p1_ : Value} (h_p1_ : PRep (jd false false) R v_p1_ p1_) {b_p2_ : Nat} {r : List Bool} (hd0 : uz N N s p0_ p1_ = some r) : CallG Try.prog 93 #[(.int .i64 s), (.pointer (some ⟨b_p0_, 0, none⟩)), v_p1_, (.pointer (some ⟨b_p2_, 0, none⟩))] R [box b_p0_ [v_p0_] 78, f_p0_, box b_p2_ [.func (.func 93) #[] #[(.pointer (some ⟨b_p0_, 0, none⟩)), v_p1_, (.pointer (some ⟨b_p2_, 0, none⟩))]] 88] (fun v R' O' => ∃ w_p0_ g_p0_, v = .tuple #[] ∧ O' = [box b_p0_ [w_p0_] 78, g_p0_, box b_p2_ [.func (.func 93) #[] #[(.pointer (some ⟨b_p0_, 0, none⟩)), v_p1_, (.pointer (some ⟨b_p2_, 0, none⟩))]] 88] ∧ ORep qz R' g_p0_ w_p0_ r) := z3k N h_p0_ h_p1_ hd0
theorem z7l {N : Nat} {R : RH} {s : (List Bool)} {v_s : Value} (h_s : VRep (tSl false qz) R v_s s) {v_ : Bool} {r : Int} (hd0 : ik N s v_ = some r) : CallP Try.prog 100 #[v_s, (.bool v_)] R (fun v R' => v = (.int .i64 r)) := by
 refine qf (args := [v_s, (.bool v_)]) Try.func100 rfl rfl fun A => ?_;rw [ik] at hd0;refine zg (za (zf rfl (ze (v := (.int .i64 0)) rfl) (zh ?_)));obtain ⟨q2, hd1, hd0⟩ := zt hd0;refine jk (γ := Unit) true [6, 7, 8, 9, 10, 5, 11, 12, 13, 14, 15, 16, 17, 4, 18] (fun g => []) (fun g => [] ++ A) (fun g R => q2 = Ex.go g ∧ True) ?_ ?_
 refine zg (za (zf rfl (z8 (v := v_s) rfl) (zf rfl (qi rfl Try.underlying78 rfl (ja h_s)) (zf rfl (z8 (v := (.int .i64 0)) rfl) (zh (q8 (jo (γ := Nat × Int) true [9, 10, 5, 11, 12, 13, 14, 15, 16, 17, 4, 18, 8] (fun g => [(8, (.int .i64 g.2))]) (fun g => [] ++ A) (fun g R => vw N s v_ g.1 g.2 = some q2 ∧ True) (fun g => g.1) (N, 0) ⟨rfl, trivial⟩ ⟨[], List.Perm.refl _⟩ ⟨hd1, trivial⟩ (fun _ => rfl) ?_)))))))
 clear hd1;rintro ⟨F5, x6⟩ j17 D18 R7 hD19 le8 ⟨hd1, _⟩;obtain rfl := hD19 rfl;rcases F5 with _ | F5;exact j6 hd1;replace hd1 : vw N s v_ (F5 + 1) x6 = some q2 := hd1; rw [vw] at hd1;refine zg (za (zf rfl (jh rfl rfl) (zh (zg (q9 rfl (fun e9 => ?_) (fun e9 => ?_))))));replace hd1 := j4 e9 hd1; clear e9
 refine qb (zg (q8 (zg (za (zf rfl (z8 (v := (.int .i64 x6)) rfl) (zf rfl (ze (v := (.int .i64 x6)) rfl) (zh (zg (za (zf rfl (z8 (v := (.bool v_)) rfl) (zf rfl (z8 (v := v_s) rfl) (zf rfl (z8 (v := (.int .i64 x6)) rfl) ?_))))))))))));obtain ⟨g10, hd1⟩ := zn hd1
 refine ky (i := x6.toNat) rfl z2h rfl (ja (h_s.mono le8)) (zm rfl g10.1) (qd g10) fun v11 h12 => ?_;refine ql rfl ty4 rfl h12 fun v13 h14 => ?_;obtain rfl := kg.1 h14;refine zf rfl (zmp Try.underlying4 rfl rfl) (zh (q9 rfl (fun e15 => ?_) (fun e15 => ?_)));replace hd1 := j4 e15 hd1; clear e15
 refine zg (za (zf rfl (z8 (v := (.int .i64 x6)) rfl) (zf rfl (ze (v := (.int .i64 x6)) rfl) (zh (qj ?_)))));replace hd0 := z3r hd1 hd0;obtain rfl := Option.some.inj hd0;refine zy (D := []) (J := []) (rs := [.tmp 4]) (vs := [(.int .i64 x6)]) le8 rfl rfl ⟨rfl, trivial⟩ ?_;exact ⟨rfl, rfl⟩;replace hd1 := j3 e15 hd1; clear e15
 refine qb (za ?_);obtain ⟨g16, hd1⟩ := zn hd1;refine zf rfl (jc rfl rfl g16) (zf rfl (z8 (v := (.int .i64 (x6 + 1))) rfl) (zh ?_));exact ⟨(fun _ => rfl), (RH.le.refl _), u6, (F5, x6 + 1), Nat.lt_succ_self _, ⟨rfl, trivial⟩, ⟨[], List.Perm.refl _⟩, hd1, trivial⟩;replace hd1 := j3 e9 hd1; clear e9;refine ku ?_
 exact ⟨(fun _ => rfl), le8, u6, (), trivial, ⟨[], List.Perm.refl _⟩, (Option.some.inj hd1).symm, trivial⟩;rintro o1 j20 D21 R3 hD22 le4 ⟨rfl, _⟩;obtain rfl := hD22 rfl;replace hd0 := z4f hd0;refine zg (za (zf rfl (ze (v := (.int .i64 (-1))) rfl) (zh (qj ?_))));obtain rfl := Option.some.inj hd0
 refine zy (D := []) (J := []) (rs := [.tmp 4]) (vs := [(.int .i64 (-1))]) le4 rfl rfl ⟨rfl, trivial⟩ ?_;exact ⟨rfl, rfl⟩
theorem zte : Enters Try.prog 100 := enters_of Try.func100 rfl (by kernel_rfl)
theorem z5n {N : Nat} {R : RH} {s : (List Bool)} {v_s : Value} (h_s : VRep (tSl false qz) R v_s s) {v_ : Bool} {r : Bool} (hd0 : mh N s v_ = some r) : CallP Try.prog 94 #[v_s, (.bool v_)] R (fun v R' => v = (.bool r)) := by
 refine qf (args := [v_s, (.bool v_)]) Try.func94 rfl rfl fun A => ?_;rw [mh] at hd0;refine zg (za (zf rfl (ze (v := (.bool false)) rfl) (zh (zg (za (zf rfl (z8 (v := v_s) rfl) (zf rfl (z8 (v := (.bool v_)) rfl) ?_)))))));obtain ⟨y1, c2, hd0⟩ := zt hd0
 refine qx rfl zte rfl (z7l h_s c2) fun v3 R5 le6 h4 => ?_;obtain rfl := h4;refine zf rfl (z3c rfl rfl) (zf rfl (ze (v := (.bool (decide (0 ≤ y1)))) rfl) (zh (qj ?_)));obtain rfl := Option.some.inj hd0;refine zy (D := []) (J := []) (rs := [.tmp 4]) (vs := [(.bool (decide (0 ≤ y1)))]) le6 rfl rfl ⟨rfl, trivial⟩ ?_;exact ⟨rfl, rfl⟩
theorem zuv : Enters Try.prog 94 := enters_of Try.func94 rfl (by kernel_rfl)
theorem z2s {N : Nat} {R : RH} {m : Mach} {v_m : Value} (h_m : VRep (jd false false) R v_m m) {r : Bool × Int} (hd0 : ng N m = some r) : CallP Try.prog 80 #[v_m] R (fun v R' => v = .tuple #[(.bool r.1), (.int .i64 r.2)]) := by
 refine qf (args := [v_m]) Try.func80 rfl rfl fun A => ?_;rw [ng] at hd0;refine zg (za (uy (T := (jd false false)) rfl rfl rfl h_m fun v1 R3 le4 h5 h2 => ?_));refine zf rfl (ze (v := (.bool false)) rfl) (zf rfl (ze (v := (.int .i64 0)) rfl) (zh (zg (zg (za (zf rfl (ul z09 rfl rfl h5 (h_m.mono le4)) ?_))))))
 obtain ⟨y6, c7, hd0⟩ := zt hd0;refine qx rfl zlm rfl (ah (h_m.mono le4) c7) fun v8 R10 le11 h9 => ?_;obtain rfl := h9;refine zf rfl (ze (v := (.int .i64 y6)) rfl) (zh (zg (za (zf rfl (z8 (v := (.int .i64 y6)) rfl) (zf rfl (uw rfl rfl) (zh (q9 rfl (fun e12 => ?_) (fun e12 => ?_))))))));replace hd0 := j4 e12 hd0; clear e12
 refine zg (za (zf rfl (z8 (v := (.int .i64 y6)) rfl) (zf rfl (ze (v := (.bool false)) rfl) (zf rfl (ze (v := (.int .i64 y6)) rfl) (zh (qj ?_))))));obtain rfl := Option.some.inj hd0;refine zy (D := []) (J := []) (rs := [.tmp 2, .tmp 3]) (vs := [(.bool false), (.int .i64 y6)]) (le4.trans le11) rfl rfl ⟨rfl, rfl, trivial⟩ ?_;exact ⟨rfl, rfl⟩
 replace hd0 := j3 e12 hd0; clear e12;refine qb (zg (za (um rfl dh yt rfl (h2.mono le11) fun v13 h14 => ?_)));refine ql rfl z2v rfl h14 fun v15 h16 => ?_;refine zf rfl (qi rfl Try.underlying22 rfl (ja h16)) ?_;obtain ⟨g21, hd0⟩ := zn hd0
 refine z0j (T := qz) (m := (↑m.rows.length : Int).toNat) (c := (↑m.rows.length : Int).toNat) rfl Try.underlying78 zo4 (zm rfl g21.1) (zm rfl g21.1) (Nat.le_refl _) (fw g21) (fq g21) fun v17 f18 cap19 h20 => ?_;refine ui rfl ztk fun b23 => ?_;refine jf (i := 0) (vs := [v17]) zsl rfl rfl (bz h20) rfl rfl rfl (qa (vo h20) jl) ?_
 refine zh (zg (za (ui rfl zv0 fun b25 => ?_)))
 refine zh (zg (za (zf rfl (xw (fs := []) (cs := [(.pointer (some ⟨b23, 0, none⟩)), v1, (.pointer (some ⟨b25, 0, none⟩))]) rfl rfl) (jf (i := 0) (vs := [(.func (.func 93) #[] #[(.pointer (some ⟨b23, 0, none⟩)), v1, (.pointer (some ⟨b25, 0, none⟩))])]) zuo rfl rfl rfl rfl rfl rfl (qa rfl jl) ?_))))
 refine zh (zg (za (zf rfl (qc (i := 0) zsv rfl rfl rfl) ?_)));obtain ⟨y27, c28, hd0⟩ := zt hd0
 refine z1h (Oc := [box b23 [v17] 78, f18, box b25 [(.func (.func 93) #[] #[(.pointer (some ⟨b23, 0, none⟩)), v1, (.pointer (some ⟨b25, 0, none⟩))])] 88]) (Or := [] ++ A) (cs := [(.pointer (some ⟨b23, 0, none⟩)), v1, (.pointer (some ⟨b25, 0, none⟩))]) (vs := [(.int .i64 0)]) rfl zsi rfl rfl ((pk 1 rfl (pk 1 rfl (pk 0 rfl (List.Perm.refl _))))) (z5l h20 (h2.mono le11) c28) fun v29 R32 Oc31 le33 h30 => ?_
 obtain ⟨v34, f35, rfl, rfl, h36⟩ := h30;refine zh (zg (za (zf rfl (qc (i := 0) z9x rfl rfl rfl) ?_)));obtain ⟨y40, c41, hd0⟩ := zt hd0
 refine zjl (cs := []) (vs := [v34, (.bool false)]) (φ := fun v => v = (.bool y40)) rfl zuv rfl rfl (fun R37 le38 ll39 => z5n (z7j ((zod 1 rfl h36 le38 ll39) : VRep (yj qz) R37 v34 y27)) c41) fun v42 h43 => ?_;obtain rfl := h43
 refine zf rfl (ib rfl) (zf rfl (ze (v := (.bool (!y40))) rfl) (zf rfl (ze (v := (.int .i64 0)) rfl) (zh (qj ?_))));obtain rfl := Option.some.inj hd0
 refine zy (D := []) (J := [box b23 [v34] 78, f35, box b25 [(.func (.func 93) #[] #[(.pointer (some ⟨b23, 0, none⟩)), v1, (.pointer (some ⟨b25, 0, none⟩))])] 88]) (rs := [.tmp 2, .tmp 3]) (vs := [(.bool (!y40)), (.int .i64 0)]) ((le4.trans le11).trans le33) rfl rfl ⟨rfl, rfl, trivial⟩ ?_;exact ⟨rfl, rfl⟩
end GV
end Go.Proofs.Ytplgbkaollfmkaa
