import Derived.Test.YtkkcidhcfkmbjaaGreatDoorPkt
set_option linter.unusedVariables false
set_option linter.unusedSimpArgs false
set_option linter.unusedSectionVars false
namespace Go.Proofs.YtkkcidhcfkmbjaaGreatDoor
namespace GV
set_option maxRecDepth 100000
section
variable {m : Mach}
theorem zpb(a:MOk m):(z4z m).Nodup:=ziv (zy5 a)
theorem zj8:(uq m).rows.length=(z4z m).length:=zde
theorem z9i(a:MOk m):ClosedP (z0e m) (z4z m):=ig (zy5 a)
theorem zd2{c:Nat}(a:c<(z4z m).length):(z4z m).getD c 0∈z4z m:=by simp [List.getD_eq_getElem?_getD,a]
theorem zj5(a:MOk m){c:Nat}(b:c∈z4z m){w:List Int}(d:WOk m.inputs w):z0f (uq m) (((z4z m).idxOf c:Nat):Int) w=z0f (z0e m) (c:Int) w:=by
 have:=(zbw (z6u a) (z9i a) w (s:=(c:Int)) (.inr ⟨by omega,by rw [Int.toNat_natCast];exact b⟩) d).1
 rw [z4b] at this
 exact this
theorem zwh(a:MOk m):Red (uq m):=by
 intro c d e f l
 rw [zj8] at e f
 have o:=z6u a
 have b:=z9i a
 have g:=z4g (zpb a) e
 have i:=z4g (zpb a) f
 have h:=zjl a _ _ (b.rng _ (zd2 e)) (b.rng _ (zd2 f)) (fun w hw'=>by
  have n:=l w hw'
  have j:=zj5 a (zd2 e) (w:=w) hw'
  have k:=zj5 a (zd2 f) (w:=w) hw'
  rw [g] at j;rw [i] at k
  rw [←j,←k];exact n)
 rw [h,i] at g
 exact g.symm
theorem zma{s:Nat}(a:occ (rch m 0) s=true):z8p m s=(((z4z m).idxOf (cls m s):Nat):Int):=if_pos a
theorem zvs{s:Nat}(a:occ (rch m 0) s=false):z8p m s= -1:=if_neg (by rw [a];decide)
theorem zta(a:MOk m){s:Nat}(d:s<m.rows.length)(b:occ (rch m 0) s=true){w:List Int}(c:WOk m.inputs w):z0f (uq m) (z8p m s) w=z0f m (s:Int) w:=by
 rw [zma b,zj5 a (zk0 a b) c]
 exact((zd5 a).run w d c).1
theorem zjb(b:MOk m){s:Nat}(a:occ (rch m 0) s=true):0≤z8p m s∧z8p m s<(uq m).rows.length:=by
 rw [zma a,zj8]
 have:=(z4d (zk0 b a)).1
 omega
end
end GV
end Go.Proofs.YtkkcidhcfkmbjaaGreatDoor
