import Derived.Test.YtplgbkaollfmkaaLaw39n
set_option linter.unusedVariables false
set_option linter.unusedSimpArgs false
namespace Go.Proofs.Ytplgbkaollfmkaa
namespace GV
set_option maxRecDepth 100000
theorem q5n{l:List Int}{n:Int}{k:Nat}:(wdL (l.take k) n).length≤k:=by unfold wdL;rw [List.length_map,List.length_take];omega
theorem zyv{m:Mach}{w:List Int}(a:WOk m.inputs w)(b:w.length≤1024):zfm m w=0:=by
 unfold zfm;rw [if_neg (by omega),q0p a];rfl
theorem q4l{x:Sj}(b:CDOk x.fAh.fP)(c: ∀ k,k<x.fU.length→0≤x.fU.getD k default∧x.fU.getD k default≤255):
 ∃ m d,z2r 2000 x=some (m,d)∧MOk m∧WOk m.inputs d∧d.length≤6:=by
 obtain⟨m,e,a⟩:=q4t b
 have hi:=a.i1;have f:=a.i2
 refine⟨m,wdL (x.fU.take 6) m.inputs,?_,a,zyh (by omega),q5n⟩
 unfold z2r
 refine(qc e).trans ?_
 exact qc (show lc 2000 x.fU m.inputs ((6:Nat):Int)=_ from zsl c (by omega) (by omega) (by decide) (by decide))
theorem zol{x:Sj}{w:List Int}(u:CDOk x.fAh.fP)(g: ∀ k,k<x.fU.length→0≤x.fU.getD k default∧x.fU.getD k default≤255)(y: ∀ k,k<w.length→0≤w.getD k default∧w.getD k default≤255):
 r9 2000 x w=some true:=by
 obtain⟨m,d,z,e,p,A⟩:=q4l u g
 have hi:=e.i1;have B:=e.i2
 have hword:=zsl (N:=2000) (most:=40) y hi B (by decide) (by decide)
 have hwok:=zyh (w:=w.take 40) hi
 have i:=q5n (l:=w) (n:=m.inputs) (k:=40)
 generalize wdL (w.take 40) m.inputs=v at hword hwok i
 have q:=zyv hwok (by omega)
 unfold r9
 refine(qc z).trans ?_
 refine(qc hword).trans ?_
 have r:=q15 (N:=2000) (d:=d) e.small (by omega) (by decide)
 by_cases h0:canI m d=0
 ·have C:properM m=0:=by
   unfold canI at h0
   by_cases h:properM m=0
   ·exact h
   ·rw [if_pos h] at h0;exact h0
  obtain⟨_,c,_,_⟩:=zkv C
  have f:v.length≤1024:=by omega
  have hI:=zl5 (N:=2000) e c h0 (by omega) q (by decide)
  have D:=zro (N:=2000) e c h0 (by omega) q (by decide)
  refine(qc hI).trans ?_
  refine(qc D).trans ?_
  refine(qc r).trans ?_
  refine(ul (fun h=>h h0)).trans ?_
  refine(zil rfl (zd9 (N:=2000) (d:=d) e c hwok f (by omega) (by decide))).trans ?_
  have E:(z0c (atL m v) (idL d v)).length≤1025:=by rw [maskL_len,atL_len];omega
  have F:(z0c (atL m v) (knL m d v)).length≤1025:=by rw [maskL_len,atL_len];omega
  refine(zil rfl (zdk (N:=2000) (a:=z0c (atL m v) (idL d v)) (b:=z0c (atL m v) (idL d v)) (by omega) (by omega))).trans ?_
  have j:decide (z0c (atL m v) (idL d v)=z0c (atL m v) (idL d v))=true:=decide_eq_true rfl
  dsimp only [Option.getD_some]
  rw [j]
  refine(zil rfl (zu1 (N:=2000) (d:=d) e c hwok f (by omega) (by decide))).trans ?_
  refine(zil rfl (zdk (N:=2000) (a:=z0c (atL m v) (knL m d v)) (b:=z0c (atL m v) (knL m d v)) (by omega) (by omega))).trans ?_
  have o:decide (z0c (atL m v) (knL m d v)=z0c (atL m v) (knL m d v))=true:=decide_eq_true rfl
  have s: ∀ n:Int,decide (n=n)=true:=fun n=>decide_eq_true rfl
  dsimp only [Option.getD_some]
  rw [o,s ((z0c (atL m v) (idL d v)).length:Int),s ((z0c (atL m v) (knL m d v)).length:Int)]
  refine(zil rfl zjk).trans ?_
  rfl
 ·have t:=zrq (N:=2000) (d:=d) (w:=v) e.small h0 (by omega) (by decide)
  have j:fw 2000 m d v=some ([],canI m d):=by
   unfold fw
   rw [qc t,uy h0]
  have o:z3g 2000 m d v=some ([],canI m d):=by
   unfold z3g
   rw [qc t,uy h0]
  refine(qc j).trans ?_
  refine(qc o).trans ?_
  refine(qc r).trans ?_
  refine(uy h0).trans ?_
  have p:decide (canI m d=canI m d)=true:=decide_eq_true rfl
  dsimp only
  rw [p]
  refine(zil rfl zjk).trans ?_
  rfl
end GV
end Go.Proofs.Ytplgbkaollfmkaa
